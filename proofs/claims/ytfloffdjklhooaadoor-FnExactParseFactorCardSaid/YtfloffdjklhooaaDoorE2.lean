/- Parts EvF, EvG, EvH, EvI, EvJ, EvK, EvL. -/
import Derived.Test.YtfloffdjklhooaaDoorE1
import Derived.Laws.CopyRow
import Derived.ArgAppend
import Derived.Room.Entries
import Derived.Great.BuildSlice
set_option linter.all false
/- The engine, part F: the rules for single operations. -/
namespace Go.Ev
open Go.RowKit (Below)
def strip:PV→PV
  | .was _ p=>p
  | p=>p
theorem RelV.strip {h:Array Obj} {β:Nat→Option (Option Nat)} {p:PV} {c:Value} {B:List Nat} (H:RelV h β p c B):RelV h β (Ev.strip p) c B:=by
  cases p with
  | was v q=>simp only [RelV] at H;exact H.2
  | _=>exact H
def evq (S:List (Nat × Slot)):Operand→Option PV
  | .tmp t=>match lkq S t with
    | some ⟨v,_⟩=>some (strip v)
    | none=>none
  | .const v=>some (.sc v)
  | _=>none
def ors:Operand→List Nat
  | .tmp t=>[t]
  | _=>[]
def mN:List Operand→List Nat
  | []=>[]
  | .tmp t::r=>t::mN r
  | _::r=>mN r
class TI (P:Program) (t:Nat) (n:outParam Nat) (agg:outParam Bool) (bytes:outParam Nat):Prop where
  ok:(∃ i,P.info? t=some i∧i.size=n∧i.bytes=bytes)∧∃ d,P.underlying t=some d∧(match d with | .struct _ | .array _ _=>true | _=>false)=agg
def tiB (P:Program) (t n:Nat) (agg:Bool) (bytes:Nat):Bool :=
  match P.info? t,P.underlying t with
  | some i,some d=>Nat.beq i.size n&&Nat.beq i.bytes bytes&&((match d with | .struct _ | .array _ _=>true | _=>false) == agg)
  | _,_=>false
theorem TI.of {P:Program} {t n:Nat} {agg:Bool} {bytes:Nat} (h:tiB P t n agg bytes=true):TI P t n agg bytes:=by
  unfold tiB at h
  split at h
  · rename_i i d h1 h2
    simp only [Bool.and_eq_true,beq_iff_eq] at h
    exact ⟨⟨i,h1,Nat.eq_of_beq_eq_true h.1.1,Nat.eq_of_beq_eq_true h.1.2⟩,d,h2,h.2⟩
  · cases h
class UT (P:Program) (t:Nat) (d:outParam TypeDesc):Prop where
  ok:P.underlying t=some d
class SlT (P:Program) (t:Nat) (e:outParam Nat):Prop where
  ok:P.underlying t=some (.slice e)
class ArT (P:Program) (t:Nat) (len e:outParam Nat):Prop where
  ok:P.underlying t=some (.array len e)
class FldT (P:Program) (t f:Nat) (off:outParam Nat):Prop where
  ok:∃ fs fd i,P.underlying t=some (.struct fs)∧fs[f]?=some fd∧fd.offset=off∧P.info? fd.type=some i∧i.size≠0
def vG (P:Program) (t f off:Nat):Bool :=
  match P.underlying t with
  | some (.struct fs)=>match fs[f]? with
    | some fd=>match P.info? fd.type with
      | some i=>Nat.beq fd.offset off&&!Nat.beq i.size 0
      | none=>false
    | none=>false
  | _=>false
theorem FldT.of {P:Program} {t f off:Nat} (h:vG P t f off=true):FldT P t f off:=by
  unfold vG at h
  split at h
  · rename_i fs h1
    split at h
    · rename_i fd h2
      split at h
      · rename_i i h3
        simp only [Bool.and_eq_true,Bool.not_eq_true'] at h
        refine ⟨fs,fd,i,h1,h2,Nat.eq_of_beq_eq_true h.1,h3,fun e=>?_⟩
        rw [e] at h;simp at h
      · cases h
    · cases h
  · cases h
section
variable {P:Program} {N:Nat} {Γ:Ctx P N} {S:List (Nat × Slot)} {O:List (Nat × Option Ob)}
theorem cK {ow:Nat→Own} {β:Nat→Option (Option Nat)} {F:Env} {a:Act} {w:World} (h:SimG Γ ow β F a w) {x:Operand} {v:PV} (hv:evq S x=some v) (ha:∀ k ∈ ors x,lk F.s k=lk S k) :
    ∃ B,RelV w.heap β v (a.eval x) B∧∀ b ∈ B,Im Γ ow w b:=by
  cases x with
  | tmp t =>
    simp only [evq] at hv
    cases hq:lkq S t with
    | none=>rw [hq] at hv;cases hv
    | some sl =>
      rw [hq] at hv;cases hv
      obtain ⟨B,h1,h2,_⟩:=h.slots t
      rw [ha t (by simp [ors]),eJ hq] at h1
      exact ⟨B,h1.strip,h2⟩
  | const u =>
    simp only [evq] at hv;cases hv
    exact ⟨[],by simp [RelV,Act.eval],by simp⟩
  | global g=>cases hv
  | func f=>cases hv
theorem gD {F:Env} {a:Act} {w:World} (h:Sim Γ F a w) {x:Operand} {v:Value} (hv:evq S x=some (.sc v)) (ha:∀ k ∈ ors x,lk F.s k=lk S k):a.eval x=v:=by
  obtain ⟨ow,β,h⟩:=h
  obtain ⟨B,h1,_⟩:=cK h hv ha
  simp only [RelV] at h1
  exact h1.1
theorem qB {o:Oper} {d:Nat} {v:Value} {rs:List Nat} (hd:o.dst=some d) (hn:Nat.blt d N=true)
    (h:∀ (F:Env) (a:Act) (w:World),Sim Γ F a w→(∀ k ∈ rs,lk F.s k=lk S k)→(execOp a.eval o).run P w=.ok (.value v) w) :
    Local Γ o ⟨S,O⟩ ⟨[(d,⟨.sc v,false⟩)],[]⟩ rs [] []:=by
  intro F hs _ _
  refine bB fun a w hsim=>⟨v,w,h F a w hsim hs,?_⟩
  obtain ⟨ow,β,hsim⟩:=hsim
  rw [hd]
  exact ⟨ow,β,hsim.put ((aK _ _).1 hn) (O:=[]) (by simp [RelV]) (by simp)⟩
theorem oS {o:Oper} {d:Nat} {x:Operand} {v:PV} {rs:List Nat} (hd:o.dst=some d) (hn:Nat.blt d N=true) (hv:evq S x=some v) (hr:∀ k ∈ ors x,k ∈ rs)
    (h:∀ (F:Env) (a:Act) (w:World),Sim Γ F a w→(∀ k ∈ rs,lk F.s k=lk S k)→(execOp a.eval o).run P w=.ok (.value (a.eval x)) w) :
    Local Γ o ⟨S,O⟩ ⟨[(d,⟨v,false⟩)],[]⟩ rs [] []:=by
  intro F hs _ _
  refine bB fun a w hsim=>⟨a.eval x,w,h F a w hsim hs,?_⟩
  obtain ⟨ow,β,hsim⟩:=hsim
  obtain ⟨B,h1,h2⟩:=cK hsim hv (fun k hk=>hs k (hr k hk))
  rw [hd]
  exact ⟨ow,β,hsim.put ((aK _ _).1 hn) h1 h2⟩
variable {d:Nat} {ty:TypeId} {pos:String} {af:Array Edge} {g:Option (Nat × Bool)}
theorem aA {x:Operand} {v:PV} (hv:evq S x=some v) (hd:Nat.blt d N=true):Local Γ ⟨some d,.move x,ty,pos,af,g⟩ ⟨S,O⟩ ⟨[(d,⟨v,false⟩)],[]⟩ (ors x) [] [] :=
  oS rfl hd hv (fun _ h=>h) fun F a w _ _=>by simp [execOp]
theorem aC {x:Operand} {v:PV} (hv:evq S x=some v) (hd:Nat.blt d N=true):Local Γ ⟨some d,.assign x,ty,pos,af,g⟩ ⟨S,O⟩ ⟨[(d,⟨v,false⟩)],[]⟩ (ors x) [] [] :=
  oS rfl hd hv (fun _ h=>h) fun F a w _ _=>by simp [execOp]
theorem aF {c x y:Operand} {v:PV} (hc:evq S c=some (.sc (.bool true))) (hv:evq S x=some v) (hd:Nat.blt d N=true):Local Γ ⟨some d,.pick c x y,ty,pos,af,g⟩ ⟨S,O⟩ ⟨[(d,⟨v,false⟩)],[]⟩ (ors c++ors x) [] [] :=
  oS rfl hd hv (fun _ h=>by simp [h]) fun F a w hsim hs=>by
    have:=gD hsim hc (fun k hk=>hs k (by simp [hk]))
    simp [execOp,this,asBool]
theorem aG {c x y:Operand} {v:PV} (hc:evq S c=some (.sc (.bool false))) (hv:evq S y=some v) (hd:Nat.blt d N=true):Local Γ ⟨some d,.pick c x y,ty,pos,af,g⟩ ⟨S,O⟩ ⟨[(d,⟨v,false⟩)],[]⟩ (ors c++ors y) [] [] :=
  oS rfl hd hv (fun _ h=>by simp [h]) fun F a w hsim hs=>by
    have:=gD hsim hc (fun k hk=>hs k (by simp [hk]))
    simp [execOp,this,asBool]
theorem cJ {x:Operand} {u:TypeId} {b:Bool} (hx:evq S x=some (.sc (.bool b))) (hd:Nat.blt d N=true):Local Γ ⟨some d,.unOp .not u x,ty,pos,af,g⟩ ⟨S,O⟩ ⟨[(d,⟨.sc (.bool (!b)),false⟩)],[]⟩ (ors x) [] [] :=
  qB rfl hd fun F a w hsim hs=>by
    have:=gD hsim hx hs
    simp [execOp,this,Op.unary]
theorem vL {x:Operand} {u:TypeId} {k:IntKind} {n r:Int} (hx:evq S x=some (.sc (.int k n))) (hr:k.wrap (0 - n)=r) (hd:Nat.blt d N=true):Local Γ ⟨some d,.unOp .neg u x,ty,pos,af,g⟩ ⟨S,O⟩ ⟨[(d,⟨.sc (.int k r),false⟩)],[]⟩ (ors x) [] [] :=
  qB rfl hd fun F a w hsim hs=>by
    have:=gD hsim hx hs
    subst hr
    simp [execOp,this,Op.unary,Op.intArith]
section bin
variable {x y:Operand} {u u':TypeId}
theorem fT {op:BinOp} {a0 b0 c:Value} (hx:evq S x=some (.sc a0)) (hy:evq S y=some (.sc b0)) (hd:Nat.blt d N=true)
    (h:∀ w,(do eqGuard op u x y a0 b0;binOp op u a0 b0:Sem Value).run P w=.ok c w):Local Γ ⟨some d,.binOp op u x y u',ty,pos,af,g⟩ ⟨S,O⟩ ⟨[(d,⟨.sc c,false⟩)],[]⟩ (ors x++ors y) [] [] :=
  qB rfl hd fun F a w hsim hs=>by
    have h1:=gD hsim hx (fun k hk=>hs k (by simp [hk]))
    have h2:=gD hsim hy (fun k hk=>hs k (by simp [hk]))
    have h3:=h w
    simp only [execOp,h1,h2]
    rw [Sem.run_bind,h3];rfl
variable {k:IntKind} {m n r:Int}
theorem vC (m n:Int):(m == n)=decide (m=n):=by by_cases h:m=n <;> simp [h]
theorem fB (hx:evq S x=some (.sc (.int k m))) (hy:evq S y=some (.sc (.int k n))) (hr:k.wrap (m+n)=r) (hd:Nat.blt d N=true) :
    Local Γ ⟨some d,.binOp .add u x y u',ty,pos,af,g⟩ ⟨S,O⟩ ⟨[(d,⟨.sc (.int k r),false⟩)],[]⟩ (ors x++ors y) [] [] :=
  fT hx hy hd fun w=>by subst hr;simp [eqGuard,binOp,Op.intArith]
theorem jO (hx:evq S x=some (.sc (.int k m))) (hy:evq S y=some (.sc (.int k n))) (hr:k.wrap (m - n)=r) (hd:Nat.blt d N=true) :
    Local Γ ⟨some d,.binOp .sub u x y u',ty,pos,af,g⟩ ⟨S,O⟩ ⟨[(d,⟨.sc (.int k r),false⟩)],[]⟩ (ors x++ors y) [] [] :=
  fT hx hy hd fun w=>by subst hr;simp [eqGuard,binOp,Op.intArith]
theorem vM (hx:evq S x=some (.sc (.int k m))) (hy:evq S y=some (.sc (.int k n))) (hr:k.wrap (m*n)=r) (hd:Nat.blt d N=true) :
    Local Γ ⟨some d,.binOp .mul u x y u',ty,pos,af,g⟩ ⟨S,O⟩ ⟨[(d,⟨.sc (.int k r),false⟩)],[]⟩ (ors x++ors y) [] [] :=
  fT hx hy hd fun w=>by subst hr;simp [eqGuard,binOp,Op.intArith]
theorem rM (hx:evq S x=some (.sc (.int k m))) (hy:evq S y=some (.sc (.int k n))) (hn:n≠0) (hr:k.wrap (m.tdiv n)=r) (hd:Nat.blt d N=true) :
    Local Γ ⟨some d,.binOp .quo u x y u',ty,pos,af,g⟩ ⟨S,O⟩ ⟨[(d,⟨.sc (.int k r),false⟩)],[]⟩ (ors x++ors y) [] [] :=
  fT hx hy hd fun w=>by subst hr;simp [eqGuard,binOp,Op.intDiv,hn]
theorem uO (hx:evq S x=some (.sc (.int k m))) (hy:evq S y=some (.sc (.int k n))) (hn:n≠0) (hr:m.tmod n=r) (hd:Nat.blt d N=true) :
    Local Γ ⟨some d,.binOp .rem u x y u',ty,pos,af,g⟩ ⟨S,O⟩ ⟨[(d,⟨.sc (.int k r),false⟩)],[]⟩ (ors x++ors y) [] [] :=
  fT hx hy hd fun w=>by subst hr;simp [eqGuard,binOp,Op.intDiv,hn]
theorem dA (hx:evq S x=some (.sc (.int k m))) (hy:evq S y=some (.sc (.int k n))) (hd:Nat.blt d N=true) :
    Local Γ ⟨some d,.binOp .eql u x y u',ty,pos,af,g⟩ ⟨S,O⟩ ⟨[(d,⟨.sc (.bool (decide (m=n))),false⟩)],[]⟩ (ors x++ors y) [] [] :=
  fT hx hy hd fun w=>by simp [eqGuard,binOp,Op.intCmp];exact vC m n
theorem iU (hx:evq S x=some (.sc (.int k m))) (hy:evq S y=some (.sc (.int k n))) (hd:Nat.blt d N=true) :
    Local Γ ⟨some d,.binOp .neq u x y u',ty,pos,af,g⟩ ⟨S,O⟩ ⟨[(d,⟨.sc (.bool (decide (m≠n))),false⟩)],[]⟩ (ors x++ors y) [] [] :=
  fT hx hy hd fun w=>by simp [eqGuard,binOp,Op.intCmp,bne];exact vC m n
theorem fD (hx:evq S x=some (.sc (.int k m))) (hy:evq S y=some (.sc (.int k n))) (hd:Nat.blt d N=true) :
    Local Γ ⟨some d,.binOp .lss u x y u',ty,pos,af,g⟩ ⟨S,O⟩ ⟨[(d,⟨.sc (.bool (decide (m < n))),false⟩)],[]⟩ (ors x++ors y) [] [] :=
  fT hx hy hd fun w=>by simp [eqGuard,binOp,Op.intCmp]
theorem lH (hx:evq S x=some (.sc (.int k m))) (hy:evq S y=some (.sc (.int k n))) (hd:Nat.blt d N=true) :
    Local Γ ⟨some d,.binOp .leq u x y u',ty,pos,af,g⟩ ⟨S,O⟩ ⟨[(d,⟨.sc (.bool (decide (m≤n))),false⟩)],[]⟩ (ors x++ors y) [] [] :=
  fT hx hy hd fun w=>by simp [eqGuard,binOp,Op.intCmp]
theorem jP (hx:evq S x=some (.sc (.int k m))) (hy:evq S y=some (.sc (.int k n))) (hd:Nat.blt d N=true) :
    Local Γ ⟨some d,.binOp .gtr u x y u',ty,pos,af,g⟩ ⟨S,O⟩ ⟨[(d,⟨.sc (.bool (decide (n < m))),false⟩)],[]⟩ (ors x++ors y) [] [] :=
  fT hx hy hd fun w=>by simp [eqGuard,binOp,Op.intCmp]
theorem oF (hx:evq S x=some (.sc (.int k m))) (hy:evq S y=some (.sc (.int k n))) (hd:Nat.blt d N=true) :
    Local Γ ⟨some d,.binOp .geq u x y u',ty,pos,af,g⟩ ⟨S,O⟩ ⟨[(d,⟨.sc (.bool (decide (n≤m))),false⟩)],[]⟩ (ors x++ors y) [] [] :=
  fT hx hy hd fun w=>by simp [eqGuard,binOp,Op.intCmp]
variable {s t:ByteArray}
theorem lZ {s t:ByteArray}:s.toList=t.toList↔s=t:=by
  constructor
  · intro h
    rw [ByteArray.toList_eq,ByteArray.toList_eq] at h
    cases s;cases t
    simp at h;simp [h]
  · intro h;rw [h]
theorem lA (hx:evq S x=some (.sc (.string s))) (hy:evq S y=some (.sc (.string t))) (hd:Nat.blt d N=true) :
    Local Γ ⟨some d,.binOp .eql u x y u',ty,pos,af,g⟩ ⟨S,O⟩ ⟨[(d,⟨.sc (.bool (decide (s=t))),false⟩)],[]⟩ (ors x++ors y) [] [] :=
  fT hx hy hd fun w=>by simp [eqGuard,binOp,Op.stringOp];by_cases h:s=t <;> simp [h,lZ]
theorem iT (hx:evq S x=some (.sc (.string s))) (hy:evq S y=some (.sc (.string t))) (hd:Nat.blt d N=true) :
    Local Γ ⟨some d,.binOp .neq u x y u',ty,pos,af,g⟩ ⟨S,O⟩ ⟨[(d,⟨.sc (.bool (decide (s≠t))),false⟩)],[]⟩ (ors x++ors y) [] [] :=
  fT hx hy hd fun w=>by simp [eqGuard,binOp,Op.stringOp];by_cases h:s=t <;> simp [h,lZ]
theorem uZ (hx:evq S x=some (.sc (.string s))) (hy:evq S y=some (.sc (.string t))) (hb:s.size+t.size≤9223372036854775807) (hd:Nat.blt d N=true) :
    Local Γ ⟨some d,.binOp .add u x y u',ty,pos,af,g⟩ ⟨S,O⟩ ⟨[(d,⟨.sc (.string (s++t)),false⟩)],[]⟩ (ors x++ors y) [] [] :=
  fT hx hy hd fun w=>by simp only [eqGuard];simp [binOp,run_string_add_sum _ s t hb]
theorem vA {p q:Bool} [hu:UT P u .bool] (hx:evq S x=some (.sc (.bool p))) (hy:evq S y=some (.sc (.bool q))) (hd:Nat.blt d N=true) :
    Local Γ ⟨some d,.binOp .neq u x y u',ty,pos,af,g⟩ ⟨S,O⟩ ⟨[(d,⟨.sc (.bool (!(p == q))),false⟩)],[]⟩ (ors x++ors y) [] [] :=
  fT hx hy hd fun w=>by simp [eqGuard,run_neq_bool w u p q hu.ok]
end bin
theorem eE {ops rest:List Oper} {K:List Item→Env→Prop} {acc:List Item} {o:Oper} {p:Prop} {_hp:Decidable p} {rs ro gs:List Nat} (hl:Local Γ o ⟨S,O⟩ ⟨[(d,⟨.sc (.bool (decide p)),false⟩)],[]⟩ rs ro []) (hg:gd N ops S true o.guard=some gs)
    (ht:p→Run Γ ops K rest (⟨⟨[(d,⟨.sc (.bool true),false⟩)],[]⟩,gs++rs,ro,[]⟩::acc) ⟨(d,⟨.sc (.bool true),false⟩)::S,O⟩)
    (hf:¬p→Run Γ ops K rest (⟨⟨[(d,⟨.sc (.bool false),false⟩)],[]⟩,gs++rs,ro,[]⟩::acc) ⟨(d,⟨.sc (.bool false),false⟩)::S,O⟩):Run Γ ops K (o::rest) acc ⟨S,O⟩:=by
  by_cases h:p
  · rw [decide_eq_true h] at hl;exact Run.op hl hg rfl (ht h)
  · rw [decide_eq_false h] at hl;exact Run.op hl hg rfl (hf h)
theorem bO {ops rest:List Oper} {K:List Item→Env→Prop} {acc:List Item} {o:Oper} {b dp:Bool} {rs ro gs:List Nat} (hl:Local Γ o ⟨S,O⟩ ⟨[(d,⟨.sc (.bool b),dp⟩)],[]⟩ rs ro []) (hg:gd N ops S true o.guard=some gs)
    (ht:b=true→Run Γ ops K rest (⟨⟨[(d,⟨.sc (.bool true),dp⟩)],[]⟩,gs++rs,ro,[]⟩::acc) ⟨(d,⟨.sc (.bool true),dp⟩)::S,O⟩)
    (hf:b=false→Run Γ ops K rest (⟨⟨[(d,⟨.sc (.bool false),dp⟩)],[]⟩,gs++rs,ro,[]⟩::acc) ⟨(d,⟨.sc (.bool false),dp⟩)::S,O⟩):Run Γ ops K (o::rest) acc ⟨S,O⟩:=by
  cases b
  · exact Run.op hl hg rfl (hf rfl)
  · exact Run.op hl hg rfl (ht rfl)
theorem nD {x:Operand} {src dst:TypeId} {k q:IntKind} {n r:Int} {ds:TypeDesc} [hs:UT P src ds] [ht:UT P dst (.int q)] (hx:evq S x=some (.sc (.int k n))) (hr:q.wrap n=r) (hd:Nat.blt d N=true) :
    Local Γ ⟨some d,.convert src dst x,ty,pos,af,g⟩ ⟨S,O⟩ ⟨[(d,⟨.sc (.int q r),false⟩)],[]⟩ (ors x) [] [] :=
  qB rfl hd fun F a w hsim hl=>by
    have:=gD hsim hx hl
    subst hr
    simp [execOp,this,convert,run_underlying ht.ok,run_underlying hs.ok,Conv.intToInt]
theorem rQ {h:Array Obj} {β:Nat→Option (Option Nat)} {n:Nat} {cells:List PV} {c:Value} {B:List Nat} (H:RelV h β (.sl n cells) c B):∃ a cap,c=.slice a n cap:=by
  simp only [RelV] at H
  rcases H with ⟨rfl,_,_,a,cap,rfl⟩ | ⟨b,off,cap,_,_,_,_,⟨rfl,_⟩,_⟩
  · exact ⟨a,cap,rfl⟩
  · exact ⟨_,cap,rfl⟩
theorem tS {t ty:TypeId} {e:Nat} (ht:P.underlying t=some (.slice e)) (a:Option Addr) (n cap:Nat) (w:World):(Builtin.len_ #[t] ty #[.slice a n cap]).run P w=.ok (.int .i64 n) w:=by
  simp [Builtin.len_,run_underlying ht,goInt]
theorem iV {x:Operand} {t e:Nat} [ht:SlT P t e] {l s off n:Nat} {ob:Ob} (hx:evq S x=some (.ref l s off n)) (ho:loq O l=some ob) (hd:Nat.blt d N=true) :
    Local Γ ⟨some d,.call ⟨.builtin .len,#[x],#[t]⟩,ty,pos,af,g⟩ ⟨S,O⟩ ⟨[(d,⟨.sc (.int .i64 n),false⟩)],[]⟩ (ors x) [l] []:=by
  intro F hs hl _
  refine bB fun a w hsim=>⟨.int .i64 n,w,?_,?_⟩
  · obtain ⟨ow,β,hsim⟩:=hsim
    obtain ⟨B,h1,_⟩:=cK hsim hx hs
    simp only [RelV] at h1
    obtain ⟨_,_,_,hob⟩:=hsim.objs l ob (by rw [hl l (by simp),← dC];exact ho)
    have h2:∃ ad cap,a.eval x=.slice ad n cap:=by
      rcases hob with ⟨g1,_⟩ | ⟨b,cs,t,g1,_⟩
      · obtain ⟨rfl,_,e⟩:=h1.2.1 g1;exact ⟨_,_,e⟩
      · obtain ⟨cap,_,_,e,_⟩:=h1.2.2 b g1;exact ⟨_,_,e⟩
    obtain ⟨ad,cap,h2⟩:=h2
    simp [execOp,resolve,invoke,builtin,h2,tS ht.ok]
  · obtain ⟨ow,β,hsim⟩:=hsim
    exact ⟨ow,β,hsim.put ((aK _ _).1 hd) (O:=[]) (by simp [RelV]) (by simp)⟩
theorem eM {x:Operand} {t:Nat} {s:ByteArray} [ht:UT P t .string] (hx:evq S x=some (.sc (.string s))) (hd:Nat.blt d N=true) :
    Local Γ ⟨some d,.call ⟨.builtin .len,#[x],#[t]⟩,ty,pos,af,g⟩ ⟨S,O⟩ ⟨[(d,⟨.sc (.int .i64 s.size),false⟩)],[]⟩ (ors x) [] [] :=
  qB rfl hd fun F a w hsim hs=>by
    have:=gD hsim hx hs
    simp [execOp,resolve,invoke,builtin,this,run_len_string w t ty s ht.ok,goInt]
theorem tJ {x i:Operand} {t:Nat} {s:ByteArray} {k:IntKind} {j:Int} [ht:UT P t .string] (hx:evq S x=some (.sc (.string s))) (hi:evq S i=some (.sc (.int k j))) (hb:0≤j∧j < s.size) (hd:Nat.blt d N=true) :
    Local Γ ⟨some d,.index t x i,ty,pos,af,g⟩ ⟨S,O⟩ ⟨[(d,⟨.sc (.int .u8 (s.data.toList.getD j.toNat 0).toNat),false⟩)],[]⟩ (ors x++ors i) [] [] :=
  qB rfl hd fun F a w hsim hs=>by
    have h1:=gD hsim hx (fun k hk=>hs k (by simp [hk]))
    have h2:=gD hsim hi (fun k hk=>hs k (by simp [hk]))
    have hlt:j.toNat < s.size:=by omega
    have e:(s.data.toList.getD j.toNat 0)=s[j.toNat]:=by
      rw [List.getD_eq_getElem?_getD,List.getElem?_eq_getElem (by simpa using hlt)];rfl
    simp [execOp,h1,h2,Instr.index,asIntOf,run_underlying ht.ok,hb.1,ByteArray.getElem?_lt' s j.toNat hlt]
    rw [List.getD_eq_getElem?_getD] at e
    simp at e
    rw [e]
end
end Go.Ev
/- The engine, part G: functions: what a call is said to give, how it is proved, how it is used. -/
namespace Go.Ev
open Go.RowKit (Below)
def RelArgs (h:Array Obj) (ok:Nat→Prop):List PV→List Value→Prop
  | [],[]=>True
  | p::ps,c::cs=>(∃ B,RelV h dead p c B∧∀ b ∈ B,ok b)∧RelArgs h ok ps cs
  | _,_=>False
def Meets (P:Program) (f:FuncId) (args:List PV) (r:PV) (deep:Bool):Prop :=
  ∀ (w:World) (cargs:Array Value) (ok:Nat→Prop),RelArgs w.heap ok args cargs.toList →
    Calls P f cargs w fun e w'=>∃ c B,e=.returned c∧Below w.heap.size w w'∧RelV w'.heap dead r c B∧(∀ b ∈ B,ok b∨w.heap.size≤b)∧(deep=true→B.Nodup∧∀ b ∈ B,w.heap.size≤b∧cY w' b)
theorem Meets.weak {P:Program} {f:FuncId} {args:List PV} {r:PV} {deep:Bool} (h:Meets P f args r deep):Meets P f args r false :=
  fun w cargs ok ha=>(h w cargs ok ha).mono fun _ _ ⟨c,B,h1,h2,h3,h4,_⟩=>⟨c,B,h1,h2,h3,h4,by simp⟩
def cL:List PV→Nat→List (Nat × Slot)
  | [],_=>[]
  | p::r,k=>(k,⟨p,false⟩)::cL r (k+1)
theorem dX:∀ (ps:List PV) (i k:Nat),lk (cL ps i) k=if i≤k∧k - i < ps.length then ⟨ps.getD (k - i) .any,false⟩ else ⟨.any,false⟩
  | [],i,k=>by simp [cL,lk]
  | p::r,i,k=>by
    rw [cL,dM,dX r (i+1) k]
    by_cases h:i=k
    · subst h;simp
    · rw [if_neg h]
      by_cases h2:i+1≤k∧k - (i+1) < r.length
      · rw [if_pos h2,if_pos (by simp;omega)]
        have:k - i=(k - (i+1))+1:=by omega
        rw [this];simp
      · rw [if_neg h2,if_neg (by simp;omega)]
theorem RelArgs.get {h:Array Obj} {ok:Nat→Prop}:∀ {ps:List PV} {cs:List Value},RelArgs h ok ps cs→ps.length=cs.length∧∀ k,k < ps.length→∃ B,RelV h dead (ps.getD k .any) (cs.getD k undef) B∧∀ b ∈ B,ok b
  | [],[],_=>⟨rfl,fun k hk=>by simp at hk⟩
  | p::ps,c::cs,H=>by
    obtain ⟨h1,h2⟩:=H
    obtain ⟨h3,h4⟩:=RelArgs.get h2
    refine ⟨by simp [h3],fun k hk=>?_⟩
    cases k with
    | zero=>simpa using h1
    | succ k=>simpa using h4 k (by simpa using hk)
  | [],_::_,H=>H.elim
  | _::_,[],H=>H.elim
inductive ResO where
  | slot (k:Nat)
  | obj (l:Nat)
  | none
  deriving DecidableEq
def ResO.own:ResO→Own
  | .slot k=>.slot k
  | .obj l=>.obj l
  | .none=>.none
def dJ (tmps:Array Value):ResultVar→Sem Value
  | .tmp t=>pure (tmps.getD t undef)
  | .cell a t=>do loadVar t (← asAddr (tmps.getD a undef))
section
variable {P:Program} {N:Nat} {Γ:Ctx P N} {S:List (Nat × Slot)} {O:List (Nat × Option Ob)}
def Res1 (Γ:Ctx P N) (E:Env) (rv:ResultVar) (p:PV) (o:ResO):Prop :=
  ∀ ow β a w,SimG Γ ow β E a w→∃ c B,(dJ a.tmps rv).run P w=.ok c w∧RelV w.heap dead p c B∧(∀ b ∈ B,b < w.heap.size∧(Γ.ok b∨Γ.nw b))∧(o≠.none→B.Nodup∧∀ b ∈ B,cY w b∧Γ.nw b∧(ow b=o.own∨∃ l,ow b=.lab l∧o=.obj l))
def RetIs (Γ:Ctx P N) (rs:Array ResultVar) (E:Env) (r:PV) (deep:Bool):Prop :=
  ∀ fn:Func,fn.results=rs→∀ a w,Sim Γ E a w→∃ c B,(results fn a.tmps).run P w=.ok c w∧RelV w.heap dead r c B∧(∀ b ∈ B,b < w.heap.size∧(Γ.ok b∨Γ.nw b))∧(deep=true→B.Nodup∧∀ b ∈ B,cY w b∧Γ.nw b)
def kJ (Γ:Ctx P N) (rs:Array ResultVar) (r:PV) (deep:Bool):Exit→Env→Prop
  | .normal,E=>RetIs Γ rs E r deep
  | .ret,E=>RetIs Γ rs E r deep
  | _,_=>False
theorem Meets.intro {f:FuncId} {fn:Func} {c:Code} {args:List PV} {r:PV} {deep:Bool} {rs:Array ResultVar} (hf:P.funcs[f]?=some fn) (hb:fn.body=some c) (hN:fn.ntmps=N) (hrs:fn.results=rs) (hn:Nat.ble args.length N=true)
    (h:∀ Γ:Ctx P N,Γ.io=(fun _=>none)→CodeT Γ c ⟨cL args 0,[]⟩ (kJ Γ rs r deep)):Meets P f args r deep:=by
  intro w cargs ok ha
  obtain ⟨h1,h2⟩:=ha.get
  have hn:=Nat.le_of_ble_eq_true hn
  let Γ:Ctx P N:={ base:=w.heap.size,ok:=fun b=>ok b,io:=fun _=>none,w0:=w,mine:=fun _=>False,lent:=fun _=>False }
  have hsz:(cargs++Array.replicate (fn.ntmps - cargs.size) undef).size=N:=by
    have:cargs.size=args.length:=by rw [h1];simp
    simp [this,hN];omega
  refine calls_of_wp hf hb ?_
  have hsim:Sim Γ ⟨cL args 0,[]⟩ { tmps:=cargs++Array.replicate (fn.ntmps - cargs.size) undef,defers:=[] } w:=by
    refine ⟨fun _=>.none,fun _=>none,{ size:=hsz,defers:=rfl,kept:=⟨rfl,rfl,rfl,Nat.le_refl _,fun _ _ _ _=>rfl,fun b _ _ cs t h=>⟨cs,h,rfl⟩⟩,slots:=fun k=>?_,objs:=fun l ob hl=>(by simp [lo] at hl),gone:=fun _ _=>rfl,own:=fun b hb=>absurd rfl hb,ios:=fun l b hl=>(by cases hl),fresh:=fun l b hl=>(by cases hl) }⟩
    rw [dX]
    by_cases hk:k < args.length
    · rw [if_pos ⟨Nat.zero_le _,by simpa using hk⟩]
      obtain ⟨B,g1,g2⟩:=h2 k hk
      refine ⟨B,?_,fun b hb=>⟨RelV.below _ _ _ g1 b hb,.inl (g2 b hb),fun l=>by simp⟩,by simp⟩
      have e:(cargs++Array.replicate (fn.ntmps - cargs.size) undef).getD k undef=cargs.toList.getD k undef:=by
        have hlt:k < cargs.size:=by rw [h1] at hk;simpa using hk
        simp [Array.getD_eq_getD_getElem?,Array.getElem?_append,hlt,List.getD_eq_getElem?_getD]
      rw [e]
      simp only [Nat.sub_zero]
      exact RelV.keep _ _ _ (fun l _=>by intro ob h;cases h) (fun _ _=>rfl) g1
    · rw [if_neg (by simpa using hk)]
      exact ⟨[],by simp [RelV],by simp,by simp⟩
  refine wp_mono (h Γ rfl _ _ hsim) fun e a' w' ⟨E',hs',hq⟩=>?_
  have fin:RetIs Γ rs E' r deep→a'.defers=[]∧∃ v,(results fn a'.tmps).run P w'=.ok v w'∧∃ c B,Ending.returned v=.returned c∧Below w.heap.size w w'∧RelV w'.heap dead r c B∧(∀ b ∈ B,ok b∨w.heap.size≤b)∧(deep=true→B.Nodup∧∀ b ∈ B,w.heap.size≤b∧cY w' b):=by
    intro hr
    obtain ⟨c,B,g1,g2,g3,g4⟩:=hr fn hrs a' w' hs'
    obtain ⟨ow,β,hs'⟩:=hs'
    refine ⟨hs'.defers,c,g1,c,B,rfl,⟨hs'.kept.os,hs'.kept.tape,hs'.kept.output,hs'.kept.size,fun k hk=>hs'.kept.old k hk (fun l=>by simp [Γ]) (fun h=>h)⟩,g2,fun b hb=>(g3 b hb).2.imp id (fun h=>(h.elim id False.elim:Γ.nww b).elim id False.elim),fun hd=>⟨(g4 hd).1,fun b hb=>⟨(((g4 hd).2 b hb).2.elim id False.elim:Γ.nww b).elim id False.elim,((g4 hd).2 b hb).1⟩⟩⟩
  cases e with
  | normal=>exact fin hq
  | ret=>exact fin hq
  | exit id=>exact hq.elim
  | goto l=>exact hq.elim
  | panic ch=>exact hq.elim
  | outgrown=>exact hq.elim
theorem iD (fn:Func) (tmps:Array Value):results fn tmps=(do let vs ← fn.results.mapM (dJ tmps);pure (if h:vs.size=1 then vs[0] else .tuple vs)):=by
  unfold results
  congr 1
theorem fZ {rv:ResultVar} {fn:Func} (h:fn.results=#[rv]) (tmps:Array Value):results fn tmps=dJ tmps rv:=by
  unfold results
  rw [h]
  cases rv with
  | tmp t=>simp [dJ]
  | cell a t=>simp [dJ]
theorem oM {rv1 rv2:ResultVar} {fn:Func} (h:fn.results=#[rv1,rv2]) (tmps:Array Value) (w:World) {c1 c2:Value} (h1:(dJ tmps rv1).run P w=.ok c1 w) (h2:(dJ tmps rv2).run P w=.ok c2 w):(results fn tmps).run P w=.ok (.tuple #[c1,c2]) w:=by
  rw [iD,h]
  simp [h1,h2]
theorem oL {rv1 rv2 rv3:ResultVar} {fn:Func} (h:fn.results=#[rv1,rv2,rv3]) (tmps:Array Value) (w:World) {c1 c2 c3:Value} (h1:(dJ tmps rv1).run P w=.ok c1 w) (h2:(dJ tmps rv2).run P w=.ok c2 w) (h3:(dJ tmps rv3).run P w=.ok c3 w):(results fn tmps).run P w=.ok (.tuple #[c1,c2,c3]) w:=by
  rw [iD,h]
  simp [h1,h2,h3]
theorem oK {rv1 rv2 rv3 rv4:ResultVar} {fn:Func} (h:fn.results=#[rv1,rv2,rv3,rv4]) (tmps:Array Value) (w:World) {c1 c2 c3 c4:Value} (h1:(dJ tmps rv1).run P w=.ok c1 w) (h2:(dJ tmps rv2).run P w=.ok c2 w) (h3:(dJ tmps rv3).run P w=.ok c3 w) (h4:(dJ tmps rv4).run P w=.ok c4 w):(results fn tmps).run P w=.ok (.tuple #[c1,c2,c3,c4]) w:=by
  rw [iD,h]
  simp [h1,h2,h3,h4]
theorem Res1.sc {t:Nat} {v:Value} {dp:Bool} (h:lkq S t=some ⟨.sc v,dp⟩):Res1 Γ ⟨S,O⟩ (.tmp t) (.sc v) .none:=by
  intro ow β a w hs
  obtain ⟨B,h1,_,_⟩:=hs.slots t
  rw [eJ h] at h1
  simp only [RelV] at h1
  exact ⟨v,[],by simp [dJ,← h1.1],by simp [RelV],by simp,by simp⟩
theorem Res1.val {t:Nat} {p:PV} {dp:Bool} (h:lkq S t=some ⟨p,dp⟩) (hl:p.labs=[]):Res1 Γ ⟨S,O⟩ (.tmp t) p .none:=by
  intro ow β a w hs
  obtain ⟨B,h1,h2,_⟩:=hs.slots t
  rw [eJ h] at h1
  exact ⟨_,B,rfl,RelV.keep _ _ _ (fun l hl'=>by rw [hl] at hl';cases hl') (fun _ _=>rfl) h1,fun b hb=>⟨(h2 b hb).1,(h2 b hb).2.1⟩,by simp⟩
theorem Res1.nil {t:Nat} {dp:Bool} (h:lkq S t=some ⟨.sc (.slice none 0 0),dp⟩):Res1 Γ ⟨S,O⟩ (.tmp t) (.sl 0 []) (.slot t):=by
  intro ow β a w hs
  obtain ⟨B,h1,_,_⟩:=hs.slots t
  rw [eJ h] at h1
  simp only [RelV] at h1
  exact ⟨_,[],rfl,by simp only [RelV];exact .inl ⟨trivial,trivial,trivial,_,_,h1.1⟩,by simp,by simp⟩
theorem Res1.deep {t:Nat} {p:PV} (h:lkq S t=some ⟨p,true⟩) (hl:p.labs=[]):Res1 Γ ⟨S,O⟩ (.tmp t) p (.slot t):=by
  intro ow β a w hs
  obtain ⟨B,h1,h2,h3⟩:=hs.slots t
  rw [eJ h] at h1 h3
  refine ⟨_,B,rfl,RelV.keep _ _ _ (fun l hl'=>by rw [hl] at hl';cases hl') (fun _ _=>rfl) h1,fun b hb=>⟨(h2 b hb).1,(h2 b hb).2.1⟩,fun _=>⟨(h3 rfl).1,fun b hb=>?_⟩⟩
  obtain ⟨g1,g2⟩:=(h3 rfl).2 b hb
  refine ⟨g2,?_,.inl g1⟩
  rcases (hs.own b (by rw [g1];simp)).2 with g | ⟨l,g,_⟩
  · exact g
  · rw [g1] at g;cases g
theorem RetIs.one {rv:ResultVar} {p:PV} {o:ResO} {deep:Bool} (h:Res1 Γ ⟨S,O⟩ rv p o) (hd:deep=true→o≠.none):RetIs Γ #[rv] ⟨S,O⟩ p deep:=by
  rintro fn hfn a w ⟨ow,β,hs⟩
  obtain ⟨c,B,h1,h2,h3,h4⟩:=h ow β a w hs
  refine ⟨c,B,by rw [fZ hfn];exact h1,h2,h3,fun hx=>⟨(h4 (hd hx)).1,fun b hb=>⟨((h4 (hd hx)).2 b hb).1,((h4 (hd hx)).2 b hb).2.1⟩⟩⟩
theorem RetIs.sc1 {t:Nat} {v:Value} {dp deep:Bool} (h:lkq S t=some ⟨.sc v,dp⟩):RetIs Γ #[.tmp t] ⟨S,O⟩ (.sc v) deep:=by
  rintro fn hfn a w ⟨ow,β,hs⟩
  obtain ⟨c,B,h1,h2,h3,h4⟩:=Res1.sc (Γ:=Γ) (S:=S) (O:=O) h ow β a w hs
  simp only [RelV] at h2
  obtain ⟨rfl,rfl⟩:=h2
  exact ⟨c,[],by rw [fZ hfn];exact h1,by simp [RelV],by simp,by simp⟩
inductive ResL (Γ:Ctx P N) (E:Env):List ResultVar→List PV→List ResO→Prop
  | nil:ResL Γ E [] [] []
  | cons {rv:ResultVar} {p:PV} {o:ResO} {rs:List ResultVar} {ps:List PV} {os:List ResO}:Res1 Γ E rv p o→ResL Γ E rs ps os→ResL Γ E (rv::rs) (p::ps) (o::os)
def kD:List PV→List ResO→Bool
  | [],[]=>true
  | p::ps,o::os=>(match p,o with
    | .sc _,_=>true
    | _,.none=>false
    | _,o=>!(os.any (· == o)))&&kD ps os
  | _,_=>false
theorem ResL.run {E:Env} {rs:List ResultVar} {ps:List PV} {os:List ResO} (h:ResL Γ E rs ps os) {ow:Nat→Own} {β:Nat→Option (Option Nat)} {a:Act} {w:World} (hs:SimG Γ ow β E a w) :
    ∃ (cs:List Value) (B:List Nat),cs.length=rs.length∧ps.length=rs.length∧(∀ (k:Nat) (rv:ResultVar),rs[k]?=some rv→∃ c,cs[k]?=some c∧(dJ a.tmps rv).run P w=.ok c w)∧(∀ (pre:List Value),RelL w.heap false dead ps (pre++cs).toArray pre.length B) ∧
      (∀ b ∈ B,b < w.heap.size∧(Γ.ok b∨Γ.nw b))∧(kD ps os=true→B.Nodup∧∀ b ∈ B,cY w b∧Γ.nw b∧∃ o ∈ os,ow b=o.own∨∃ l,ow b=.lab l∧o=.obj l):=by
  induction h with
  | nil=>exact ⟨[],[],rfl,rfl,by simp,fun pre=>by simp [RelL],by simp,by simp⟩
  | @cons rv p o rs ps os h1 h2 ih =>
    obtain ⟨cs,B,g1,g2,g3,g4,g5,g6⟩:=ih
    obtain ⟨c,B1,e1,e2,e3,e4⟩:=h1 ow β a w hs
    refine ⟨c::cs,B1++B,by simp [g1],by simp [g2],fun k rv' hk=>?_,fun pre=>?_,fun b hb=>?_,fun ho=>?_⟩
    · cases k with
      | zero=>simp at hk;subst hk;exact ⟨c,by simp,e1⟩
      | succ k=>simpa using g3 k rv' (by simpa using hk)
    · simp only [RelL]
      refine ⟨c,B1,B,⟨by simp,by simp⟩,e2,?_,rfl⟩
      have:=g4 (pre++[c])
      simpa using this
    · rcases List.mem_append.1 hb with hb | hb
      · exact e3 b hb
      · exact g5 b hb
    · simp only [kD,Bool.and_eq_true] at ho
      obtain ⟨ho1,ho2⟩:=ho
      obtain ⟨k1,k2⟩:=g6 ho2
      have hB1:B1=[]∨(o≠.none∧∀ o' ∈ os,o'≠o):=by
        cases p with
        | sc v=>simp only [RelV] at e2;exact .inl e2.2
        | _ =>
          refine .inr ?_
          cases o with
          | none=>simp at ho1
          | slot k=>exact ⟨by simp,fun o' ho' e=>by subst e;simp at ho1;exact ho1 _ ho' rfl⟩
          | obj l=>exact ⟨by simp,fun o' ho' e=>by subst e;simp at ho1;exact ho1 _ ho' rfl⟩
      rcases hB1 with rfl | ⟨hne,hos⟩
      · refine ⟨by simpa using k1,fun b hb=>?_⟩
        obtain ⟨j1,j2,o',ho',j3⟩:=k2 b (by simpa using hb)
        exact ⟨j1,j2,o',by simp [ho'],j3⟩
      · obtain ⟨j1,j2⟩:=e4 hne
        refine ⟨?_,fun b hb=>?_⟩
        · rw [List.nodup_append]
          refine ⟨j1,k1,fun b hb b' hb' e=>?_⟩
          subst e
          obtain ⟨_,_,x1⟩:=j2 b hb
          obtain ⟨_,_,o',ho',x2⟩:=k2 b hb'
          apply hos o' ho'
          cases o <;> cases o' <;> simp [ResO.own] at x1 x2 hne ⊢
          all_goals first
            | (rcases x1 with x1 | x1 <;> rcases x2 with x2 | x2 <;> simp_all;done)
            | (simp_all;done)
        · rcases List.mem_append.1 hb with hb | hb
          · obtain ⟨x1,x2,x3⟩:=j2 b hb
            exact ⟨x1,x2,o,by simp,x3⟩
          · obtain ⟨x1,x2,o',ho',x3⟩:=k2 b hb
            exact ⟨x1,x2,o',by simp [ho'],x3⟩
theorem RetIs.many {rs:List ResultVar} {ps:List PV} {os:List ResO} {deep:Bool} (hlen:rs.length=2∨rs.length=3∨rs.length=4) (h:ResL Γ ⟨S,O⟩ rs ps os) (hd:deep=true→kD ps os=true):RetIs Γ rs.toArray ⟨S,O⟩ (.tup ps) deep:=by
  rintro fn hfn a w ⟨ow,β,hs⟩
  obtain ⟨cs,B,g1,g2,g3,g4,g5,g6⟩:=h.run hs
  refine ⟨.tuple cs.toArray,B,?_,?_,g5,fun hx=>⟨(g6 (hd hx)).1,fun b hb=>⟨((g6 (hd hx)).2 b hb).1,((g6 (hd hx)).2 b hb).2.1⟩⟩⟩
  · rcases hlen with hl | hl | hl
    · match rs,cs,hl,g1,g3,hfn with
      | [r1,r2],[c1,c2],_,_,g3,hfn =>
        obtain ⟨_,e1,f1⟩:=g3 0 r1 rfl
        obtain ⟨_,e2,f2⟩:=g3 1 r2 rfl
        simp at e1 e2;subst e1;subst e2
        exact oM hfn _ _ f1 f2
    · match rs,cs,hl,g1,g3,hfn with
      | [r1,r2,r3],[c1,c2,c3],_,_,g3,hfn =>
        obtain ⟨_,e1,f1⟩:=g3 0 r1 rfl
        obtain ⟨_,e2,f2⟩:=g3 1 r2 rfl
        obtain ⟨_,e3,f3⟩:=g3 2 r3 rfl
        simp at e1 e2 e3;subst e1;subst e2;subst e3
        exact oL hfn _ _ f1 f2 f3
    · match rs,cs,hl,g1,g3,hfn with
      | [r1,r2,r3,r4],[c1,c2,c3,c4],_,_,g3,hfn =>
        obtain ⟨_,e1,f1⟩:=g3 0 r1 rfl
        obtain ⟨_,e2,f2⟩:=g3 1 r2 rfl
        obtain ⟨_,e3,f3⟩:=g3 2 r3 rfl
        obtain ⟨_,e4,f4⟩:=g3 3 r4 rfl
        simp at e1 e2 e3 e4;subst e1;subst e2;subst e3;subst e4
        exact oK hfn _ _ f1 f2 f3 f4
  · simp only [RelV]
    exact ⟨cs.toArray,rfl,by simp [g1,g2],by simpa using g4 []⟩
class FnC (P:Program) (f:FuncId):Prop where
  ok : ∃ fn, P.funcs[f]? = some fn ∧ fn.body.isNone = false ∧ (fn.name == "runtime.NumGoroutine") = false
theorem FnC.run {P:Program} {f:FuncId} (h:FnC P f) (args:Array Value) (w:World):(callFunc f args).run P w=.ok (.enter f args) w:=by
  obtain ⟨fn,h1,h2,h3⟩:=h.ok
  have h2':¬fn.body.isNone=true:=by rw [h2];simp
  have h3' : ¬ (fn.name == "runtime.NumGoroutine") = true := by rw [h3]; simp
  unfold callFunc
  rw [Sem.run_bind,run_program,Result.andThen_ok,h1]
  simp only []
  rw [if_neg h3',if_neg h2']
  rfl
inductive CellsR (O:List (Nat × Option Ob)):List PV→List PV→List Nat→Prop
  | nil:CellsR O [] [] []
  | sc {v:Value} {ps qs:List PV} {ls:List Nat}:CellsR O ps qs ls→CellsR O (.sc v::ps) (.sc v::qs) ls
  | ref {l s n:Nat} {cells cells':List PV} {dp:Bool} {ps qs:List PV} {ls:List Nat}:loq O l=some ⟨cells,dp,false⟩→SoftL cells cells'→CellsR O ps qs ls→CellsR O (.ref l s 0 n::ps) (.sl n cells'::qs) (l::ls)
  | vl {p p':PV} {ps qs:List PV} {ls:List Nat}:p.labs=[]→Soft p p'→CellsR O ps qs ls→CellsR O (p::ps) (p'::qs) ls
inductive ArgV (S:List (Nat × Slot)) (O:List (Nat × Option Ob)):Operand→PV→List Nat→Prop
  | val {x:Operand} {p:PV}:evq S x=some p→p.labs=[]→ArgV S O x p []
  | nil {x:Operand}:evq S x=some (.sc (.slice none 0 0))→ArgV S O x (.sl 0 []) []
  | ref {x:Operand} {l s n:Nat} {cells:List PV} {dp:Bool}:evq S x=some (.ref l s 0 n)→loq O l=some ⟨cells,dp,false⟩→cells.length≤n*s→ArgV S O x (.sl n cells) [l]
  | valS {x:Operand} {p p':PV}:evq S x=some p→p.labs=[]→Soft p p'→ArgV S O x p' []
  | refS {x:Operand} {l s n:Nat} {cells cells':List PV} {dp:Bool}:evq S x=some (.ref l s 0 n)→loq O l=some ⟨cells,dp,false⟩→SoftL cells cells'→ArgV S O x (.sl n cells') [l]
  | aggR {x:Operand} {ps qs:List PV} {ls:List Nat}:evq S x=some (.agg ps)→CellsR O ps qs ls→ArgV S O x (.agg qs) ls
inductive ArgsV (S:List (Nat × Slot)) (O:List (Nat × Option Ob)):List Operand→List PV→List Nat→Prop
  | nil:ArgsV S O [] [] []
  | cons {x:Operand} {p:PV} {l m:List Nat} {xs:List Operand} {ps:List PV}:ArgV S O x p l→ArgsV S O xs ps m→ArgsV S O (x::xs) (p::ps) (l++m)
def jF:PV→Bool
  | .sc _=>true
  | .agg cells=>cells.all fun | .sc _=>true | _=>false
  | .tup vs=>vs.all fun | .sc _=>true | .agg cells=>cells.all (fun | .sc _=>true | _=>false) | _=>false
  | _=>false
theorem rH {h:Array Obj} {q:Bool} {β:Nat→Option (Option Nat)}:∀ (ps:List PV) (cs:Array Value) (i:Nat) (B:List Nat),ps.all (fun | .sc _=>true | _=>false)=true→RelL h q β ps cs i B→B=[]
  | [],_,_,_,_,H=>by simpa [RelL] using H
  | p::ps,cs,i,B,hf,H=>by
    simp only [List.all_cons,Bool.and_eq_true] at hf
    simp only [RelL] at H
    obtain ⟨c,B1,B2,_,h2,h3,rfl⟩:=H
    have e2:=rH ps cs (i+1) B2 hf.2 h3
    cases p with
    | sc v=>simp only [RelV] at h2;rw [h2.2,e2];rfl
    | _=>simp at hf
theorem mV {h:Array Obj} {β:Nat→Option (Option Nat)} {p:PV} {c:Value} {B:List Nat} (hf:jF p=true) (H:RelV h β p c B):B=[]:=by
  cases p with
  | sc v=>simp only [RelV] at H;exact H.2
  | agg cells=>simp only [RelV] at H;obtain ⟨cs,_,_,h⟩:=H;exact rH _ _ _ _ hf h
  | tup vs =>
    simp only [RelV] at H
    obtain ⟨cs,_,_,hh⟩:=H
    have key:∀ (ps:List PV) (i:Nat) (B:List Nat),(ps.all fun | .sc _=>true | .agg cells=>cells.all (fun | .sc _=>true | _=>false) | _=>false)=true→RelL h false β ps cs i B→B=[]:=by
      intro ps
      induction ps with
      | nil=>intro i B _ H;simpa [RelL] using H
      | cons p ps ih =>
        intro i B hf H
        simp only [List.all_cons,Bool.and_eq_true] at hf
        simp only [RelL] at H
        obtain ⟨c,B1,B2,_,h2,h3,rfl⟩:=H
        rw [ih (i+1) B2 hf.2 h3]
        cases p with
        | sc v=>simp only [RelV] at h2;rw [h2.2];rfl
        | agg cells=>simp only [RelV] at h2;obtain ⟨cs',_,_,h'⟩:=h2;rw [rH _ _ _ _ hf.1 h'];rfl
        | _=>simp at hf
    exact key _ _ _ hf hh
  | _=>simp [jF] at hf
theorem CellsR.rel {F:Env} {ow:Nat→Own} {β:Nat→Option (Option Nat)} {a:Act} {w:World} (hs:SimG Γ ow β F a w) {ps qs:List PV} {ls:List Nat} (H:CellsR O ps qs ls) (hl:∀ l ∈ ls,lo F.o l=lo O l) :
    ∀ {cs:Array Value} {i:Nat} {B:List Nat},RelL w.heap true β ps cs i B→(∀ b ∈ B,Im Γ ow w b)→ps.length=qs.length∧∃ B',RelL w.heap true dead qs cs i B'∧∀ b ∈ B',Im Γ ow w b∨∃ l ∈ ls,ow b=.lab l:=by
  induction H with
  | nil=>intro cs i B _ _;exact ⟨rfl,[],by simp [RelL],by simp⟩
  | sc _ ih =>
    intro cs i B H hB
    simp only [RelL] at H
    obtain ⟨c,B1,B2,g1,g2,g3,rfl⟩:=H
    obtain ⟨k1,B',k2,k3⟩:=ih hl g3 (fun b hb=>hB b (by simp [hb]))
    simp only [RelV] at g2
    refine ⟨by simp [k1],B',?_,k3⟩
    simp only [RelL]
    exact ⟨c,[],B',g1,by simp only [RelV];exact ⟨g2.1,trivial⟩,k2,rfl⟩
  | @vl p p' ps qs ls hlb hs' _ ih =>
    intro cs i B H hB
    simp only [RelL] at H
    obtain ⟨c,B1,B2,g1,g2,g3,rfl⟩:=H
    obtain ⟨k1,B',k2,k3⟩:=ih hl g3 (fun b hb=>hB b (by simp [hb]))
    refine ⟨by simp [k1],B1++B',?_,fun b hb=>?_⟩
    · simp only [RelL]
      exact ⟨c,B1,B',g1,hs' _ _ _ _ (RelV.keep _ _ _ (fun l hl'=>by rw [hlb] at hl';cases hl') (fun _ _=>rfl) g2),k2,rfl⟩
    · rcases List.mem_append.1 hb with hb | hb
      · exact .inl (hB b (by simp [hb]))
      · exact k3 b hb
  | @ref l s n cells cells' dp ps qs ls e2 e4 _ ih =>
    intro cs i B H hB
    simp only [RelL] at H
    obtain ⟨c,B1,B2,g1,g2,g3,rfl⟩:=H
    obtain ⟨k1,B',k2,k3⟩:=ih (fun l' hl'=>hl l' (by simp [hl'])) g3 (fun b hb=>hB b (by simp [hb]))
    refine ⟨by simp [k1],?_⟩
    simp only [RelV] at g2
    obtain ⟨Bo,o1,_,o3⟩:=hs.objs l ⟨cells,dp,false⟩ (by rw [hl l (by simp),← dC];exact e2)
    rcases o3 with ⟨o3,o4,o5⟩ | ⟨b,ds,t,o3,o4,o5,o6⟩
    · obtain ⟨hn,_,hc⟩:=g2.2.1 o3
      simp only at o4
      subst hn;subst o4
      refine ⟨B',?_,fun b hb=>(k3 b hb).imp id fun ⟨m,h1,h2⟩=>⟨m,by simp [h1],h2⟩⟩
      simp only [RelL]
      exact ⟨c,[],B',g1,by simp only [RelV];exact .inl ⟨trivial,e4.empty,trivial,_,_,hc⟩,k2,rfl⟩
    · obtain ⟨cap,cs',t',hc,hh,_,hcap⟩:=g2.2.2 b o3
      rw [o5] at hh;cases hh
      refine ⟨(b::Bo)++B',?_,fun b' hb'=>?_⟩
      · simp only [RelL]
        refine ⟨c,b::Bo,B',g1,?_,k2,rfl⟩
        simp only [RelV]
        exact .inr ⟨b,0,cap,ds,t,(0,0),Bo,⟨by simpa using hc,hcap⟩,o5,e4.2 _ _ _ _ _ _ (by simpa using o6),rfl⟩
      · rcases List.mem_append.1 hb' with hb' | hb'
        · rcases List.mem_cons.1 hb' with rfl | hb'
          · exact .inr ⟨l,by simp,o4⟩
          · exact .inl (o1 b' hb')
        · exact (k3 b' hb').imp id fun ⟨m,h1,h2⟩=>⟨m,by simp [h1],h2⟩
theorem iS {F:Env} {ow:Nat→Own} {β:Nat→Option (Option Nat)} {a:Act} {w:World} (hs:SimG Γ ow β F a w):∀ {xs:List Operand} {ps:List PV} {ls:List Nat},ArgsV S O xs ps ls→(∀ k ∈ mN xs,lk F.s k=lk S k)→(∀ l ∈ ls,lo F.o l=lo O l) →
    RelArgs w.heap (fun b=>Im Γ ow w b∨∃ l ∈ ls,ow b=.lab l) ps (xs.map a.eval)
  | [],_,_,.nil,_,_=>trivial
  | x::xs,_,_,@ArgsV.cons _ _ _ p l m _ ps hx hxs,h1,h2=>by
    have hk1:∀ k ∈ ors x,lk F.s k=lk S k:=fun k hk=>h1 k (by cases x <;> simp [ors,mN] at hk ⊢;exact .inl hk)
    have hk2:∀ k ∈ mN xs,lk F.s k=lk S k:=fun k hk=>h1 k (by cases x <;> simp [mN,hk])
    have ih:=iS hs hxs hk2 (fun l' hl=>h2 l' (by simp [hl]))
    have mono:∀ {ok ok':Nat→Prop} (ps:List PV) (cs:List Value),(∀ b,ok b→ok' b)→RelArgs w.heap ok ps cs→RelArgs w.heap ok' ps cs:=by
      intro ok ok' ps
      induction ps with
      | nil=>intro cs _ H;cases cs with
        | nil=>trivial
        | cons=>exact H.elim
      | cons p ps ih =>
        intro cs hm H
        cases cs with
        | nil=>exact H.elim
        | cons c cs=>obtain ⟨⟨B,e1,e2⟩,e3⟩:=H;exact ⟨⟨B,e1,fun b hb=>hm b (e2 b hb)⟩,ih cs hm e3⟩
    refine ⟨?_,mono _ _ (fun b hb=>hb.imp id fun ⟨l',hl,e⟩=>⟨l',by simp [hl],e⟩) ih⟩
    cases hx with
    | val e1 e2 =>
      obtain ⟨B,g1,g2⟩:=cK hs e1 hk1
      exact ⟨B,RelV.keep _ _ _ (fun l' hl=>by rw [e2] at hl;cases hl) (fun _ _=>rfl) g1,fun b hb=>.inl (g2 b hb)⟩
    | nil e1 =>
      obtain ⟨B,g1,g2⟩:=cK hs e1 hk1
      simp only [RelV] at g1
      exact ⟨[],by simp only [RelV];exact .inl ⟨trivial,trivial,trivial,_,_,g1.1⟩,by simp⟩
    | valS e1 e2 e3 =>
      obtain ⟨B,g1,g2⟩:=cK hs e1 hk1
      exact ⟨B,e3 _ _ _ _ (RelV.keep _ _ _ (fun l' hl=>by rw [e2] at hl;cases hl) (fun _ _=>rfl) g1),fun b hb=>.inl (g2 b hb)⟩
    | aggR e1 e2 =>
      obtain ⟨B,g1,g2⟩:=cK hs e1 hk1
      simp only [RelV] at g1
      obtain ⟨cs,h1',h2',h3'⟩:=g1
      obtain ⟨k1,B',k2,k3⟩:=e2.rel hs (fun l' hl=>h2 l' (by simp [hl])) h3' g2
      refine ⟨B',?_,fun b hb=>(k3 b hb).imp id fun ⟨m,q1,q2⟩=>⟨m,by simp [q1],q2⟩⟩
      simp only [RelV]
      exact ⟨cs,h1',by rw [h2',k1],k2⟩
    | @refS l s n cells cells' dp e1 e2 e4 =>
      obtain ⟨B,g1,g2⟩:=cK hs e1 hk1
      simp only [RelV] at g1
      obtain ⟨Bo,o1,_,o3⟩:=hs.objs l ⟨cells,dp,false⟩ (by rw [h2 l (by simp),← dC];exact e2)
      rcases o3 with ⟨o3,o4,o5⟩ | ⟨b,cs,t,o3,o4,o5,o6⟩
      · obtain ⟨hn,_,hc⟩:=g1.2.1 o3
        simp only at o4
        subst hn;subst o4
        exact ⟨[],by simp only [RelV];exact .inl ⟨trivial,e4.empty,trivial,_,_,hc⟩,by simp⟩
      · obtain ⟨cap,cs',t',hc,hh,_,hcap⟩:=g1.2.2 b o3
        rw [o5] at hh;cases hh
        refine ⟨b::Bo,?_,fun b' hb'=>?_⟩
        · simp only [RelV]
          exact .inr ⟨b,0,cap,cs,t,(0,0),Bo,⟨by simpa using hc,hcap⟩,o5,e4.2 _ _ _ _ _ _ (by simpa using o6),rfl⟩
        · rcases List.mem_cons.1 hb' with rfl | hb'
          · exact .inr ⟨l,by simp,o4⟩
          · exact .inl (o1 b' hb')
    | @ref l s n cells dp e1 e2 e3 =>
      obtain ⟨B,g1,g2⟩:=cK hs e1 hk1
      simp only [RelV] at g1
      obtain ⟨Bo,o1,_,o3⟩:=hs.objs l ⟨cells,dp,false⟩ (by rw [h2 l (by simp),← dC];exact e2)
      rcases o3 with ⟨o3,o4,o5⟩ | ⟨b,cs,t,o3,o4,o5,o6⟩
      · obtain ⟨hn,_,hc⟩:=g1.2.1 o3
        simp at o4
        subst hn;subst o4
        exact ⟨[],by simp only [RelV];exact .inl ⟨trivial,trivial,trivial,_,_,hc⟩,by simp⟩
      · obtain ⟨cap,cs',t',hc,hh,_,hcap⟩:=g1.2.2 b o3
        rw [o5] at hh;cases hh
        refine ⟨b::Bo,?_,fun b' hb'=>?_⟩
        · simp only [RelV]
          exact .inr ⟨b,0,cap,cs,t,(0,0),Bo,⟨by simpa using hc,hcap⟩,o5,by simpa using o6,rfl⟩
        · rcases List.mem_cons.1 hb' with rfl | hb'
          · exact .inr ⟨l,by simp,o4⟩
          · exact .inl (o1 b' hb')
variable {d:Nat} {ty:TypeId} {pos:String} {af:Array Edge} {g:Option (Nat × Bool)}
def uT:List Nat→Bool
  | []=>true
  | _=>false
theorem aJ {f:FuncId} [hfc:FnC P f] {xs:List Operand} {us:Array TypeId} {ps:List PV} {ls:List Nat} {r:PV} {deep:Bool} (ha:ArgsV S O xs ps ls) (hm:Meets P f ps r deep) (hc:(uT ls||deep||jF r)=true) (hr:r.labs=[]) (hd:Nat.blt d N=true) :
    Local Γ ⟨some d,.call ⟨.value (.func f),xs.toArray,us⟩,ty,pos,af,g⟩ ⟨S,O⟩ ⟨[(d,⟨r,deep⟩)],[]⟩ (mN xs) ls []:=by
  intro F hs hl _ a w ⟨ow,β,hsim⟩ Q
  have hargs:=iS hsim ha hs hl
  unfold Oper.wp
  have hrun:(execOp a.eval ⟨some d,.call ⟨.value (.func f),xs.toArray,us⟩,ty,pos,af,g⟩).run P w=.ok (.enter f (xs.map a.eval).toArray) w:=by
    simp [execOp,resolve,Act.eval,Deferred.ofValue,invoke,hfc.run]
  rw [hrun]
  show Calls _ _ _ _ _
  refine (hm w (xs.map a.eval).toArray (fun b=>Im Γ ow w b∨∃ l ∈ ls,ow b=.lab l) (by simpa using hargs)).mono fun e w' ⟨c,B,he,hb,h1,h2,h3⟩=>?_
  subst he
  show Sim Γ _ _ _
  have hg:=hsim.grow hb
  have hB:∀ b ∈ B,b < w'.heap.size:=RelV.below _ _ _ h1
  have hfresh:∀ b,w.heap.size≤b→b < w'.heap.size→Im Γ ow w' b:=fun b hb1 hb2=>⟨hb2,.inr (.inl (.inl (Nat.le_trans hsim.kept.size hb1))),fun l e=>by have:=(hsim.own b (by rw [e];simp)).1;omega⟩
  have hkeepV:RelV w'.heap β r c B:=RelV.keep _ _ _ (fun l hl=>by rw [hr] at hl;cases hl) (fun _ _=>rfl) h1
  cases deep with
  | true =>
    obtain ⟨n1,n2⟩:=h3 rfl
    exact ⟨_,β,hg.putDeep ((aK _ _).1 hd) hkeepV (fun b hb=>hfresh b (n2 b hb).1 (hB b hb)) n1 (fun b hb=>⟨(n2 b hb).2,.inl (.inl (Nat.le_trans hsim.kept.size (n2 b hb).1))⟩)
      (fun b hb=>by
        cases hx:ow b with
        | none=>exact .inl rfl
        | _=>have:=(hsim.own b (by rw [hx];simp)).1;have:=(n2 b hb).1;omega)⟩
  | false =>
    refine ⟨ow,β,hg.put ((aK _ _).1 hd) hkeepV fun b hbB=>?_⟩
    simp only [Bool.or_false,Bool.or_eq_true] at hc
    rcases hc with hc | hc
    · cases ls with
      | cons=>cases hc
      | nil =>
        rcases h2 b hbB with (h | ⟨l,hl,_⟩) | h
        · exact ⟨Nat.lt_of_lt_of_le h.1 hb.size,h.2⟩
        · cases hl
        · exact hfresh b h (hB b hbB)
    · rw [mV hc h1] at hbB;cases hbB
end
end Go.Ev
/- The engine, part H: an environment is made weaker: what is no longer wanted is dropped, own blocks get other names. -/
namespace Go.Ev
open Go.RowKit (Below)
def rn:List (Nat × Nat)→Nat→Nat
  | [],l=>l
  | (a,b)::r,l=>bif Nat.beq a l then b else rn r l
mutual
def fO (ρ:List (Nat × Nat)):PV→PV
  | .ref l s off n=>.ref (rn ρ l) s off n
  | .ptr l k=>.ptr (rn ρ l) k
  | .agg cells=>.agg (iE ρ cells)
  | .tup vs=>.tup (iE ρ vs)
  | .was v p=>.was v (fO ρ p)
  | p=>p
def iE (ρ:List (Nat × Nat)):List PV→List PV
  | []=>[]
  | p::ps=>fO ρ p::iE ρ ps
end
def tU:List (Nat × Nat)→PV→PV
  | [],p=>p
  | x::r,p=>fO (x::r) p
def rP:List (Nat × Nat)→List PV→List PV
  | [],ps=>ps
  | x::r,ps=>iE (x::r) ps
def EntS (ρ:List (Nat × Nat)) (S:List (Nat × Slot)):List (Nat × Slot)→Prop
  | []=>True
  | (k,sl)::r=>(∃ dp,lkq S k=some ⟨tU ρ sl.v,dp⟩∧(sl.deep=true→dp=true))∧EntS ρ S r
def EntO (ρ:List (Nat × Nat)) (O:List (Nat × Option Ob)):List (Nat × Option Ob)→Prop
  | []=>True
  | (_,none)::r=>EntO ρ O r
  | (l,some ob)::r=>(∃ dp,loq O (rn ρ l)=some ⟨if ob.box then rP ρ ob.cells else ob.cells,dp,ob.box⟩∧(ob.deep=true→dp=true))∧EntO ρ O r
def hJ:List (Nat × Option Ob)→List Nat
  | []=>[]
  | (l,_)::r=>l::hJ r
def rV (ρ:List (Nat × Nat)):List Nat→Bool
  | []=>true
  | l::r=>!(jT (r.map (rn ρ)) (rn ρ l))&&rV ρ r
theorem EntS.get {ρ:List (Nat × Nat)} {S:List (Nat × Slot)}:∀ {S':List (Nat × Slot)},EntS ρ S S'→∀ k,lkq S' k=none∨∃ sl dp,lkq S' k=some sl∧lk S k=⟨tU ρ sl.v,dp⟩∧(sl.deep=true→dp=true)
  | [],_,k=>.inl rfl
  | (j,sl)::r,h,k=>by
    obtain ⟨⟨dp,h1,h2⟩,h3⟩:=h
    by_cases hj:j=k
    · subst hj;exact .inr ⟨sl,dp,by simp [lkq],eJ h1,h2⟩
    · have e:lkq ((j,sl)::r) k=lkq r k:=by simp [lkq,fF,hj]
      rw [e];exact EntS.get h3 k
theorem sZ {s:List (Nat × Slot)} {k:Nat} (h:lkq s k=none):lk s k=⟨.any,false⟩:=by
  induction s with
  | nil=>rfl
  | cons x r ih =>
    obtain ⟨j,u⟩:=x
    simp only [lkq,fF] at h
    rw [dM]
    by_cases hj:j=k
    · simp [hj] at h
    · rw [if_neg hj];simp [hj] at h;exact ih h
theorem EntO.get {ρ:List (Nat × Nat)} {O:List (Nat × Option Ob)}:∀ {O':List (Nat × Option Ob)},EntO ρ O O'→∀ l ob,lo O' l=some ob→l ∈ hJ O'∧∃ dp,lo O (rn ρ l)=some ⟨if ob.box then rP ρ ob.cells else ob.cells,dp,ob.box⟩∧(ob.deep=true→dp=true)
  | [],_,l,ob,hl=>by simp [lo] at hl
  | (j,none)::r,h,l,ob,hl=>by
    rw [aZ] at hl
    by_cases hj:j=l
    · rw [if_pos hj] at hl;cases hl
    · rw [if_neg hj] at hl
      obtain ⟨h1,h2⟩:=EntO.get (O':=r) h l ob hl
      exact ⟨by simp [hJ,h1],h2⟩
  | (j,some o)::r,h,l,ob,hl=>by
    rw [aZ] at hl
    obtain ⟨⟨dp,h1,h2⟩,h3⟩:=h
    by_cases hj:j=l
    · subst hj;rw [if_pos rfl] at hl;cases hl
      exact ⟨by simp [hJ],dp,by rw [← dC];exact h1,h2⟩
    · rw [if_neg hj] at hl
      obtain ⟨g1,g2⟩:=EntO.get h3 l ob hl
      exact ⟨by simp [hJ,g1],g2⟩
theorem nZ {ρ:List (Nat × Nat)}:∀ {ls:List Nat},rV ρ ls=true→∀ a ∈ ls,∀ b ∈ ls,rn ρ a=rn ρ b→a=b
  | [],_,a,ha=>by cases ha
  | l::r,h,a,ha=>by
    intro b hb e
    simp only [rV,Bool.and_eq_true,Bool.not_eq_true'] at h
    have hn:∀ x ∈ r,rn ρ x≠rn ρ l:=by
      intro x hx ex
      have:jT (r.map (rn ρ)) (rn ρ l)=true:=(fI _ _).2 (List.mem_map.2 ⟨x,hx,ex⟩)
      rw [this] at h;cases h.1
    rcases List.mem_cons.1 ha with ha' | ha' <;> rcases List.mem_cons.1 hb with hb' | hb'
    · rw [ha',hb']
    · subst ha';exact absurd e.symm (hn b hb')
    · subst hb';exact absurd e (hn a ha')
    · exact nZ h.2 a ha' b hb' e
section
variable {P:Program} {N:Nat} {Γ:Ctx P N}
theorem sN {ρ:List (Nat × Nat)} {ps:List PV} (h:rP ρ ps=[]):ps=[]:=by
  cases ρ with
  | nil=>exact h
  | cons x r=>cases ps with
    | nil=>rfl
    | cons p q=>simp [rP,iE] at h
mutual
theorem kS {h:Array Obj} {β β':Nat→Option (Option Nat)} {ρ:List (Nat × Nat)} (hb:∀ l o,β' l=some o→β (rn ρ l)=some o):∀ (p:PV) {c:Value} {B:List Nat},RelV h β (fO ρ p) c B→RelV h β' p c B
  | .ref l s off n,c,B,H=>by
    simp only [fO,RelV] at H ⊢
    exact ⟨H.1,fun e=>H.2.1 (hb _ _ e),fun b e=>H.2.2 b (hb _ _ e)⟩
  | .ptr l k,c,B,H=>by
    simp only [fO,RelV] at H ⊢
    exact ⟨H.1,fun b e=>H.2 b (hb _ _ e)⟩
  | .sc _,_,_,H=>by simpa only [fO,RelV] using H
  | .sl _ _,_,_,H=>by simpa only [fO,RelV] using H
  | .iptr _,_,_,H=>by simpa only [fO,RelV] using H
  | .rw _ _ _,_,_,H=>by simpa only [fO,RelV] using H
  | .agg cells,_,_,H=>by
    simp only [fO,RelV] at H ⊢
    obtain ⟨cs,h1,h2,h3⟩:=H
    exact ⟨cs,h1,by rw [h2];exact mE cells,iW hb cells h3⟩
  | .tup vs,_,_,H=>by
    simp only [fO,RelV] at H ⊢
    obtain ⟨cs,h1,h2,h3⟩:=H
    exact ⟨cs,h1,by rw [h2];exact mE vs,iW hb vs h3⟩
  | .any,_,_,H=>by simpa only [fO,RelV] using H
  | .was v p,_,_,H=>by
    simp only [fO,RelV] at H ⊢
    exact ⟨H.1,kS hb p H.2⟩
theorem mE {ρ:List (Nat × Nat)}:∀ (ps:List PV),(iE ρ ps).length=ps.length
  | []=>by simp [iE]
  | p::ps=>by simp [iE,mE ps]
theorem iW {h:Array Obj} {q:Bool} {β β':Nat→Option (Option Nat)} {ρ:List (Nat × Nat)} (hb:∀ l o,β' l=some o→β (rn ρ l)=some o):∀ (ps:List PV) {cs:Array Value} {i:Nat} {B:List Nat},RelL h q β (iE ρ ps) cs i B→RelL h q β' ps cs i B
  | [],_,_,_,H=>by simpa only [iE,RelL] using H
  | p::ps,cs,i,B,H=>by
    simp only [iE,RelL] at H ⊢
    obtain ⟨c,B1,B2,h1,h2,h3,rfl⟩:=H
    exact ⟨c,B1,B2,h1,kS hb p h2,iW hb ps h3,rfl⟩
end
theorem sO {h:Array Obj} {β β':Nat→Option (Option Nat)} {ρ:List (Nat × Nat)} (hb:∀ l o,β' l=some o→β (rn ρ l)=some o) {p:PV} {c:Value} {B:List Nat} (H:RelV h β (tU ρ p) c B):RelV h β' p c B:=by
  cases ρ with
  | nil=>exact RelV.keep p c B (fun l _ o ho=>⟨hb l o ho,fun b _ cs t hc=>⟨cs,hc,rfl⟩⟩) (fun _ _=>rfl) H
  | cons x r=>exact kS hb p H
theorem sP {h:Array Obj} {q:Bool} {β β':Nat→Option (Option Nat)} {ρ:List (Nat × Nat)} (hb:∀ l o,β' l=some o→β (rn ρ l)=some o) {ps:List PV} {cs:Array Value} {i:Nat} {B:List Nat} (H:RelL h q β (rP ρ ps) cs i B):RelL h q β' ps cs i B:=by
  cases ρ with
  | nil=>exact RelL.keep ps cs i B (fun _ _ l _ o ho=>⟨hb l o ho,fun b _ cs t hc=>⟨cs,hc,rfl⟩⟩) (fun _ _=>rfl) H
  | cons x r=>exact iW hb ps H
theorem Ent.list {S S':List (Nat × Slot)} {O O':List (Nat × Option Ob)} (ρ:List (Nat × Nat)) (hio:∀ l,Γ.io (rn ρ l)=Γ.io l∧(Γ.io l≠none→rn ρ l=l)) (hi:rV ρ (hJ O')=true) (hS:EntS ρ S S') (hO:EntO ρ O O'):Ent Γ ⟨S,O⟩ ⟨S',O'⟩:=by
  rintro a w ⟨ow,β,h⟩
  have hinj:=nZ hi
  have hex:∀ l:Nat,∃ o:Option Nat,(∀ l',o=some l'→l' ∈ hJ O'∧rn ρ l'=l)∧(o=none→∀ l' ∈ hJ O',rn ρ l'≠l):=by
    intro l
    by_cases hx:∃ l' ∈ hJ O',rn ρ l'=l
    · obtain ⟨l',h1,h2⟩:=hx
      exact ⟨some l',fun x e=>(by cases e;exact ⟨h1,h2⟩),fun e=>(by cases e)⟩
    · exact ⟨none,fun x e=>(by cases e),fun _ l' h1 h2=>hx ⟨l',h1,h2⟩⟩
  obtain ⟨f,hf⟩:=Classical.axiomOfChoice hex
  have hfk:∀ l' ∈ hJ O',f (rn ρ l')=some l':=by
    intro l' hl'
    cases hx:f (rn ρ l') with
    | none=>exact absurd rfl ((hf (rn ρ l')).2 hx l' hl')
    | some x =>
      obtain ⟨h1,h2⟩:=(hf (rn ρ l')).1 x hx
      rw [hinj x h1 l' hl' h2]
  let ow':Nat→Own:=fun b=>match ow b with
    | .none=>.none
    | .slot k=>.slot k
    | .obj l=>match f l with
      | some l'=>.obj l'
      | none=>.none
    | .lab l=>match f l with
      | some l'=>.lab l'
      | none=>.none
  let β':Nat→Option (Option Nat):=fun l=>if (lo O' l).isSome=true then β (rn ρ l) else none
  have hβ':∀ l o,β' l=some o→β (rn ρ l)=some o:=by
    intro l o e
    have e':(if (lo O' l).isSome=true then β (rn ρ l) else none)=some o:=e
    by_cases hx:(lo O' l).isSome=true
    · rw [if_pos hx] at e';exact e'
    · rw [if_neg hx] at e';cases e'
  have hIm:∀ b,Im Γ ow w b→Im Γ ow' w b:=by
    rintro b ⟨h1,h2,h3⟩
    refine ⟨h1,h2,fun l=>?_⟩
    show (match ow b with | .none=>_ | .slot k=>_ | .obj l=>_ | .lab l=>_)≠_
    cases hb:ow b with
    | none=>simp
    | slot k=>simp
    | obj m=>simp only;cases f m <;> simp
    | lab m=>exact absurd hb (h3 m)
  refine ⟨ow',β',{ size:=h.size,defers:=h.defers,kept:=h.kept,slots:=fun k=>?_,objs:=fun l ob hl=>?_,gone:=fun l hl=>?_,own:=fun b hb=>?_,ios:=fun l b hl hs=>?_,fresh:=fun l b hl hi=>?_ }⟩
  · rcases hS.get k with hk | ⟨sl,dp,hk,h1,h2⟩
    · rw [sZ hk];exact ⟨[],by simp [RelV],by simp,by simp⟩
    · rw [eJ hk]
      obtain ⟨B,g1,g2,g3⟩:=h.slots k
      simp only [h1] at g1 g3
      refine ⟨B,sO hβ' g1,fun b hb=>hIm b (g2 b hb),fun hd=>⟨(g3 (h2 hd)).1,fun b hb=>⟨?_,((g3 (h2 hd)).2 b hb).2⟩⟩⟩
      have e:=((g3 (h2 hd)).2 b hb).1
      show (match ow b with | .none=>_ | .slot k=>_ | .obj l=>_ | .lab l=>_)=_
      rw [e]
  · obtain ⟨h1,dp,h2,h3⟩:=hO.get l ob hl
    obtain ⟨B,g1,g2,g3⟩:=h.objs (rn ρ l) _ h2
    have eβ:β' l=β (rn ρ l):=by show (if _ then _ else _)=_;rw [if_pos (by rw [hl];rfl)]
    refine ⟨B,fun b hb=>hIm b (g1 b hb),fun hd=>⟨(g2 (h3 hd)).1,fun b hb=>⟨?_,((g2 (h3 hd)).2 b hb).2⟩⟩,?_⟩
    · have e:=((g2 (h3 hd)).2 b hb).1
      show (match ow b with | .none=>_ | .slot k=>_ | .obj l=>_ | .lab l=>_)=_
      rw [e];simp only [hfk l h1]
    · rcases g3 with ⟨e1,e2,e3⟩ | ⟨b,cs,t,e1,e2,e3,e4⟩
      · refine .inl ⟨eβ.trans e1,?_,e3⟩
        simp only at e2
        cases hbx:ob.box with
        | false=>rw [hbx] at e2;simpa using e2
        | true=>rw [hbx] at e2;exact sN (by simpa using e2)
      · refine .inr ⟨b,cs,t,eβ.trans e1,?_,e3,?_⟩
        · show (match ow b with | .none=>_ | .slot k=>_ | .obj l=>_ | .lab l=>_)=_
          rw [e2];simp only [hfk l h1]
        · simp only at e4
          cases hbx:ob.box with
          | false=>rw [hbx] at e4;simpa using e4
          | true=>rw [hbx] at e4;simp only [if_true] at e4 ⊢;exact sP hβ' e4
  · show (if _ then _ else _)=_
    rw [if_neg (by rw [hl];simp)]
  · have hb':ow b≠.none:=by
      intro e
      apply hb
      show (match ow b with | .none=>_ | .slot k=>_ | .obj l=>_ | .lab l=>_)=_
      rw [e]
    obtain ⟨g1,g2⟩:=h.own b hb'
    refine ⟨g1,?_⟩
    rcases g2 with g2 | ⟨l,g3,g4⟩
    · exact .inl g2
    · refine .inr ⟨l,?_,g4⟩
      have hb2:(match f l with | some l'=>Own.lab l' | none=>Own.none)≠.none:=by
        have:ow' b=(match f l with | some l'=>Own.lab l' | none=>Own.none):=by
          show (match ow b with | .none=>_ | .slot k=>_ | .obj l=>_ | .lab l=>_)=_
          rw [g3]
        rw [← this];exact hb
      show (match ow b with | .none=>_ | .slot k=>_ | .obj l=>_ | .lab l=>_)=_
      rw [g3]
      simp only
      cases hx:f l with
      | none=>rw [hx] at hb2;simp at hb2
      | some l' =>
        obtain ⟨e1,e2⟩:=(hf l).1 l' hx
        have:Γ.io l'≠none:=by rw [← (hio l').1,e2,g4];simp
        have e3:=(hio l').2 this
        rw [e3] at e2;rw [e2]
  · have e1:=(hio l).2 (by rw [hl];simp)
    show (if _ then _ else _)=_
    rw [if_pos hs,e1]
    cases hx:lo O' l with
    | none=>simp only at hs;rw [hx] at hs;cases hs
    | some ob =>
      obtain ⟨_,dp,h2,_⟩:=hO.get l ob hx
      rw [e1] at h2
      exact h.ios l b hl (by rw [h2];rfl)
  · exact h.fresh (rn ρ l) b (hβ' l _ hl) (by rw [(hio l).1];exact hi)
theorem Ent.refl (E:Env):Ent Γ E E:=fun _ _ h=>h
theorem Ent.trans {E1 E2 E3:Env} (h1:Ent Γ E1 E2) (h2:Ent Γ E2 E3):Ent Γ E1 E3:=fun a w h=>h2 a w (h1 a w h)
section kJ
variable {K:Env→Prop} {Q:Exit→Env→Prop} {E Em:Env} {i j n:Nat} {I:Nat→Env→Prop} {rs:Array ResultVar} {r:PV} {deep:Bool}
theorem x1 (h:Q .ret E):fS K Q .ret E:=h
theorem x2 (h:Q (.exit i) E):fS K Q (.exit i) E:=h
theorem x3 (h:K E):fS K Q .normal E:=h
theorem x4 (h:Q .ret E):dP i Q .ret E:=h
theorem x5 (h:Q .normal E):dP i Q .normal E:=h
theorem x6 (h:Nat.beq j i=true) (h':Q .normal E):dP i Q (.exit j) E:=by simp only [dP,h];exact h'
theorem x7 (h:Nat.beq j i=false) (h':Q (.exit j) E):dP i Q (.exit j) E:=by simp only [dP,h];exact h'
theorem x12 (h:RetIs Γ rs E r deep):kJ Γ rs r deep .ret E:=h
end kJ
end
end Go.Ev
/- The engine, part I: reading memory. -/
namespace Go.Ev
open Go.RowKit (Below)
section
variable {P:Program} {N:Nat} {Γ:Ctx P N} {S:List (Nat × Slot)} {O:List (Nat × Option Ob)}
variable {d:Nat} {ty:TypeId} {pos:String} {af:Array Edge} {g:Option (Nat × Bool)}
theorem pB {t f off:Nat} [hf:FldT P t f off] (w:World) (b k:Nat):(Instr.fieldAt t (.pointer (some ⟨b,k,none⟩)) f).run P w=.ok (.pointer (some ⟨b,k+off,none⟩)) w:=by
  obtain ⟨fs,fd,i,h1,h2,h3,h4,h5⟩:=hf.ok
  subst h3
  simp [Instr.fieldAt,run_underlying h1,h2,Instr.sureAddr,fieldPlace,sizeOf,typeInfo,h4,h5,Addr.add_lit]
theorem aD {x:Operand} {t f off l k:Nat} {ob:Ob} [hf:FldT P t f off] (hx:evq S x=some (.ptr l k)) (ho:loq O l=some ob) (hne:Nat.blt 0 ob.cells.length=true) (hd:Nat.blt d N=true) :
    Local Γ ⟨some d,.fieldAddr t x f,ty,pos,af,g⟩ ⟨S,O⟩ ⟨[(d,⟨.ptr l (k+off),false⟩)],[]⟩ (ors x) [l] []:=by
  intro F hs hl _
  refine bB fun a w ⟨ow,β,hsim⟩=>?_
  obtain ⟨B,h1,h2⟩:=cK hsim hx hs
  simp only [RelV] at h1
  obtain ⟨_,_,_,hob⟩:=hsim.objs l ob (by rw [hl l (by simp),← dC];exact ho)
  rcases hob with ⟨_,e,_⟩ | ⟨b,cs,u,e1,_⟩
  · rw [e] at hne;cases hne
  · refine ⟨.pointer (some ⟨b,k+off,none⟩),w,by simp [execOp,h1.2 b e1,pB],ow,β,?_⟩
    exact hsim.put ((aK _ _).1 hd) (O:=[]) (by simp only [RelV];exact ⟨trivial,fun b' hb=>by rw [e1] at hb;cases hb;rfl⟩) (by simp)
theorem lC {t n by_:Nat} [ht:TI P t n true by_] (w:World) {b k:Nat} {cs:Array Value} {u:TypeId} {fr:Nat × Nat} (hb:w.heap[b]?=some (.cells cs u fr)) (hk:k+n≤cs.size) :
    (Instr.loadAt t (.pointer (some ⟨b,k,none⟩))).run P w=.ok (.agg (cs.extract k (k+n))) w:=by
  obtain ⟨⟨i,h1,h2,_⟩,dd,h3,h4⟩:=ht.ok
  have hagg:(isAgg t).run P w=.ok true w:=by
    unfold isAgg
    rw [Sem.run_bind,run_underlying h3 w]
    cases dd <;> simp_all
  have hlen:(cs.extract k (k+n)).toList.length=n:=by simp;omega
  have hl:(loadCells ⟨b,k,none⟩ (cs.extract k (k+n)).toList.length).run P w=.ok (cs.extract k (k+n)).toList.toArray w :=
    run_loadCells_list (P:=P) w ⟨b,k,none⟩ _ (fun j v hv=>by
      rw [Addr.add_lit,cell_of_row w b (k+j) cs u fr hb]
      have hj:j < n:=by
        have:=(List.getElem?_eq_some_iff.1 hv).1
        omega
      simp only [Array.toList_extract,List.extract_eq_take_drop] at hv
      rw [List.getElem?_take,List.getElem?_drop] at hv
      simp at hv
      rw [← hv.2])
  rw [hlen] at hl
  simp only [Array.toArray_toList] at hl
  simp [Instr.loadAt,Instr.sureAddr,loadVar,hagg,sizeOf,typeInfo,h1,h2,hl]
theorem oI {t n by_:Nat} [ht:TI P t n false by_] (w:World) {b k:Nat} {cs:Array Value} {u:TypeId} {fr:Nat × Nat} {c:Value} (hb:w.heap[b]?=some (.cells cs u fr)) (hk:cs[k]?=some c) :
    (Instr.loadAt t (.pointer (some ⟨b,k,none⟩))).run P w=.ok c w:=by
  obtain ⟨⟨i,h1,h2,_⟩,dd,h3,h4⟩:=ht.ok
  have hagg:(isAgg t).run P w=.ok false w:=by
    unfold isAgg
    rw [Sem.run_bind,run_underlying h3 w]
    cases dd <;> simp_all
  simp [Instr.loadAt,Instr.sureAddr,loadVar,hagg,run_load,cell_of_row w b k cs u fr hb,hk]
theorem iF {h:Array Obj} {q:Bool} {β:Nat→Option (Option Nat)} {ps:List PV} {cs:Array Value} {k n:Nat} {B:List Nat} (hn:ps.length=n) (H:RelL h q β ps cs k B):RelL h q β ps (cs.extract k (k+n)) 0 B :=
  RelL.shift _ _ _ _ _ _ (fun j hj=>by
    rw [Nat.zero_add,Array.getElem?_extract]
    simp;omega) H
theorem RelV.nolab {h:Array Obj} {β β':Nat→Option (Option Nat)} {p:PV} {c:Value} {B:List Nat} (hl:p.labs=[]) (H:RelV h β p c B):RelV h β' p c B :=
  RelV.keep _ _ _ (fun l hl'=>by rw [hl] at hl';cases hl') (fun _ _=>rfl) H
theorem qC {n:Nat} {cells:List PV} (h:Nat.beq cells.length n=true):cells.take n=cells:=by
  rw [← Nat.eq_of_beq_eq_true h];exact List.take_length
theorem aL {n:Nat} {cells:List PV} (h:Nat.beq cells.length n=true):(cells.drop 0).take n=cells:=by
  rw [List.drop_zero];exact qC h
theorem mH {h:Array Obj} {q:Bool} {β β':Nat→Option (Option Nat)} {ps:List PV} {cs:Array Value} {i:Nat} {B:List Nat} (hl:∀ p ∈ ps,p.labs=[]) (H:RelL h q β ps cs i B):RelL h q β' ps cs i B :=
  RelL.keep _ _ _ _ (fun p hp l hl'=>by rw [hl p hp] at hl';cases hl') (fun _ _=>rfl) H
def jS:List PV→Bool
  | []=>true
  | p::r=>(match p.labs with | []=>true | _=>false)&&jS r
theorem gR:∀ {ps:List PV},jS ps=true→∀ p ∈ ps,p.labs=[]
  | [],_,p,hp=>by cases hp
  | x::r,h,p,hp=>by
    simp only [jS,Bool.and_eq_true] at h
    rcases List.mem_cons.1 hp with rfl | hp
    · cases hx:p.labs with
      | nil=>rfl
      | cons l r=>rw [hx] at h;simp at h
    · exact gR h.2 p hp
theorem aH {x:Operand} {t n by_ l k:Nat} {cells:List PV} {dp bx:Bool} {c:PV} [ht:TI P t n false by_] (hx:evq S x=some (.ptr l k)) (ho:loq O l=some ⟨cells,dp,bx⟩) (hc:cells[k]?=some c) (hl:bx=true∨c.labs=[]) (hd:Nat.blt d N=true) :
    Local Γ ⟨some d,.load t x,ty,pos,af,g⟩ ⟨S,O⟩ ⟨[(d,⟨c,false⟩)],[]⟩ (ors x) [l] []:=by
  intro F hs hlo _
  refine bB fun a w ⟨ow,β,hsim⟩=>?_
  obtain ⟨B,h1,h2⟩:=cK hsim hx hs
  simp only [RelV] at h1
  obtain ⟨Bo,o1,o2,hob⟩:=hsim.objs l _ (by rw [hlo l (by simp),← dC];exact ho)
  rcases hob with ⟨_,e,_⟩ | ⟨b,cs,u,e1,e2,e3,e4⟩
  · simp at e;rw [e] at hc;simp at hc
  · obtain ⟨v,B1,g1,_,g3,g4⟩:=RelL.get _ _ _ _ e4 k c hc
    rw [Nat.zero_add] at g1
    refine ⟨v,w,by simp [execOp,h1.2 b e1,oI (t:=t) w e3 g1],ow,β,?_⟩
    refine hsim.put ((aK _ _).1 hd) (O:=B1) ?_ (fun b' hb=>o1 _ (g4 b' hb))
    rcases hl with rfl | hl
    · exact g3
    · exact g3.nolab hl
theorem bW {x:Operand} {t n by_ l k:Nat} {cells vs:List PV} {dp bx:Bool} [ht:TI P t n true by_] (hx:evq S x=some (.ptr l k)) (ho:loq O l=some ⟨cells,dp,bx⟩) (hc:(cells.drop k).take n=vs) (hn:Nat.beq vs.length n=true) (hn0:n≠0) (hl:bx=true∨jS vs=true) (hd:Nat.blt d N=true) :
    Local Γ ⟨some d,.load t x,ty,pos,af,g⟩ ⟨S,O⟩ ⟨[(d,⟨.agg vs,false⟩)],[]⟩ (ors x) [l] []:=by
  intro F hs hlo _
  refine bB fun a w ⟨ow,β,hsim⟩=>?_
  obtain ⟨B,h1,h2⟩:=cK hsim hx hs
  simp only [RelV] at h1
  have hn:=Nat.eq_of_beq_eq_true hn
  obtain ⟨Bo,o1,o2,hob⟩:=hsim.objs l _ (by rw [hlo l (by simp),← dC];exact ho)
  rcases hob with ⟨_,e,_⟩ | ⟨b,cs,u,e1,e2,e3,e4⟩
  · simp at e;rw [e] at hc;simp at hc;subst hc;simp at hn;exact absurd hn.symm hn0
  · have hk:k≤cells.length:=by
      rcases Nat.lt_or_ge cells.length k with h | h
      · rw [List.drop_eq_nil_of_le (by omega)] at hc;simp at hc;subst hc;simp at hn;exact absurd hn.symm hn0
      · exact h
    obtain ⟨B2,g1,B1,g2⟩:=e4.drop k hk
    obtain ⟨B3,g3,B4,g4⟩:=g1.take n
    rw [hc,Nat.zero_add] at g3
    have hlen:k+vs.length≤cs.size:=by
      cases vs with
      | nil=>simp at hn;exact absurd hn.symm hn0
      | cons p r =>
        have g3':=g3
        simp only [RelL] at g3'
        obtain ⟨c,_,_,q1,_⟩:=g3'
        have:=(Array.getElem?_eq_some_iff.1 q1.1).1
        exact RelL.length _ _ _ _ (by omega) g3
    refine ⟨.agg (cs.extract k (k+n)),w,by simp [execOp,h1.2 b e1,lC (t:=t) w e3 (show k+n≤cs.size by omega)],ow,β,?_⟩
    refine hsim.put ((aK _ _).1 hd) (O:=B3) ?_ (fun b' hb=>o1 _ (by rw [g2,g4];simp [hb]))
    simp only [RelV]
    refine ⟨_,rfl,by simp;omega,iF hn ?_⟩
    rcases hl with rfl | hl
    · exact g3
    · exact mH (gR hl) g3
theorem pA {t e n by_:Nat} {agg:Bool} [ht:SlT P t e] [hi:TI P e n agg by_] (w:World) {b off m cap i:Nat} {k:IntKind} (h:i < m) :
    (Instr.indexAt t (.slice (some ⟨b,off,none⟩) m cap) (.int k i)).run P w=.ok (.pointer (some ⟨b,off+i*n,none⟩)) w:=by
  obtain ⟨⟨ii,h1,h2,_⟩,_⟩:=hi.ok
  simp [Instr.indexAt,asIntOf,run_underlying ht.ok,sizeOf,typeInfo,h1,h2,Addr.add_lit,h]
theorem gJ {α:Type} {l:List α} {enc:α→List PV} {sz:Nat} (h:∀ y,(enc y).length=sz):(l.flatMap enc).length=l.length*sz:=by
  induction l with
  | nil=>simp
  | cons a r ih=>simp [h,ih,Nat.succ_mul];omega
theorem qO {α:Type} {l:List α} {enc:α→List PV} {sz m:Nat} {y:α} (h:∀ y,(enc y).length=sz) (hl:l[m]?=some y):(l.flatMap enc).drop (m*sz)=enc y++(l.drop (m+1)).flatMap enc:=by
  induction l generalizing m with
  | nil=>simp at hl
  | cons a r ih =>
    cases m with
    | zero=>simp at hl;subst hl;simp
    | succ m =>
      simp at hl
      have:=ih hl
      simp only [List.flatMap_cons,List.drop_succ_cons]
      rw [List.drop_append,h a,List.drop_eq_nil_of_le (by rw [h a,Nat.succ_mul];omega),show (m+1)*sz - sz=m*sz by rw [Nat.succ_mul];omega]
      simpa using this
theorem tE {α:Type} {l:List α} {enc:α→List PV} {sz m o:Nat} {y:α} {c:PV} (hl:l[m]?=some y) (ho:(enc y)[o]?=some c) (h:∀ y,(enc y).length=sz):(l.flatMap enc)[m*sz+o]?=some c:=by
  have:=qO h hl
  rw [← List.getElem?_drop,this,List.getElem?_append_left (List.getElem?_eq_some_iff.1 ho).1]
  exact ho
theorem sB {α:Type} {l:List α} {enc:α→List PV} {sz m:Nat} {y:α} {c:PV} (hl:l[m]?=some y) (ho:(enc y)[0]?=some c) (h:∀ y,(enc y).length=sz):(l.flatMap enc)[m*sz]?=some c:=tE hl ho h
theorem vN {x i:Operand} {t e sz n by_ m r:Nat} {agg:Bool} {k:IntKind} {j:Int} {ob:Ob} [ht:SlT P t e] [hi:TI P e sz agg by_] (hx:evq S x=some (.ref r sz 0 n)) (ho:loq O r=some ob) (hix:evq S i=some (.sc (.int k j))) (hj:j=(m:Nat)) (hm:m < n) (hd:Nat.blt d N=true) :
    Local Γ ⟨some d,.indexAddr t x i,ty,pos,af,g⟩ ⟨S,O⟩ ⟨[(d,⟨.ptr r (m*sz),false⟩)],[]⟩ (ors x++ors i) [r] []:=by
  intro F hs hlo _
  refine bB fun a w hsim=>?_
  have hiv:=gD hsim hix (fun k hk=>hs k (by simp [hk]))
  obtain ⟨ow,β,hsim⟩:=hsim
  subst hj
  obtain ⟨B,h1,h2⟩:=cK hsim hx (fun k hk=>hs k (by simp [hk]))
  simp only [RelV] at h1
  obtain ⟨Bo,o1,o2,hob⟩:=hsim.objs r _ (by rw [hlo r (by simp),← dC];exact ho)
  rcases hob with ⟨e1,_⟩ | ⟨b,cs,u,e1,e2,e3,e4⟩
  · have:=(h1.2.1 e1).1;omega
  · obtain ⟨cap,cs',u',q1,q2,_⟩:=h1.2.2 b e1
    refine ⟨.pointer (some ⟨b,m*sz,none⟩),w,by simp [execOp,q1,hiv,pA (t:=t) (e:=e) w hm],ow,β,?_⟩
    exact hsim.put ((aK _ _).1 hd) (O:=[]) (by simp only [RelV];exact ⟨trivial,fun b' hb=>by rw [e1] at hb;cases hb;rfl⟩) (by simp)
end
end Go.Ev
/- The engine, part J: laying blocks: variables, slices, literals; storing. -/
namespace Go.Ev
open Go.RowKit (Below)
class ZT (P:Program) (t:Nat) (ps:outParam (List PV)):Prop where
  ok:∃ i z,P.info? t=some i∧i.zero=some z∧z.cells.size=i.size∧z.cells.toList.all (·.oneCell')=true∧ps=z.cells.toList.map .sc
theorem ZT.of {P:Program} {t:Nat} {vals:List Value} {ps:List PV} (h:((P.info? t).bind fun i=>i.zero.bind fun z=>bif Nat.beq z.cells.size i.size then some z.cells.toList else none)=some vals) (h2:vals.all (·.oneCell')=true) (hp:ps=vals.map .sc):ZT P t ps:=by
  cases h1:P.info? t with
  | none=>rw [h1] at h;cases h
  | some i =>
    rw [h1] at h
    simp only [Option.bind_some] at h
    cases hz:i.zero with
    | none=>rw [hz] at h;cases h
    | some z =>
      rw [hz] at h
      simp only [Option.bind_some] at h
      cases hb:Nat.beq z.cells.size i.size with
      | false=>rw [hb] at h;cases h
      | true =>
        rw [hb] at h
        simp only [cond_true,Option.some.injEq] at h
        exact ⟨i,z,h1,hz,Nat.eq_of_beq_eq_true hb,by rw [h];exact h2,by rw [h];exact hp⟩
def aV:PV→List PV
  | .agg cells=>cells
  | p=>[p]
def stB (O:List (Nat × Option Ob)) (bx:Bool):PV→Bool
  | .agg cells=>bx||jS cells
  | .sc v=>v.oneCell'
  | .sl _ _=>true
  | .iptr _=>true
  | .rw _ _ _=>true
  | .ref l _ _ _=>bx&&(loq O l).isSome
  | _=>false
def mR (p:PV):List Nat:=p.labs
def qN:PV→Bool
  | .sc _=>true
  | .ref _ _ _ _=>true
  | .ptr _ _=>true
  | .agg cells=>cells.all fun | .sc _=>true | _=>false
  | _=>false
section
variable {P:Program} {N:Nat} {Γ:Ctx P N} {S:List (Nat × Slot)} {O:List (Nat × Option Ob)} {ow:Nat→Own} {β:Nat→Option (Option Nat)} {F:Env} {a:Act} {w:World}
theorem mG {h:Array Obj} {β:Nat→Option (Option Nat)}:∀ (ps:List PV) (cs:Array Value) (i:Nat) (B:List Nat),RelL h true β ps cs i B→∀ k,k < ps.length→∃ c,cs[i+k]?=some c∧c.oneCell'=true
  | [],_,_,_,_,k,hk=>by simp at hk
  | p::ps,cs,i,B,H,k,hk=>by
    simp only [RelL] at H
    obtain ⟨c,B1,B2,h1,_,h3,_⟩:=H
    cases k with
    | zero=>exact ⟨c,h1.1,h1.2 trivial⟩
    | succ k =>
      obtain ⟨c',g1,g2⟩:=mG ps cs (i+1) B2 h3 k (by simpa using hk)
      exact ⟨c',by rw [← g1];congr 1;omega,g2⟩
theorem mS {h:Array Obj} {p:PV} {c:Value} {B:List Nat} (hf:qN p=true) (H:RelV h β p c B):B=[]:=by
  cases p with
  | sc v=>simp only [RelV] at H;exact H.2
  | ref=>simp only [RelV] at H;exact H.1
  | ptr=>simp only [RelV] at H;exact H.1
  | agg cells=>simp only [RelV] at H;obtain ⟨cs,_,_,h⟩:=H;exact rH _ _ _ _ hf h
  | _=>simp [qN] at hf
theorem kY (hs:SimG Γ ow β F a w) {bx:Bool} {p:PV} {c:Value} {B:List Nat} (H:RelV w.heap β p c B) (hb:stB O bx p=true) (hO:∀ l ∈ mR p,lo F.o l=lo O l) :
    RelL w.heap true (if bx then β else dead) (aV p) c.cells 0 B∧c.cells.size=(aV p).length∧∀ v ∈ c.cells.toList,v.oneCell'=true:=by
  have live:∀ l ∈ p.labs,(loq O l).isSome=true→(β l=some none∨∃ b,β l=some (some b)):=by
    intro l hl hls
    cases ho:loq O l with
    | none=>rw [ho] at hls;cases hls
    | some ob =>
      have:=hO l (by simp [mR,hl])
      rw [← dC O,ho] at this
      obtain ⟨_,_,_,h3⟩:=hs.objs l ob this
      rcases h3 with ⟨e,_⟩ | ⟨b,_,_,e,_⟩
      · exact .inl e
      · exact .inr ⟨b,e⟩
  cases p with
  | agg cells =>
    simp only [RelV] at H
    obtain ⟨cs,rfl,h2,h3⟩:=H
    simp only [aV,Value.cells]
    refine ⟨?_,h2,fun v hv=>?_⟩
    · cases bx with
      | true=>exact h3
      | false=>simp [stB] at hb;exact mH (gR hb) h3
    · obtain ⟨k,hk,e⟩:=List.getElem_of_mem hv
      obtain ⟨c,g1,g2⟩:=mG _ _ _ _ h3 k (by simp at hk;omega)
      have:c=v:=by
        rw [Nat.zero_add] at g1
        have:=(Array.getElem?_eq_some_iff.1 g1)
        obtain ⟨_,e2⟩:=this
        rw [← e2,← e];simp
      rw [← this];exact g2
  | sc v =>
    simp only [RelV] at H
    obtain ⟨rfl,rfl⟩:=H
    simp only [stB] at hb
    have:c.cells=#[c]:=by cases c <;> first | rfl | simp [Value.oneCell'] at hb
    rw [this]
    refine ⟨?_,by simp [aV],by simp [hb]⟩
    simp only [aV,RelL]
    exact ⟨c,[],[],⟨by simp,fun _=>hb⟩,by simp [RelV],rfl,rfl⟩
  | sl n cells =>
    have hc:∃ a cap,c=.slice a n cap:=rQ H
    obtain ⟨ad,cap,rfl⟩:=hc
    refine ⟨?_,by simp [aV,Value.cells],by simp [Value.cells,Value.oneCell']⟩
    simp only [aV,RelL,Value.cells]
    exact ⟨.slice ad n cap,B,[],⟨by simp,fun _=>rfl⟩,by split;exact H;exact H.nolab rfl,rfl,by simp⟩
  | rw s n cells =>
    have hc:∃ a m cap,c=.slice a m cap:=by
      simp only [RelV] at H
      rcases H with ⟨_,_,_,e⟩ | ⟨b,cap,_,_,_,⟨e,_⟩,_⟩
      · exact ⟨_,_,_,e⟩
      · exact ⟨_,_,_,e⟩
    obtain ⟨ad,m,cap,rfl⟩:=hc
    refine ⟨?_,by simp [aV,Value.cells],by simp [Value.cells,Value.oneCell']⟩
    simp only [aV,RelL,Value.cells]
    exact ⟨.slice ad m cap,B,[],⟨by simp,fun _=>rfl⟩,by split;exact H;exact H.nolab rfl,rfl,by simp⟩
  | iptr cells =>
    have hc:∃ ad,c=.pointer (some ad):=by
      simp only [RelV] at H
      obtain ⟨b,off,_,_,_,_,rfl,_⟩:=H
      exact ⟨_,rfl⟩
    obtain ⟨ad,rfl⟩:=hc
    refine ⟨?_,by simp [aV,Value.cells],by simp [Value.cells,Value.oneCell']⟩
    simp only [aV,RelL,Value.cells]
    exact ⟨.pointer (some ad),B,[],⟨by simp,fun _=>rfl⟩,by split;exact H;exact H.nolab rfl,rfl,by simp⟩
  | ref l s off n =>
    simp only [stB,Bool.and_eq_true] at hb
    obtain ⟨rfl,hb⟩:=hb
    have hc:∃ ad m cap,c=.slice ad m cap:=by
      simp only [RelV] at H
      rcases live l (by simp [PV.labs]) hb with e | ⟨b,e⟩
      · exact ⟨_,_,_,(H.2.1 e).2.2⟩
      · obtain ⟨cap,_,_,e2,_⟩:=H.2.2 b e;exact ⟨_,_,_,e2⟩
    obtain ⟨ad,m,cap,rfl⟩:=hc
    refine ⟨?_,by simp [aV,Value.cells],by simp [Value.cells,Value.oneCell']⟩
    simp only [aV,RelL,Value.cells]
    exact ⟨.slice ad m cap,B,[],⟨by simp,fun _=>rfl⟩,H,rfl,by simp⟩
  | ptr=>simp [stB] at hb
  | tup=>simp [stB] at hb
  | any=>simp [stB] at hb
  | was=>simp [stB] at hb
theorem gO (w:World) (ob:Obj):Same w (w.alloc ob):=⟨rfl,rfl,rfl,by simp⟩
theorem dY (w:World) (ob:Obj):(w.alloc ob).heap[w.heap.size]?=some ob:=by
  show (w.heap.push ob)[w.heap.size]?=_
  simp
theorem fG (w:World) (ob:Obj) {b:Nat} (h:b < w.heap.size):(w.alloc ob).heap[b]?=w.heap[b]?:=Below.heap_alloc w ob b h
theorem SimG.layPut (h:SimG Γ ow β F a w) {w':World} (hw:Same w w') {b0:Nat} (hlt:b0 < w'.heap.size) (hother:∀ b,b < w.heap.size→b≠b0→w'.heap[b]?=w.heap[b]?)
    {cs:Array Value} {t:TypeId} (hrow:w'.heap[b0]?=some (.cells cs t (0,0))) {l:Nat} (hl:gM F l) (hio:Γ.io l=none) (ks ls:List Nat)
    (horig:w.heap.size≤b0∨∃ m ∈ ls,β m=some (some b0)) (hbase:Γ.nww b0) (ob:Ob) {B:List Nat}
    (hrel:RelL w'.heap true (if ob.box then β else dead) ob.cells cs 0 B) (hlab:ob.box=true→∀ p ∈ ob.cells,l ∉ p.labs) (hO:∀ b ∈ B,Im Γ ow w b)
    (hdeep:ob.deep=true→B.Nodup∧∀ b ∈ B,cY w b∧Γ.nw b∧((∃ k ∈ ks,ow b=.slot k)∨(∃ m ∈ ls,ow b=.obj m)∨ow b=.none))
    {d:Nat} (hd:d < N) {v:PV} {c:Value} (hv:∀ β',β' l=some (some b0)→RelV w'.heap β' v c []) :
    Sim Γ (F.app ⟨(d,⟨v,false⟩)::ks.map (fun j=>(j,⟨.any,false⟩)),(l,some ob)::ls.map (fun j=>(j,none))⟩) (a.put (some d) c) w':=by
  obtain ⟨ow',h'⟩:=h.lay hw hlt hother hrow hl hio ks ls horig hbase ob hrel hlab hO hdeep
  have:=h'.put hd (hv _ (by simp)) (by simp)
  exact ⟨_,_,this⟩
variable {d:Nat} {ty:TypeId} {pos:String} {af:Array Edge} {g:Option (Nat × Bool)}
theorem qY {h:Array Obj} {β:Nat→Option (Option Nat)}:∀ (vs:List Value) (cs:Array Value) (i:Nat),(∀ k,k < vs.length→cs[i+k]?=vs[k]?)→(∀ v ∈ vs,v.oneCell'=true)→RelL h true β (vs.map .sc) cs i []
  | [],_,_,_,_=>by simp [RelL]
  | v::vs,cs,i,h1,h2=>by
    simp only [List.map_cons,RelL]
    refine ⟨v,[],[],⟨by have:=h1 0 (by simp);simpa using this,fun _=>h2 v (by simp)⟩,by simp [RelV],qY vs cs (i+1) (fun k hk=>?_) (fun v hv=>h2 v (by simp [hv])),rfl⟩
    have:=h1 (k+1) (by simp;omega)
    rw [show i+1+k=i+(k+1) by omega,this];simp
theorem sX {vs:List Value}:∀ p ∈ vs.map PV.sc,p.labs=[]:=by
  intro p hp
  obtain ⟨v,_,rfl⟩:=List.mem_map.1 hp
  rfl
theorem fA {e:Nat} {ps:List PV} (bx:Bool) [hz:ZT P e ps] (hio:Γ.io d=none) (hd:Nat.blt d N=true) :
    Local Γ ⟨some d,.alloc e,ty,pos,af,g⟩ ⟨S,O⟩ ⟨[(d,⟨.ptr d 0,false⟩)],[(d,some ⟨ps,true,bx⟩)]⟩ [] [] [d]:=by
  intro F hs _ hnl
  refine bB fun a w ⟨ow,β,hsim⟩=>?_
  obtain ⟨i,z,h1,h2,h3,h4,rfl⟩:=hz.ok
  refine ⟨.pointer (some ⟨w.heap.size,0,none⟩),w.alloc (.cells z.cells e),?_,?_⟩
  · simp [execOp,Instr.alloc,zeroValue,typeInfo,h1,h2,newVar,newRow]
  · refine hsim.layPut (gO w _) (b0:=w.heap.size) (by simp) (fun b hb _=>fG w _ hb) (dY w _) (hnl d (by simp)) hio [] [] (.inl (Nat.le_refl _)) (.inl hsim.kept.size) ⟨z.cells.toList.map .sc,true,bx⟩ (B:=[]) ?_ ?_ (by simp) (by simp) ((aK _ _).1 hd) (fun β' hβ=>?_)
    · exact qY _ _ _ (fun k hk=>by simp) (fun v hv=>List.all_eq_true.1 h4 v hv)
    · intro _ p hp;rw [sX p hp];simp
    · simp only [RelV];exact ⟨trivial,fun b hb=>by rw [hβ] at hb;cases hb;rfl⟩
theorem hM {e:Nat} {x:Operand} {p:PV} (bx:Bool) (hx:evq S x=some p) (hst:stB O bx p=true) (hlab:jT p.labs d=false) (hio:Γ.io d=none) (hd:Nat.blt d N=true) :
    Local Γ ⟨some d,.box e x,ty,pos,af,g⟩ ⟨S,O⟩ ⟨[(d,⟨.ptr d 0,false⟩)],[(d,some ⟨aV p,qN p,bx⟩)]⟩ (ors x) (mR p) [d]:=by
  intro F hs hlo hnl
  refine bB fun a w ⟨ow,β,hsim⟩=>?_
  obtain ⟨B,h1,h2⟩:=cK hsim hx hs
  obtain ⟨r1,r2,r3⟩:=kY (O:=O) hsim h1 hst hlo
  refine ⟨.pointer (some ⟨w.heap.size,0,none⟩),w.alloc (.cells (a.eval x).cells e),?_,?_⟩
  · simp [execOp,Instr.box,newVar,newRow]
  · refine hsim.layPut (gO w _) (b0:=w.heap.size) (by simp) (fun b hb _=>fG w _ hb) (dY w _) (hnl d (by simp)) hio [] [] (.inl (Nat.le_refl _)) (.inl hsim.kept.size) ⟨aV p,qN p,bx⟩ (B:=B) ?_ ?_ h2 ?_ ((aK _ _).1 hd) (fun β' hβ=>?_)
    · refine RelL.keep _ _ _ _ (fun q _ l _ o ho=>⟨ho,fun b hob=>?_⟩) (fun b hb=>fG w _ (h2 b hb).1) r1
      subst hob
      intro cs t hc
      refine ⟨cs,?_,rfl⟩
      have:b < w.heap.size:=by
        cases bx with
        | false=>cases ho
        | true=>exact hsim.block_lt ho
      rw [fG w _ this];exact hc
    · intro hb q hq hd'
      have:d ∈ p.labs:=by
        cases p with
        | agg cells=>simp only [PV.labs];exact iZ.2 ⟨q,hq,hd'⟩
        | _=>simp only [aV,List.mem_singleton] at hq;subst hq;exact hd'
      rw [(fI _ _).2 this] at hlab;cases hlab
    · intro hsc
      rw [mS hsc h1];simp
    · simp only [RelV];exact ⟨trivial,fun b hb=>by rw [hβ] at hb;cases hb;rfl⟩
end
end Go.Ev
/- The engine, part K: more blocks: taking over, made slices, slice literals, stores. -/
namespace Go.Ev
open Go.RowKit (Below)
section
variable {P:Program} {N:Nat} {Γ:Ctx P N} {S:List (Nat × Slot)} {O:List (Nat × Option Ob)} {ow:Nat→Own} {β:Nat→Option (Option Nat)} {F:Env} {a:Act} {w:World}
variable {d:Nat} {ty:TypeId} {pos:String} {af:Array Edge} {g:Option (Nat × Bool)}
theorem uQ {t e sz by_:Nat} {agg:Bool} [ht:SlT P t e] [hi:TI P e sz agg by_] (hio:Γ.io d=none) (hd:Nat.blt d N=true) :
    Local Γ ⟨some d,.buildSlice t 0 #[],ty,pos,af,g⟩ ⟨S,O⟩ ⟨[(d,⟨.ref d sz 0 0,false⟩)],[(d,some ⟨[],true,false⟩)]⟩ [] [] [d]:=by
  intro F hs _ hnl
  refine bB fun a w ⟨ow,β,hsim⟩=>?_
  obtain ⟨⟨i',g1,g2,g3⟩,_⟩:=hi.ok
  refine ⟨.slice (some ⟨w.heap.size,0,none⟩) 0 0,w.alloc (.cells #[] e),?_,?_⟩
  · simp [execOp,Instr.buildSlice,run_underlying ht.ok,sizeOf,typeInfo,g1,Instr.fill,newRow,Array.range_zero']
  refine hsim.layPut (gO w _) (b0:=w.heap.size) (by simp) (fun b hb _=>fG w _ hb) (dY w _) (hnl d (by simp)) hio [] [] (.inl (Nat.le_refl _)) (.inl hsim.kept.size) ⟨[],true,false⟩ (B:=[]) (by simp [RelL]) (by simp) (by simp) (by simp) ((aK _ _).1 hd) (fun β' hβ=>?_)
  simp only [RelV]
  refine ⟨trivial,fun h=>by rw [hβ] at h;simp at h,fun b hb=>?_⟩
  rw [hβ] at hb;cases hb
  exact ⟨0,#[],e,by simp,dY w _,by simp,Nat.le_refl _⟩
theorem tT {t e sz by_:Nat} {agg:Bool} {ps:List PV} [ht:SlT P t e] [hi:TI P e sz agg by_] [hz:ZT P e ps] (w:World) (v:Value) (hv:v.cells.size=sz) (hsz:sz≠0) (hs2:sz≤1000) :
    (Instr.buildSlice t 1 #[(0,v)]).run P w=.ok (.slice (some ⟨w.heap.size,0,none⟩) 1 1) (w.alloc (.cells v.cells e)):=by
  obtain ⟨i,z,h1,h2,h3,h4,_⟩:=hz.ok
  obtain ⟨⟨i',g1,g2,g3⟩,_⟩:=hi.ok
  rw [h1] at g1;cases g1
  refine run_buildSlice w t e 1 _ v.cells i z ht.ok h1 h2 (by rw [g2];omega) (by rw [g2];omega) ?_
  have:=Go.Great.fill_whole (s:=i.size) (by omega) [v] ((Array.range (1*i.size)).map (z.cells[· % z.cells.size]!)) (by simp [hv,g2]) (by simp)
  simpa using this
theorem lI {t e sz by_:Nat} {agg:Bool} {ps:List PV} {x:Operand} {p:PV} [ht:SlT P t e] [hi:TI P e sz agg by_] [hz:ZT P e ps] (hx:evq S x=some p) (hst:stB O false p=true) (hsc:qN p=true) (hl:p.labs=[]) (hlen:Nat.beq (aV p).length sz=true) (hsz:Nat.blt 0 sz=true) (hs2:Nat.ble sz 1000=true) (hd:Nat.blt d N=true) :
    Local Γ ⟨some d,.buildSlice t 1 #[(0,x)],ty,pos,af,g⟩ ⟨S,O⟩ ⟨[(d,⟨.sl 1 (aV p),true⟩)],[]⟩ (ors x) [] []:=by
  intro F hs _ _
  refine bB fun a w ⟨ow,β,hsim⟩=>?_
  obtain ⟨B,h1,h2⟩:=cK hsim hx hs
  obtain ⟨r1,r2,r3⟩:=kY (O:=O) hsim h1 hst (by simp [mR,hl])
  have hB:=mS hsc h1
  subst hB
  have hlen:=Nat.eq_of_beq_eq_true hlen
  have hw:Below w.heap.size w (w.alloc (.cells (a.eval x).cells e)):=(Below.refl _ w).alloc (Nat.le_refl _) _
  refine ⟨_,_,by simp only [execOp,List.map_toArray,List.map_cons,List.map_nil];rw [Sem.run_bind,tT (sz:=sz) w _ (r2.trans hlen) (by have:=(aK _ _).1 hsz;omega) (Nat.le_of_ble_eq_true hs2)];rfl,?_⟩
  refine ⟨_,β,(hsim.grow hw).putDeep ((aK _ _).1 hd) (O:=[w.heap.size]) ?_ ?_ (by simp) ?_ ?_⟩
  · simp only [RelV]
    exact .inr ⟨w.heap.size,0,1,(a.eval x).cells,e,(0,0),[],⟨rfl,Nat.le_refl _⟩,dY w _,RelL.keep _ _ _ _ (fun q _ l _ o ho=>by cases ho) (by simp) r1,rfl⟩
  · intro b hb;simp at hb;subst hb
    exact ⟨by simp,.inr (.inl (.inl hsim.kept.size)),fun l e=>by have:=(hsim.own _ (by rw [e];simp)).1;omega⟩
  · intro b hb;simp at hb;subst hb
    exact ⟨⟨_,_,dY w _⟩,.inl (.inl hsim.kept.size)⟩
  · intro b hb;simp at hb;subst hb
    cases hx:ow w.heap.size with
    | none=>exact .inl rfl
    | _=>have:=(hsim.own _ (by rw [hx];simp)).1;omega
end
end Go.Ev
/- The engine, part L: storing into an own block. -/
namespace Go.Ev
open Go.RowKit (Below)
section
variable {P:Program} {N:Nat} {Γ:Ctx P N} {S:List (Nat × Slot)} {O:List (Nat × Option Ob)} {ow:Nat→Own} {β:Nat→Option (Option Nat)} {F:Env} {a:Act} {w:World}
variable {d:Nat} {ty:TypeId} {pos:String} {af:Array Edge} {g:Option (Nat × Bool)}
theorem oZ {t n by_:Nat} {agg:Bool} [ht:TI P t n agg by_] (w:World) {b k:Nat} {cs:Array Value} {u:TypeId} {v:Value} (hb:w.heap[b]?=some (.cells cs u (0,0))) (hv:v.cells.size=n) (hk:k+n≤cs.size) (h1:∀ c ∈ v.cells.toList,c.oneCell'=true) :
    (Instr.storeAt t (.pointer (some ⟨b,k,none⟩)) v).run P w=.ok () (w.setRow b (cs.toList.take k++v.cells.toList++cs.toList.drop (k+n)).toArray):=by
  obtain ⟨⟨i,e1,e2,_⟩,_⟩:=ht.ok
  have hs:=run_storeCells_at P b k u v.cells.toList 0 cs w hb (by simp [hv];exact hk) h1
  simp only [Nat.add_zero,Array.length_toList,hv] at hs
  simp [Instr.storeAt,Instr.sureAddr,storeVar,sizeOf,typeInfo,e1,e2,hv,hs]
theorem lB (w:World) (b:Nat) (cs:Array Value):Same w (w.setRow b cs):=⟨rfl,rfl,rfl,by simp⟩
theorem pD {h:Array Obj} {β:Nat→Option (Option Nat)} {cells vs:List PV} {cs:Array Value} {xs:List Value} {k n:Nat} {B Bp:List Nat} (H:RelL h true β cells cs 0 B) (Hv:RelL h true β vs xs.toArray 0 Bp) (hn:vs.length=n) (hx:xs.length=n) (hk:k+n≤cells.length) (hs:cells.length≤cs.size) :
    ∃ B1 B2 B3,B=B1++(B2++B3)∧RelL h true β (cells.take k++vs++cells.drop (k+n)) (cs.toList.take k++xs++cs.toList.drop (k+n)).toArray 0 (B1++(Bp++B3)):=by
  have e:cells=cells.take k++((cells.drop k).take n++cells.drop (k+n)):=by
    rw [← List.drop_drop,List.take_append_drop,List.take_append_drop]
  rw [e] at H
  obtain ⟨B1,B',h1,h2,rfl⟩:=(RelL.append _ _ _ _ _).1 H
  obtain ⟨B2,B3,h3,h4,rfl⟩:=(RelL.append _ _ _ _ _).1 h2
  refine ⟨B1,B2,B3,rfl,?_⟩
  have l1:(cells.take k).length=k:=by simp;omega
  have l2:((cells.drop k).take n).length=n:=by simp;omega
  rw [l1,l2,Nat.zero_add] at h4
  rw [List.append_assoc]
  have lt:(cs.toList.take k).length=k:=by simp;omega
  refine (RelL.append _ _ _ _ _).2 ⟨B1,Bp++B3,RelL.shift _ _ _ _ _ _ (fun j hj=>?_) h1,(RelL.append _ _ _ _ _).2 ⟨Bp,B3,RelL.shift _ _ _ _ _ _ (fun j hj=>?_) Hv,RelL.shift _ _ _ _ _ _ (fun j hj=>?_) h4,rfl⟩,rfl⟩
  · rw [l1] at hj
    simp only [Nat.zero_add,List.getElem?_toArray]
    rw [List.append_assoc,List.getElem?_append_left (by omega),List.getElem?_take,if_pos hj]
    simp
  · rw [hn] at hj
    rw [l1]
    simp only [Nat.zero_add,List.getElem?_toArray]
    rw [List.append_assoc,List.getElem?_append_right (by omega),lt,Nat.add_sub_cancel_left,List.getElem?_append_left (by omega)]
  · rw [l1,hn]
    simp only [Nat.zero_add,List.getElem?_toArray]
    rw [List.append_assoc,List.getElem?_append_right (by omega),lt,List.getElem?_append_right (by omega),hx,List.getElem?_drop]
    rw [show k+n+(k+n+j - k - n)=k+n+j by omega]
    simp
theorem qD (hsim:SimG Γ ow β F a w) {t n by_ l k b:Nat} {agg dp bx dp':Bool} [ht:TI P t n agg by_] {cells:List PV} {cs:Array Value} {u:TypeId} {Bo:List Nat} (ho1:∀ c ∈ Bo,Im Γ ow w c) (ho2:dp=true→Bo.Nodup∧∀ c ∈ Bo,ow c=.obj l∧cY w c)
    (hβ:β l=some (some b)) (hb:w.heap[b]?=some (.cells cs u (0,0))) (hr:RelL w.heap true (if bx then β else dead) cells cs 0 Bo)
    {p:PV} {v:Value} {Bp:List Nat} (hp:RelL w.heap true (if bx then β else dead) (aV p) v.cells 0 Bp) (hpi:∀ c ∈ Bp,Im Γ ow w c) (hv1:v.cells.size=(aV p).length) (hv2:∀ c ∈ v.cells.toList,c.oneCell'=true) (hlen:(aV p).length=n) (hk:k+n≤cells.length)
    (ks:List Nat) (hdp:dp'=true→dp=true∧Bp.Nodup∧∀ c ∈ Bp,cY w c∧Γ.nw c∧∃ s ∈ ks,ow c=.slot s) :
    ∃ w' ow',(Instr.storeAt t (.pointer (some ⟨b,k,none⟩)) v).run P w=.ok () w'∧SimG Γ ow' β (F.app ⟨ks.map (fun j=>(j,⟨.any,false⟩)),[(l,some ⟨cells.take k++aV p++cells.drop (k+n),dp',bx⟩)]⟩) a w':=by
  have hsz:cells.length≤cs.size:=by have:=RelL.length _ _ _ _ (Nat.zero_le _) hr;omega
  let cs':Array Value:=(cs.toList.take k++v.cells.toList++cs.toList.drop (k+n)).toArray
  have hblt:b < w.heap.size:=hsim.block_lt hβ
  have hrow:(w.setRow b cs').heap[b]?=some (.cells cs' u (0,0)):=setRow_heap w b cs cs' u (0,0) hb
  have hother:∀ c,c < w.heap.size→c≠b→(w.setRow b cs').heap[c]?=w.heap[c]?:=fun c _ h=>setRow_other w b c cs' h
  have hsize:cs'.size=cs.size:=by simp [cs',hv1,hlen];omega
  obtain ⟨B1,B2,B3,rfl,hnew⟩:=pD (xs:=v.cells.toList) hr (by simpa using hp) hlen (by simp [hv1,hlen]) hk hsz
  have hne:∀ c,Im Γ ow w c→c≠b:=by rintro c ⟨_,_,h3⟩ rfl;exact h3 l (hsim.lab_ne hβ)
  have hin:∀ c ∈ B1++(Bp++B3),Im Γ ow w c:=by
    intro c hc
    simp only [List.mem_append] at hc
    rcases hc with hc | hc | hc
    · exact ho1 c (by simp [hc])
    · exact hpi c hc
    · exact ho1 c (by simp [hc])
  have hshape:∀ c,c < w.heap.size→oR w.heap (w.setRow b cs').heap c:=by
    intro c hc x y hxy
    by_cases hcb:c=b
    · subst hcb;rw [hb] at hxy;cases hxy;exact ⟨cs',hrow,hsize⟩
    · exact ⟨x,by rw [hother c hc hcb];exact hxy,rfl⟩
  have hnew':RelL (w.setRow b cs').heap true (if bx then β else dead) (cells.take k++aV p++cells.drop (k+n)) cs' 0 (B1++(Bp++B3)):=by
    refine RelL.keep _ _ _ _ (fun q _ m _ o hm=>⟨hm,fun c hc=>?_⟩) (fun c hc=>hother c (hin c hc).1 (hne c (hin c hc))) hnew
    subst hc
    refine hshape c ?_
    cases bx with
    | false=>cases hm
    | true=>exact hsim.block_lt hm
  obtain ⟨ow',h'⟩:=hsim.rewrite (lB w b cs') hβ hother hb hrow hsize ks ⟨cells.take k++aV p++cells.drop (k+n),dp',bx⟩ (O:=B1++(Bp++B3)) hnew' hin (fun h=>by
    obtain ⟨d1,d2,d3⟩:=hdp h
    obtain ⟨o1,o2⟩:=ho2 d1
    refine ⟨?_,fun c hc=>?_⟩
    · rw [List.nodup_append] at o1 ⊢
      obtain ⟨n1,n2,n3⟩:=o1
      rw [List.nodup_append] at n2
      obtain ⟨n4,n5,n6⟩:=n2
      have hdis:∀ c ∈ Bp,∀ c' ∈ B1++(B2++B3),c≠c':=by
        intro c hc c' hc' e
        subst e
        obtain ⟨_,_,s,_,e1⟩:=d3 c hc
        rw [(o2 c hc').1] at e1;cases e1
      refine ⟨n1,?_,?_⟩
      · rw [List.nodup_append]
        exact ⟨d2,n5,fun c hc c' hc'=>hdis c hc c' (by simp [hc'])⟩
      · intro c hc c' hc' e
        rcases List.mem_append.1 hc' with h | h
        · exact hdis c' h c (by simp [hc]) e.symm
        · exact n3 c hc c' (by simp [h]) e
    · simp only [List.mem_append] at hc
      have hown:∀ c ∈ B1++(B2++B3),cY w c∧Γ.nw c∧((∃ s ∈ ks,ow c=.slot s)∨ow c=.obj l∨ow c=.none):=by
        intro c hc
        obtain ⟨e1,e2⟩:=o2 c hc
        refine ⟨e2,?_,.inr (.inl e1)⟩
        rcases (hsim.own c (by rw [e1];simp)).2 with h | ⟨m,h,_⟩
        · exact h
        · rw [e1] at h;cases h
      rcases hc with hc | hc | hc
      · exact hown c (by simp [hc])
      · obtain ⟨e1,e2,s,e3,e4⟩:=d3 c hc
        exact ⟨e1,e2,.inl ⟨s,e3,e4⟩⟩
      · exact hown c (by simp [hc]))
  exact ⟨_,ow',oZ w hb (hv1.trans hlen) (by omega) hv2,h'⟩
theorem dZ {x y:Operand} {t n by_ l k:Nat} {agg dp bx:Bool} {cells cells':List PV} {p:PV} [ht:TI P t n agg by_] (hx:evq S x=some (.ptr l k)) (ho:loq O l=some ⟨cells,dp,bx⟩) (hy:evq S y=some p) (hst:stB O bx p=true)
    (hlen:Nat.beq (aV p).length n=true) (hn0:n≠0) (hk:Nat.ble (k+n) cells.length=true) (hc:cells.take k++aV p++cells.drop (k+n)=cells') :
    Local Γ ⟨none,.store t x y,ty,pos,af,g⟩ ⟨S,O⟩ ⟨[],[(l,some ⟨cells',dp&&qN p,bx⟩)]⟩ (ors x++ors y) (l::mR p) []:=by
  intro F hs hlo _
  refine pK fun a w ⟨ow,β,hsim⟩=>?_
  obtain ⟨B,h1,h2⟩:=cK hsim hx (fun k hk=>hs k (by simp [hk]))
  obtain ⟨Bp,g1,g2⟩:=cK hsim hy (fun k hk=>hs k (by simp [hk]))
  simp only [RelV] at h1
  obtain ⟨r1,r2,r3⟩:=kY (O:=O) hsim g1 hst (fun m hm=>hlo m (by simp [hm]))
  obtain ⟨Bo,o1,o2,hob⟩:=hsim.objs l _ (by rw [hlo l (by simp),← dC];exact ho)
  have hlen:=Nat.eq_of_beq_eq_true hlen
  have hk:=Nat.le_of_ble_eq_true hk
  rcases hob with ⟨_,e,_⟩ | ⟨b,cs,u,e1,e2,e3,e4⟩
  · simp at e;rw [e] at hk;simp at hk;omega
  · obtain ⟨w',ow',q1,q2⟩:=qD (t:=t) (p:=p) (dp':=dp&&qN p) hsim o1 o2 e1 e3 e4 r1 g2 r2 r3 hlen hk [] (fun h=>by
      simp only [Bool.and_eq_true] at h
      rw [mS h.2 g1]
      exact ⟨h.1,by simp,by simp⟩)
    subst hc
    refine ⟨w',by simp [execOp,h1.2 b e1,q1],ow',β,?_⟩
    exact q2
theorem aE {cells vs:List PV} {n:Nat} (h:Nat.beq cells.length n=true):cells.take 0++vs++cells.drop (0+n)=vs:=by
  rw [Nat.zero_add,List.drop_eq_nil_of_le (by rw [Nat.eq_of_beq_eq_true h];exact Nat.le_refl _)];simp
end
end Go.Ev
