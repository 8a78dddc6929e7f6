/- Parts PL, PN, PO, XA. -/
import Derived.Test.YtfloffdjklhooaaDoorE3
import Derived.Test.YtfloffdjklhooaaDoorW0
import Derived.Shelf.Lay
import Derived.Shelf.LaySoft
import Derived.Shelf.Strconv.Itoa3
import Derived.Shelf.Strconv.ErrVarAll
import Derived.Lib.AppendIntMem
import Derived.Lib.AtoiErrMem
import Derived.WalkKit
import Derived.BigCall
import Derived.Lib.SlicesS
set_option linter.all false
/- Plain laws: loops over lists. No program. -/
namespace Go.Ev
theorem wi {n:Int} (h:-9223372036854775808≤n∧n≤9223372036854775807):IntKind.i64.wrap n=n:=by
  rw [IntKind.wrap_i64];omega
theorem uA {α:Type} (l:List α) (k:Nat):idx l (k:Int)=l[k]?:=by
  unfold idx;rw [if_pos (by omega)];simp
theorem uV {α:Type} {l:List α} {k:Nat} (h:k < l.length):idx l (k:Int)=some l[k]:=by rw [uA];simp [h]
theorem eY {p:Prop} {_:Decidable p} (h:p):chk p=some ():=by unfold chk;rw [if_pos h]
section
variable {α σ τ ρ:Type}
end
end Go.Ev
namespace Go.Ev
section
variable {σ ρ:Type}
end
end Go.Ev
namespace Go.Ev
section
variable {σ ρ:Type}
theorem rU {step:Int→Option (Int ⊕ ρ)} (n:Nat) (Q:ρ→Prop) (J:Nat→Prop) (h0:J 0) (h1:∀ k:Nat,k < n→J k→(step (k:Int)=some (.inl ((k+1:Nat):Int))∧J (k+1))∨∃ r,step (k:Int)=some (.inr r)∧Q r) (h2:J n→∃ r,step (n:Int)=some (.inr r)∧Q r):∃ r,lp step 0=some r∧Q r:=by
  have main:∀ m k:Nat,m+k=n→J k→∃ r,lp step (k:Int)=some r∧Q r:=by
    intro m
    induction m with
    | zero =>
      intro k hk hj
      have:k=n:=by omega
      subst this
      obtain ⟨r,e,q⟩:=h2 hj
      exact ⟨r,bP e,q⟩
    | succ m ih =>
      intro k hk hj
      rcases h1 k (by omega) hj with ⟨e,hj'⟩ | ⟨r,e,q⟩
      · rw [dB e];exact ih (k+1) (by omega) hj'
      · exact ⟨r,bP e,q⟩
  exact main n 0 (by omega) h0
end
end Go.Ev
namespace Go.Ev
end Go.Ev
/- Plain laws of loops over nested values: sizes, copies, comparisons, marks. No program. -/
namespace Go.Ev
section
variable {α:Type}
end
end Go.Ev
/- Plain laws of loops: comparison of lists, search. No program. -/
namespace Go.Ev
section
variable {α:Type}
end
end Go.Ev
/- strconv's contracts, laid at this program; ParseInt by hand. -/
namespace Go.Proofs
open Go.Shelf
set_option linter.all false
shelf_lay LaysM.n171 Nm 171 at Tryd as Tryd.laysM171
shelf_lay LaysC.n172 Nm 172 at Tryd as Tryd.laysC172
end Go.Proofs
namespace Go.Ev
open Go.Proofs Go.RowKit Go.Shelf
set_option linter.all false
theorem oW {P:Program} {w w':World} {n:String} {cs:Array Value} (h:w.var? P n=some cs) (hb:Below w.heap.size w w'):w'.var? P n=some cs:=by
  unfold World.var? at h ⊢
  obtain ⟨g,hg,h2⟩:=Option.bind_eq_some_iff.1 h
  rw [hg]
  simp only [Option.bind_some]
  rcases Nat.lt_or_ge g w.heap.size with c | c
  · rw [hb.block g c];exact h2
  · rw [Array.getElem?_eq_none c] at h2;cases h2
def TW (w : World) : Prop := Lib.TabIs Tryd.prog w "internal/strconv.uint64pow10" .u64 Lib.pow10Tab ∧ (∃ tp p, w.var? Tryd.prog "strconv.ErrSyntax" = some #[.iface tp p]) ∧ (∃ tp p, w.var? Tryd.prog "strconv.ErrRange" = some #[.iface tp p])
instance:WT TW:=⟨fun _ w' h hb=>⟨Lib.tabBelow_of_tabIs h.1 w' hb,h.2.1.imp fun _ q=>q.imp fun _ q=>oW q hb,h.2.2.imp fun _ q=>q.imp fun _ q=>oW q hb⟩⟩
noncomputable def gN (a0:Int):Option ByteArray:=(chk (-9223372036854775808≤a0∧a0≤9223372036854775807)).bind fun _=>some ⟨(Lib.itoa a0).toArray⟩
instance:FnC Tryd.prog 34:=⟨_,Tryd.func34,by kernel_rfl,by kernel_rfl⟩
theorem rC {h:Array Obj} {ok:Nat→Prop} {v:Value} {cargs:Array Value} (ha:RelArgs h ok [.sc v] cargs.toList):cargs=#[v]:=by
  obtain ⟨g1,g2⟩:=ha.get
  obtain ⟨B,g3,_⟩:=g2 0 (by simp)
  apply Array.ext'
  match h:cargs.toList,g1 with
  | [c],_ =>
    rw [h] at g3
    simp only [List.getD_cons_zero,RelV] at g3
    rw [g3.1]
theorem mO (a0:Int) (r:ByteArray) (H:gN a0=some r):MeetsT Tryd.prog TW 34 [.sc (.int .i64 a0)] (.sc (.string r)) true:=by
  obtain ⟨_,hc,H⟩:=aB H
  obtain ⟨h0,h1⟩:=cX hc
  obtain rfl:=Option.some.inj H
  intro w cargs ok hT ha
  obtain rfl:=rC ha
  refine (Any.strconv_Itoa Tryd.laysM171 a0 h0 h1 w hT.1).mono fun e w' ⟨he,k,os,hw⟩=>?_
  subst hw
  exact ⟨_,[],he,Lib.below_grow _ _ (Nat.le_refl _) _ _,by simp [RelV],by simp,by simp⟩
noncomputable def cG (s:ByteArray):Int × Bool :=
  match Lib.atoiAll s.data.toList with
  | .ok v=>if (⟨(Lib.itoa v).toArray⟩:ByteArray)=s then (v,true) else (0,false)
  | _=>(0,false)
theorem uU (n:Int) (h0:-9223372036854775808≤n) (h1:n≤9223372036854775807) (w:World) (h:TW w) :
    Calls Tryd.prog 34 #[.int .i64 n] w fun e w'=>e=.returned (.string ⟨(Lib.itoa n).toArray⟩)∧Below w.heap.size w w' :=
  (Any.strconv_Itoa Tryd.laysM171 n h0 h1 w h.1).mono fun e w' ⟨he,k,os,hw⟩=>⟨he,by subst hw;exact Lib.below_grow _ _ (Nat.le_refl _) _ _⟩
theorem tB (n:Int) (h0:-9223372036854775808≤n) (h1:n≤9223372036854775807) (t:ByteArray) (ht:(⟨(Lib.itoa n).toArray⟩:ByteArray)=t) (w:World) (h:TW w) :
    Calls Tryd.prog 34 #[.int .i64 n] w fun e w'=>e=.returned (.string t)∧Below w.heap.size w w':=ht ▸ uU n h0 h1 w h
theorem rJ (s:ByteArray) (hmax:s.size≤9223372036854775806) (v:Int) (h:Lib.atoiAll s.data.toList=.ok v) (w:World) :
    Calls Tryd.prog 37 #[.string s] w fun e w'=>e=.returned (.tuple #[.int .i64 v,.nilIface])∧Below w.heap.size w w' :=
  (Any.strconv_Atoi_ok Tryd.laysC172 s hmax v h w).mono fun e w' ⟨he,hw⟩=>⟨he,by
    rcases hw with rfl | ⟨t,rfl⟩
    · exact Below.refl _ _
    · exact Lib.bytesWorld_below _ _ _⟩
theorem uH (s:ByteArray) (hlim:s.size≤281474976710656) (h:∀ v,Lib.atoiAll s.data.toList≠.ok v) (w:World) (hT:TW w) :
    Calls Tryd.prog 37 #[.string s] w fun e w'=>(∃ n N T,e=.returned (.tuple #[.int .i64 n,.iface T (.pointer (some ⟨N,0,none⟩))]))∧Below w.heap.size w w':=by
  obtain ⟨_,⟨t1,p1,v1⟩,⟨t2,p2,v2⟩⟩:=hT
  cases c:Lib.atoiAll s.data.toList with
  | ok v=>exact absurd c (h v)
  | «syntax»=>exact (Any.strconv_Atoi_syntax_var Tryd.laysC172 s hlim c t1 p1 w v1).mono fun e w' ⟨N,he,_,_,hb⟩=>⟨⟨_,N,_,he⟩,hb⟩
  | range=>exact (Any.strconv_Atoi_range_var Tryd.laysC172 s hlim c t2 p2 w v2).mono fun e w' ⟨N,he,_,_,hb⟩=>⟨⟨_,N,_,he⟩,hb⟩
noncomputable def bQ (a0:ByteArray):Option (Int × Bool):=(chk (a0.size≤281474976710656)).bind fun _=>some (cG a0)
theorem tH {w w1 w2:World} (h1:Below w.heap.size w w1) (h2:Below w1.heap.size w1 w2):Below w.heap.size w w2 :=
  ⟨h2.os.trans h1.os,h2.tape.trans h1.tape,h2.output.trans h1.output,Nat.le_trans h1.size h2.size,fun k hk=>(h2.block k (Nat.lt_of_lt_of_le hk h1.size)).trans (h1.block k hk)⟩
set_option maxRecDepth 100000 in
theorem sV (s:ByteArray) (hs:s.size≤281474976710656) (v:Int) (h:Lib.atoiAll s.data.toList=.ok v) (hv:-9223372036854775808≤v∧v≤9223372036854775807) (he:(⟨(Lib.itoa v).toArray⟩:ByteArray)=s) (w:World) (hT:TW w) :
    Calls Tryd.prog 24 #[.string s] w fun e w'=>e=.returned (.tuple #[.int .i64 v,.bool true])∧Below w.heap.size w w':=by
  go_enter Tryd.func24,Tryd.ntmps24
  go_wp2_with (first
    | (go_at_call 37;refine (rJ s (by omega) v h _).mono ?_;rintro e w1 ⟨rfl,hb⟩;have hT1:TW w1:=WT.keep _ _ hT hb)
    | (go_at_call 34;refine (tB v hv.1 hv.2 s he _ (by assumption)).mono ?_;rintro e w2 ⟨rfl,hb2⟩))
  all_goals go_ret2
  all_goals exact ⟨rfl,tH (by assumption) (by assumption)⟩
set_option maxRecDepth 100000 in
theorem sU (s:ByteArray) (hs:s.size≤281474976710656) (v:Int) (h:Lib.atoiAll s.data.toList=.ok v) (hv:-9223372036854775808≤v∧v≤9223372036854775807) (t:ByteArray) (ht:(⟨(Lib.itoa v).toArray⟩:ByteArray)=t) (he:t≠s) (w:World) (hT:TW w) :
    Calls Tryd.prog 24 #[.string s] w fun e w'=>e=.returned (.tuple #[.int .i64 0,.bool false])∧Below w.heap.size w w':=by
  have hne:=(Lib.bytes_beq_false_iff t s).2 he
  go_enter Tryd.func24,Tryd.ntmps24
  go_wp2_with (first
    | (go_at_call 37;refine (rJ s (by omega) v h _).mono ?_;rintro e w1 ⟨rfl,hb⟩;have hT1:TW w1:=WT.keep _ _ hT hb)
    | (go_at_call 34;refine (tB v hv.1 hv.2 t ht _ (by assumption)).mono ?_;rintro e w2 ⟨rfl,hb2⟩))
  all_goals go_ret2
  all_goals first
    | exact ⟨rfl,tH (by assumption) (by assumption)⟩
    | (exfalso;simp_all)
set_option maxRecDepth 100000 in
theorem pI (s:ByteArray) (hs:s.size≤281474976710656) (h:∀ v,Lib.atoiAll s.data.toList≠.ok v) (w:World) (hT:TW w) :
    Calls Tryd.prog 24 #[.string s] w fun e w'=>e=.returned (.tuple #[.int .i64 0,.bool false])∧Below w.heap.size w w':=by
  go_enter Tryd.func24,Tryd.ntmps24
  go_wp2_with (go_at_call 37;refine (uH s hs h _ hT).mono ?_;rintro e w1 ⟨⟨n,N,T,rfl⟩,hb⟩)
  go_ret2
  exact ⟨rfl,hb⟩
theorem tV (s:ByteArray) (hs:s.size≤281474976710656) (w:World) (hT:TW w) :
    Calls Tryd.prog 24 #[.string s] w fun e w'=>e=.returned (.tuple #[.int .i64 (cG s).1,.bool (cG s).2])∧Below w.heap.size w w':=by
  unfold cG
  cases h:Lib.atoiAll s.data.toList with
  | ok v =>
    have hv:=Lib.atoiAll_bounds h
    by_cases he:(⟨(Lib.itoa v).toArray⟩:ByteArray)=s
    · simp only [he,if_true];exact sV s hs v h (by omega) he w hT
    · simp only [he,if_false];exact sU s hs v h (by omega) _ rfl he w hT
  | «syntax»=>exact pI s hs (fun v=>by rw [h];intro e;cases e) w hT
  | range=>exact pI s hs (fun v=>by rw [h];intro e;cases e) w hT
theorem eH (a0:ByteArray) (r:Int × Bool) (H:bQ a0=some r):MeetsT Tryd.prog TW 24 [.sc (.string a0)] (.tup [.sc (.int .i64 r.1),.sc (.bool r.2)]) true:=by
  obtain ⟨_,hc,H⟩:=aB H
  have hs:=cX hc
  obtain rfl:=Option.some.inj H
  intro w cargs ok hT ha
  obtain rfl:=rC ha
  refine (tV a0 hs w hT).mono fun e w' ⟨he,hb⟩=>?_
  exact ⟨_,[],he,hb,⟨_,rfl,rfl,by simp [RelL,RelV]⟩,by simp,by simp⟩
end Go.Ev
