/- Parts PL, PN, PO, XA. -/
import Derived.Test.YtfloffdjklhooaaDoorE3
import Derived.Test.YtfloffdjklhooaaDoorW0
import Derived.Shelf.Strconv.Itoa3
import Derived.Shelf.Strconv.ErrVarAll
import Derived.Lib.AppendIntMem
import Derived.Lib.AtoiErrMem
import Derived.WalkKit
import Derived.BigCall
import Derived.Lib.SlicesS
set_option linter.all false
/- Plain laws: loops over lists. No program. -/
namespace Go.Ev
theorem wi {n:Int} (h:-9223372036854775808≤n∧n≤9223372036854775807):IntKind.i64.wrap n=n:=by
  rw [IntKind.wrap_i64];omega
theorem uA {α:Type} (l:List α) (k:Nat):idx l (k:Int)=l[k]?:=by
  unfold idx;rw [if_pos (by omega)];simp
theorem uV {α:Type} {l:List α} {k:Nat} (h:k < l.length):idx l (k:Int)=some l[k]:=by rw [uA];simp [h]
theorem eY {p:Prop} {_:Decidable p} (h:p):chk p=some ():=by unfold chk;rw [if_pos h]
section
variable {α σ τ ρ:Type}
end
end Go.Ev
namespace Go.Ev
section
variable {σ ρ:Type}
end
end Go.Ev
namespace Go.Ev
section
variable {σ ρ:Type}
theorem rU {step:Int→Option (Int ⊕ ρ)} (n:Nat) (Q:ρ→Prop) (J:Nat→Prop) (h0:J 0) (h1:∀ k:Nat,k < n→J k→(step (k:Int)=some (.inl ((k+1:Nat):Int))∧J (k+1))∨∃ r,step (k:Int)=some (.inr r)∧Q r) (h2:J n→∃ r,step (n:Int)=some (.inr r)∧Q r):∃ r,lp step 0=some r∧Q r:=by
  have main:∀ m k:Nat,m+k=n→J k→∃ r,lp step (k:Int)=some r∧Q r:=by
    intro m
    induction m with
    | zero =>
      intro k hk hj
      have:k=n:=by omega
      subst this
      obtain ⟨r,e,q⟩:=h2 hj
      exact ⟨r,bP e,q⟩
    | succ m ih =>
      intro k hk hj
      rcases h1 k (by omega) hj with ⟨e,hj'⟩ | ⟨r,e,q⟩
      · rw [dB e];exact ih (k+1) (by omega) hj'
      · exact ⟨r,bP e,q⟩
  exact main n 0 (by omega) h0
end
end Go.Ev
namespace Go.Ev
end Go.Ev
/- Plain laws of loops over nested values: sizes, copies, comparisons, marks. No program. -/
namespace Go.Ev
section
variable {α:Type}
end
end Go.Ev
/- Plain laws of loops: comparison of lists, search. No program. -/
namespace Go.Ev
section
variable {α:Type}
end
end Go.Ev
/- strconv's contracts, laid at this program; ParseInt by hand. -/
namespace Go.Proofs
open Go.Shelf
set_option linter.all false
def Tryd.laysM171_ren : Go.Shelf.Ren := ⟨fun | 171 => 34 | 243 => 41 | 246 => 44 | 283 => 50 | 284 => 51 | 285 => 52 | 286 => 53 | 129 => 58 | 317 => 57 | 318 => 59 | 319 => 60 | 320 => 61 | 337 => 64 | 338 => 65 | n => n, fun | 3 => 3 | 9 => 9 | 2 => 2 | 4 => 4 | 171 => 65 | 0 => 0 | 53 => 66 | 37 => 50 | 5 => 5 | 173 => 69 | 212 => 80 | 51 => 81 | 20 => 20 | 213 => 82 | 46 => 73 | 232 => 90 | 233 => 91 | n => n, fun | 17 => 2 | 18 => 3 | 19 => 4 | n => n⟩
theorem Tryd.laysM171 : Go.Proofs.LaysM.n171 Tryd.prog Tryd.laysM171_ren := {
  mixed := by kernel_rfl
  f129 := Tryd.func58.trans (congrArg some (by kernel_rfl))
  f171 := Tryd.func34.trans (congrArg some (by kernel_rfl))
  f243 := Tryd.func41.trans (congrArg some (by kernel_rfl))
  f246 := Tryd.func44.trans (congrArg some (by kernel_rfl))
  f283 := Tryd.func50.trans (congrArg some (by kernel_rfl))
  f284 := Tryd.func51.trans (congrArg some (by kernel_rfl))
  f285 := Tryd.func52.trans (congrArg some (by kernel_rfl))
  f286 := Tryd.func53.trans (congrArg some (by kernel_rfl))
  f317 := Tryd.func57.trans (congrArg some (by kernel_rfl))
  f318 := Tryd.func59.trans (congrArg some (by kernel_rfl))
  f319 := Tryd.func60.trans (congrArg some (by kernel_rfl))
  f320 := Tryd.func61.trans (congrArg some (by kernel_rfl))
  f337 := Tryd.func64.trans (congrArg some (by kernel_rfl))
  f338 := Tryd.func65.trans (congrArg some (by kernel_rfl))
  t0 := Tryd.underlying0
  a0 := Tryd.isAgg0
  z0 := Tryd.sizeOf0
  v0 := Tryd.zeroValue0
  t2 := Tryd.underlying2
  a2 := Tryd.isAgg2
  z2 := Tryd.sizeOf2
  v2 := Tryd.zeroValue2
  t3 := Tryd.underlying3
  a3 := Tryd.isAgg3
  z3 := Tryd.sizeOf3
  v3 := Tryd.zeroValue3
  t4 := Tryd.underlying4
  a4 := Tryd.isAgg4
  z4 := Tryd.sizeOf4
  v4 := Tryd.zeroValue4
  t5 := Tryd.underlying5
  a5 := Tryd.isAgg5
  z5 := Tryd.sizeOf5
  v5 := Tryd.zeroValue5
  t9 := Tryd.underlying9
  a9 := Tryd.isAgg9
  z9 := Tryd.sizeOf9
  v9 := Tryd.zeroValue9
  t20 := Tryd.underlying20
  a20 := Tryd.isAgg20
  z20 := Tryd.sizeOf20
  v20 := Tryd.zeroValue20
  t37 := Tryd.underlying50
  a37 := Tryd.isAgg50
  z37 := Tryd.sizeOf50
  v37 := Tryd.zeroValue50
  t46 := Tryd.underlying73
  a46 := Tryd.isAgg73
  z46 := Tryd.sizeOf73
  v46 := Tryd.zeroValue73
  t51 := Tryd.underlying81
  a51 := Tryd.isAgg81
  z51 := Tryd.sizeOf81
  v51 := Tryd.zeroValue81
  t53 := Tryd.underlying66
  a53 := Tryd.isAgg66
  z53 := Tryd.sizeOf66
  v53 := Tryd.zeroValue66
  t171 := Tryd.underlying65
  a171 := Tryd.isAgg65
  z171 := Tryd.sizeOf65
  v171 := Tryd.zeroValue65
  t173 := Tryd.underlying69
  a173 := Tryd.isAgg69
  z173 := Tryd.sizeOf69
  v173 := Tryd.zeroValue69
  t212 := Tryd.underlying80
  a212 := Tryd.isAgg80
  z212 := Tryd.sizeOf80
  v212 := Tryd.zeroValue80
  t213 := Tryd.underlying82
  a213 := Tryd.isAgg82
  z213 := Tryd.sizeOf82
  t232 := Tryd.underlying90
  a232 := Tryd.isAgg90
  z232 := Tryd.sizeOf90
  v232 := Tryd.zeroValue90
  t233 := Tryd.underlying91
  a233 := Tryd.isAgg91
  z233 := Tryd.sizeOf91
  v233 := Tryd.zeroValue91
  g17 := by kernel_rfl
  g18 := by kernel_rfl
  g19 := by kernel_rfl
  i0 := by kernel_rfl
  i2 := by kernel_rfl
  i3 := by kernel_rfl
  i4 := by kernel_rfl
  i5 := by kernel_rfl
  i9 := by kernel_rfl
  i20 := by kernel_rfl
  i37 := by kernel_rfl
  i46 := by kernel_rfl
  i51 := by kernel_rfl
  i53 := by kernel_rfl
  i171 := by kernel_rfl
  i173 := by kernel_rfl
  i212 := by kernel_rfl
  i232 := by kernel_rfl
  i233 := by kernel_rfl
  m17 := by kernel_rfl
  m18 := by kernel_rfl
  m19 := by kernel_rfl }
def Tryd.laysC172_ren : Go.Shelf.Ren := ⟨fun | 172 => 37 | 244 => 42 | 245 => 43 | 247 => 45 | 279 => 46 | 280 => 47 | 281 => 48 | 282 => 49 | 287 => 54 | 316 => 55 | 171 => 34 | 205 => 56 | 321 => 62 | 322 => 63 | 243 => 41 | 246 => 44 | 283 => 50 | 284 => 51 | 285 => 52 | 286 => 53 | 129 => 58 | 317 => 57 | 318 => 59 | 319 => 60 | 320 => 61 | 337 => 64 | 338 => 65 | n => n, fun | 9 => 9 | 3 => 3 | 75 => 53 | 76 => 54 | 4 => 4 | 5 => 5 | 167 => 59 | 37 => 50 | 0 => 0 | 85 => 60 | 2 => 2 | 168 => 62 | 53 => 66 | 175 => 71 | 46 => 73 | 210 => 76 | 127 => 85 | 145 => 88 | 143 => 86 | 21 => 21 | 171 => 65 | 173 => 69 | 212 => 80 | 51 => 81 | 20 => 20 | 213 => 82 | 232 => 90 | 233 => 91 | 80 => 92 | n => n, fun | 15 => 0 | 16 => 1 | 17 => 2 | 18 => 3 | 19 => 4 | n => n⟩
theorem Tryd.laysC172 : Go.Proofs.LaysC.n172 Tryd.prog Tryd.laysC172_ren := {
  mixed := by kernel_rfl
  f129 := Tryd.func58.trans (congrArg some (by kernel_rfl))
  f171 := Tryd.func34.trans (congrArg some (by kernel_rfl))
  f172 := Tryd.func37.trans (congrArg some (by kernel_rfl))
  f205 := Tryd.func56.trans (congrArg some (by kernel_rfl))
  f243 := Tryd.func41.trans (congrArg some (by kernel_rfl))
  f244 := Tryd.func42.trans (congrArg some (by kernel_rfl))
  f245 := Tryd.func43.trans (congrArg some (by kernel_rfl))
  f246 := Tryd.func44.trans (congrArg some (by kernel_rfl))
  f247 := Tryd.func45.trans (congrArg some (by kernel_rfl))
  f279 := Tryd.func46.trans (congrArg some (by kernel_rfl))
  f280 := Tryd.func47.trans (congrArg some (by kernel_rfl))
  f281 := Tryd.func48.trans (congrArg some (by kernel_rfl))
  f282 := Tryd.func49.trans (congrArg some (by kernel_rfl))
  f283 := Tryd.func50.trans (congrArg some (by kernel_rfl))
  f284 := Tryd.func51.trans (congrArg some (by kernel_rfl))
  f285 := Tryd.func52.trans (congrArg some (by kernel_rfl))
  f286 := Tryd.func53.trans (congrArg some (by kernel_rfl))
  f287 := Tryd.func54.trans (congrArg some (by kernel_rfl))
  f316 := Tryd.func55.trans (congrArg some (by kernel_rfl))
  f317 := Tryd.func57.trans (congrArg some (by kernel_rfl))
  f318 := Tryd.func59.trans (congrArg some (by kernel_rfl))
  f319 := Tryd.func60.trans (congrArg some (by kernel_rfl))
  f320 := Tryd.func61.trans (congrArg some (by kernel_rfl))
  f321 := Tryd.func62.trans (congrArg some (by kernel_rfl))
  f322 := Tryd.func63.trans (congrArg some (by kernel_rfl))
  f337 := Tryd.func64.trans (congrArg some (by kernel_rfl))
  f338 := Tryd.func65.trans (congrArg some (by kernel_rfl))
  t0 := Tryd.underlying0
  a0 := Tryd.isAgg0
  z0 := Tryd.sizeOf0
  v0 := Tryd.zeroValue0
  t2 := Tryd.underlying2
  a2 := Tryd.isAgg2
  z2 := Tryd.sizeOf2
  v2 := Tryd.zeroValue2
  t3 := Tryd.underlying3
  a3 := Tryd.isAgg3
  z3 := Tryd.sizeOf3
  v3 := Tryd.zeroValue3
  t4 := Tryd.underlying4
  a4 := Tryd.isAgg4
  z4 := Tryd.sizeOf4
  v4 := Tryd.zeroValue4
  t5 := Tryd.underlying5
  a5 := Tryd.isAgg5
  z5 := Tryd.sizeOf5
  v5 := Tryd.zeroValue5
  t9 := Tryd.underlying9
  a9 := Tryd.isAgg9
  z9 := Tryd.sizeOf9
  v9 := Tryd.zeroValue9
  t20 := Tryd.underlying20
  a20 := Tryd.isAgg20
  z20 := Tryd.sizeOf20
  v20 := Tryd.zeroValue20
  t21 := Tryd.underlying21
  a21 := Tryd.isAgg21
  z21 := Tryd.sizeOf21
  v21 := Tryd.zeroValue21
  t37 := Tryd.underlying50
  a37 := Tryd.isAgg50
  z37 := Tryd.sizeOf50
  v37 := Tryd.zeroValue50
  t46 := Tryd.underlying73
  a46 := Tryd.isAgg73
  z46 := Tryd.sizeOf73
  v46 := Tryd.zeroValue73
  t51 := Tryd.underlying81
  a51 := Tryd.isAgg81
  z51 := Tryd.sizeOf81
  v51 := Tryd.zeroValue81
  t53 := Tryd.underlying66
  a53 := Tryd.isAgg66
  z53 := Tryd.sizeOf66
  v53 := Tryd.zeroValue66
  t75 := Tryd.underlying53
  a75 := Tryd.isAgg53
  z75 := Tryd.sizeOf53
  v75 := Tryd.zeroValue53
  t76 := Tryd.underlying54
  a76 := Tryd.isAgg54
  z76 := Tryd.sizeOf54
  v76 := Tryd.zeroValue54
  t85 := Tryd.underlying60
  a85 := Tryd.isAgg60
  z85 := Tryd.sizeOf60
  v85 := Tryd.zeroValue60
  t127 := Tryd.underlying85
  a127 := Tryd.isAgg85
  z127 := Tryd.sizeOf85
  v127 := Tryd.zeroValue85
  t143 := Tryd.underlying86
  a143 := Tryd.isAgg86
  z143 := Tryd.sizeOf86
  v143 := Tryd.zeroValue86
  t145 := Tryd.underlying88
  a145 := Tryd.isAgg88
  z145 := Tryd.sizeOf88
  v145 := Tryd.zeroValue88
  t167 := Tryd.underlying59
  a167 := Tryd.isAgg59
  z167 := Tryd.sizeOf59
  v167 := Tryd.zeroValue59
  t168 := Tryd.underlying62
  a168 := Tryd.isAgg62
  z168 := Tryd.sizeOf62
  v168 := Tryd.zeroValue62
  t171 := Tryd.underlying65
  a171 := Tryd.isAgg65
  z171 := Tryd.sizeOf65
  v171 := Tryd.zeroValue65
  t173 := Tryd.underlying69
  a173 := Tryd.isAgg69
  z173 := Tryd.sizeOf69
  v173 := Tryd.zeroValue69
  t175 := Tryd.underlying71
  a175 := Tryd.isAgg71
  z175 := Tryd.sizeOf71
  v175 := Tryd.zeroValue71
  t210 := Tryd.underlying76
  a210 := Tryd.isAgg76
  z210 := Tryd.sizeOf76
  v210 := Tryd.zeroValue76
  t212 := Tryd.underlying80
  a212 := Tryd.isAgg80
  z212 := Tryd.sizeOf80
  v212 := Tryd.zeroValue80
  t213 := Tryd.underlying82
  a213 := Tryd.isAgg82
  z213 := Tryd.sizeOf82
  t232 := Tryd.underlying90
  a232 := Tryd.isAgg90
  z232 := Tryd.sizeOf90
  v232 := Tryd.zeroValue90
  t233 := Tryd.underlying91
  a233 := Tryd.isAgg91
  z233 := Tryd.sizeOf91
  v233 := Tryd.zeroValue91
  g15 := by kernel_rfl
  g16 := by kernel_rfl
  g17 := by kernel_rfl
  g18 := by kernel_rfl
  g19 := by kernel_rfl
  t80 := Tryd.underlying92
  a80 := Tryd.isAgg92
  z80 := Tryd.sizeOf92
  v80 := Tryd.zeroValue92
  i0 := by kernel_rfl
  i2 := by kernel_rfl
  i3 := by kernel_rfl
  i4 := by kernel_rfl
  i5 := by kernel_rfl
  i9 := by kernel_rfl
  i20 := by kernel_rfl
  i21 := by kernel_rfl
  i37 := by kernel_rfl
  i46 := by kernel_rfl
  i51 := by kernel_rfl
  i53 := by kernel_rfl
  i75 := by kernel_rfl
  i76 := by kernel_rfl
  i80 := by kernel_rfl
  i85 := by kernel_rfl
  i127 := by kernel_rfl
  i143 := by kernel_rfl
  i145 := by kernel_rfl
  i167 := by kernel_rfl
  i168 := by kernel_rfl
  i171 := by kernel_rfl
  i173 := by kernel_rfl
  i175 := by kernel_rfl
  i210 := by kernel_rfl
  i212 := by kernel_rfl
  i232 := by kernel_rfl
  i233 := by kernel_rfl
  m15 := by kernel_rfl
  m16 := by kernel_rfl
  m17 := by kernel_rfl
  m18 := by kernel_rfl
  m19 := by kernel_rfl
  c0 := by kernel_rfl
  c2 := by kernel_rfl
  c3 := by kernel_rfl
  c4 := by kernel_rfl
  c5 := by kernel_rfl
  c9 := by kernel_rfl
  c20 := by kernel_rfl
  c21 := by kernel_rfl
  c37 := by kernel_rfl
  c46 := by kernel_rfl
  c51 := by kernel_rfl
  c53 := by kernel_rfl
  c75 := by kernel_rfl
  c76 := by kernel_rfl
  c80 := by kernel_rfl
  c85 := by kernel_rfl
  c127 := by kernel_rfl
  c143 := by kernel_rfl
  c145 := by kernel_rfl
  c167 := by kernel_rfl
  c168 := by kernel_rfl
  c171 := by kernel_rfl
  c173 := by kernel_rfl
  c175 := by kernel_rfl
  c210 := by kernel_rfl
  c212 := by kernel_rfl
  c213 := by kernel_rfl
  c232 := by kernel_rfl
  c233 := by kernel_rfl }
end Go.Proofs
namespace Go.Ev
open Go.Proofs Go.RowKit Go.Shelf
set_option linter.all false
theorem oW {P:Program} {w w':World} {n:String} {cs:Array Value} (h:w.var? P n=some cs) (hb:Below w.heap.size w w'):w'.var? P n=some cs:=by
  unfold World.var? at h ⊢
  obtain ⟨g,hg,h2⟩:=Option.bind_eq_some_iff.1 h
  rw [hg]
  simp only [Option.bind_some]
  rcases Nat.lt_or_ge g w.heap.size with c | c
  · rw [hb.block g c];exact h2
  · rw [Array.getElem?_eq_none c] at h2;cases h2
def TW (w : World) : Prop := Lib.TabIs Tryd.prog w "internal/strconv.uint64pow10" .u64 Lib.pow10Tab ∧ (∃ tp p, w.var? Tryd.prog "strconv.ErrSyntax" = some #[.iface tp p]) ∧ (∃ tp p, w.var? Tryd.prog "strconv.ErrRange" = some #[.iface tp p])
instance:WT TW:=⟨fun _ w' h hb=>⟨Lib.tabBelow_of_tabIs h.1 w' hb,h.2.1.imp fun _ q=>q.imp fun _ q=>oW q hb,h.2.2.imp fun _ q=>q.imp fun _ q=>oW q hb⟩⟩
noncomputable def gN (a0:Int):Option ByteArray:=(chk (-9223372036854775808≤a0∧a0≤9223372036854775807)).bind fun _=>some ⟨(Lib.itoa a0).toArray⟩
instance:FnC Tryd.prog 34:=⟨_,Tryd.func34,by kernel_rfl,by kernel_rfl⟩
theorem rC {h:Array Obj} {ok:Nat→Prop} {v:Value} {cargs:Array Value} (ha:RelArgs h ok [.sc v] cargs.toList):cargs=#[v]:=by
  obtain ⟨g1,g2⟩:=ha.get
  obtain ⟨B,g3,_⟩:=g2 0 (by simp)
  apply Array.ext'
  match h:cargs.toList,g1 with
  | [c],_ =>
    rw [h] at g3
    simp only [List.getD_cons_zero,RelV] at g3
    rw [g3.1]
theorem mO (a0:Int) (r:ByteArray) (H:gN a0=some r):MeetsT Tryd.prog TW 34 [.sc (.int .i64 a0)] (.sc (.string r)) true:=by
  obtain ⟨_,hc,H⟩:=aB H
  obtain ⟨h0,h1⟩:=cX hc
  obtain rfl:=Option.some.inj H
  intro w cargs ok hT ha
  obtain rfl:=rC ha
  refine (Any.strconv_Itoa Tryd.laysM171 a0 h0 h1 w hT.1).mono fun e w' ⟨he,k,os,hw⟩=>?_
  subst hw
  exact ⟨_,[],he,Lib.below_grow _ _ (Nat.le_refl _) _ _,by simp [RelV],by simp,by simp⟩
noncomputable def cG (s:ByteArray):Int × Bool :=
  match Lib.atoiAll s.data.toList with
  | .ok v=>if (⟨(Lib.itoa v).toArray⟩:ByteArray)=s then (v,true) else (0,false)
  | _=>(0,false)
theorem uU (n:Int) (h0:-9223372036854775808≤n) (h1:n≤9223372036854775807) (w:World) (h:TW w) :
    Calls Tryd.prog 34 #[.int .i64 n] w fun e w'=>e=.returned (.string ⟨(Lib.itoa n).toArray⟩)∧Below w.heap.size w w' :=
  (Any.strconv_Itoa Tryd.laysM171 n h0 h1 w h.1).mono fun e w' ⟨he,k,os,hw⟩=>⟨he,by subst hw;exact Lib.below_grow _ _ (Nat.le_refl _) _ _⟩
theorem tB (n:Int) (h0:-9223372036854775808≤n) (h1:n≤9223372036854775807) (t:ByteArray) (ht:(⟨(Lib.itoa n).toArray⟩:ByteArray)=t) (w:World) (h:TW w) :
    Calls Tryd.prog 34 #[.int .i64 n] w fun e w'=>e=.returned (.string t)∧Below w.heap.size w w':=ht ▸ uU n h0 h1 w h
theorem rJ (s:ByteArray) (hmax:s.size≤9223372036854775806) (v:Int) (h:Lib.atoiAll s.data.toList=.ok v) (w:World) :
    Calls Tryd.prog 37 #[.string s] w fun e w'=>e=.returned (.tuple #[.int .i64 v,.nilIface])∧Below w.heap.size w w' :=
  (Any.strconv_Atoi_ok Tryd.laysC172 s hmax v h w).mono fun e w' ⟨he,hw⟩=>⟨he,by
    rcases hw with rfl | ⟨t,rfl⟩
    · exact Below.refl _ _
    · exact Lib.bytesWorld_below _ _ _⟩
theorem uH (s:ByteArray) (hlim:s.size≤281474976710656) (h:∀ v,Lib.atoiAll s.data.toList≠.ok v) (w:World) (hT:TW w) :
    Calls Tryd.prog 37 #[.string s] w fun e w'=>(∃ n N T,e=.returned (.tuple #[.int .i64 n,.iface T (.pointer (some ⟨N,0,none⟩))]))∧Below w.heap.size w w':=by
  obtain ⟨_,⟨t1,p1,v1⟩,⟨t2,p2,v2⟩⟩:=hT
  rcases c:Lib.atoiAll s.data.toList with v | _ | _
  · exact absurd c (h v)
  · exact (Any.strconv_Atoi_syntax_var Tryd.laysC172 s hlim c t1 p1 w v1).mono fun e w' ⟨N,he,_,_,hb⟩=>⟨⟨_,N,_,he⟩,hb⟩
  · exact (Any.strconv_Atoi_range_var Tryd.laysC172 s hlim c t2 p2 w v2).mono fun e w' ⟨N,he,_,_,hb⟩=>⟨⟨_,N,_,he⟩,hb⟩
noncomputable def bQ (a0:ByteArray):Option (Int × Bool):=(chk (a0.size≤281474976710656)).bind fun _=>some (cG a0)
theorem tH {w w1 w2:World} (h1:Below w.heap.size w w1) (h2:Below w1.heap.size w1 w2):Below w.heap.size w w2 :=
  ⟨h2.os.trans h1.os,h2.tape.trans h1.tape,h2.output.trans h1.output,Nat.le_trans h1.size h2.size,fun k hk=>(h2.block k (Nat.lt_of_lt_of_le hk h1.size)).trans (h1.block k hk)⟩
set_option maxRecDepth 100000 in
theorem sV (s:ByteArray) (hs:s.size≤281474976710656) (v:Int) (h:Lib.atoiAll s.data.toList=.ok v) (hv:-9223372036854775808≤v∧v≤9223372036854775807) (he:(⟨(Lib.itoa v).toArray⟩:ByteArray)=s) (w:World) (hT:TW w) :
    Calls Tryd.prog 24 #[.string s] w fun e w'=>e=.returned (.tuple #[.int .i64 v,.bool true])∧Below w.heap.size w w':=by
  go_enter Tryd.func24,Tryd.ntmps24
  go_wp2_with (first
    | (go_at_call 37;refine (rJ s (by omega) v h _).mono ?_;rintro e w1 ⟨rfl,hb⟩;have hT1:TW w1:=WT.keep _ _ hT hb)
    | (go_at_call 34;refine (tB v hv.1 hv.2 s he _ (by assumption)).mono ?_;rintro e w2 ⟨rfl,hb2⟩))
  all_goals go_ret2
  all_goals exact ⟨rfl,tH (by assumption) (by assumption)⟩
set_option maxRecDepth 100000 in
theorem sU (s:ByteArray) (hs:s.size≤281474976710656) (v:Int) (h:Lib.atoiAll s.data.toList=.ok v) (hv:-9223372036854775808≤v∧v≤9223372036854775807) (t:ByteArray) (ht:(⟨(Lib.itoa v).toArray⟩:ByteArray)=t) (he:t≠s) (w:World) (hT:TW w) :
    Calls Tryd.prog 24 #[.string s] w fun e w'=>e=.returned (.tuple #[.int .i64 0,.bool false])∧Below w.heap.size w w':=by
  have hne:=(Lib.bytes_beq_false_iff t s).2 he
  go_enter Tryd.func24,Tryd.ntmps24
  go_wp2_with (first
    | (go_at_call 37;refine (rJ s (by omega) v h _).mono ?_;rintro e w1 ⟨rfl,hb⟩;have hT1:TW w1:=WT.keep _ _ hT hb)
    | (go_at_call 34;refine (tB v hv.1 hv.2 t ht _ (by assumption)).mono ?_;rintro e w2 ⟨rfl,hb2⟩))
  all_goals go_ret2
  all_goals first
    | exact ⟨rfl,tH (by assumption) (by assumption)⟩
    | (exfalso;simp_all)
set_option maxRecDepth 100000 in
theorem pI (s:ByteArray) (hs:s.size≤281474976710656) (h:∀ v,Lib.atoiAll s.data.toList≠.ok v) (w:World) (hT:TW w) :
    Calls Tryd.prog 24 #[.string s] w fun e w'=>e=.returned (.tuple #[.int .i64 0,.bool false])∧Below w.heap.size w w':=by
  go_enter Tryd.func24,Tryd.ntmps24
  go_wp2_with (go_at_call 37;refine (uH s hs h _ hT).mono ?_;rintro e w1 ⟨⟨n,N,T,rfl⟩,hb⟩)
  go_ret2
  exact ⟨rfl,hb⟩
theorem tV (s:ByteArray) (hs:s.size≤281474976710656) (w:World) (hT:TW w) :
    Calls Tryd.prog 24 #[.string s] w fun e w'=>e=.returned (.tuple #[.int .i64 (cG s).1,.bool (cG s).2])∧Below w.heap.size w w':=by
  unfold cG
  rcases h:Lib.atoiAll s.data.toList with v | _ | _
  · have hv:=Lib.atoiAll_bounds h
    by_cases he:(⟨(Lib.itoa v).toArray⟩:ByteArray)=s
    · simp only [he,if_true];exact sV s hs v h (by omega) he w hT
    · simp only [he,if_false];exact sU s hs v h (by omega) _ rfl he w hT
  · exact pI s hs (fun v=>by rw [h];intro e;cases e) w hT
  · exact pI s hs (fun v=>by rw [h];intro e;cases e) w hT
theorem eH (a0:ByteArray) (r:Int × Bool) (H:bQ a0=some r):MeetsT Tryd.prog TW 24 [.sc (.string a0)] (.tup [.sc (.int .i64 r.1),.sc (.bool r.2)]) true:=by
  obtain ⟨_,hc,H⟩:=aB H
  have hs:=cX hc
  obtain rfl:=Option.some.inj H
  intro w cargs ok hT ha
  obtain rfl:=rC ha
  refine (tV a0 hs w hT).mono fun e w' ⟨he,hb⟩=>?_
  exact ⟨_,[],he,hb,⟨_,rfl,rfl,by simp [RelL,RelV]⟩,by simp,by simp⟩
end Go.Ev
