/- Parts PL, PN, PO, XA. -/
import Derived.Test.YtfloffdjklhooaaDoorE3
import Derived.Test.YtfloffdjklhooaaDoorW0
import Derived.Shelf.Strconv.Itoa3
import Derived.Lib.AppendIntMem
set_option linter.all false
/- Plain laws: loops over lists. No program. -/
namespace Go.Ev
theorem wi {n:Int} (h:-9223372036854775808≤n∧n≤9223372036854775807):IntKind.i64.wrap n=n:=by
  rw [IntKind.wrap_i64];omega
theorem fU {p:Prop} {_:Decidable p} (h:p):chk p=some ():=by unfold chk;rw [if_pos h]
section
variable {α σ τ ρ:Type}
end
end Go.Ev
namespace Go.Ev
section
variable {σ ρ:Type}
end
end Go.Ev
namespace Go.Ev
section
variable {σ ρ:Type}
theorem nL {step:Int→Option (Int ⊕ ρ)} (n:Nat) (Q:ρ→Prop) (J:Nat→Prop) (h0:J 0) (h1:∀ k:Nat,k < n→J k→(step (k:Int)=some (.inl ((k+1:Nat):Int))∧J (k+1))∨∃ r,step (k:Int)=some (.inr r)∧Q r) (h2:J n→∃ r,step (n:Int)=some (.inr r)∧Q r):∃ r,lp step 0=some r∧Q r:=by
  have main:∀ m k:Nat,m+k=n→J k→∃ r,lp step (k:Int)=some r∧Q r:=by
    intro m
    induction m with
    | zero =>
      intro k hk hj
      have:k=n:=by omega
      subst this
      obtain ⟨r,e,q⟩:=h2 hj
      exact ⟨r,kU e,q⟩
    | succ m ih =>
      intro k hk hj
      rcases h1 k (by omega) hj with ⟨e,hj'⟩ | ⟨r,e,q⟩
      · rw [nA e];exact ih (k+1) (by omega) hj'
      · exact ⟨r,kU e,q⟩
  exact main n 0 (by omega) h0
end
end Go.Ev
namespace Go.Ev
end Go.Ev
/- Plain laws of loops over nested values: sizes, copies, comparisons, marks. No program. -/
namespace Go.Ev
section
variable {α:Type}
end
end Go.Ev
/- Plain laws of loops: comparison of lists, search. No program. -/
namespace Go.Ev
section
variable {α:Type}
end
end Go.Ev
/- strconv.Itoa's contract, laid at this program. -/
namespace Go.Proofs
open Go.Shelf
set_option linter.all false
def Tryd.laysM171_ren : Go.Shelf.Ren := ⟨fun | 171 => 34 | 243 => 41 | 246 => 44 | 283 => 50 | 284 => 51 | 285 => 52 | 286 => 53 | 129 => 58 | 317 => 57 | 318 => 59 | 319 => 60 | 320 => 61 | 337 => 64 | 338 => 65 | n => n, fun | 3 => 3 | 9 => 9 | 2 => 2 | 4 => 4 | 171 => 65 | 0 => 0 | 53 => 66 | 37 => 50 | 5 => 5 | 173 => 69 | 212 => 80 | 51 => 81 | 20 => 20 | 213 => 82 | 46 => 73 | 232 => 90 | 233 => 91 | n => n, fun | 17 => 2 | 18 => 3 | 19 => 4 | n => n⟩
theorem Tryd.laysM171 : Go.Proofs.LaysM.n171 Tryd.prog Tryd.laysM171_ren := {
  mixed := by kernel_rfl
  f129 := Tryd.func58.trans (congrArg some (by kernel_rfl))
  f171 := Tryd.func34.trans (congrArg some (by kernel_rfl))
  f243 := Tryd.func41.trans (congrArg some (by kernel_rfl))
  f246 := Tryd.func44.trans (congrArg some (by kernel_rfl))
  f283 := Tryd.func50.trans (congrArg some (by kernel_rfl))
  f284 := Tryd.func51.trans (congrArg some (by kernel_rfl))
  f285 := Tryd.func52.trans (congrArg some (by kernel_rfl))
  f286 := Tryd.func53.trans (congrArg some (by kernel_rfl))
  f317 := Tryd.func57.trans (congrArg some (by kernel_rfl))
  f318 := Tryd.func59.trans (congrArg some (by kernel_rfl))
  f319 := Tryd.func60.trans (congrArg some (by kernel_rfl))
  f320 := Tryd.func61.trans (congrArg some (by kernel_rfl))
  f337 := Tryd.func64.trans (congrArg some (by kernel_rfl))
  f338 := Tryd.func65.trans (congrArg some (by kernel_rfl))
  t0 := Tryd.underlying0
  a0 := Tryd.isAgg0
  z0 := Tryd.sizeOf0
  v0 := Tryd.zeroValue0
  t2 := Tryd.underlying2
  a2 := Tryd.isAgg2
  z2 := Tryd.sizeOf2
  v2 := Tryd.zeroValue2
  t3 := Tryd.underlying3
  a3 := Tryd.isAgg3
  z3 := Tryd.sizeOf3
  v3 := Tryd.zeroValue3
  t4 := Tryd.underlying4
  a4 := Tryd.isAgg4
  z4 := Tryd.sizeOf4
  v4 := Tryd.zeroValue4
  t5 := Tryd.underlying5
  a5 := Tryd.isAgg5
  z5 := Tryd.sizeOf5
  v5 := Tryd.zeroValue5
  t9 := Tryd.underlying9
  a9 := Tryd.isAgg9
  z9 := Tryd.sizeOf9
  v9 := Tryd.zeroValue9
  t20 := Tryd.underlying20
  a20 := Tryd.isAgg20
  z20 := Tryd.sizeOf20
  v20 := Tryd.zeroValue20
  t37 := Tryd.underlying50
  a37 := Tryd.isAgg50
  z37 := Tryd.sizeOf50
  v37 := Tryd.zeroValue50
  t46 := Tryd.underlying73
  a46 := Tryd.isAgg73
  z46 := Tryd.sizeOf73
  v46 := Tryd.zeroValue73
  t51 := Tryd.underlying81
  a51 := Tryd.isAgg81
  z51 := Tryd.sizeOf81
  v51 := Tryd.zeroValue81
  t53 := Tryd.underlying66
  a53 := Tryd.isAgg66
  z53 := Tryd.sizeOf66
  v53 := Tryd.zeroValue66
  t171 := Tryd.underlying65
  a171 := Tryd.isAgg65
  z171 := Tryd.sizeOf65
  v171 := Tryd.zeroValue65
  t173 := Tryd.underlying69
  a173 := Tryd.isAgg69
  z173 := Tryd.sizeOf69
  v173 := Tryd.zeroValue69
  t212 := Tryd.underlying80
  a212 := Tryd.isAgg80
  z212 := Tryd.sizeOf80
  v212 := Tryd.zeroValue80
  t213 := Tryd.underlying82
  a213 := Tryd.isAgg82
  z213 := Tryd.sizeOf82
  t232 := Tryd.underlying90
  a232 := Tryd.isAgg90
  z232 := Tryd.sizeOf90
  v232 := Tryd.zeroValue90
  t233 := Tryd.underlying91
  a233 := Tryd.isAgg91
  z233 := Tryd.sizeOf91
  v233 := Tryd.zeroValue91
  g17 := by kernel_rfl
  g18 := by kernel_rfl
  g19 := by kernel_rfl
  i0 := by kernel_rfl
  i2 := by kernel_rfl
  i3 := by kernel_rfl
  i4 := by kernel_rfl
  i5 := by kernel_rfl
  i9 := by kernel_rfl
  i20 := by kernel_rfl
  i37 := by kernel_rfl
  i46 := by kernel_rfl
  i51 := by kernel_rfl
  i53 := by kernel_rfl
  i171 := by kernel_rfl
  i173 := by kernel_rfl
  i212 := by kernel_rfl
  i232 := by kernel_rfl
  i233 := by kernel_rfl
  m17 := by kernel_rfl
  m18 := by kernel_rfl
  m19 := by kernel_rfl }
end Go.Proofs
namespace Go.Ev
open Go.Proofs Go.RowKit Go.Shelf
set_option linter.all false
def TW (w : World) : Prop := Lib.TabIs Tryd.prog w "internal/strconv.uint64pow10" .u64 Lib.pow10Tab
instance:WT TW:=⟨fun _ w' h hb=>Lib.tabBelow_of_tabIs h w' hb⟩
noncomputable def eN (a0:Int):Option ByteArray:=(chk (-9223372036854775808≤a0∧a0≤9223372036854775807)).bind fun _=>some ⟨(Lib.itoa a0).toArray⟩
instance:FnC Tryd.prog 34:=⟨_,Tryd.func34,by kernel_rfl,by kernel_rfl⟩
theorem iY (a0:Int) (r:ByteArray) (H:eN a0=some r):MeetsT Tryd.prog TW 34 [.sc (.int .i64 a0)] (.sc (.string r)) true:=by
  obtain ⟨_,hc,H⟩:=aC H
  obtain ⟨h0,h1⟩:=cO hc
  obtain rfl:=Option.some.inj H
  intro w cargs ok hT ha
  obtain ⟨g1,g2⟩:=ha.get
  obtain ⟨B,g3,_⟩:=g2 0 (by simp)
  have e:cargs=#[.int .i64 a0]:=by
    apply Array.ext'
    match h:cargs.toList,g1 with
    | [c],_ =>
      rw [h] at g3
      simp only [List.getD_cons_zero,RelV] at g3
      rw [g3.1]
  subst e
  refine (Any.strconv_Itoa Tryd.laysM171 a0 h0 h1 w hT).mono fun e w' ⟨he,k,os,hw⟩=>?_
  subst hw
  exact ⟨_,[],he,Lib.below_grow _ _ (Nat.le_refl _) _ _,by simp [RelV],by simp,by simp⟩
end Go.Ev
