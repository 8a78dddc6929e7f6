/- Parts PL, PN, PO, XA. -/
import Derived.Test.YtfloffdjklhooaaDoorE3
import Derived.Test.YtfloffdjklhooaaDoorW0
import Derived.Shelf.Lay
import Derived.Shelf.LaySoft
import Derived.Shelf.Strconv.Itoa3
import Derived.Lib.AppendIntMem
set_option linter.all false
/- Plain laws: loops over lists. No program. -/
namespace Go.Ev
theorem wi {n:Int} (h:-9223372036854775808≤n∧n≤9223372036854775807):IntKind.i64.wrap n=n:=by
  rw [IntKind.wrap_i64];omega
theorem fU {p:Prop} {_:Decidable p} (h:p):chk p=some ():=by unfold chk;rw [if_pos h]
section
variable {α σ τ ρ:Type}
end
end Go.Ev
namespace Go.Ev
section
variable {σ ρ:Type}
end
end Go.Ev
namespace Go.Ev
section
variable {σ ρ:Type}
theorem nL {step:Int→Option (Int ⊕ ρ)} (n:Nat) (Q:ρ→Prop) (J:Nat→Prop) (h0:J 0) (h1:∀ k:Nat,k < n→J k→(step (k:Int)=some (.inl ((k+1:Nat):Int))∧J (k+1))∨∃ r,step (k:Int)=some (.inr r)∧Q r) (h2:J n→∃ r,step (n:Int)=some (.inr r)∧Q r):∃ r,lp step 0=some r∧Q r:=by
  have main:∀ m k:Nat,m+k=n→J k→∃ r,lp step (k:Int)=some r∧Q r:=by
    intro m
    induction m with
    | zero =>
      intro k hk hj
      have:k=n:=by omega
      subst this
      obtain ⟨r,e,q⟩:=h2 hj
      exact ⟨r,kU e,q⟩
    | succ m ih =>
      intro k hk hj
      rcases h1 k (by omega) hj with ⟨e,hj'⟩ | ⟨r,e,q⟩
      · rw [nA e];exact ih (k+1) (by omega) hj'
      · exact ⟨r,kU e,q⟩
  exact main n 0 (by omega) h0
end
end Go.Ev
namespace Go.Ev
end Go.Ev
/- Plain laws of loops over nested values: sizes, copies, comparisons, marks. No program. -/
namespace Go.Ev
section
variable {α:Type}
end
end Go.Ev
/- Plain laws of loops: comparison of lists, search. No program. -/
namespace Go.Ev
section
variable {α:Type}
end
end Go.Ev
/- strconv.Itoa's contract, laid at this program. -/
namespace Go.Proofs
open Go.Shelf
set_option linter.all false
shelf_lay LaysM.n171 Nm 171 at Tryd as Tryd.laysM171
end Go.Proofs
namespace Go.Ev
open Go.Proofs Go.RowKit Go.Shelf
set_option linter.all false
def TW (w : World) : Prop := Lib.TabIs Tryd.prog w "internal/strconv.uint64pow10" .u64 Lib.pow10Tab
instance:WT TW:=⟨fun _ w' h hb=>Lib.tabBelow_of_tabIs h w' hb⟩
noncomputable def eN (a0:Int):Option ByteArray:=(chk (-9223372036854775808≤a0∧a0≤9223372036854775807)).bind fun _=>some ⟨(Lib.itoa a0).toArray⟩
instance:FnC Tryd.prog 34:=⟨_,Tryd.func34,by kernel_rfl,by kernel_rfl⟩
theorem iY (a0:Int) (r:ByteArray) (H:eN a0=some r):MeetsT Tryd.prog TW 34 [.sc (.int .i64 a0)] (.sc (.string r)) true:=by
  obtain ⟨_,hc,H⟩:=aC H
  obtain ⟨h0,h1⟩:=cO hc
  obtain rfl:=Option.some.inj H
  intro w cargs ok hT ha
  obtain ⟨g1,g2⟩:=ha.get
  obtain ⟨B,g3,_⟩:=g2 0 (by simp)
  have e:cargs=#[.int .i64 a0]:=by
    apply Array.ext'
    match h:cargs.toList,g1 with
    | [c],_ =>
      rw [h] at g3
      simp only [List.getD_cons_zero,RelV] at g3
      rw [g3.1]
  subst e
  refine (Any.strconv_Itoa Tryd.laysM171 a0 h0 h1 w hT).mono fun e w' ⟨he,k,os,hw⟩=>?_
  subst hw
  exact ⟨_,[],he,Lib.below_grow _ _ (Nat.le_refl _) _ _,by simp [RelV],by simp,by simp⟩
end Go.Ev
