/-
  No cell of these rows narrows 'for every input' (looked for: loops, veiled, ifaces, maps, wideKeys, modest, calm, conditions, laid).
  DERIVED. THE GIVEN ROWS OF THIS SEAT. 6 by the template 'for every input the law returns true; each argument reads behind the call as it read before'; 0 by the template 'total and deterministic' (their statements: YtlhoochohnnepaaGreatTotals.lean).
  GIVEN WITH THE SEED: the statements are not yours to turn. If you find one false, say at which input.
  Laid BY PROGRAM, IN A SANDBOX (cutbox-rows.mjs): the forced cells as the released guide's own fill.sh prints them over the translation a9a917eb7e337ef4… (all of the seat's roots in one cut). By AI agents, Wed Nov 11 2026. No macro, syntax, notation, axiom, sorry.
-/
import Derived.Test.YtlhoochohnnepaaGreatChecked
import GoSem.Claim
import GoSem.ClaimJoined
import GoSem.ClaimMapViews
import Derived.JoinedTies
import Derived.KernelRfl
namespace Go.Proofs.YtlhoochohnnepaaGreat
/- THE CELL 'sum', in the pinned program and in every row, IS THE sha256 OF THE DUMP (.gsa) THAT YtlhoochohnnepaaGreatProg.lean LOADS. Nothing in Lean hashes anything: it is a label: what it is worth is what the hold of that sum in a sandbox is worth. -/
noncomputable def Tryz.pinned : Pinned := { name := "ytlhoochohnnepaagreat", sum := "a9a917eb7e337ef48277941a7fd9321887a7dd1265a047502f28cbcb4bd23cef", checked := Tryz.checked }
namespace Rows
def none {H : Type} : Left H := { results := [], args := [] }

/-- 'laws.FnVariances': WHATEVER THE INPUT: true; the input reads as it did. -/
def fnVariancesSpec : ChangeSpec := { name := "fnVariances", fn := fun _ => fun
  | [d] => { results := [.lit (.bool true)], args := [d] }
  | _ => none }
def fnVariancesRow : OpenClaim := { program := "ytlhoochohnnepaagreat", sum := "a9a917eb7e337ef48277941a7fd9321887a7dd1265a047502f28cbcb4bd23cef", func := "loop.example/g00810/laws.FnVariances", spec := "fnVariances", apart := false }
def FnVariancesSaid : Prop := fnVariancesRow.holds Tryz.pinned (OpenSpec.ofChange fnVariancesSpec)

/-- ITS FALSE NEIGHBOUR: 'it returns false'. Refute it at one input. -/
def fnVariancesWrong : ChangeSpec := { name := "fnVariances", fn := fun _ => fun
  | [d] => { results := [.lit (.bool false)], args := [d] }
  | _ => none }
def FnVariancesWrongFalsely : Prop := fnVariancesRow.holds Tryz.pinned (OpenSpec.ofChange fnVariancesWrong)

/-- 'laws.FnRelative': WHATEVER THE INPUT: true; the input reads as it did. -/
def fnRelativeSpec : ChangeSpec := { name := "fnRelative", fn := fun _ => fun
  | [d] => { results := [.lit (.bool true)], args := [d] }
  | _ => none }
def fnRelativeRow : OpenClaim := { program := "ytlhoochohnnepaagreat", sum := "a9a917eb7e337ef48277941a7fd9321887a7dd1265a047502f28cbcb4bd23cef", func := "loop.example/g00810/laws.FnRelative", spec := "fnRelative", apart := false }
def FnRelativeSaid : Prop := fnRelativeRow.holds Tryz.pinned (OpenSpec.ofChange fnRelativeSpec)

/-- ITS FALSE NEIGHBOUR: 'it returns false'. Refute it at one input. -/
def fnRelativeWrong : ChangeSpec := { name := "fnRelative", fn := fun _ => fun
  | [d] => { results := [.lit (.bool false)], args := [d] }
  | _ => none }
def FnRelativeWrongFalsely : Prop := fnRelativeRow.holds Tryz.pinned (OpenSpec.ofChange fnRelativeWrong)

/-- 'laws.FnUp': WHATEVER THE INPUT: true; the input reads as it did. -/
def fnUpSpec : ChangeSpec := { name := "fnUp", fn := fun _ => fun
  | [d] => { results := [.lit (.bool true)], args := [d] }
  | _ => none }
def fnUpRow : OpenClaim := { program := "ytlhoochohnnepaagreat", sum := "a9a917eb7e337ef48277941a7fd9321887a7dd1265a047502f28cbcb4bd23cef", func := "loop.example/g00810/laws.FnUp", spec := "fnUp", apart := false }
def FnUpSaid : Prop := fnUpRow.holds Tryz.pinned (OpenSpec.ofChange fnUpSpec)

/-- ITS FALSE NEIGHBOUR: 'it returns false'. Refute it at one input. -/
def fnUpWrong : ChangeSpec := { name := "fnUp", fn := fun _ => fun
  | [d] => { results := [.lit (.bool false)], args := [d] }
  | _ => none }
def FnUpWrongFalsely : Prop := fnUpRow.holds Tryz.pinned (OpenSpec.ofChange fnUpWrong)

/-- 'laws.FnTree': WHATEVER THE INPUT: true; the input reads as it did. -/
def fnTreeSpec : ChangeSpec := { name := "fnTree", fn := fun _ => fun
  | [d] => { results := [.lit (.bool true)], args := [d] }
  | _ => none }
def fnTreeRow : OpenClaim := { program := "ytlhoochohnnepaagreat", sum := "a9a917eb7e337ef48277941a7fd9321887a7dd1265a047502f28cbcb4bd23cef", func := "loop.example/g00810/laws.FnTree", spec := "fnTree", apart := false }
def FnTreeSaid : Prop := fnTreeRow.holds Tryz.pinned (OpenSpec.ofChange fnTreeSpec)

/-- ITS FALSE NEIGHBOUR: 'it returns false'. Refute it at one input. -/
def fnTreeWrong : ChangeSpec := { name := "fnTree", fn := fun _ => fun
  | [d] => { results := [.lit (.bool false)], args := [d] }
  | _ => none }
def FnTreeWrongFalsely : Prop := fnTreeRow.holds Tryz.pinned (OpenSpec.ofChange fnTreeWrong)

/-- 'laws.FnCertain': WHATEVER THE INPUT: true; the input reads as it did. -/
def fnCertainSpec : ChangeSpec := { name := "fnCertain", fn := fun _ => fun
  | [d] => { results := [.lit (.bool true)], args := [d] }
  | _ => none }
def fnCertainRow : OpenClaim := { program := "ytlhoochohnnepaagreat", sum := "a9a917eb7e337ef48277941a7fd9321887a7dd1265a047502f28cbcb4bd23cef", func := "loop.example/g00810/laws.FnCertain", spec := "fnCertain", apart := false }
def FnCertainSaid : Prop := fnCertainRow.holds Tryz.pinned (OpenSpec.ofChange fnCertainSpec)

/-- ITS FALSE NEIGHBOUR: 'it returns false'. Refute it at one input. -/
def fnCertainWrong : ChangeSpec := { name := "fnCertain", fn := fun _ => fun
  | [d] => { results := [.lit (.bool false)], args := [d] }
  | _ => none }
def FnCertainWrongFalsely : Prop := fnCertainRow.holds Tryz.pinned (OpenSpec.ofChange fnCertainWrong)

/-- 'laws.FnReorder': WHATEVER THE INPUT: true; the input reads as it did. -/
def fnReorderSpec : ChangeSpec := { name := "fnReorder", fn := fun _ => fun
  | [d] => { results := [.lit (.bool true)], args := [d] }
  | _ => none }
def fnReorderRow : OpenClaim := { program := "ytlhoochohnnepaagreat", sum := "a9a917eb7e337ef48277941a7fd9321887a7dd1265a047502f28cbcb4bd23cef", func := "loop.example/g00810/laws.FnReorder", spec := "fnReorder", apart := false }
def FnReorderSaid : Prop := fnReorderRow.holds Tryz.pinned (OpenSpec.ofChange fnReorderSpec)

/-- ITS FALSE NEIGHBOUR: 'it returns false'. Refute it at one input. -/
def fnReorderWrong : ChangeSpec := { name := "fnReorder", fn := fun _ => fun
  | [d] => { results := [.lit (.bool false)], args := [d] }
  | _ => none }
def FnReorderWrongFalsely : Prop := fnReorderRow.holds Tryz.pinned (OpenSpec.ofChange fnReorderWrong)

/- THE SECOND FORM. 'bulk': how many values and letters a reading holds, each counted each time it is reached (what is shared counts as often as it is met; a slice's spare places count too). A statement '..UptoSaid' is the law's where the arguments, and the package variables that the reading takes, are together of bulk at most 1048576: NARROWER than '..Said'. Prove '..Said' where nothing that the law and all that it calls make is longer than what came in: it says more and counts as full. Else prove '..UptoSaid'. A law counts once. -/
mutual
def uptoBulk {H : Type} : DataW H → Nat
  | .lit (.string bytes) => bytes.length + 1
  | .lit _ => 1
  | .nil => 1
  | .ptr d => uptoBulk d + 1
  | .slice elems spare => uptoBulkAll elems + uptoBulkAll spare + 1
  | .agg parts => uptoBulkAll parts + 1
  | .iface _ d => uptoBulk d + 1
  | .map entries => uptoBulkEntries entries + 1
  | .held _ => 1
def uptoBulkAll {H : Type} : List (DataW H) → Nat
  | [] => 0
  | d :: r => uptoBulk d + uptoBulkAll r
def uptoBulkEntries {H : Type} : List (Lit × DataW H) → Nat
  | [] => 0
  | x :: r => uptoBulkEntry x + uptoBulkEntries r
def uptoBulkEntry {H : Type} : Lit × DataW H → Nat
  | (.string bytes, d) => bytes.length + uptoBulk d + 1
  | (_, d) => uptoBulk d + 1
 end
def uptoSmall : (H : Type) → List (DataW H) → Bool := fun _ ds => decide (uptoBulkAll ds ≤ 1048576)
def OpenSpec.upto (s : _root_.Go.ChangeSpec) : _root_.Go.OpenSpec := { _root_.Go.OpenSpec.ofChange s with cond := some uptoSmall }

/-- 'laws.FnVariances', WHERE WHAT IT READS IS OF BULK AT MOST 1048576: true; the input reads as it did. -/
def fnVariancesUptoRow : OpenClaim := { program := "ytlhoochohnnepaagreat", sum := "a9a917eb7e337ef48277941a7fd9321887a7dd1265a047502f28cbcb4bd23cef", func := "loop.example/g00810/laws.FnVariances", spec := "fnVariances", apart := false, narrowed := true }
def FnVariancesUptoSaid : Prop := fnVariancesUptoRow.holds Tryz.pinned (OpenSpec.upto fnVariancesSpec)

/-- 'laws.FnRelative', WHERE WHAT IT READS IS OF BULK AT MOST 1048576: true; the input reads as it did. -/
def fnRelativeUptoRow : OpenClaim := { program := "ytlhoochohnnepaagreat", sum := "a9a917eb7e337ef48277941a7fd9321887a7dd1265a047502f28cbcb4bd23cef", func := "loop.example/g00810/laws.FnRelative", spec := "fnRelative", apart := false, narrowed := true }
def FnRelativeUptoSaid : Prop := fnRelativeUptoRow.holds Tryz.pinned (OpenSpec.upto fnRelativeSpec)

/-- 'laws.FnUp', WHERE WHAT IT READS IS OF BULK AT MOST 1048576: true; the input reads as it did. -/
def fnUpUptoRow : OpenClaim := { program := "ytlhoochohnnepaagreat", sum := "a9a917eb7e337ef48277941a7fd9321887a7dd1265a047502f28cbcb4bd23cef", func := "loop.example/g00810/laws.FnUp", spec := "fnUp", apart := false, narrowed := true }
def FnUpUptoSaid : Prop := fnUpUptoRow.holds Tryz.pinned (OpenSpec.upto fnUpSpec)

/-- 'laws.FnTree', WHERE WHAT IT READS IS OF BULK AT MOST 1048576: true; the input reads as it did. -/
def fnTreeUptoRow : OpenClaim := { program := "ytlhoochohnnepaagreat", sum := "a9a917eb7e337ef48277941a7fd9321887a7dd1265a047502f28cbcb4bd23cef", func := "loop.example/g00810/laws.FnTree", spec := "fnTree", apart := false, narrowed := true }
def FnTreeUptoSaid : Prop := fnTreeUptoRow.holds Tryz.pinned (OpenSpec.upto fnTreeSpec)

/-- 'laws.FnCertain', WHERE WHAT IT READS IS OF BULK AT MOST 1048576: true; the input reads as it did. -/
def fnCertainUptoRow : OpenClaim := { program := "ytlhoochohnnepaagreat", sum := "a9a917eb7e337ef48277941a7fd9321887a7dd1265a047502f28cbcb4bd23cef", func := "loop.example/g00810/laws.FnCertain", spec := "fnCertain", apart := false, narrowed := true }
def FnCertainUptoSaid : Prop := fnCertainUptoRow.holds Tryz.pinned (OpenSpec.upto fnCertainSpec)

/-- 'laws.FnReorder', WHERE WHAT IT READS IS OF BULK AT MOST 1048576: true; the input reads as it did. -/
def fnReorderUptoRow : OpenClaim := { program := "ytlhoochohnnepaagreat", sum := "a9a917eb7e337ef48277941a7fd9321887a7dd1265a047502f28cbcb4bd23cef", func := "loop.example/g00810/laws.FnReorder", spec := "fnReorder", apart := false, narrowed := true }
def FnReorderUptoSaid : Prop := fnReorderUptoRow.holds Tryz.pinned (OpenSpec.upto fnReorderSpec)

end Rows
end Go.Proofs.YtlhoochohnnepaaGreat
