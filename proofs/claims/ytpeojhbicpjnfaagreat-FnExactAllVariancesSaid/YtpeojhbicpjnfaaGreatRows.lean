/-
  No cell of these rows narrows 'for every input' (looked for: loops, veiled, ifaces, maps, wideKeys, modest, calm, conditions, laid).
  DERIVED. THE GIVEN ROWS OF THIS SEAT. 8 by the template 'for every input the law returns true; each argument reads behind the call as it read before'; 0 by the template 'total and deterministic' (their statements: YtpeojhbicpjnfaaGreatTotals.lean).
  GIVEN WITH THE SEED: the statements are not yours to turn. If you find one false, say at which input.
  Laid BY PROGRAM, IN A SANDBOX (cutbox-rows.mjs): the forced cells as the released guide's own fill.sh prints them over the translation 5f82597c071518df… (all of the seat's roots in one cut). By AI agents, Wed Nov 11 2026. No macro, syntax, notation, axiom, sorry.
-/
import Derived.Test.YtpeojhbicpjnfaaGreatChecked
import GoSem.Claim
import GoSem.ClaimJoined
import GoSem.ClaimMapViews
import Derived.JoinedTies
import Derived.KernelRfl
namespace Go.Proofs.YtpeojhbicpjnfaaGreat
/- THE CELL 'sum', in the pinned program and in every row, IS THE sha256 OF THE DUMP (.gsa) THAT YtpeojhbicpjnfaaGreatProg.lean LOADS. Nothing in Lean hashes anything: it is a label: what it is worth is what the hold of that sum in a sandbox is worth. -/
noncomputable def Tryz.pinned : Pinned := { name := "ytpeojhbicpjnfaagreat", sum := "5f82597c071518dfbfaeac16aad52827a3110d618826f3fe9461888579149a96", checked := Tryz.checked }
namespace Rows
def none {H : Type} : Left H := { results := [], args := [] }

/-- 'laws.FnExactNetCovariance': WHATEVER THE INPUT: true; the input reads as it did. -/
def fnExactNetCovarianceSpec : ChangeSpec := { name := "fnExactNetCovariance", fn := fun _ => fun
  | [d1, d2, d3] => { results := [.lit (.bool true)], args := [d1, d2, d3] }
  | _ => none }
def fnExactNetCovarianceRow : OpenClaim := { program := "ytpeojhbicpjnfaagreat", sum := "5f82597c071518dfbfaeac16aad52827a3110d618826f3fe9461888579149a96", func := "loop.example/g00810/laws.FnExactNetCovariance", spec := "fnExactNetCovariance", apart := false }
def FnExactNetCovarianceSaid : Prop := fnExactNetCovarianceRow.holds Tryz.pinned (OpenSpec.ofChange fnExactNetCovarianceSpec)

/-- ITS FALSE NEIGHBOUR: 'it returns false'. Refute it at one input. -/
def fnExactNetCovarianceWrong : ChangeSpec := { name := "fnExactNetCovariance", fn := fun _ => fun
  | [d1, d2, d3] => { results := [.lit (.bool false)], args := [d1, d2, d3] }
  | _ => none }
def FnExactNetCovarianceWrongFalsely : Prop := fnExactNetCovarianceRow.holds Tryz.pinned (OpenSpec.ofChange fnExactNetCovarianceWrong)

/-- 'laws.FnExactLeastCertain': WHATEVER THE INPUT: true; the input reads as it did. -/
def fnExactLeastCertainSpec : ChangeSpec := { name := "fnExactLeastCertain", fn := fun _ => fun
  | [d] => { results := [.lit (.bool true)], args := [d] }
  | _ => none }
def fnExactLeastCertainRow : OpenClaim := { program := "ytpeojhbicpjnfaagreat", sum := "5f82597c071518dfbfaeac16aad52827a3110d618826f3fe9461888579149a96", func := "loop.example/g00810/laws.FnExactLeastCertain", spec := "fnExactLeastCertain", apart := false }
def FnExactLeastCertainSaid : Prop := fnExactLeastCertainRow.holds Tryz.pinned (OpenSpec.ofChange fnExactLeastCertainSpec)

/-- ITS FALSE NEIGHBOUR: 'it returns false'. Refute it at one input. -/
def fnExactLeastCertainWrong : ChangeSpec := { name := "fnExactLeastCertain", fn := fun _ => fun
  | [d] => { results := [.lit (.bool false)], args := [d] }
  | _ => none }
def FnExactLeastCertainWrongFalsely : Prop := fnExactLeastCertainRow.holds Tryz.pinned (OpenSpec.ofChange fnExactLeastCertainWrong)

/-- 'laws.FnExactMostCertain': WHATEVER THE INPUT: true; the input reads as it did. -/
def fnExactMostCertainSpec : ChangeSpec := { name := "fnExactMostCertain", fn := fun _ => fun
  | [d] => { results := [.lit (.bool true)], args := [d] }
  | _ => none }
def fnExactMostCertainRow : OpenClaim := { program := "ytpeojhbicpjnfaagreat", sum := "5f82597c071518dfbfaeac16aad52827a3110d618826f3fe9461888579149a96", func := "loop.example/g00810/laws.FnExactMostCertain", spec := "fnExactMostCertain", apart := false }
def FnExactMostCertainSaid : Prop := fnExactMostCertainRow.holds Tryz.pinned (OpenSpec.ofChange fnExactMostCertainSpec)

/-- ITS FALSE NEIGHBOUR: 'it returns false'. Refute it at one input. -/
def fnExactMostCertainWrong : ChangeSpec := { name := "fnExactMostCertain", fn := fun _ => fun
  | [d] => { results := [.lit (.bool false)], args := [d] }
  | _ => none }
def FnExactMostCertainWrongFalsely : Prop := fnExactMostCertainRow.holds Tryz.pinned (OpenSpec.ofChange fnExactMostCertainWrong)

/-- 'laws.FnExactCovarianceOf': WHATEVER THE INPUT: true; the input reads as it did. -/
def fnExactCovarianceOfSpec : ChangeSpec := { name := "fnExactCovarianceOf", fn := fun _ => fun
  | [d1, d2, d3] => { results := [.lit (.bool true)], args := [d1, d2, d3] }
  | _ => none }
def fnExactCovarianceOfRow : OpenClaim := { program := "ytpeojhbicpjnfaagreat", sum := "5f82597c071518dfbfaeac16aad52827a3110d618826f3fe9461888579149a96", func := "loop.example/g00810/laws.FnExactCovarianceOf", spec := "fnExactCovarianceOf", apart := false }
def FnExactCovarianceOfSaid : Prop := fnExactCovarianceOfRow.holds Tryz.pinned (OpenSpec.ofChange fnExactCovarianceOfSpec)

/-- ITS FALSE NEIGHBOUR: 'it returns false'. Refute it at one input. -/
def fnExactCovarianceOfWrong : ChangeSpec := { name := "fnExactCovarianceOf", fn := fun _ => fun
  | [d1, d2, d3] => { results := [.lit (.bool false)], args := [d1, d2, d3] }
  | _ => none }
def FnExactCovarianceOfWrongFalsely : Prop := fnExactCovarianceOfRow.holds Tryz.pinned (OpenSpec.ofChange fnExactCovarianceOfWrong)

/-- 'laws.FnExactVarianceOf': WHATEVER THE INPUT: true; the input reads as it did. -/
def fnExactVarianceOfSpec : ChangeSpec := { name := "fnExactVarianceOf", fn := fun _ => fun
  | [d1, d2] => { results := [.lit (.bool true)], args := [d1, d2] }
  | _ => none }
def fnExactVarianceOfRow : OpenClaim := { program := "ytpeojhbicpjnfaagreat", sum := "5f82597c071518dfbfaeac16aad52827a3110d618826f3fe9461888579149a96", func := "loop.example/g00810/laws.FnExactVarianceOf", spec := "fnExactVarianceOf", apart := false }
def FnExactVarianceOfSaid : Prop := fnExactVarianceOfRow.holds Tryz.pinned (OpenSpec.ofChange fnExactVarianceOfSpec)

/-- ITS FALSE NEIGHBOUR: 'it returns false'. Refute it at one input. -/
def fnExactVarianceOfWrong : ChangeSpec := { name := "fnExactVarianceOf", fn := fun _ => fun
  | [d1, d2] => { results := [.lit (.bool false)], args := [d1, d2] }
  | _ => none }
def FnExactVarianceOfWrongFalsely : Prop := fnExactVarianceOfRow.holds Tryz.pinned (OpenSpec.ofChange fnExactVarianceOfWrong)

/-- 'laws.FnExactRelativeVariance': WHATEVER THE INPUT: true; the input reads as it did. -/
def fnExactRelativeVarianceSpec : ChangeSpec := { name := "fnExactRelativeVariance", fn := fun _ => fun
  | [d1, d2, d3] => { results := [.lit (.bool true)], args := [d1, d2, d3] }
  | _ => none }
def fnExactRelativeVarianceRow : OpenClaim := { program := "ytpeojhbicpjnfaagreat", sum := "5f82597c071518dfbfaeac16aad52827a3110d618826f3fe9461888579149a96", func := "loop.example/g00810/laws.FnExactRelativeVariance", spec := "fnExactRelativeVariance", apart := false }
def FnExactRelativeVarianceSaid : Prop := fnExactRelativeVarianceRow.holds Tryz.pinned (OpenSpec.ofChange fnExactRelativeVarianceSpec)

/-- ITS FALSE NEIGHBOUR: 'it returns false'. Refute it at one input. -/
def fnExactRelativeVarianceWrong : ChangeSpec := { name := "fnExactRelativeVariance", fn := fun _ => fun
  | [d1, d2, d3] => { results := [.lit (.bool false)], args := [d1, d2, d3] }
  | _ => none }
def FnExactRelativeVarianceWrongFalsely : Prop := fnExactRelativeVarianceRow.holds Tryz.pinned (OpenSpec.ofChange fnExactRelativeVarianceWrong)

/-- 'laws.FnExactSolveTree': WHATEVER THE INPUT: true; the input reads as it did. -/
def fnExactSolveTreeSpec : ChangeSpec := { name := "fnExactSolveTree", fn := fun _ => fun
  | [d] => { results := [.lit (.bool true)], args := [d] }
  | _ => none }
def fnExactSolveTreeRow : OpenClaim := { program := "ytpeojhbicpjnfaagreat", sum := "5f82597c071518dfbfaeac16aad52827a3110d618826f3fe9461888579149a96", func := "loop.example/g00810/laws.FnExactSolveTree", spec := "fnExactSolveTree", apart := false }
def FnExactSolveTreeSaid : Prop := fnExactSolveTreeRow.holds Tryz.pinned (OpenSpec.ofChange fnExactSolveTreeSpec)

/-- ITS FALSE NEIGHBOUR: 'it returns false'. Refute it at one input. -/
def fnExactSolveTreeWrong : ChangeSpec := { name := "fnExactSolveTree", fn := fun _ => fun
  | [d] => { results := [.lit (.bool false)], args := [d] }
  | _ => none }
def FnExactSolveTreeWrongFalsely : Prop := fnExactSolveTreeRow.holds Tryz.pinned (OpenSpec.ofChange fnExactSolveTreeWrong)

/-- 'laws.FnExactAllVariances': WHATEVER THE INPUT: true; the input reads as it did. -/
def fnExactAllVariancesSpec : ChangeSpec := { name := "fnExactAllVariances", fn := fun _ => fun
  | [d] => { results := [.lit (.bool true)], args := [d] }
  | _ => none }
def fnExactAllVariancesRow : OpenClaim := { program := "ytpeojhbicpjnfaagreat", sum := "5f82597c071518dfbfaeac16aad52827a3110d618826f3fe9461888579149a96", func := "loop.example/g00810/laws.FnExactAllVariances", spec := "fnExactAllVariances", apart := false }
def FnExactAllVariancesSaid : Prop := fnExactAllVariancesRow.holds Tryz.pinned (OpenSpec.ofChange fnExactAllVariancesSpec)

/-- ITS FALSE NEIGHBOUR: 'it returns false'. Refute it at one input. -/
def fnExactAllVariancesWrong : ChangeSpec := { name := "fnExactAllVariances", fn := fun _ => fun
  | [d] => { results := [.lit (.bool false)], args := [d] }
  | _ => none }
def FnExactAllVariancesWrongFalsely : Prop := fnExactAllVariancesRow.holds Tryz.pinned (OpenSpec.ofChange fnExactAllVariancesWrong)

/- THE SECOND FORM. 'bulk': how many values and letters a reading holds, each counted each time it is reached (what is shared counts as often as it is met; a slice's spare places count too). A statement '..UptoSaid' is the law's where the arguments, and the package variables that the reading takes, are together of bulk at most 1048576: NARROWER than '..Said'. Prove '..Said' where nothing that the law and all that it calls make is longer than what came in: it says more and counts as full. Else prove '..UptoSaid'. A law counts once. -/
mutual
def uptoBulk {H : Type} : DataW H → Nat
  | .lit (.string bytes) => bytes.length + 1
  | .lit _ => 1
  | .nil => 1
  | .ptr d => uptoBulk d + 1
  | .slice elems spare => uptoBulkAll elems + uptoBulkAll spare + 1
  | .agg parts => uptoBulkAll parts + 1
  | .iface _ d => uptoBulk d + 1
  | .map entries => uptoBulkEntries entries + 1
  | .held _ => 1
def uptoBulkAll {H : Type} : List (DataW H) → Nat
  | [] => 0
  | d :: r => uptoBulk d + uptoBulkAll r
def uptoBulkEntries {H : Type} : List (Lit × DataW H) → Nat
  | [] => 0
  | x :: r => uptoBulkEntry x + uptoBulkEntries r
def uptoBulkEntry {H : Type} : Lit × DataW H → Nat
  | (.string bytes, d) => bytes.length + uptoBulk d + 1
  | (_, d) => uptoBulk d + 1
 end
def uptoSmall : (H : Type) → List (DataW H) → Bool := fun _ ds => decide (uptoBulkAll ds ≤ 1048576)
def OpenSpec.upto (s : _root_.Go.ChangeSpec) : _root_.Go.OpenSpec := { _root_.Go.OpenSpec.ofChange s with cond := some uptoSmall }

/-- 'laws.FnExactNetCovariance', WHERE WHAT IT READS IS OF BULK AT MOST 1048576: true; the input reads as it did. -/
def fnExactNetCovarianceUptoRow : OpenClaim := { program := "ytpeojhbicpjnfaagreat", sum := "5f82597c071518dfbfaeac16aad52827a3110d618826f3fe9461888579149a96", func := "loop.example/g00810/laws.FnExactNetCovariance", spec := "fnExactNetCovariance", apart := false, narrowed := true }
def FnExactNetCovarianceUptoSaid : Prop := fnExactNetCovarianceUptoRow.holds Tryz.pinned (OpenSpec.upto fnExactNetCovarianceSpec)

/-- 'laws.FnExactLeastCertain', WHERE WHAT IT READS IS OF BULK AT MOST 1048576: true; the input reads as it did. -/
def fnExactLeastCertainUptoRow : OpenClaim := { program := "ytpeojhbicpjnfaagreat", sum := "5f82597c071518dfbfaeac16aad52827a3110d618826f3fe9461888579149a96", func := "loop.example/g00810/laws.FnExactLeastCertain", spec := "fnExactLeastCertain", apart := false, narrowed := true }
def FnExactLeastCertainUptoSaid : Prop := fnExactLeastCertainUptoRow.holds Tryz.pinned (OpenSpec.upto fnExactLeastCertainSpec)

/-- 'laws.FnExactMostCertain', WHERE WHAT IT READS IS OF BULK AT MOST 1048576: true; the input reads as it did. -/
def fnExactMostCertainUptoRow : OpenClaim := { program := "ytpeojhbicpjnfaagreat", sum := "5f82597c071518dfbfaeac16aad52827a3110d618826f3fe9461888579149a96", func := "loop.example/g00810/laws.FnExactMostCertain", spec := "fnExactMostCertain", apart := false, narrowed := true }
def FnExactMostCertainUptoSaid : Prop := fnExactMostCertainUptoRow.holds Tryz.pinned (OpenSpec.upto fnExactMostCertainSpec)

/-- 'laws.FnExactCovarianceOf', WHERE WHAT IT READS IS OF BULK AT MOST 1048576: true; the input reads as it did. -/
def fnExactCovarianceOfUptoRow : OpenClaim := { program := "ytpeojhbicpjnfaagreat", sum := "5f82597c071518dfbfaeac16aad52827a3110d618826f3fe9461888579149a96", func := "loop.example/g00810/laws.FnExactCovarianceOf", spec := "fnExactCovarianceOf", apart := false, narrowed := true }
def FnExactCovarianceOfUptoSaid : Prop := fnExactCovarianceOfUptoRow.holds Tryz.pinned (OpenSpec.upto fnExactCovarianceOfSpec)

/-- 'laws.FnExactVarianceOf', WHERE WHAT IT READS IS OF BULK AT MOST 1048576: true; the input reads as it did. -/
def fnExactVarianceOfUptoRow : OpenClaim := { program := "ytpeojhbicpjnfaagreat", sum := "5f82597c071518dfbfaeac16aad52827a3110d618826f3fe9461888579149a96", func := "loop.example/g00810/laws.FnExactVarianceOf", spec := "fnExactVarianceOf", apart := false, narrowed := true }
def FnExactVarianceOfUptoSaid : Prop := fnExactVarianceOfUptoRow.holds Tryz.pinned (OpenSpec.upto fnExactVarianceOfSpec)

/-- 'laws.FnExactRelativeVariance', WHERE WHAT IT READS IS OF BULK AT MOST 1048576: true; the input reads as it did. -/
def fnExactRelativeVarianceUptoRow : OpenClaim := { program := "ytpeojhbicpjnfaagreat", sum := "5f82597c071518dfbfaeac16aad52827a3110d618826f3fe9461888579149a96", func := "loop.example/g00810/laws.FnExactRelativeVariance", spec := "fnExactRelativeVariance", apart := false, narrowed := true }
def FnExactRelativeVarianceUptoSaid : Prop := fnExactRelativeVarianceUptoRow.holds Tryz.pinned (OpenSpec.upto fnExactRelativeVarianceSpec)

/-- 'laws.FnExactSolveTree', WHERE WHAT IT READS IS OF BULK AT MOST 1048576: true; the input reads as it did. -/
def fnExactSolveTreeUptoRow : OpenClaim := { program := "ytpeojhbicpjnfaagreat", sum := "5f82597c071518dfbfaeac16aad52827a3110d618826f3fe9461888579149a96", func := "loop.example/g00810/laws.FnExactSolveTree", spec := "fnExactSolveTree", apart := false, narrowed := true }
def FnExactSolveTreeUptoSaid : Prop := fnExactSolveTreeUptoRow.holds Tryz.pinned (OpenSpec.upto fnExactSolveTreeSpec)

/-- 'laws.FnExactAllVariances', WHERE WHAT IT READS IS OF BULK AT MOST 1048576: true; the input reads as it did. -/
def fnExactAllVariancesUptoRow : OpenClaim := { program := "ytpeojhbicpjnfaagreat", sum := "5f82597c071518dfbfaeac16aad52827a3110d618826f3fe9461888579149a96", func := "loop.example/g00810/laws.FnExactAllVariances", spec := "fnExactAllVariances", apart := false, narrowed := true }
def FnExactAllVariancesUptoSaid : Prop := fnExactAllVariancesUptoRow.holds Tryz.pinned (OpenSpec.upto fnExactAllVariancesSpec)

end Rows
end Go.Proofs.YtpeojhbicpjnfaaGreat
