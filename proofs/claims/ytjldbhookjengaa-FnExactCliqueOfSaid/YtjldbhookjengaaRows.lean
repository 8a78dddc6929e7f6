/-
  No cell of these rows narrows 'for every input' (looked for: loops, veiled, ifaces, maps, wideKeys, modest, calm, conditions, laid).
  DERIVED. THE GIVEN ROWS OF THIS SEAT. 6 by the template 'for every input the law returns true; each argument reads behind the call as it read before'; 0 by the template 'total and deterministic' (their statements: YtjldbhookjengaaTotals.lean).
  GIVEN WITH THE SEED: the statements are not yours to turn. If you find one false, say at which input.
  Laid BY PROGRAM, IN A SANDBOX (cutbox-rows.mjs): the forced cells as the released guide's own fill.sh prints them over the translation 669d60a4b5ad7c2c… (all of the seat's roots in one cut). By AI agents, Wed Nov 11 2026. No macro, syntax, notation, axiom, sorry.
-/
import Derived.Test.YtjldbhookjengaaChecked
import GoSem.Claim
import GoSem.ClaimJoined
import GoSem.ClaimMapViews
import Derived.JoinedTies
import Derived.KernelRfl
namespace Go.Proofs.Ytjldbhookjengaa
/- THE CELL 'sum', in the pinned program and in every row, IS THE sha256 OF THE DUMP (.gsa) THAT YtjldbhookjengaaProg.lean LOADS. Nothing in Lean hashes anything: it is a label: what it is worth is what the hold of that sum in a sandbox is worth. -/
noncomputable def Try.pinned : Pinned := { name := "ytjldbhookjengaa", sum := "669d60a4b5ad7c2c2c1e069f96cfb1da0e6d611eafe3a738d243304dcd7b784b", checked := Try.checked }
namespace Rows
def none {H : Type} : Left H := { results := [], args := [] }

/-- 'laws.FnExactIsLandmarkName': WHATEVER THE INPUT: true; the input reads as it did. -/
def fnExactIsLandmarkNameSpec : ChangeSpec := { name := "fnExactIsLandmarkName", fn := fun _ => fun
  | [d] => { results := [.lit (.bool true)], args := [d] }
  | _ => none }
def fnExactIsLandmarkNameRow : OpenClaim := { program := "ytjldbhookjengaa", sum := "669d60a4b5ad7c2c2c1e069f96cfb1da0e6d611eafe3a738d243304dcd7b784b", func := "loop.example/g00810/laws.FnExactIsLandmarkName", spec := "fnExactIsLandmarkName", apart := false }
def FnExactIsLandmarkNameSaid : Prop := fnExactIsLandmarkNameRow.holds Try.pinned (OpenSpec.ofChange fnExactIsLandmarkNameSpec)

/-- ITS FALSE NEIGHBOUR: 'it returns false'. Refute it at one input. -/
def fnExactIsLandmarkNameWrong : ChangeSpec := { name := "fnExactIsLandmarkName", fn := fun _ => fun
  | [d] => { results := [.lit (.bool false)], args := [d] }
  | _ => none }
def FnExactIsLandmarkNameWrongFalsely : Prop := fnExactIsLandmarkNameRow.holds Try.pinned (OpenSpec.ofChange fnExactIsLandmarkNameWrong)

/-- 'laws.FnExactIsPoseName': WHATEVER THE INPUT: true; the input reads as it did. -/
def fnExactIsPoseNameSpec : ChangeSpec := { name := "fnExactIsPoseName", fn := fun _ => fun
  | [d] => { results := [.lit (.bool true)], args := [d] }
  | _ => none }
def fnExactIsPoseNameRow : OpenClaim := { program := "ytjldbhookjengaa", sum := "669d60a4b5ad7c2c2c1e069f96cfb1da0e6d611eafe3a738d243304dcd7b784b", func := "loop.example/g00810/laws.FnExactIsPoseName", spec := "fnExactIsPoseName", apart := false }
def FnExactIsPoseNameSaid : Prop := fnExactIsPoseNameRow.holds Try.pinned (OpenSpec.ofChange fnExactIsPoseNameSpec)

/-- ITS FALSE NEIGHBOUR: 'it returns false'. Refute it at one input. -/
def fnExactIsPoseNameWrong : ChangeSpec := { name := "fnExactIsPoseName", fn := fun _ => fun
  | [d] => { results := [.lit (.bool false)], args := [d] }
  | _ => none }
def FnExactIsPoseNameWrongFalsely : Prop := fnExactIsPoseNameRow.holds Try.pinned (OpenSpec.ofChange fnExactIsPoseNameWrong)

/-- 'laws.FnExactIsValidFactor': WHATEVER THE INPUT: true; the input reads as it did. -/
def fnExactIsValidFactorSpec : ChangeSpec := { name := "fnExactIsValidFactor", fn := fun _ => fun
  | [d] => { results := [.lit (.bool true)], args := [d] }
  | _ => none }
def fnExactIsValidFactorRow : OpenClaim := { program := "ytjldbhookjengaa", sum := "669d60a4b5ad7c2c2c1e069f96cfb1da0e6d611eafe3a738d243304dcd7b784b", func := "loop.example/g00810/laws.FnExactIsValidFactor", spec := "fnExactIsValidFactor", apart := false }
def FnExactIsValidFactorSaid : Prop := fnExactIsValidFactorRow.holds Try.pinned (OpenSpec.ofChange fnExactIsValidFactorSpec)

/-- ITS FALSE NEIGHBOUR: 'it returns false'. Refute it at one input. -/
def fnExactIsValidFactorWrong : ChangeSpec := { name := "fnExactIsValidFactor", fn := fun _ => fun
  | [d] => { results := [.lit (.bool false)], args := [d] }
  | _ => none }
def FnExactIsValidFactorWrongFalsely : Prop := fnExactIsValidFactorRow.holds Try.pinned (OpenSpec.ofChange fnExactIsValidFactorWrong)

/-- 'laws.FnExactCliqueOf': WHATEVER THE INPUT: true; the input reads as it did. -/
def fnExactCliqueOfSpec : ChangeSpec := { name := "fnExactCliqueOf", fn := fun _ => fun
  | [d1, d2] => { results := [.lit (.bool true)], args := [d1, d2] }
  | _ => none }
def fnExactCliqueOfRow : OpenClaim := { program := "ytjldbhookjengaa", sum := "669d60a4b5ad7c2c2c1e069f96cfb1da0e6d611eafe3a738d243304dcd7b784b", func := "loop.example/g00810/laws.FnExactCliqueOf", spec := "fnExactCliqueOf", apart := false }
def FnExactCliqueOfSaid : Prop := fnExactCliqueOfRow.holds Try.pinned (OpenSpec.ofChange fnExactCliqueOfSpec)

/-- ITS FALSE NEIGHBOUR: 'it returns false'. Refute it at one input. -/
def fnExactCliqueOfWrong : ChangeSpec := { name := "fnExactCliqueOf", fn := fun _ => fun
  | [d1, d2] => { results := [.lit (.bool false)], args := [d1, d2] }
  | _ => none }
def FnExactCliqueOfWrongFalsely : Prop := fnExactCliqueOfRow.holds Try.pinned (OpenSpec.ofChange fnExactCliqueOfWrong)

/-- 'laws.FnExactFactorIds': WHATEVER THE INPUT: true; the input reads as it did. -/
def fnExactFactorIdsSpec : ChangeSpec := { name := "fnExactFactorIds", fn := fun _ => fun
  | [d1, d2] => { results := [.lit (.bool true)], args := [d1, d2] }
  | _ => none }
def fnExactFactorIdsRow : OpenClaim := { program := "ytjldbhookjengaa", sum := "669d60a4b5ad7c2c2c1e069f96cfb1da0e6d611eafe3a738d243304dcd7b784b", func := "loop.example/g00810/laws.FnExactFactorIds", spec := "fnExactFactorIds", apart := false }
def FnExactFactorIdsSaid : Prop := fnExactFactorIdsRow.holds Try.pinned (OpenSpec.ofChange fnExactFactorIdsSpec)

/-- ITS FALSE NEIGHBOUR: 'it returns false'. Refute it at one input. -/
def fnExactFactorIdsWrong : ChangeSpec := { name := "fnExactFactorIds", fn := fun _ => fun
  | [d1, d2] => { results := [.lit (.bool false)], args := [d1, d2] }
  | _ => none }
def FnExactFactorIdsWrongFalsely : Prop := fnExactFactorIdsRow.holds Try.pinned (OpenSpec.ofChange fnExactFactorIdsWrong)

/-- 'laws.FnExactNamesOf': WHATEVER THE INPUT: true; the input reads as it did. -/
def fnExactNamesOfSpec : ChangeSpec := { name := "fnExactNamesOf", fn := fun _ => fun
  | [d] => { results := [.lit (.bool true)], args := [d] }
  | _ => none }
def fnExactNamesOfRow : OpenClaim := { program := "ytjldbhookjengaa", sum := "669d60a4b5ad7c2c2c1e069f96cfb1da0e6d611eafe3a738d243304dcd7b784b", func := "loop.example/g00810/laws.FnExactNamesOf", spec := "fnExactNamesOf", apart := false }
def FnExactNamesOfSaid : Prop := fnExactNamesOfRow.holds Try.pinned (OpenSpec.ofChange fnExactNamesOfSpec)

/-- ITS FALSE NEIGHBOUR: 'it returns false'. Refute it at one input. -/
def fnExactNamesOfWrong : ChangeSpec := { name := "fnExactNamesOf", fn := fun _ => fun
  | [d] => { results := [.lit (.bool false)], args := [d] }
  | _ => none }
def FnExactNamesOfWrongFalsely : Prop := fnExactNamesOfRow.holds Try.pinned (OpenSpec.ofChange fnExactNamesOfWrong)

/- THE SECOND FORM. 'bulk': how many values and letters a reading holds, each counted each time it is reached (what is shared counts as often as it is met; a slice's spare places count too). A statement '..UptoSaid' is the law's where the arguments, and the package variables that the reading takes, are together of bulk at most 1048576: NARROWER than '..Said'. Prove '..Said' where nothing that the law and all that it calls make is longer than what came in: it says more and counts as full. Else prove '..UptoSaid'. A law counts once. -/
mutual
def uptoBulk {H : Type} : DataW H → Nat
  | .lit (.string bytes) => bytes.length + 1
  | .lit _ => 1
  | .nil => 1
  | .ptr d => uptoBulk d + 1
  | .slice elems spare => uptoBulkAll elems + uptoBulkAll spare + 1
  | .agg parts => uptoBulkAll parts + 1
  | .iface _ d => uptoBulk d + 1
  | .map entries => uptoBulkEntries entries + 1
  | .held _ => 1
def uptoBulkAll {H : Type} : List (DataW H) → Nat
  | [] => 0
  | d :: r => uptoBulk d + uptoBulkAll r
def uptoBulkEntries {H : Type} : List (Lit × DataW H) → Nat
  | [] => 0
  | x :: r => uptoBulkEntry x + uptoBulkEntries r
def uptoBulkEntry {H : Type} : Lit × DataW H → Nat
  | (.string bytes, d) => bytes.length + uptoBulk d + 1
  | (_, d) => uptoBulk d + 1
 end
def uptoSmall : (H : Type) → List (DataW H) → Bool := fun _ ds => decide (uptoBulkAll ds ≤ 1048576)
def OpenSpec.upto (s : _root_.Go.ChangeSpec) : _root_.Go.OpenSpec := { _root_.Go.OpenSpec.ofChange s with cond := some uptoSmall }

/-- 'laws.FnExactIsLandmarkName', WHERE WHAT IT READS IS OF BULK AT MOST 1048576: true; the input reads as it did. -/
def fnExactIsLandmarkNameUptoRow : OpenClaim := { program := "ytjldbhookjengaa", sum := "669d60a4b5ad7c2c2c1e069f96cfb1da0e6d611eafe3a738d243304dcd7b784b", func := "loop.example/g00810/laws.FnExactIsLandmarkName", spec := "fnExactIsLandmarkName", apart := false, narrowed := true }
def FnExactIsLandmarkNameUptoSaid : Prop := fnExactIsLandmarkNameUptoRow.holds Try.pinned (OpenSpec.upto fnExactIsLandmarkNameSpec)

/-- 'laws.FnExactIsPoseName', WHERE WHAT IT READS IS OF BULK AT MOST 1048576: true; the input reads as it did. -/
def fnExactIsPoseNameUptoRow : OpenClaim := { program := "ytjldbhookjengaa", sum := "669d60a4b5ad7c2c2c1e069f96cfb1da0e6d611eafe3a738d243304dcd7b784b", func := "loop.example/g00810/laws.FnExactIsPoseName", spec := "fnExactIsPoseName", apart := false, narrowed := true }
def FnExactIsPoseNameUptoSaid : Prop := fnExactIsPoseNameUptoRow.holds Try.pinned (OpenSpec.upto fnExactIsPoseNameSpec)

/-- 'laws.FnExactIsValidFactor', WHERE WHAT IT READS IS OF BULK AT MOST 1048576: true; the input reads as it did. -/
def fnExactIsValidFactorUptoRow : OpenClaim := { program := "ytjldbhookjengaa", sum := "669d60a4b5ad7c2c2c1e069f96cfb1da0e6d611eafe3a738d243304dcd7b784b", func := "loop.example/g00810/laws.FnExactIsValidFactor", spec := "fnExactIsValidFactor", apart := false, narrowed := true }
def FnExactIsValidFactorUptoSaid : Prop := fnExactIsValidFactorUptoRow.holds Try.pinned (OpenSpec.upto fnExactIsValidFactorSpec)

/-- 'laws.FnExactCliqueOf', WHERE WHAT IT READS IS OF BULK AT MOST 1048576: true; the input reads as it did. -/
def fnExactCliqueOfUptoRow : OpenClaim := { program := "ytjldbhookjengaa", sum := "669d60a4b5ad7c2c2c1e069f96cfb1da0e6d611eafe3a738d243304dcd7b784b", func := "loop.example/g00810/laws.FnExactCliqueOf", spec := "fnExactCliqueOf", apart := false, narrowed := true }
def FnExactCliqueOfUptoSaid : Prop := fnExactCliqueOfUptoRow.holds Try.pinned (OpenSpec.upto fnExactCliqueOfSpec)

/-- 'laws.FnExactFactorIds', WHERE WHAT IT READS IS OF BULK AT MOST 1048576: true; the input reads as it did. -/
def fnExactFactorIdsUptoRow : OpenClaim := { program := "ytjldbhookjengaa", sum := "669d60a4b5ad7c2c2c1e069f96cfb1da0e6d611eafe3a738d243304dcd7b784b", func := "loop.example/g00810/laws.FnExactFactorIds", spec := "fnExactFactorIds", apart := false, narrowed := true }
def FnExactFactorIdsUptoSaid : Prop := fnExactFactorIdsUptoRow.holds Try.pinned (OpenSpec.upto fnExactFactorIdsSpec)

/-- 'laws.FnExactNamesOf', WHERE WHAT IT READS IS OF BULK AT MOST 1048576: true; the input reads as it did. -/
def fnExactNamesOfUptoRow : OpenClaim := { program := "ytjldbhookjengaa", sum := "669d60a4b5ad7c2c2c1e069f96cfb1da0e6d611eafe3a738d243304dcd7b784b", func := "loop.example/g00810/laws.FnExactNamesOf", spec := "fnExactNamesOf", apart := false, narrowed := true }
def FnExactNamesOfUptoSaid : Prop := fnExactNamesOfUptoRow.holds Try.pinned (OpenSpec.upto fnExactNamesOfSpec)

end Rows
end Go.Proofs.Ytjldbhookjengaa
