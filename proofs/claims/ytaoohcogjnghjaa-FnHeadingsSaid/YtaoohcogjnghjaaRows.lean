/-
  No cell of these rows narrows 'for every input' (looked for: loops, veiled, ifaces, maps, wideKeys, modest, calm, conditions, laid).
  DERIVED. THE GIVEN ROWS OF THIS SEAT. 7 by the template 'for every input the law returns true; each argument reads behind the call as it read before'; 0 by the template 'total and deterministic' (their statements: YtaoohcogjnghjaaTotals.lean).
  GIVEN WITH THE SEED: the statements are not yours to turn. If you find one false, say at which input.
  Laid BY PROGRAM, IN A SANDBOX (cutbox-rows.mjs): the forced cells as the released guide's own fill.sh prints them over the translation f49adec4141a0b44… (all of the seat's roots in one cut). By AI agents, Wed Nov 11 2026. No macro, syntax, notation, axiom, sorry.
-/
import Derived.Test.YtaoohcogjnghjaaChecked
import GoSem.Claim
import GoSem.ClaimJoined
import GoSem.ClaimMapViews
import Derived.JoinedTies
import Derived.KernelRfl
namespace Go.Proofs.Ytaoohcogjnghjaa
/- THE CELL 'sum', in the pinned program and in every row, IS THE sha256 OF THE DUMP (.gsa) THAT YtaoohcogjnghjaaProg.lean LOADS. Nothing in Lean hashes anything: it is a label: what it is worth is what the hold of that sum in a sandbox is worth. -/
noncomputable def Try.pinned : Pinned := { name := "ytaoohcogjnghjaa", sum := "f49adec4141a0b44a0ef3099422e85ed673f7c17d843d0c900487a400122e011", checked := Try.checked }
namespace Rows
def none {H : Type} : Left H := { results := [], args := [] }

/-- 'laws.FnExactFactorIds': WHATEVER THE INPUT: true; the input reads as it did. -/
def fnExactFactorIdsSpec : ChangeSpec := { name := "fnExactFactorIds", fn := fun _ => fun
  | [d1, d2] => { results := [.lit (.bool true)], args := [d1, d2] }
  | _ => none }
def fnExactFactorIdsRow : OpenClaim := { program := "ytaoohcogjnghjaa", sum := "f49adec4141a0b44a0ef3099422e85ed673f7c17d843d0c900487a400122e011", func := "loop.example/g00810/laws.FnExactFactorIds", spec := "fnExactFactorIds", apart := false }
def FnExactFactorIdsSaid : Prop := fnExactFactorIdsRow.holds Try.pinned (OpenSpec.ofChange fnExactFactorIdsSpec)

/-- ITS FALSE NEIGHBOUR: 'it returns false'. Refute it at one input. -/
def fnExactFactorIdsWrong : ChangeSpec := { name := "fnExactFactorIds", fn := fun _ => fun
  | [d1, d2] => { results := [.lit (.bool false)], args := [d1, d2] }
  | _ => none }
def FnExactFactorIdsWrongFalsely : Prop := fnExactFactorIdsRow.holds Try.pinned (OpenSpec.ofChange fnExactFactorIdsWrong)

/-- 'laws.FnExactPathLength': WHATEVER THE INPUT: true; the input reads as it did. -/
def fnExactPathLengthSpec : ChangeSpec := { name := "fnExactPathLength", fn := fun _ => fun
  | [d] => { results := [.lit (.bool true)], args := [d] }
  | _ => none }
def fnExactPathLengthRow : OpenClaim := { program := "ytaoohcogjnghjaa", sum := "f49adec4141a0b44a0ef3099422e85ed673f7c17d843d0c900487a400122e011", func := "loop.example/g00810/laws.FnExactPathLength", spec := "fnExactPathLength", apart := false }
def FnExactPathLengthSaid : Prop := fnExactPathLengthRow.holds Try.pinned (OpenSpec.ofChange fnExactPathLengthSpec)

/-- ITS FALSE NEIGHBOUR: 'it returns false'. Refute it at one input. -/
def fnExactPathLengthWrong : ChangeSpec := { name := "fnExactPathLength", fn := fun _ => fun
  | [d] => { results := [.lit (.bool false)], args := [d] }
  | _ => none }
def FnExactPathLengthWrongFalsely : Prop := fnExactPathLengthRow.holds Try.pinned (OpenSpec.ofChange fnExactPathLengthWrong)

/-- 'laws.FnExactHeadingOf': WHATEVER THE INPUT: true; the input reads as it did. -/
def fnExactHeadingOfSpec : ChangeSpec := { name := "fnExactHeadingOf", fn := fun _ => fun
  | [d1, d2] => { results := [.lit (.bool true)], args := [d1, d2] }
  | _ => none }
def fnExactHeadingOfRow : OpenClaim := { program := "ytaoohcogjnghjaa", sum := "f49adec4141a0b44a0ef3099422e85ed673f7c17d843d0c900487a400122e011", func := "loop.example/g00810/laws.FnExactHeadingOf", spec := "fnExactHeadingOf", apart := false }
def FnExactHeadingOfSaid : Prop := fnExactHeadingOfRow.holds Try.pinned (OpenSpec.ofChange fnExactHeadingOfSpec)

/-- ITS FALSE NEIGHBOUR: 'it returns false'. Refute it at one input. -/
def fnExactHeadingOfWrong : ChangeSpec := { name := "fnExactHeadingOf", fn := fun _ => fun
  | [d1, d2] => { results := [.lit (.bool false)], args := [d1, d2] }
  | _ => none }
def FnExactHeadingOfWrongFalsely : Prop := fnExactHeadingOfRow.holds Try.pinned (OpenSpec.ofChange fnExactHeadingOfWrong)

/-- 'laws.FnHeadings': WHATEVER THE INPUT: true; the input reads as it did. -/
def fnHeadingsSpec : ChangeSpec := { name := "fnHeadings", fn := fun _ => fun
  | [d] => { results := [.lit (.bool true)], args := [d] }
  | _ => none }
def fnHeadingsRow : OpenClaim := { program := "ytaoohcogjnghjaa", sum := "f49adec4141a0b44a0ef3099422e85ed673f7c17d843d0c900487a400122e011", func := "loop.example/g00810/laws.FnHeadings", spec := "fnHeadings", recurses := true, apart := false }
def FnHeadingsSaid : Prop := fnHeadingsRow.holds Try.pinned (OpenSpec.ofChange fnHeadingsSpec)

/-- ITS FALSE NEIGHBOUR: 'it returns false'. Refute it at one input. -/
def fnHeadingsWrong : ChangeSpec := { name := "fnHeadings", fn := fun _ => fun
  | [d] => { results := [.lit (.bool false)], args := [d] }
  | _ => none }
def FnHeadingsWrongFalsely : Prop := fnHeadingsRow.holds Try.pinned (OpenSpec.ofChange fnHeadingsWrong)

/-- 'laws.FnExactHeadingsOf': WHATEVER THE INPUT: true; the input reads as it did. -/
def fnExactHeadingsOfSpec : ChangeSpec := { name := "fnExactHeadingsOf", fn := fun _ => fun
  | [d] => { results := [.lit (.bool true)], args := [d] }
  | _ => none }
def fnExactHeadingsOfRow : OpenClaim := { program := "ytaoohcogjnghjaa", sum := "f49adec4141a0b44a0ef3099422e85ed673f7c17d843d0c900487a400122e011", func := "loop.example/g00810/laws.FnExactHeadingsOf", spec := "fnExactHeadingsOf", apart := false }
def FnExactHeadingsOfSaid : Prop := fnExactHeadingsOfRow.holds Try.pinned (OpenSpec.ofChange fnExactHeadingsOfSpec)

/-- ITS FALSE NEIGHBOUR: 'it returns false'. Refute it at one input. -/
def fnExactHeadingsOfWrong : ChangeSpec := { name := "fnExactHeadingsOf", fn := fun _ => fun
  | [d] => { results := [.lit (.bool false)], args := [d] }
  | _ => none }
def FnExactHeadingsOfWrongFalsely : Prop := fnExactHeadingsOfRow.holds Try.pinned (OpenSpec.ofChange fnExactHeadingsOfWrong)

/-- 'laws.FnExactHeadingConflicts': WHATEVER THE INPUT: true; the input reads as it did. -/
def fnExactHeadingConflictsSpec : ChangeSpec := { name := "fnExactHeadingConflicts", fn := fun _ => fun
  | [d] => { results := [.lit (.bool true)], args := [d] }
  | _ => none }
def fnExactHeadingConflictsRow : OpenClaim := { program := "ytaoohcogjnghjaa", sum := "f49adec4141a0b44a0ef3099422e85ed673f7c17d843d0c900487a400122e011", func := "loop.example/g00810/laws.FnExactHeadingConflicts", spec := "fnExactHeadingConflicts", apart := false }
def FnExactHeadingConflictsSaid : Prop := fnExactHeadingConflictsRow.holds Try.pinned (OpenSpec.ofChange fnExactHeadingConflictsSpec)

/-- ITS FALSE NEIGHBOUR: 'it returns false'. Refute it at one input. -/
def fnExactHeadingConflictsWrong : ChangeSpec := { name := "fnExactHeadingConflicts", fn := fun _ => fun
  | [d] => { results := [.lit (.bool false)], args := [d] }
  | _ => none }
def FnExactHeadingConflictsWrongFalsely : Prop := fnExactHeadingConflictsRow.holds Try.pinned (OpenSpec.ofChange fnExactHeadingConflictsWrong)

/-- 'laws.FnExactDeadReckoning': WHATEVER THE INPUT: true; the input reads as it did. -/
def fnExactDeadReckoningSpec : ChangeSpec := { name := "fnExactDeadReckoning", fn := fun _ => fun
  | [d] => { results := [.lit (.bool true)], args := [d] }
  | _ => none }
def fnExactDeadReckoningRow : OpenClaim := { program := "ytaoohcogjnghjaa", sum := "f49adec4141a0b44a0ef3099422e85ed673f7c17d843d0c900487a400122e011", func := "loop.example/g00810/laws.FnExactDeadReckoning", spec := "fnExactDeadReckoning", apart := false }
def FnExactDeadReckoningSaid : Prop := fnExactDeadReckoningRow.holds Try.pinned (OpenSpec.ofChange fnExactDeadReckoningSpec)

/-- ITS FALSE NEIGHBOUR: 'it returns false'. Refute it at one input. -/
def fnExactDeadReckoningWrong : ChangeSpec := { name := "fnExactDeadReckoning", fn := fun _ => fun
  | [d] => { results := [.lit (.bool false)], args := [d] }
  | _ => none }
def FnExactDeadReckoningWrongFalsely : Prop := fnExactDeadReckoningRow.holds Try.pinned (OpenSpec.ofChange fnExactDeadReckoningWrong)

/- THE SECOND FORM. 'bulk': how many values and letters a reading holds, each counted each time it is reached (what is shared counts as often as it is met; a slice's spare places count too). A statement '..UptoSaid' is the law's where the arguments, and the package variables that the reading takes, are together of bulk at most 1048576: NARROWER than '..Said'. Prove '..Said' where nothing that the law and all that it calls make is longer than what came in: it says more and counts as full. Else prove '..UptoSaid'. A law counts once. -/
mutual
def uptoBulk {H : Type} : DataW H → Nat
  | .lit (.string bytes) => bytes.length + 1
  | .lit _ => 1
  | .nil => 1
  | .ptr d => uptoBulk d + 1
  | .slice elems spare => uptoBulkAll elems + uptoBulkAll spare + 1
  | .agg parts => uptoBulkAll parts + 1
  | .iface _ d => uptoBulk d + 1
  | .map entries => uptoBulkEntries entries + 1
  | .held _ => 1
def uptoBulkAll {H : Type} : List (DataW H) → Nat
  | [] => 0
  | d :: r => uptoBulk d + uptoBulkAll r
def uptoBulkEntries {H : Type} : List (Lit × DataW H) → Nat
  | [] => 0
  | x :: r => uptoBulkEntry x + uptoBulkEntries r
def uptoBulkEntry {H : Type} : Lit × DataW H → Nat
  | (.string bytes, d) => bytes.length + uptoBulk d + 1
  | (_, d) => uptoBulk d + 1
 end
def uptoSmall : (H : Type) → List (DataW H) → Bool := fun _ ds => decide (uptoBulkAll ds ≤ 1048576)
def OpenSpec.upto (s : _root_.Go.ChangeSpec) : _root_.Go.OpenSpec := { _root_.Go.OpenSpec.ofChange s with cond := some uptoSmall }

/-- 'laws.FnExactFactorIds', WHERE WHAT IT READS IS OF BULK AT MOST 1048576: true; the input reads as it did. -/
def fnExactFactorIdsUptoRow : OpenClaim := { program := "ytaoohcogjnghjaa", sum := "f49adec4141a0b44a0ef3099422e85ed673f7c17d843d0c900487a400122e011", func := "loop.example/g00810/laws.FnExactFactorIds", spec := "fnExactFactorIds", apart := false, narrowed := true }
def FnExactFactorIdsUptoSaid : Prop := fnExactFactorIdsUptoRow.holds Try.pinned (OpenSpec.upto fnExactFactorIdsSpec)

/-- 'laws.FnExactPathLength', WHERE WHAT IT READS IS OF BULK AT MOST 1048576: true; the input reads as it did. -/
def fnExactPathLengthUptoRow : OpenClaim := { program := "ytaoohcogjnghjaa", sum := "f49adec4141a0b44a0ef3099422e85ed673f7c17d843d0c900487a400122e011", func := "loop.example/g00810/laws.FnExactPathLength", spec := "fnExactPathLength", apart := false, narrowed := true }
def FnExactPathLengthUptoSaid : Prop := fnExactPathLengthUptoRow.holds Try.pinned (OpenSpec.upto fnExactPathLengthSpec)

/-- 'laws.FnExactHeadingOf', WHERE WHAT IT READS IS OF BULK AT MOST 1048576: true; the input reads as it did. -/
def fnExactHeadingOfUptoRow : OpenClaim := { program := "ytaoohcogjnghjaa", sum := "f49adec4141a0b44a0ef3099422e85ed673f7c17d843d0c900487a400122e011", func := "loop.example/g00810/laws.FnExactHeadingOf", spec := "fnExactHeadingOf", apart := false, narrowed := true }
def FnExactHeadingOfUptoSaid : Prop := fnExactHeadingOfUptoRow.holds Try.pinned (OpenSpec.upto fnExactHeadingOfSpec)

/-- 'laws.FnHeadings', WHERE WHAT IT READS IS OF BULK AT MOST 1048576: true; the input reads as it did. -/
def fnHeadingsUptoRow : OpenClaim := { program := "ytaoohcogjnghjaa", sum := "f49adec4141a0b44a0ef3099422e85ed673f7c17d843d0c900487a400122e011", func := "loop.example/g00810/laws.FnHeadings", spec := "fnHeadings", recurses := true, apart := false, narrowed := true }
def FnHeadingsUptoSaid : Prop := fnHeadingsUptoRow.holds Try.pinned (OpenSpec.upto fnHeadingsSpec)

/-- 'laws.FnExactHeadingsOf', WHERE WHAT IT READS IS OF BULK AT MOST 1048576: true; the input reads as it did. -/
def fnExactHeadingsOfUptoRow : OpenClaim := { program := "ytaoohcogjnghjaa", sum := "f49adec4141a0b44a0ef3099422e85ed673f7c17d843d0c900487a400122e011", func := "loop.example/g00810/laws.FnExactHeadingsOf", spec := "fnExactHeadingsOf", apart := false, narrowed := true }
def FnExactHeadingsOfUptoSaid : Prop := fnExactHeadingsOfUptoRow.holds Try.pinned (OpenSpec.upto fnExactHeadingsOfSpec)

/-- 'laws.FnExactHeadingConflicts', WHERE WHAT IT READS IS OF BULK AT MOST 1048576: true; the input reads as it did. -/
def fnExactHeadingConflictsUptoRow : OpenClaim := { program := "ytaoohcogjnghjaa", sum := "f49adec4141a0b44a0ef3099422e85ed673f7c17d843d0c900487a400122e011", func := "loop.example/g00810/laws.FnExactHeadingConflicts", spec := "fnExactHeadingConflicts", apart := false, narrowed := true }
def FnExactHeadingConflictsUptoSaid : Prop := fnExactHeadingConflictsUptoRow.holds Try.pinned (OpenSpec.upto fnExactHeadingConflictsSpec)

/-- 'laws.FnExactDeadReckoning', WHERE WHAT IT READS IS OF BULK AT MOST 1048576: true; the input reads as it did. -/
def fnExactDeadReckoningUptoRow : OpenClaim := { program := "ytaoohcogjnghjaa", sum := "f49adec4141a0b44a0ef3099422e85ed673f7c17d843d0c900487a400122e011", func := "loop.example/g00810/laws.FnExactDeadReckoning", spec := "fnExactDeadReckoning", apart := false, narrowed := true }
def FnExactDeadReckoningUptoSaid : Prop := fnExactDeadReckoningUptoRow.holds Try.pinned (OpenSpec.upto fnExactDeadReckoningSpec)

end Rows
end Go.Proofs.Ytaoohcogjnghjaa
