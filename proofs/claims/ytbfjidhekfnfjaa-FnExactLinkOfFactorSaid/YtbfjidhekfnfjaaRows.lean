/-
  No cell of these rows narrows 'for every input' (looked for: loops, veiled, ifaces, maps, wideKeys, modest, calm, conditions, laid).
  DERIVED. THE GIVEN ROWS OF THIS SEAT. 11 by the template 'for every input the law returns true; each argument reads behind the call as it read before'; 0 by the template 'total and deterministic' (their statements: YtbfjidhekfnfjaaTotals.lean).
  GIVEN WITH THE SEED: the statements are not yours to turn. If you find one false, say at which input.
  Laid BY PROGRAM, IN A SANDBOX (cutbox-rows.mjs): the forced cells as the released guide's own fill.sh prints them over the translation 103c31c8d9640b4a… (all of the seat's roots in one cut). By AI agents, Wed Nov 11 2026. No macro, syntax, notation, axiom, sorry.
-/
import Derived.Test.YtbfjidhekfnfjaaChecked
import GoSem.Claim
import GoSem.ClaimJoined
import GoSem.ClaimMapViews
import Derived.JoinedTies
import Derived.KernelRfl
namespace Go.Proofs.Ytbfjidhekfnfjaa
/- THE CELL 'sum', in the pinned program and in every row, IS THE sha256 OF THE DUMP (.gsa) THAT YtbfjidhekfnfjaaProg.lean LOADS. Nothing in Lean hashes anything: it is a label: what it is worth is what the hold of that sum in a sandbox is worth. -/
noncomputable def Try.pinned : Pinned := { name := "ytbfjidhekfnfjaa", sum := "103c31c8d9640b4a078a7a65f2c17fc1cf5f8fdf5496f462c46490dfb946ec41", checked := Try.checked }
namespace Rows
def none {H : Type} : Left H := { results := [], args := [] }

/-- 'laws.FnExactHeadingConflicts': WHATEVER THE INPUT: true; the input reads as it did. -/
def fnExactHeadingConflictsSpec : ChangeSpec := { name := "fnExactHeadingConflicts", fn := fun _ => fun
  | [d] => { results := [.lit (.bool true)], args := [d] }
  | _ => none }
def fnExactHeadingConflictsRow : OpenClaim := { program := "ytbfjidhekfnfjaa", sum := "103c31c8d9640b4a078a7a65f2c17fc1cf5f8fdf5496f462c46490dfb946ec41", func := "loop.example/g00810/laws.FnExactHeadingConflicts", spec := "fnExactHeadingConflicts", apart := false }
def FnExactHeadingConflictsSaid : Prop := fnExactHeadingConflictsRow.holds Try.pinned (OpenSpec.ofChange fnExactHeadingConflictsSpec)

/-- ITS FALSE NEIGHBOUR: 'it returns false'. Refute it at one input. -/
def fnExactHeadingConflictsWrong : ChangeSpec := { name := "fnExactHeadingConflicts", fn := fun _ => fun
  | [d] => { results := [.lit (.bool false)], args := [d] }
  | _ => none }
def FnExactHeadingConflictsWrongFalsely : Prop := fnExactHeadingConflictsRow.holds Try.pinned (OpenSpec.ofChange fnExactHeadingConflictsWrong)

/-- 'laws.FnExactDeadReckoning': WHATEVER THE INPUT: true; the input reads as it did. -/
def fnExactDeadReckoningSpec : ChangeSpec := { name := "fnExactDeadReckoning", fn := fun _ => fun
  | [d] => { results := [.lit (.bool true)], args := [d] }
  | _ => none }
def fnExactDeadReckoningRow : OpenClaim := { program := "ytbfjidhekfnfjaa", sum := "103c31c8d9640b4a078a7a65f2c17fc1cf5f8fdf5496f462c46490dfb946ec41", func := "loop.example/g00810/laws.FnExactDeadReckoning", spec := "fnExactDeadReckoning", apart := false }
def FnExactDeadReckoningSaid : Prop := fnExactDeadReckoningRow.holds Try.pinned (OpenSpec.ofChange fnExactDeadReckoningSpec)

/-- ITS FALSE NEIGHBOUR: 'it returns false'. Refute it at one input. -/
def fnExactDeadReckoningWrong : ChangeSpec := { name := "fnExactDeadReckoning", fn := fun _ => fun
  | [d] => { results := [.lit (.bool false)], args := [d] }
  | _ => none }
def FnExactDeadReckoningWrongFalsely : Prop := fnExactDeadReckoningRow.holds Try.pinned (OpenSpec.ofChange fnExactDeadReckoningWrong)

/-- 'laws.FnExactWidestClique': WHATEVER THE INPUT: true; the input reads as it did. -/
def fnExactWidestCliqueSpec : ChangeSpec := { name := "fnExactWidestClique", fn := fun _ => fun
  | [d] => { results := [.lit (.bool true)], args := [d] }
  | _ => none }
def fnExactWidestCliqueRow : OpenClaim := { program := "ytbfjidhekfnfjaa", sum := "103c31c8d9640b4a078a7a65f2c17fc1cf5f8fdf5496f462c46490dfb946ec41", func := "loop.example/g00810/laws.FnExactWidestClique", spec := "fnExactWidestClique", recurses := true, apart := false }
def FnExactWidestCliqueSaid : Prop := fnExactWidestCliqueRow.holds Try.pinned (OpenSpec.ofChange fnExactWidestCliqueSpec)

/-- ITS FALSE NEIGHBOUR: 'it returns false'. Refute it at one input. -/
def fnExactWidestCliqueWrong : ChangeSpec := { name := "fnExactWidestClique", fn := fun _ => fun
  | [d] => { results := [.lit (.bool false)], args := [d] }
  | _ => none }
def FnExactWidestCliqueWrongFalsely : Prop := fnExactWidestCliqueRow.holds Try.pinned (OpenSpec.ofChange fnExactWidestCliqueWrong)

/-- 'laws.FnExactCliqueNodes': WHATEVER THE INPUT: true; the input reads as it did. -/
def fnExactCliqueNodesSpec : ChangeSpec := { name := "fnExactCliqueNodes", fn := fun _ => fun
  | [d1, d2] => { results := [.lit (.bool true)], args := [d1, d2] }
  | _ => none }
def fnExactCliqueNodesRow : OpenClaim := { program := "ytbfjidhekfnfjaa", sum := "103c31c8d9640b4a078a7a65f2c17fc1cf5f8fdf5496f462c46490dfb946ec41", func := "loop.example/g00810/laws.FnExactCliqueNodes", spec := "fnExactCliqueNodes", recurses := true, apart := false }
def FnExactCliqueNodesSaid : Prop := fnExactCliqueNodesRow.holds Try.pinned (OpenSpec.ofChange fnExactCliqueNodesSpec)

/-- ITS FALSE NEIGHBOUR: 'it returns false'. Refute it at one input. -/
def fnExactCliqueNodesWrong : ChangeSpec := { name := "fnExactCliqueNodes", fn := fun _ => fun
  | [d1, d2] => { results := [.lit (.bool false)], args := [d1, d2] }
  | _ => none }
def FnExactCliqueNodesWrongFalsely : Prop := fnExactCliqueNodesRow.holds Try.pinned (OpenSpec.ofChange fnExactCliqueNodesWrong)

/-- 'laws.FnExactTreeLinks': WHATEVER THE INPUT: true; the input reads as it did. -/
def fnExactTreeLinksSpec : ChangeSpec := { name := "fnExactTreeLinks", fn := fun _ => fun
  | [d] => { results := [.lit (.bool true)], args := [d] }
  | _ => none }
def fnExactTreeLinksRow : OpenClaim := { program := "ytbfjidhekfnfjaa", sum := "103c31c8d9640b4a078a7a65f2c17fc1cf5f8fdf5496f462c46490dfb946ec41", func := "loop.example/g00810/laws.FnExactTreeLinks", spec := "fnExactTreeLinks", apart := false }
def FnExactTreeLinksSaid : Prop := fnExactTreeLinksRow.holds Try.pinned (OpenSpec.ofChange fnExactTreeLinksSpec)

/-- ITS FALSE NEIGHBOUR: 'it returns false'. Refute it at one input. -/
def fnExactTreeLinksWrong : ChangeSpec := { name := "fnExactTreeLinks", fn := fun _ => fun
  | [d] => { results := [.lit (.bool false)], args := [d] }
  | _ => none }
def FnExactTreeLinksWrongFalsely : Prop := fnExactTreeLinksRow.holds Try.pinned (OpenSpec.ofChange fnExactTreeLinksWrong)

/-- 'laws.FnExactIsCliqueTree': WHATEVER THE INPUT: true; the input reads as it did. -/
def fnExactIsCliqueTreeSpec : ChangeSpec := { name := "fnExactIsCliqueTree", fn := fun _ => fun
  | [d] => { results := [.lit (.bool true)], args := [d] }
  | _ => none }
def fnExactIsCliqueTreeRow : OpenClaim := { program := "ytbfjidhekfnfjaa", sum := "103c31c8d9640b4a078a7a65f2c17fc1cf5f8fdf5496f462c46490dfb946ec41", func := "loop.example/g00810/laws.FnExactIsCliqueTree", spec := "fnExactIsCliqueTree", recurses := true, apart := false }
def FnExactIsCliqueTreeSaid : Prop := fnExactIsCliqueTreeRow.holds Try.pinned (OpenSpec.ofChange fnExactIsCliqueTreeSpec)

/-- ITS FALSE NEIGHBOUR: 'it returns false'. Refute it at one input. -/
def fnExactIsCliqueTreeWrong : ChangeSpec := { name := "fnExactIsCliqueTree", fn := fun _ => fun
  | [d] => { results := [.lit (.bool false)], args := [d] }
  | _ => none }
def FnExactIsCliqueTreeWrongFalsely : Prop := fnExactIsCliqueTreeRow.holds Try.pinned (OpenSpec.ofChange fnExactIsCliqueTreeWrong)

/-- 'laws.FnExactCliqueDepth': WHATEVER THE INPUT: true; the input reads as it did. -/
def fnExactCliqueDepthSpec : ChangeSpec := { name := "fnExactCliqueDepth", fn := fun _ => fun
  | [d1, d2] => { results := [.lit (.bool true)], args := [d1, d2] }
  | _ => none }
def fnExactCliqueDepthRow : OpenClaim := { program := "ytbfjidhekfnfjaa", sum := "103c31c8d9640b4a078a7a65f2c17fc1cf5f8fdf5496f462c46490dfb946ec41", func := "loop.example/g00810/laws.FnExactCliqueDepth", spec := "fnExactCliqueDepth", recurses := true, apart := false }
def FnExactCliqueDepthSaid : Prop := fnExactCliqueDepthRow.holds Try.pinned (OpenSpec.ofChange fnExactCliqueDepthSpec)

/-- ITS FALSE NEIGHBOUR: 'it returns false'. Refute it at one input. -/
def fnExactCliqueDepthWrong : ChangeSpec := { name := "fnExactCliqueDepth", fn := fun _ => fun
  | [d1, d2] => { results := [.lit (.bool false)], args := [d1, d2] }
  | _ => none }
def FnExactCliqueDepthWrongFalsely : Prop := fnExactCliqueDepthRow.holds Try.pinned (OpenSpec.ofChange fnExactCliqueDepthWrong)

/-- 'laws.FnExactChangedNodes': WHATEVER THE INPUT: true; the input reads as it did. -/
def fnExactChangedNodesSpec : ChangeSpec := { name := "fnExactChangedNodes", fn := fun _ => fun
  | [d1, d2] => { results := [.lit (.bool true)], args := [d1, d2] }
  | _ => none }
def fnExactChangedNodesRow : OpenClaim := { program := "ytbfjidhekfnfjaa", sum := "103c31c8d9640b4a078a7a65f2c17fc1cf5f8fdf5496f462c46490dfb946ec41", func := "loop.example/g00810/laws.FnExactChangedNodes", spec := "fnExactChangedNodes", apart := false }
def FnExactChangedNodesSaid : Prop := fnExactChangedNodesRow.holds Try.pinned (OpenSpec.ofChange fnExactChangedNodesSpec)

/-- ITS FALSE NEIGHBOUR: 'it returns false'. Refute it at one input. -/
def fnExactChangedNodesWrong : ChangeSpec := { name := "fnExactChangedNodes", fn := fun _ => fun
  | [d1, d2] => { results := [.lit (.bool false)], args := [d1, d2] }
  | _ => none }
def FnExactChangedNodesWrongFalsely : Prop := fnExactChangedNodesRow.holds Try.pinned (OpenSpec.ofChange fnExactChangedNodesWrong)

/-- 'laws.FnExactTreeNet': WHATEVER THE INPUT: true; the input reads as it did. -/
def fnExactTreeNetSpec : ChangeSpec := { name := "fnExactTreeNet", fn := fun _ => fun
  | [d] => { results := [.lit (.bool true)], args := [d] }
  | _ => none }
def fnExactTreeNetRow : OpenClaim := { program := "ytbfjidhekfnfjaa", sum := "103c31c8d9640b4a078a7a65f2c17fc1cf5f8fdf5496f462c46490dfb946ec41", func := "loop.example/g00810/laws.FnExactTreeNet", spec := "fnExactTreeNet", apart := false }
def FnExactTreeNetSaid : Prop := fnExactTreeNetRow.holds Try.pinned (OpenSpec.ofChange fnExactTreeNetSpec)

/-- ITS FALSE NEIGHBOUR: 'it returns false'. Refute it at one input. -/
def fnExactTreeNetWrong : ChangeSpec := { name := "fnExactTreeNet", fn := fun _ => fun
  | [d] => { results := [.lit (.bool false)], args := [d] }
  | _ => none }
def FnExactTreeNetWrongFalsely : Prop := fnExactTreeNetRow.holds Try.pinned (OpenSpec.ofChange fnExactTreeNetWrong)

/-- 'laws.FnExactLinkOfFactor': WHATEVER THE INPUT: true; the input reads as it did. -/
def fnExactLinkOfFactorSpec : ChangeSpec := { name := "fnExactLinkOfFactor", fn := fun _ => fun
  | [d1, d2] => { results := [.lit (.bool true)], args := [d1, d2] }
  | _ => none }
def fnExactLinkOfFactorRow : OpenClaim := { program := "ytbfjidhekfnfjaa", sum := "103c31c8d9640b4a078a7a65f2c17fc1cf5f8fdf5496f462c46490dfb946ec41", func := "loop.example/g00810/laws.FnExactLinkOfFactor", spec := "fnExactLinkOfFactor", apart := false }
def FnExactLinkOfFactorSaid : Prop := fnExactLinkOfFactorRow.holds Try.pinned (OpenSpec.ofChange fnExactLinkOfFactorSpec)

/-- ITS FALSE NEIGHBOUR: 'it returns false'. Refute it at one input. -/
def fnExactLinkOfFactorWrong : ChangeSpec := { name := "fnExactLinkOfFactor", fn := fun _ => fun
  | [d1, d2] => { results := [.lit (.bool false)], args := [d1, d2] }
  | _ => none }
def FnExactLinkOfFactorWrongFalsely : Prop := fnExactLinkOfFactorRow.holds Try.pinned (OpenSpec.ofChange fnExactLinkOfFactorWrong)

/-- 'laws.FnExactLinksOf': WHATEVER THE INPUT: true; the input reads as it did. -/
def fnExactLinksOfSpec : ChangeSpec := { name := "fnExactLinksOf", fn := fun _ => fun
  | [d1, d2] => { results := [.lit (.bool true)], args := [d1, d2] }
  | _ => none }
def fnExactLinksOfRow : OpenClaim := { program := "ytbfjidhekfnfjaa", sum := "103c31c8d9640b4a078a7a65f2c17fc1cf5f8fdf5496f462c46490dfb946ec41", func := "loop.example/g00810/laws.FnExactLinksOf", spec := "fnExactLinksOf", apart := false }
def FnExactLinksOfSaid : Prop := fnExactLinksOfRow.holds Try.pinned (OpenSpec.ofChange fnExactLinksOfSpec)

/-- ITS FALSE NEIGHBOUR: 'it returns false'. Refute it at one input. -/
def fnExactLinksOfWrong : ChangeSpec := { name := "fnExactLinksOf", fn := fun _ => fun
  | [d1, d2] => { results := [.lit (.bool false)], args := [d1, d2] }
  | _ => none }
def FnExactLinksOfWrongFalsely : Prop := fnExactLinksOfRow.holds Try.pinned (OpenSpec.ofChange fnExactLinksOfWrong)

/- THE SECOND FORM. 'bulk': how many values and letters a reading holds, each counted each time it is reached (what is shared counts as often as it is met; a slice's spare places count too). A statement '..UptoSaid' is the law's where the arguments, and the package variables that the reading takes, are together of bulk at most 1048576: NARROWER than '..Said'. Prove '..Said' where nothing that the law and all that it calls make is longer than what came in: it says more and counts as full. Else prove '..UptoSaid'. A law counts once. -/
mutual
def uptoBulk {H : Type} : DataW H → Nat
  | .lit (.string bytes) => bytes.length + 1
  | .lit _ => 1
  | .nil => 1
  | .ptr d => uptoBulk d + 1
  | .slice elems spare => uptoBulkAll elems + uptoBulkAll spare + 1
  | .agg parts => uptoBulkAll parts + 1
  | .iface _ d => uptoBulk d + 1
  | .map entries => uptoBulkEntries entries + 1
  | .held _ => 1
def uptoBulkAll {H : Type} : List (DataW H) → Nat
  | [] => 0
  | d :: r => uptoBulk d + uptoBulkAll r
def uptoBulkEntries {H : Type} : List (Lit × DataW H) → Nat
  | [] => 0
  | x :: r => uptoBulkEntry x + uptoBulkEntries r
def uptoBulkEntry {H : Type} : Lit × DataW H → Nat
  | (.string bytes, d) => bytes.length + uptoBulk d + 1
  | (_, d) => uptoBulk d + 1
 end
def uptoSmall : (H : Type) → List (DataW H) → Bool := fun _ ds => decide (uptoBulkAll ds ≤ 1048576)
def OpenSpec.upto (s : _root_.Go.ChangeSpec) : _root_.Go.OpenSpec := { _root_.Go.OpenSpec.ofChange s with cond := some uptoSmall }

/-- 'laws.FnExactHeadingConflicts', WHERE WHAT IT READS IS OF BULK AT MOST 1048576: true; the input reads as it did. -/
def fnExactHeadingConflictsUptoRow : OpenClaim := { program := "ytbfjidhekfnfjaa", sum := "103c31c8d9640b4a078a7a65f2c17fc1cf5f8fdf5496f462c46490dfb946ec41", func := "loop.example/g00810/laws.FnExactHeadingConflicts", spec := "fnExactHeadingConflicts", apart := false, narrowed := true }
def FnExactHeadingConflictsUptoSaid : Prop := fnExactHeadingConflictsUptoRow.holds Try.pinned (OpenSpec.upto fnExactHeadingConflictsSpec)

/-- 'laws.FnExactDeadReckoning', WHERE WHAT IT READS IS OF BULK AT MOST 1048576: true; the input reads as it did. -/
def fnExactDeadReckoningUptoRow : OpenClaim := { program := "ytbfjidhekfnfjaa", sum := "103c31c8d9640b4a078a7a65f2c17fc1cf5f8fdf5496f462c46490dfb946ec41", func := "loop.example/g00810/laws.FnExactDeadReckoning", spec := "fnExactDeadReckoning", apart := false, narrowed := true }
def FnExactDeadReckoningUptoSaid : Prop := fnExactDeadReckoningUptoRow.holds Try.pinned (OpenSpec.upto fnExactDeadReckoningSpec)

/-- 'laws.FnExactWidestClique', WHERE WHAT IT READS IS OF BULK AT MOST 1048576: true; the input reads as it did. -/
def fnExactWidestCliqueUptoRow : OpenClaim := { program := "ytbfjidhekfnfjaa", sum := "103c31c8d9640b4a078a7a65f2c17fc1cf5f8fdf5496f462c46490dfb946ec41", func := "loop.example/g00810/laws.FnExactWidestClique", spec := "fnExactWidestClique", recurses := true, apart := false, narrowed := true }
def FnExactWidestCliqueUptoSaid : Prop := fnExactWidestCliqueUptoRow.holds Try.pinned (OpenSpec.upto fnExactWidestCliqueSpec)

/-- 'laws.FnExactCliqueNodes', WHERE WHAT IT READS IS OF BULK AT MOST 1048576: true; the input reads as it did. -/
def fnExactCliqueNodesUptoRow : OpenClaim := { program := "ytbfjidhekfnfjaa", sum := "103c31c8d9640b4a078a7a65f2c17fc1cf5f8fdf5496f462c46490dfb946ec41", func := "loop.example/g00810/laws.FnExactCliqueNodes", spec := "fnExactCliqueNodes", recurses := true, apart := false, narrowed := true }
def FnExactCliqueNodesUptoSaid : Prop := fnExactCliqueNodesUptoRow.holds Try.pinned (OpenSpec.upto fnExactCliqueNodesSpec)

/-- 'laws.FnExactTreeLinks', WHERE WHAT IT READS IS OF BULK AT MOST 1048576: true; the input reads as it did. -/
def fnExactTreeLinksUptoRow : OpenClaim := { program := "ytbfjidhekfnfjaa", sum := "103c31c8d9640b4a078a7a65f2c17fc1cf5f8fdf5496f462c46490dfb946ec41", func := "loop.example/g00810/laws.FnExactTreeLinks", spec := "fnExactTreeLinks", apart := false, narrowed := true }
def FnExactTreeLinksUptoSaid : Prop := fnExactTreeLinksUptoRow.holds Try.pinned (OpenSpec.upto fnExactTreeLinksSpec)

/-- 'laws.FnExactIsCliqueTree', WHERE WHAT IT READS IS OF BULK AT MOST 1048576: true; the input reads as it did. -/
def fnExactIsCliqueTreeUptoRow : OpenClaim := { program := "ytbfjidhekfnfjaa", sum := "103c31c8d9640b4a078a7a65f2c17fc1cf5f8fdf5496f462c46490dfb946ec41", func := "loop.example/g00810/laws.FnExactIsCliqueTree", spec := "fnExactIsCliqueTree", recurses := true, apart := false, narrowed := true }
def FnExactIsCliqueTreeUptoSaid : Prop := fnExactIsCliqueTreeUptoRow.holds Try.pinned (OpenSpec.upto fnExactIsCliqueTreeSpec)

/-- 'laws.FnExactCliqueDepth', WHERE WHAT IT READS IS OF BULK AT MOST 1048576: true; the input reads as it did. -/
def fnExactCliqueDepthUptoRow : OpenClaim := { program := "ytbfjidhekfnfjaa", sum := "103c31c8d9640b4a078a7a65f2c17fc1cf5f8fdf5496f462c46490dfb946ec41", func := "loop.example/g00810/laws.FnExactCliqueDepth", spec := "fnExactCliqueDepth", recurses := true, apart := false, narrowed := true }
def FnExactCliqueDepthUptoSaid : Prop := fnExactCliqueDepthUptoRow.holds Try.pinned (OpenSpec.upto fnExactCliqueDepthSpec)

/-- 'laws.FnExactChangedNodes', WHERE WHAT IT READS IS OF BULK AT MOST 1048576: true; the input reads as it did. -/
def fnExactChangedNodesUptoRow : OpenClaim := { program := "ytbfjidhekfnfjaa", sum := "103c31c8d9640b4a078a7a65f2c17fc1cf5f8fdf5496f462c46490dfb946ec41", func := "loop.example/g00810/laws.FnExactChangedNodes", spec := "fnExactChangedNodes", apart := false, narrowed := true }
def FnExactChangedNodesUptoSaid : Prop := fnExactChangedNodesUptoRow.holds Try.pinned (OpenSpec.upto fnExactChangedNodesSpec)

/-- 'laws.FnExactTreeNet', WHERE WHAT IT READS IS OF BULK AT MOST 1048576: true; the input reads as it did. -/
def fnExactTreeNetUptoRow : OpenClaim := { program := "ytbfjidhekfnfjaa", sum := "103c31c8d9640b4a078a7a65f2c17fc1cf5f8fdf5496f462c46490dfb946ec41", func := "loop.example/g00810/laws.FnExactTreeNet", spec := "fnExactTreeNet", apart := false, narrowed := true }
def FnExactTreeNetUptoSaid : Prop := fnExactTreeNetUptoRow.holds Try.pinned (OpenSpec.upto fnExactTreeNetSpec)

/-- 'laws.FnExactLinkOfFactor', WHERE WHAT IT READS IS OF BULK AT MOST 1048576: true; the input reads as it did. -/
def fnExactLinkOfFactorUptoRow : OpenClaim := { program := "ytbfjidhekfnfjaa", sum := "103c31c8d9640b4a078a7a65f2c17fc1cf5f8fdf5496f462c46490dfb946ec41", func := "loop.example/g00810/laws.FnExactLinkOfFactor", spec := "fnExactLinkOfFactor", apart := false, narrowed := true }
def FnExactLinkOfFactorUptoSaid : Prop := fnExactLinkOfFactorUptoRow.holds Try.pinned (OpenSpec.upto fnExactLinkOfFactorSpec)

/-- 'laws.FnExactLinksOf', WHERE WHAT IT READS IS OF BULK AT MOST 1048576: true; the input reads as it did. -/
def fnExactLinksOfUptoRow : OpenClaim := { program := "ytbfjidhekfnfjaa", sum := "103c31c8d9640b4a078a7a65f2c17fc1cf5f8fdf5496f462c46490dfb946ec41", func := "loop.example/g00810/laws.FnExactLinksOf", spec := "fnExactLinksOf", apart := false, narrowed := true }
def FnExactLinksOfUptoSaid : Prop := fnExactLinksOfUptoRow.holds Try.pinned (OpenSpec.upto fnExactLinksOfSpec)

end Rows
end Go.Proofs.Ytbfjidhekfnfjaa
