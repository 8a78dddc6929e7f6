/-
  No cell of these rows narrows 'for every input' (looked for: loops, veiled, ifaces, maps, wideKeys, modest, calm, conditions, laid).
  DERIVED. THE GIVEN ROWS OF THIS SEAT. 9 by the template 'for every input the law returns true; each argument reads behind the call as it read before'; 0 by the template 'total and deterministic' (their statements: YthjpgecdkmiadaaGreatTotals.lean).
  GIVEN WITH THE SEED: the statements are not yours to turn. If you find one false, say at which input.
  Laid BY PROGRAM, IN A SANDBOX (cutbox-rows.mjs): the forced cells as the released guide's own fill.sh prints them over the translation 7ea8ff763b0252af… (all of the seat's roots in one cut). By AI agents, Wed Nov 11 2026. No macro, syntax, notation, axiom, sorry.
-/
import Derived.Test.YthjpgecdkmiadaaGreatChecked
import GoSem.Claim
import GoSem.ClaimJoined
import GoSem.ClaimMapViews
import Derived.JoinedTies
import Derived.KernelRfl
namespace Go.Proofs.YthjpgecdkmiadaaGreat
/- THE CELL 'sum', in the pinned program and in every row, IS THE sha256 OF THE DUMP (.gsa) THAT YthjpgecdkmiadaaGreatProg.lean LOADS. Nothing in Lean hashes anything: it is a label: what it is worth is what the hold of that sum in a sandbox is worth. -/
noncomputable def Tryz.pinned : Pinned := { name := "ythjpgecdkmiadaagreat", sum := "7ea8ff763b0252afb773a3e4f8c339823646527a52ec4353208ff29bbe748e09", checked := Tryz.checked }
namespace Rows
def none {H : Type} : Left H := { results := [], args := [] }

/-- 'laws.FnExactBuildTree': WHATEVER THE INPUT: true; the input reads as it did. -/
def fnExactBuildTreeSpec : ChangeSpec := { name := "fnExactBuildTree", fn := fun _ => fun
  | [d1, d2] => { results := [.lit (.bool true)], args := [d1, d2] }
  | _ => none }
def fnExactBuildTreeRow : OpenClaim := { program := "ythjpgecdkmiadaagreat", sum := "7ea8ff763b0252afb773a3e4f8c339823646527a52ec4353208ff29bbe748e09", func := "loop.example/g00810/laws.FnExactBuildTree", spec := "fnExactBuildTree", apart := false }
def FnExactBuildTreeSaid : Prop := fnExactBuildTreeRow.holds Tryz.pinned (OpenSpec.ofChange fnExactBuildTreeSpec)

/-- ITS FALSE NEIGHBOUR: 'it returns false'. Refute it at one input. -/
def fnExactBuildTreeWrong : ChangeSpec := { name := "fnExactBuildTree", fn := fun _ => fun
  | [d1, d2] => { results := [.lit (.bool false)], args := [d1, d2] }
  | _ => none }
def FnExactBuildTreeWrongFalsely : Prop := fnExactBuildTreeRow.holds Tryz.pinned (OpenSpec.ofChange fnExactBuildTreeWrong)

/-- 'laws.FnExactIsTree': WHATEVER THE INPUT: true; the input reads as it did. -/
def fnExactIsTreeSpec : ChangeSpec := { name := "fnExactIsTree", fn := fun _ => fun
  | [d] => { results := [.lit (.bool true)], args := [d] }
  | _ => none }
def fnExactIsTreeRow : OpenClaim := { program := "ythjpgecdkmiadaagreat", sum := "7ea8ff763b0252afb773a3e4f8c339823646527a52ec4353208ff29bbe748e09", func := "loop.example/g00810/laws.FnExactIsTree", spec := "fnExactIsTree", apart := false }
def FnExactIsTreeSaid : Prop := fnExactIsTreeRow.holds Tryz.pinned (OpenSpec.ofChange fnExactIsTreeSpec)

/-- ITS FALSE NEIGHBOUR: 'it returns false'. Refute it at one input. -/
def fnExactIsTreeWrong : ChangeSpec := { name := "fnExactIsTree", fn := fun _ => fun
  | [d] => { results := [.lit (.bool false)], args := [d] }
  | _ => none }
def FnExactIsTreeWrongFalsely : Prop := fnExactIsTreeRow.holds Tryz.pinned (OpenSpec.ofChange fnExactIsTreeWrong)

/-- 'laws.FnExactPathOf': WHATEVER THE INPUT: true; the input reads as it did. -/
def fnExactPathOfSpec : ChangeSpec := { name := "fnExactPathOf", fn := fun _ => fun
  | [d1, d2] => { results := [.lit (.bool true)], args := [d1, d2] }
  | _ => none }
def fnExactPathOfRow : OpenClaim := { program := "ythjpgecdkmiadaagreat", sum := "7ea8ff763b0252afb773a3e4f8c339823646527a52ec4353208ff29bbe748e09", func := "loop.example/g00810/laws.FnExactPathOf", spec := "fnExactPathOf", apart := false }
def FnExactPathOfSaid : Prop := fnExactPathOfRow.holds Tryz.pinned (OpenSpec.ofChange fnExactPathOfSpec)

/-- ITS FALSE NEIGHBOUR: 'it returns false'. Refute it at one input. -/
def fnExactPathOfWrong : ChangeSpec := { name := "fnExactPathOf", fn := fun _ => fun
  | [d1, d2] => { results := [.lit (.bool false)], args := [d1, d2] }
  | _ => none }
def FnExactPathOfWrongFalsely : Prop := fnExactPathOfRow.holds Tryz.pinned (OpenSpec.ofChange fnExactPathOfWrong)

/-- 'laws.FnExactAffectedBy': WHATEVER THE INPUT: true; the input reads as it did. -/
def fnExactAffectedBySpec : ChangeSpec := { name := "fnExactAffectedBy", fn := fun _ => fun
  | [d1, d2] => { results := [.lit (.bool true)], args := [d1, d2] }
  | _ => none }
def fnExactAffectedByRow : OpenClaim := { program := "ythjpgecdkmiadaagreat", sum := "7ea8ff763b0252afb773a3e4f8c339823646527a52ec4353208ff29bbe748e09", func := "loop.example/g00810/laws.FnExactAffectedBy", spec := "fnExactAffectedBy", apart := false }
def FnExactAffectedBySaid : Prop := fnExactAffectedByRow.holds Tryz.pinned (OpenSpec.ofChange fnExactAffectedBySpec)

/-- ITS FALSE NEIGHBOUR: 'it returns false'. Refute it at one input. -/
def fnExactAffectedByWrong : ChangeSpec := { name := "fnExactAffectedBy", fn := fun _ => fun
  | [d1, d2] => { results := [.lit (.bool false)], args := [d1, d2] }
  | _ => none }
def FnExactAffectedByWrongFalsely : Prop := fnExactAffectedByRow.holds Tryz.pinned (OpenSpec.ofChange fnExactAffectedByWrong)

/-- 'laws.FnExactReorderTree': WHATEVER THE INPUT: true; the input reads as it did. -/
def fnExactReorderTreeSpec : ChangeSpec := { name := "fnExactReorderTree", fn := fun _ => fun
  | [d1, d2] => { results := [.lit (.bool true)], args := [d1, d2] }
  | _ => none }
def fnExactReorderTreeRow : OpenClaim := { program := "ythjpgecdkmiadaagreat", sum := "7ea8ff763b0252afb773a3e4f8c339823646527a52ec4353208ff29bbe748e09", func := "loop.example/g00810/laws.FnExactReorderTree", spec := "fnExactReorderTree", apart := false }
def FnExactReorderTreeSaid : Prop := fnExactReorderTreeRow.holds Tryz.pinned (OpenSpec.ofChange fnExactReorderTreeSpec)

/-- ITS FALSE NEIGHBOUR: 'it returns false'. Refute it at one input. -/
def fnExactReorderTreeWrong : ChangeSpec := { name := "fnExactReorderTree", fn := fun _ => fun
  | [d1, d2] => { results := [.lit (.bool false)], args := [d1, d2] }
  | _ => none }
def FnExactReorderTreeWrongFalsely : Prop := fnExactReorderTreeRow.holds Tryz.pinned (OpenSpec.ofChange fnExactReorderTreeWrong)

/-- 'laws.FnExactInsertLink': WHATEVER THE INPUT: true; the input reads as it did. -/
def fnExactInsertLinkSpec : ChangeSpec := { name := "fnExactInsertLink", fn := fun _ => fun
  | [d1, d2] => { results := [.lit (.bool true)], args := [d1, d2] }
  | _ => none }
def fnExactInsertLinkRow : OpenClaim := { program := "ythjpgecdkmiadaagreat", sum := "7ea8ff763b0252afb773a3e4f8c339823646527a52ec4353208ff29bbe748e09", func := "loop.example/g00810/laws.FnExactInsertLink", spec := "fnExactInsertLink", apart := false }
def FnExactInsertLinkSaid : Prop := fnExactInsertLinkRow.holds Tryz.pinned (OpenSpec.ofChange fnExactInsertLinkSpec)

/-- ITS FALSE NEIGHBOUR: 'it returns false'. Refute it at one input. -/
def fnExactInsertLinkWrong : ChangeSpec := { name := "fnExactInsertLink", fn := fun _ => fun
  | [d1, d2] => { results := [.lit (.bool false)], args := [d1, d2] }
  | _ => none }
def FnExactInsertLinkWrongFalsely : Prop := fnExactInsertLinkRow.holds Tryz.pinned (OpenSpec.ofChange fnExactInsertLinkWrong)

/-- 'laws.FnExactDeleteLink': WHATEVER THE INPUT: true; the input reads as it did. -/
def fnExactDeleteLinkSpec : ChangeSpec := { name := "fnExactDeleteLink", fn := fun _ => fun
  | [d1, d2] => { results := [.lit (.bool true)], args := [d1, d2] }
  | _ => none }
def fnExactDeleteLinkRow : OpenClaim := { program := "ythjpgecdkmiadaagreat", sum := "7ea8ff763b0252afb773a3e4f8c339823646527a52ec4353208ff29bbe748e09", func := "loop.example/g00810/laws.FnExactDeleteLink", spec := "fnExactDeleteLink", apart := false }
def FnExactDeleteLinkSaid : Prop := fnExactDeleteLinkRow.holds Tryz.pinned (OpenSpec.ofChange fnExactDeleteLinkSpec)

/-- ITS FALSE NEIGHBOUR: 'it returns false'. Refute it at one input. -/
def fnExactDeleteLinkWrong : ChangeSpec := { name := "fnExactDeleteLink", fn := fun _ => fun
  | [d1, d2] => { results := [.lit (.bool false)], args := [d1, d2] }
  | _ => none }
def FnExactDeleteLinkWrongFalsely : Prop := fnExactDeleteLinkRow.holds Tryz.pinned (OpenSpec.ofChange fnExactDeleteLinkWrong)

/-- 'laws.FnExactInsertAll': WHATEVER THE INPUT: true; the input reads as it did. -/
def fnExactInsertAllSpec : ChangeSpec := { name := "fnExactInsertAll", fn := fun _ => fun
  | [d1, d2] => { results := [.lit (.bool true)], args := [d1, d2] }
  | _ => none }
def fnExactInsertAllRow : OpenClaim := { program := "ythjpgecdkmiadaagreat", sum := "7ea8ff763b0252afb773a3e4f8c339823646527a52ec4353208ff29bbe748e09", func := "loop.example/g00810/laws.FnExactInsertAll", spec := "fnExactInsertAll", apart := false }
def FnExactInsertAllSaid : Prop := fnExactInsertAllRow.holds Tryz.pinned (OpenSpec.ofChange fnExactInsertAllSpec)

/-- ITS FALSE NEIGHBOUR: 'it returns false'. Refute it at one input. -/
def fnExactInsertAllWrong : ChangeSpec := { name := "fnExactInsertAll", fn := fun _ => fun
  | [d1, d2] => { results := [.lit (.bool false)], args := [d1, d2] }
  | _ => none }
def FnExactInsertAllWrongFalsely : Prop := fnExactInsertAllRow.holds Tryz.pinned (OpenSpec.ofChange fnExactInsertAllWrong)

/-- 'laws.FnExactCliquesOf': WHATEVER THE INPUT: true; the input reads as it did. -/
def fnExactCliquesOfSpec : ChangeSpec := { name := "fnExactCliquesOf", fn := fun _ => fun
  | [d] => { results := [.lit (.bool true)], args := [d] }
  | _ => none }
def fnExactCliquesOfRow : OpenClaim := { program := "ythjpgecdkmiadaagreat", sum := "7ea8ff763b0252afb773a3e4f8c339823646527a52ec4353208ff29bbe748e09", func := "loop.example/g00810/laws.FnExactCliquesOf", spec := "fnExactCliquesOf", recurses := true, apart := false }
def FnExactCliquesOfSaid : Prop := fnExactCliquesOfRow.holds Tryz.pinned (OpenSpec.ofChange fnExactCliquesOfSpec)

/-- ITS FALSE NEIGHBOUR: 'it returns false'. Refute it at one input. -/
def fnExactCliquesOfWrong : ChangeSpec := { name := "fnExactCliquesOf", fn := fun _ => fun
  | [d] => { results := [.lit (.bool false)], args := [d] }
  | _ => none }
def FnExactCliquesOfWrongFalsely : Prop := fnExactCliquesOfRow.holds Tryz.pinned (OpenSpec.ofChange fnExactCliquesOfWrong)

/- THE SECOND FORM. 'bulk': how many values and letters a reading holds, each counted each time it is reached (what is shared counts as often as it is met; a slice's spare places count too). A statement '..UptoSaid' is the law's where the arguments, and the package variables that the reading takes, are together of bulk at most 1048576: NARROWER than '..Said'. Prove '..Said' where nothing that the law and all that it calls make is longer than what came in: it says more and counts as full. Else prove '..UptoSaid'. A law counts once. -/
mutual
def uptoBulk {H : Type} : DataW H → Nat
  | .lit (.string bytes) => bytes.length + 1
  | .lit _ => 1
  | .nil => 1
  | .ptr d => uptoBulk d + 1
  | .slice elems spare => uptoBulkAll elems + uptoBulkAll spare + 1
  | .agg parts => uptoBulkAll parts + 1
  | .iface _ d => uptoBulk d + 1
  | .map entries => uptoBulkEntries entries + 1
  | .held _ => 1
def uptoBulkAll {H : Type} : List (DataW H) → Nat
  | [] => 0
  | d :: r => uptoBulk d + uptoBulkAll r
def uptoBulkEntries {H : Type} : List (Lit × DataW H) → Nat
  | [] => 0
  | x :: r => uptoBulkEntry x + uptoBulkEntries r
def uptoBulkEntry {H : Type} : Lit × DataW H → Nat
  | (.string bytes, d) => bytes.length + uptoBulk d + 1
  | (_, d) => uptoBulk d + 1
 end
def uptoSmall : (H : Type) → List (DataW H) → Bool := fun _ ds => decide (uptoBulkAll ds ≤ 1048576)
def OpenSpec.upto (s : _root_.Go.ChangeSpec) : _root_.Go.OpenSpec := { _root_.Go.OpenSpec.ofChange s with cond := some uptoSmall }

/-- 'laws.FnExactBuildTree', WHERE WHAT IT READS IS OF BULK AT MOST 1048576: true; the input reads as it did. -/
def fnExactBuildTreeUptoRow : OpenClaim := { program := "ythjpgecdkmiadaagreat", sum := "7ea8ff763b0252afb773a3e4f8c339823646527a52ec4353208ff29bbe748e09", func := "loop.example/g00810/laws.FnExactBuildTree", spec := "fnExactBuildTree", apart := false, narrowed := true }
def FnExactBuildTreeUptoSaid : Prop := fnExactBuildTreeUptoRow.holds Tryz.pinned (OpenSpec.upto fnExactBuildTreeSpec)

/-- 'laws.FnExactIsTree', WHERE WHAT IT READS IS OF BULK AT MOST 1048576: true; the input reads as it did. -/
def fnExactIsTreeUptoRow : OpenClaim := { program := "ythjpgecdkmiadaagreat", sum := "7ea8ff763b0252afb773a3e4f8c339823646527a52ec4353208ff29bbe748e09", func := "loop.example/g00810/laws.FnExactIsTree", spec := "fnExactIsTree", apart := false, narrowed := true }
def FnExactIsTreeUptoSaid : Prop := fnExactIsTreeUptoRow.holds Tryz.pinned (OpenSpec.upto fnExactIsTreeSpec)

/-- 'laws.FnExactPathOf', WHERE WHAT IT READS IS OF BULK AT MOST 1048576: true; the input reads as it did. -/
def fnExactPathOfUptoRow : OpenClaim := { program := "ythjpgecdkmiadaagreat", sum := "7ea8ff763b0252afb773a3e4f8c339823646527a52ec4353208ff29bbe748e09", func := "loop.example/g00810/laws.FnExactPathOf", spec := "fnExactPathOf", apart := false, narrowed := true }
def FnExactPathOfUptoSaid : Prop := fnExactPathOfUptoRow.holds Tryz.pinned (OpenSpec.upto fnExactPathOfSpec)

/-- 'laws.FnExactAffectedBy', WHERE WHAT IT READS IS OF BULK AT MOST 1048576: true; the input reads as it did. -/
def fnExactAffectedByUptoRow : OpenClaim := { program := "ythjpgecdkmiadaagreat", sum := "7ea8ff763b0252afb773a3e4f8c339823646527a52ec4353208ff29bbe748e09", func := "loop.example/g00810/laws.FnExactAffectedBy", spec := "fnExactAffectedBy", apart := false, narrowed := true }
def FnExactAffectedByUptoSaid : Prop := fnExactAffectedByUptoRow.holds Tryz.pinned (OpenSpec.upto fnExactAffectedBySpec)

/-- 'laws.FnExactReorderTree', WHERE WHAT IT READS IS OF BULK AT MOST 1048576: true; the input reads as it did. -/
def fnExactReorderTreeUptoRow : OpenClaim := { program := "ythjpgecdkmiadaagreat", sum := "7ea8ff763b0252afb773a3e4f8c339823646527a52ec4353208ff29bbe748e09", func := "loop.example/g00810/laws.FnExactReorderTree", spec := "fnExactReorderTree", apart := false, narrowed := true }
def FnExactReorderTreeUptoSaid : Prop := fnExactReorderTreeUptoRow.holds Tryz.pinned (OpenSpec.upto fnExactReorderTreeSpec)

/-- 'laws.FnExactInsertLink', WHERE WHAT IT READS IS OF BULK AT MOST 1048576: true; the input reads as it did. -/
def fnExactInsertLinkUptoRow : OpenClaim := { program := "ythjpgecdkmiadaagreat", sum := "7ea8ff763b0252afb773a3e4f8c339823646527a52ec4353208ff29bbe748e09", func := "loop.example/g00810/laws.FnExactInsertLink", spec := "fnExactInsertLink", apart := false, narrowed := true }
def FnExactInsertLinkUptoSaid : Prop := fnExactInsertLinkUptoRow.holds Tryz.pinned (OpenSpec.upto fnExactInsertLinkSpec)

/-- 'laws.FnExactDeleteLink', WHERE WHAT IT READS IS OF BULK AT MOST 1048576: true; the input reads as it did. -/
def fnExactDeleteLinkUptoRow : OpenClaim := { program := "ythjpgecdkmiadaagreat", sum := "7ea8ff763b0252afb773a3e4f8c339823646527a52ec4353208ff29bbe748e09", func := "loop.example/g00810/laws.FnExactDeleteLink", spec := "fnExactDeleteLink", apart := false, narrowed := true }
def FnExactDeleteLinkUptoSaid : Prop := fnExactDeleteLinkUptoRow.holds Tryz.pinned (OpenSpec.upto fnExactDeleteLinkSpec)

/-- 'laws.FnExactInsertAll', WHERE WHAT IT READS IS OF BULK AT MOST 1048576: true; the input reads as it did. -/
def fnExactInsertAllUptoRow : OpenClaim := { program := "ythjpgecdkmiadaagreat", sum := "7ea8ff763b0252afb773a3e4f8c339823646527a52ec4353208ff29bbe748e09", func := "loop.example/g00810/laws.FnExactInsertAll", spec := "fnExactInsertAll", apart := false, narrowed := true }
def FnExactInsertAllUptoSaid : Prop := fnExactInsertAllUptoRow.holds Tryz.pinned (OpenSpec.upto fnExactInsertAllSpec)

/-- 'laws.FnExactCliquesOf', WHERE WHAT IT READS IS OF BULK AT MOST 1048576: true; the input reads as it did. -/
def fnExactCliquesOfUptoRow : OpenClaim := { program := "ythjpgecdkmiadaagreat", sum := "7ea8ff763b0252afb773a3e4f8c339823646527a52ec4353208ff29bbe748e09", func := "loop.example/g00810/laws.FnExactCliquesOf", spec := "fnExactCliquesOf", recurses := true, apart := false, narrowed := true }
def FnExactCliquesOfUptoSaid : Prop := fnExactCliquesOfUptoRow.holds Tryz.pinned (OpenSpec.upto fnExactCliquesOfSpec)

end Rows
end Go.Proofs.YthjpgecdkmiadaaGreat
