/-
  No cell of these rows narrows 'for every input' (looked for: loops, veiled, ifaces, maps, wideKeys, modest, calm, conditions, laid).
  DERIVED. THE GIVEN ROWS OF THIS SEAT. 4 by the template 'for every input the law returns true; each argument reads behind the call as it read before'; 0 by the template 'total and deterministic' (their statements: YtachfjpemagdiaaGreatTotals.lean).
  GIVEN WITH THE SEED: the statements are not yours to turn. If you find one false, say at which input.
  Laid BY PROGRAM, IN A SANDBOX (cutbox-rows.mjs): the forced cells as the released guide's own fill.sh prints them over the translation cd771e265df2284d… (all of the seat's roots in one cut). By AI agents, Wed Nov 11 2026. No macro, syntax, notation, axiom, sorry.
-/
import Derived.Test.YtachfjpemagdiaaGreatChecked
import GoSem.Claim
import GoSem.ClaimJoined
import GoSem.ClaimMapViews
import Derived.JoinedTies
import Derived.KernelRfl
namespace Go.Proofs.YtachfjpemagdiaaGreat
/- THE CELL 'sum', in the pinned program and in every row, IS THE sha256 OF THE DUMP (.gsa) THAT YtachfjpemagdiaaGreatProg.lean LOADS. Nothing in Lean hashes anything: it is a label: what it is worth is what the hold of that sum in a sandbox is worth. -/
noncomputable def Tryz.pinned : Pinned := { name := "ytachfjpemagdiaagreat", sum := "cd771e265df2284dc748adeed45d956eb5d672b9b2339a7ef5bf23fa891d9232", checked := Tryz.checked }
namespace Rows
def none {H : Type} : Left H := { results := [], args := [] }

/-- 'laws.FnInsert': WHATEVER THE INPUT: true; the input reads as it did. -/
def fnInsertSpec : ChangeSpec := { name := "fnInsert", fn := fun _ => fun
  | [d] => { results := [.lit (.bool true)], args := [d] }
  | _ => none }
def fnInsertRow : OpenClaim := { program := "ytachfjpemagdiaagreat", sum := "cd771e265df2284dc748adeed45d956eb5d672b9b2339a7ef5bf23fa891d9232", func := "loop.example/g00810/laws.FnInsert", spec := "fnInsert", apart := false }
def FnInsertSaid : Prop := fnInsertRow.holds Tryz.pinned (OpenSpec.ofChange fnInsertSpec)

/-- ITS FALSE NEIGHBOUR: 'it returns false'. Refute it at one input. -/
def fnInsertWrong : ChangeSpec := { name := "fnInsert", fn := fun _ => fun
  | [d] => { results := [.lit (.bool false)], args := [d] }
  | _ => none }
def FnInsertWrongFalsely : Prop := fnInsertRow.holds Tryz.pinned (OpenSpec.ofChange fnInsertWrong)

/-- 'laws.FnPaths': WHATEVER THE INPUT: true; the input reads as it did. -/
def fnPathsSpec : ChangeSpec := { name := "fnPaths", fn := fun _ => fun
  | [d] => { results := [.lit (.bool true)], args := [d] }
  | _ => none }
def fnPathsRow : OpenClaim := { program := "ytachfjpemagdiaagreat", sum := "cd771e265df2284dc748adeed45d956eb5d672b9b2339a7ef5bf23fa891d9232", func := "loop.example/g00810/laws.FnPaths", spec := "fnPaths", apart := false }
def FnPathsSaid : Prop := fnPathsRow.holds Tryz.pinned (OpenSpec.ofChange fnPathsSpec)

/-- ITS FALSE NEIGHBOUR: 'it returns false'. Refute it at one input. -/
def fnPathsWrong : ChangeSpec := { name := "fnPaths", fn := fun _ => fun
  | [d] => { results := [.lit (.bool false)], args := [d] }
  | _ => none }
def FnPathsWrongFalsely : Prop := fnPathsRow.holds Tryz.pinned (OpenSpec.ofChange fnPathsWrong)

/-- 'laws.FnDelete': WHATEVER THE INPUT: true; the input reads as it did. -/
def fnDeleteSpec : ChangeSpec := { name := "fnDelete", fn := fun _ => fun
  | [d] => { results := [.lit (.bool true)], args := [d] }
  | _ => none }
def fnDeleteRow : OpenClaim := { program := "ytachfjpemagdiaagreat", sum := "cd771e265df2284dc748adeed45d956eb5d672b9b2339a7ef5bf23fa891d9232", func := "loop.example/g00810/laws.FnDelete", spec := "fnDelete", apart := false }
def FnDeleteSaid : Prop := fnDeleteRow.holds Tryz.pinned (OpenSpec.ofChange fnDeleteSpec)

/-- ITS FALSE NEIGHBOUR: 'it returns false'. Refute it at one input. -/
def fnDeleteWrong : ChangeSpec := { name := "fnDelete", fn := fun _ => fun
  | [d] => { results := [.lit (.bool false)], args := [d] }
  | _ => none }
def FnDeleteWrongFalsely : Prop := fnDeleteRow.holds Tryz.pinned (OpenSpec.ofChange fnDeleteWrong)

/-- 'laws.FnCliques': WHATEVER THE INPUT: true; the input reads as it did. -/
def fnCliquesSpec : ChangeSpec := { name := "fnCliques", fn := fun _ => fun
  | [d] => { results := [.lit (.bool true)], args := [d] }
  | _ => none }
def fnCliquesRow : OpenClaim := { program := "ytachfjpemagdiaagreat", sum := "cd771e265df2284dc748adeed45d956eb5d672b9b2339a7ef5bf23fa891d9232", func := "loop.example/g00810/laws.FnCliques", spec := "fnCliques", recurses := true, apart := false }
def FnCliquesSaid : Prop := fnCliquesRow.holds Tryz.pinned (OpenSpec.ofChange fnCliquesSpec)

/-- ITS FALSE NEIGHBOUR: 'it returns false'. Refute it at one input. -/
def fnCliquesWrong : ChangeSpec := { name := "fnCliques", fn := fun _ => fun
  | [d] => { results := [.lit (.bool false)], args := [d] }
  | _ => none }
def FnCliquesWrongFalsely : Prop := fnCliquesRow.holds Tryz.pinned (OpenSpec.ofChange fnCliquesWrong)

/- THE SECOND FORM. 'bulk': how many values and letters a reading holds, each counted each time it is reached (what is shared counts as often as it is met; a slice's spare places count too). A statement '..UptoSaid' is the law's where the arguments, and the package variables that the reading takes, are together of bulk at most 1048576: NARROWER than '..Said'. Prove '..Said' where nothing that the law and all that it calls make is longer than what came in: it says more and counts as full. Else prove '..UptoSaid'. A law counts once. -/
mutual
def uptoBulk {H : Type} : DataW H → Nat
  | .lit (.string bytes) => bytes.length + 1
  | .lit _ => 1
  | .nil => 1
  | .ptr d => uptoBulk d + 1
  | .slice elems spare => uptoBulkAll elems + uptoBulkAll spare + 1
  | .agg parts => uptoBulkAll parts + 1
  | .iface _ d => uptoBulk d + 1
  | .map entries => uptoBulkEntries entries + 1
  | .held _ => 1
def uptoBulkAll {H : Type} : List (DataW H) → Nat
  | [] => 0
  | d :: r => uptoBulk d + uptoBulkAll r
def uptoBulkEntries {H : Type} : List (Lit × DataW H) → Nat
  | [] => 0
  | x :: r => uptoBulkEntry x + uptoBulkEntries r
def uptoBulkEntry {H : Type} : Lit × DataW H → Nat
  | (.string bytes, d) => bytes.length + uptoBulk d + 1
  | (_, d) => uptoBulk d + 1
 end
def uptoSmall : (H : Type) → List (DataW H) → Bool := fun _ ds => decide (uptoBulkAll ds ≤ 1048576)
def OpenSpec.upto (s : _root_.Go.ChangeSpec) : _root_.Go.OpenSpec := { _root_.Go.OpenSpec.ofChange s with cond := some uptoSmall }

/-- 'laws.FnInsert', WHERE WHAT IT READS IS OF BULK AT MOST 1048576: true; the input reads as it did. -/
def fnInsertUptoRow : OpenClaim := { program := "ytachfjpemagdiaagreat", sum := "cd771e265df2284dc748adeed45d956eb5d672b9b2339a7ef5bf23fa891d9232", func := "loop.example/g00810/laws.FnInsert", spec := "fnInsert", apart := false, narrowed := true }
def FnInsertUptoSaid : Prop := fnInsertUptoRow.holds Tryz.pinned (OpenSpec.upto fnInsertSpec)

/-- 'laws.FnPaths', WHERE WHAT IT READS IS OF BULK AT MOST 1048576: true; the input reads as it did. -/
def fnPathsUptoRow : OpenClaim := { program := "ytachfjpemagdiaagreat", sum := "cd771e265df2284dc748adeed45d956eb5d672b9b2339a7ef5bf23fa891d9232", func := "loop.example/g00810/laws.FnPaths", spec := "fnPaths", apart := false, narrowed := true }
def FnPathsUptoSaid : Prop := fnPathsUptoRow.holds Tryz.pinned (OpenSpec.upto fnPathsSpec)

/-- 'laws.FnDelete', WHERE WHAT IT READS IS OF BULK AT MOST 1048576: true; the input reads as it did. -/
def fnDeleteUptoRow : OpenClaim := { program := "ytachfjpemagdiaagreat", sum := "cd771e265df2284dc748adeed45d956eb5d672b9b2339a7ef5bf23fa891d9232", func := "loop.example/g00810/laws.FnDelete", spec := "fnDelete", apart := false, narrowed := true }
def FnDeleteUptoSaid : Prop := fnDeleteUptoRow.holds Tryz.pinned (OpenSpec.upto fnDeleteSpec)

/-- 'laws.FnCliques', WHERE WHAT IT READS IS OF BULK AT MOST 1048576: true; the input reads as it did. -/
def fnCliquesUptoRow : OpenClaim := { program := "ytachfjpemagdiaagreat", sum := "cd771e265df2284dc748adeed45d956eb5d672b9b2339a7ef5bf23fa891d9232", func := "loop.example/g00810/laws.FnCliques", spec := "fnCliques", recurses := true, apart := false, narrowed := true }
def FnCliquesUptoSaid : Prop := fnCliquesUptoRow.holds Tryz.pinned (OpenSpec.upto fnCliquesSpec)

end Rows
end Go.Proofs.YtachfjpemagdiaaGreat
