/- The typed data of this seat and the engine's instances, printed by program (inst.py). -/
import Derived.Test.YtlfbihajihpchaaProg
import Derived.KernelRfl
import Derived.Test.YtlfbihajihpchaaEvOO
set_option linter.all false
namespace Go.Ev
open Go.Proofs
theorem PPm : Try.prog.follows .mixedOrders = true := by kernel_rfl
theorem w64 {n : Int} (h : -9223372036854775808 ≤ n ∧ n ≤ 9223372036854775807) : IntKind.i64.wrap n = n := by
  rw [IntKind.wrap_i64]; omega
structure BigInt where
  fNeg : Bool
  fMag : (List Int)
  deriving DecidableEq, Inhabited
def encBigInt (y : BigInt) : List PV := [.sc (.bool y.fNeg), .sl y.fMag.length (y.fMag.flatMap (encI .i64))]
def encWBigInt (y : BigInt) : List PV := [.sc (.bool y.fNeg), .rw 1 y.fMag.length (y.fMag.flatMap (encI .i64))]
theorem softBigInt (y : BigInt) : SoftL (encWBigInt y) (encBigInt y) := (SoftL.cons (Soft.refl _) (SoftL.cons (Soft.rw (SoftL.refl _)) SoftL.nil))
def okBigInt (y : BigInt) : Prop := (fun _ => True) y.fNeg ∧ (okL (okI .i64)) y.fMag ∧ True
structure Rat where
  fNum : BigInt
  fDen : (List Int)
  deriving DecidableEq, Inhabited
def encRat (y : Rat) : List PV := [.sc (.bool y.fNum.fNeg), .sl y.fNum.fMag.length (y.fNum.fMag.flatMap (encI .i64)), .sl y.fDen.length (y.fDen.flatMap (encI .i64))]
def encWRat (y : Rat) : List PV := [.sc (.bool y.fNum.fNeg), .rw 1 y.fNum.fMag.length (y.fNum.fMag.flatMap (encI .i64)), .rw 1 y.fDen.length (y.fDen.flatMap (encI .i64))]
theorem softRat (y : Rat) : SoftL (encWRat y) (encRat y) := (SoftL.cons (Soft.refl _) (SoftL.cons (Soft.rw (SoftL.refl _)) (SoftL.cons (Soft.rw (SoftL.refl _)) SoftL.nil)))
def okRat (y : Rat) : Prop := okBigInt y.fNum ∧ (okL (okI .i64)) y.fDen ∧ True
structure Link where
  fA : Int
  fB : Int
  fWeight : Rat
  fDX : Rat
  fDY : Rat
  deriving DecidableEq, Inhabited
def encLink (y : Link) : List PV := [.sc (.int .i64 y.fA), .sc (.int .i64 y.fB), .sc (.bool y.fWeight.fNum.fNeg), .sl y.fWeight.fNum.fMag.length (y.fWeight.fNum.fMag.flatMap (encI .i64)), .sl y.fWeight.fDen.length (y.fWeight.fDen.flatMap (encI .i64)), .sc (.bool y.fDX.fNum.fNeg), .sl y.fDX.fNum.fMag.length (y.fDX.fNum.fMag.flatMap (encI .i64)), .sl y.fDX.fDen.length (y.fDX.fDen.flatMap (encI .i64)), .sc (.bool y.fDY.fNum.fNeg), .sl y.fDY.fNum.fMag.length (y.fDY.fNum.fMag.flatMap (encI .i64)), .sl y.fDY.fDen.length (y.fDY.fDen.flatMap (encI .i64))]
def encWLink (y : Link) : List PV := [.sc (.int .i64 y.fA), .sc (.int .i64 y.fB), .sc (.bool y.fWeight.fNum.fNeg), .rw 1 y.fWeight.fNum.fMag.length (y.fWeight.fNum.fMag.flatMap (encI .i64)), .rw 1 y.fWeight.fDen.length (y.fWeight.fDen.flatMap (encI .i64)), .sc (.bool y.fDX.fNum.fNeg), .rw 1 y.fDX.fNum.fMag.length (y.fDX.fNum.fMag.flatMap (encI .i64)), .rw 1 y.fDX.fDen.length (y.fDX.fDen.flatMap (encI .i64)), .sc (.bool y.fDY.fNum.fNeg), .rw 1 y.fDY.fNum.fMag.length (y.fDY.fNum.fMag.flatMap (encI .i64)), .rw 1 y.fDY.fDen.length (y.fDY.fDen.flatMap (encI .i64))]
theorem softLink (y : Link) : SoftL (encWLink y) (encLink y) := (SoftL.cons (Soft.refl _) (SoftL.cons (Soft.refl _) (SoftL.cons (Soft.refl _) (SoftL.cons (Soft.rw (SoftL.refl _)) (SoftL.cons (Soft.rw (SoftL.refl _)) (SoftL.cons (Soft.refl _) (SoftL.cons (Soft.rw (SoftL.refl _)) (SoftL.cons (Soft.rw (SoftL.refl _)) (SoftL.cons (Soft.refl _) (SoftL.cons (Soft.rw (SoftL.refl _)) (SoftL.cons (Soft.rw (SoftL.refl _)) SoftL.nil)))))))))))
def okLink (y : Link) : Prop := (okI .i64) y.fA ∧ (okI .i64) y.fB ∧ okRat y.fWeight ∧ okRat y.fDX ∧ okRat y.fDY ∧ True
structure Parent where
  fNode : Int
  fShare : Rat
  fDX : Rat
  fDY : Rat
  deriving DecidableEq, Inhabited
def encParent (y : Parent) : List PV := [.sc (.int .i64 y.fNode), .sc (.bool y.fShare.fNum.fNeg), .sl y.fShare.fNum.fMag.length (y.fShare.fNum.fMag.flatMap (encI .i64)), .sl y.fShare.fDen.length (y.fShare.fDen.flatMap (encI .i64)), .sc (.bool y.fDX.fNum.fNeg), .sl y.fDX.fNum.fMag.length (y.fDX.fNum.fMag.flatMap (encI .i64)), .sl y.fDX.fDen.length (y.fDX.fDen.flatMap (encI .i64)), .sc (.bool y.fDY.fNum.fNeg), .sl y.fDY.fNum.fMag.length (y.fDY.fNum.fMag.flatMap (encI .i64)), .sl y.fDY.fDen.length (y.fDY.fDen.flatMap (encI .i64))]
def encWParent (y : Parent) : List PV := [.sc (.int .i64 y.fNode), .sc (.bool y.fShare.fNum.fNeg), .rw 1 y.fShare.fNum.fMag.length (y.fShare.fNum.fMag.flatMap (encI .i64)), .rw 1 y.fShare.fDen.length (y.fShare.fDen.flatMap (encI .i64)), .sc (.bool y.fDX.fNum.fNeg), .rw 1 y.fDX.fNum.fMag.length (y.fDX.fNum.fMag.flatMap (encI .i64)), .rw 1 y.fDX.fDen.length (y.fDX.fDen.flatMap (encI .i64)), .sc (.bool y.fDY.fNum.fNeg), .rw 1 y.fDY.fNum.fMag.length (y.fDY.fNum.fMag.flatMap (encI .i64)), .rw 1 y.fDY.fDen.length (y.fDY.fDen.flatMap (encI .i64))]
theorem softParent (y : Parent) : SoftL (encWParent y) (encParent y) := (SoftL.cons (Soft.refl _) (SoftL.cons (Soft.refl _) (SoftL.cons (Soft.rw (SoftL.refl _)) (SoftL.cons (Soft.rw (SoftL.refl _)) (SoftL.cons (Soft.refl _) (SoftL.cons (Soft.rw (SoftL.refl _)) (SoftL.cons (Soft.rw (SoftL.refl _)) (SoftL.cons (Soft.refl _) (SoftL.cons (Soft.rw (SoftL.refl _)) (SoftL.cons (Soft.rw (SoftL.refl _)) SoftL.nil))))))))))
def okParent (y : Parent) : Prop := (okI .i64) y.fNode ∧ okRat y.fShare ∧ okRat y.fDX ∧ okRat y.fDY ∧ True
structure Conditional where
  fNode : Int
  fTotal : Rat
  fParents : (List Parent)
  deriving DecidableEq, Inhabited
def encConditional (y : Conditional) : List PV := [.sc (.int .i64 y.fNode), .sc (.bool y.fTotal.fNum.fNeg), .sl y.fTotal.fNum.fMag.length (y.fTotal.fNum.fMag.flatMap (encI .i64)), .sl y.fTotal.fDen.length (y.fTotal.fDen.flatMap (encI .i64)), .sl y.fParents.length (y.fParents.flatMap encParent)]
def encWConditional (y : Conditional) : List PV := [.sc (.int .i64 y.fNode), .sc (.bool y.fTotal.fNum.fNeg), .rw 1 y.fTotal.fNum.fMag.length (y.fTotal.fNum.fMag.flatMap (encI .i64)), .rw 1 y.fTotal.fDen.length (y.fTotal.fDen.flatMap (encI .i64)), .rw 10 y.fParents.length (y.fParents.flatMap encWParent)]
theorem softConditional (y : Conditional) : SoftL (encWConditional y) (encConditional y) := (SoftL.cons (Soft.refl _) (SoftL.cons (Soft.refl _) (SoftL.cons (Soft.rw (SoftL.refl _)) (SoftL.cons (Soft.rw (SoftL.refl _)) (SoftL.cons (Soft.rw (SoftL.flat softParent _)) SoftL.nil)))))
def okConditional (y : Conditional) : Prop := (okI .i64) y.fNode ∧ okRat y.fTotal ∧ (okL okParent) y.fParents ∧ True
structure TreeNode where
  fNode : Int
  fUp : Int
  fOwn : (List Link)
  fCond : Conditional
  fMessages : (List Link)
  fEnergy : Rat
  deriving DecidableEq, Inhabited
def encTreeNode (y : TreeNode) : List PV := [.sc (.int .i64 y.fNode), .sc (.int .i64 y.fUp), .sl y.fOwn.length (y.fOwn.flatMap encLink), .sc (.int .i64 y.fCond.fNode), .sc (.bool y.fCond.fTotal.fNum.fNeg), .sl y.fCond.fTotal.fNum.fMag.length (y.fCond.fTotal.fNum.fMag.flatMap (encI .i64)), .sl y.fCond.fTotal.fDen.length (y.fCond.fTotal.fDen.flatMap (encI .i64)), .sl y.fCond.fParents.length (y.fCond.fParents.flatMap encParent), .sl y.fMessages.length (y.fMessages.flatMap encLink), .sc (.bool y.fEnergy.fNum.fNeg), .sl y.fEnergy.fNum.fMag.length (y.fEnergy.fNum.fMag.flatMap (encI .i64)), .sl y.fEnergy.fDen.length (y.fEnergy.fDen.flatMap (encI .i64))]
def encWTreeNode (y : TreeNode) : List PV := [.sc (.int .i64 y.fNode), .sc (.int .i64 y.fUp), .rw 11 y.fOwn.length (y.fOwn.flatMap encWLink), .sc (.int .i64 y.fCond.fNode), .sc (.bool y.fCond.fTotal.fNum.fNeg), .rw 1 y.fCond.fTotal.fNum.fMag.length (y.fCond.fTotal.fNum.fMag.flatMap (encI .i64)), .rw 1 y.fCond.fTotal.fDen.length (y.fCond.fTotal.fDen.flatMap (encI .i64)), .rw 10 y.fCond.fParents.length (y.fCond.fParents.flatMap encWParent), .rw 11 y.fMessages.length (y.fMessages.flatMap encWLink), .sc (.bool y.fEnergy.fNum.fNeg), .rw 1 y.fEnergy.fNum.fMag.length (y.fEnergy.fNum.fMag.flatMap (encI .i64)), .rw 1 y.fEnergy.fDen.length (y.fEnergy.fDen.flatMap (encI .i64))]
theorem softTreeNode (y : TreeNode) : SoftL (encWTreeNode y) (encTreeNode y) := (SoftL.cons (Soft.refl _) (SoftL.cons (Soft.refl _) (SoftL.cons (Soft.rw (SoftL.flat softLink _)) (SoftL.cons (Soft.refl _) (SoftL.cons (Soft.refl _) (SoftL.cons (Soft.rw (SoftL.refl _)) (SoftL.cons (Soft.rw (SoftL.refl _)) (SoftL.cons (Soft.rw (SoftL.flat softParent _)) (SoftL.cons (Soft.rw (SoftL.flat softLink _)) (SoftL.cons (Soft.refl _) (SoftL.cons (Soft.rw (SoftL.refl _)) (SoftL.cons (Soft.rw (SoftL.refl _)) SoftL.nil))))))))))))
def okTreeNode (y : TreeNode) : Prop := (okI .i64) y.fNode ∧ (okI .i64) y.fUp ∧ (okL okLink) y.fOwn ∧ okConditional y.fCond ∧ (okL okLink) y.fMessages ∧ okRat y.fEnergy ∧ True
structure Tree where
  fNodes : (List TreeNode)
  deriving DecidableEq, Inhabited
def encTree (y : Tree) : List PV := [.sl y.fNodes.length (y.fNodes.flatMap encTreeNode)]
def encWTree (y : Tree) : List PV := [.rw 12 y.fNodes.length (y.fNodes.flatMap encWTreeNode)]
theorem softTree (y : Tree) : SoftL (encWTree y) (encTree y) := (SoftL.cons (Soft.rw (SoftL.flat softTreeNode _)) SoftL.nil)
def okTree (y : Tree) : Prop := (okL okTreeNode) y.fNodes ∧ True
instance : TI Try.prog 3 1 false 8 := .of (by kernel_rfl)
instance : ZT Try.prog 3 [.sc (.int .i64 0)] := .of (vals := [.int .i64 0]) (by kernel_rfl) (by kernel_rfl) rfl
instance : UT Try.prog 3 (.int .i64) := ⟨by kernel_rfl⟩
instance : TI Try.prog 4 1 false 1 := .of (by kernel_rfl)
instance : ZT Try.prog 4 [.sc (.bool false)] := .of (vals := [.bool false]) (by kernel_rfl) (by kernel_rfl) rfl
instance : UT Try.prog 4 .bool := ⟨by kernel_rfl⟩
instance : TI Try.prog 22 1 false 24 := .of (by kernel_rfl)
instance : ZT Try.prog 22 [.sc (.slice none 0 0)] := .of (vals := [.slice none 0 0]) (by kernel_rfl) (by kernel_rfl) rfl
instance : SlT Try.prog 22 66 := ⟨by kernel_rfl⟩
instance : TI Try.prog 24 1 true 24 := .of (by kernel_rfl)
instance : ZT Try.prog 24 [.sc (.slice none 0 0)] := .of (vals := [.slice none 0 0]) (by kernel_rfl) (by kernel_rfl) rfl
instance : PlT Try.prog 24 [(0, 1)] := .of (by kernel_rfl)
instance : FldT Try.prog 24 0 0 := .of (by kernel_rfl)
instance : TI Try.prog 26 1 false 24 := .of (by kernel_rfl)
instance : ZT Try.prog 26 [.sc (.slice none 0 0)] := .of (vals := [.slice none 0 0]) (by kernel_rfl) (by kernel_rfl) rfl
instance : SlT Try.prog 26 3 := ⟨by kernel_rfl⟩
instance : TI Try.prog 28 2 true 32 := .of (by kernel_rfl)
instance : ZT Try.prog 28 [.sc (.bool false), .sc (.slice none 0 0)] := .of (vals := [.bool false, .slice none 0 0]) (by kernel_rfl) (by kernel_rfl) rfl
instance : PlT Try.prog 28 [(0, 1), (1, 1)] := .of (by kernel_rfl)
instance : FldT Try.prog 28 0 0 := .of (by kernel_rfl)
instance : FldT Try.prog 28 1 1 := .of (by kernel_rfl)
instance : TI Try.prog 30 3 true 56 := .of (by kernel_rfl)
instance : ZT Try.prog 30 [.sc (.bool false), .sc (.slice none 0 0), .sc (.slice none 0 0)] := .of (vals := [.bool false, .slice none 0 0, .slice none 0 0]) (by kernel_rfl) (by kernel_rfl) rfl
instance : PlT Try.prog 30 [(0, 2), (2, 1)] := .of (by kernel_rfl)
instance : FldT Try.prog 30 0 0 := .of (by kernel_rfl)
instance : FldT Try.prog 30 1 2 := .of (by kernel_rfl)
instance : TI Try.prog 32 1 false 24 := .of (by kernel_rfl)
instance : ZT Try.prog 32 [.sc (.slice none 0 0)] := .of (vals := [.slice none 0 0]) (by kernel_rfl) (by kernel_rfl) rfl
instance : SlT Try.prog 32 48 := ⟨by kernel_rfl⟩
instance : TI Try.prog 34 1 true 24 := .of (by kernel_rfl)
instance : ZT Try.prog 34 [.sc (.slice none 0 0)] := .of (vals := [.slice none 0 0]) (by kernel_rfl) (by kernel_rfl) rfl
instance : PlT Try.prog 34 [(0, 1)] := .of (by kernel_rfl)
instance : FldT Try.prog 34 0 0 := .of (by kernel_rfl)
instance : TI Try.prog 43 1 false 24 := .of (by kernel_rfl)
instance : ZT Try.prog 43 [.sc (.slice none 0 0)] := .of (vals := [.slice none 0 0]) (by kernel_rfl) (by kernel_rfl) rfl
instance : SlT Try.prog 43 93 := ⟨by kernel_rfl⟩
instance : TI Try.prog 44 1 false 24 := .of (by kernel_rfl)
instance : ZT Try.prog 44 [.sc (.slice none 0 0)] := .of (vals := [.slice none 0 0]) (by kernel_rfl) (by kernel_rfl) rfl
instance : SlT Try.prog 44 95 := ⟨by kernel_rfl⟩
instance : TI Try.prog 46 5 true 88 := .of (by kernel_rfl)
instance : ZT Try.prog 46 [.sc (.int .i64 0), .sc (.bool false), .sc (.slice none 0 0), .sc (.slice none 0 0), .sc (.slice none 0 0)] := .of (vals := [.int .i64 0, .bool false, .slice none 0 0, .slice none 0 0, .slice none 0 0]) (by kernel_rfl) (by kernel_rfl) rfl
instance : PlT Try.prog 46 [(0, 1), (1, 3), (4, 1)] := .of (by kernel_rfl)
instance : FldT Try.prog 46 0 0 := .of (by kernel_rfl)
instance : FldT Try.prog 46 1 1 := .of (by kernel_rfl)
instance : FldT Try.prog 46 2 4 := .of (by kernel_rfl)
instance : TI Try.prog 48 12 true 208 := .of (by kernel_rfl)
instance : ZT Try.prog 48 [.sc (.int .i64 0), .sc (.int .i64 0), .sc (.slice none 0 0), .sc (.int .i64 0), .sc (.bool false), .sc (.slice none 0 0), .sc (.slice none 0 0), .sc (.slice none 0 0), .sc (.slice none 0 0), .sc (.bool false), .sc (.slice none 0 0), .sc (.slice none 0 0)] := .of (vals := [.int .i64 0, .int .i64 0, .slice none 0 0, .int .i64 0, .bool false, .slice none 0 0, .slice none 0 0, .slice none 0 0, .slice none 0 0, .bool false, .slice none 0 0, .slice none 0 0]) (by kernel_rfl) (by kernel_rfl) rfl
instance : PlT Try.prog 48 [(0, 1), (1, 1), (2, 1), (3, 5), (8, 1), (9, 3)] := .of (by kernel_rfl)
instance : FldT Try.prog 48 0 0 := .of (by kernel_rfl)
instance : FldT Try.prog 48 1 1 := .of (by kernel_rfl)
instance : FldT Try.prog 48 2 2 := .of (by kernel_rfl)
instance : FldT Try.prog 48 3 3 := .of (by kernel_rfl)
instance : FldT Try.prog 48 4 8 := .of (by kernel_rfl)
instance : FldT Try.prog 48 5 9 := .of (by kernel_rfl)
instance : TI Try.prog 58 1 false 24 := .of (by kernel_rfl)
instance : ZT Try.prog 58 [.sc (.slice none 0 0)] := .of (vals := [.slice none 0 0]) (by kernel_rfl) (by kernel_rfl) rfl
instance : SlT Try.prog 58 98 := ⟨by kernel_rfl⟩
instance : TI Try.prog 59 2 true 32 := .of (by kernel_rfl)
instance : ZT Try.prog 59 [.sc (.bool false), .sc (.slice none 0 0)] := .of (vals := [.bool false, .slice none 0 0]) (by kernel_rfl) (by kernel_rfl) rfl
instance : PlT Try.prog 59 [(0, 1), (1, 1)] := .of (by kernel_rfl)
instance : FldT Try.prog 59 0 0 := .of (by kernel_rfl)
instance : FldT Try.prog 59 1 1 := .of (by kernel_rfl)
instance : TI Try.prog 61 3 true 56 := .of (by kernel_rfl)
instance : ZT Try.prog 61 [.sc (.bool false), .sc (.slice none 0 0), .sc (.slice none 0 0)] := .of (vals := [.bool false, .slice none 0 0, .slice none 0 0]) (by kernel_rfl) (by kernel_rfl) rfl
instance : PlT Try.prog 61 [(0, 2), (2, 1)] := .of (by kernel_rfl)
instance : FldT Try.prog 61 0 0 := .of (by kernel_rfl)
instance : FldT Try.prog 61 1 2 := .of (by kernel_rfl)
instance : TI Try.prog 62 1 false 24 := .of (by kernel_rfl)
instance : ZT Try.prog 62 [.sc (.slice none 0 0)] := .of (vals := [.slice none 0 0]) (by kernel_rfl) (by kernel_rfl) rfl
instance : SlT Try.prog 62 117 := ⟨by kernel_rfl⟩
instance : TI Try.prog 64 5 true 88 := .of (by kernel_rfl)
instance : ZT Try.prog 64 [.sc (.int .i64 0), .sc (.bool false), .sc (.slice none 0 0), .sc (.slice none 0 0), .sc (.slice none 0 0)] := .of (vals := [.int .i64 0, .bool false, .slice none 0 0, .slice none 0 0, .slice none 0 0]) (by kernel_rfl) (by kernel_rfl) rfl
instance : PlT Try.prog 64 [(0, 1), (1, 3), (4, 1)] := .of (by kernel_rfl)
instance : FldT Try.prog 64 0 0 := .of (by kernel_rfl)
instance : FldT Try.prog 64 1 1 := .of (by kernel_rfl)
instance : FldT Try.prog 64 2 4 := .of (by kernel_rfl)
instance : TI Try.prog 66 12 true 208 := .of (by kernel_rfl)
instance : ZT Try.prog 66 [.sc (.int .i64 0), .sc (.int .i64 0), .sc (.slice none 0 0), .sc (.int .i64 0), .sc (.bool false), .sc (.slice none 0 0), .sc (.slice none 0 0), .sc (.slice none 0 0), .sc (.slice none 0 0), .sc (.bool false), .sc (.slice none 0 0), .sc (.slice none 0 0)] := .of (vals := [.int .i64 0, .int .i64 0, .slice none 0 0, .int .i64 0, .bool false, .slice none 0 0, .slice none 0 0, .slice none 0 0, .slice none 0 0, .bool false, .slice none 0 0, .slice none 0 0]) (by kernel_rfl) (by kernel_rfl) rfl
instance : PlT Try.prog 66 [(0, 1), (1, 1), (2, 1), (3, 5), (8, 1), (9, 3)] := .of (by kernel_rfl)
instance : FldT Try.prog 66 0 0 := .of (by kernel_rfl)
instance : FldT Try.prog 66 1 1 := .of (by kernel_rfl)
instance : FldT Try.prog 66 2 2 := .of (by kernel_rfl)
instance : FldT Try.prog 66 3 3 := .of (by kernel_rfl)
instance : FldT Try.prog 66 4 8 := .of (by kernel_rfl)
instance : FldT Try.prog 66 5 9 := .of (by kernel_rfl)
instance : TI Try.prog 87 1 false 8 := .of (by kernel_rfl)
instance : ZT Try.prog 87 [.sc (.int .u64 0)] := .of (vals := [.int .u64 0]) (by kernel_rfl) (by kernel_rfl) rfl
instance : UT Try.prog 87 (.int .u64) := ⟨by kernel_rfl⟩
instance : TI Try.prog 93 11 true 184 := .of (by kernel_rfl)
instance : ZT Try.prog 93 [.sc (.int .i64 0), .sc (.int .i64 0), .sc (.bool false), .sc (.slice none 0 0), .sc (.slice none 0 0), .sc (.bool false), .sc (.slice none 0 0), .sc (.slice none 0 0), .sc (.bool false), .sc (.slice none 0 0), .sc (.slice none 0 0)] := .of (vals := [.int .i64 0, .int .i64 0, .bool false, .slice none 0 0, .slice none 0 0, .bool false, .slice none 0 0, .slice none 0 0, .bool false, .slice none 0 0, .slice none 0 0]) (by kernel_rfl) (by kernel_rfl) rfl
instance : PlT Try.prog 93 [(0, 1), (1, 1), (2, 3), (5, 3), (8, 3)] := .of (by kernel_rfl)
instance : FldT Try.prog 93 0 0 := .of (by kernel_rfl)
instance : FldT Try.prog 93 1 1 := .of (by kernel_rfl)
instance : FldT Try.prog 93 2 2 := .of (by kernel_rfl)
instance : FldT Try.prog 93 3 5 := .of (by kernel_rfl)
instance : FldT Try.prog 93 4 8 := .of (by kernel_rfl)
instance : TI Try.prog 95 10 true 176 := .of (by kernel_rfl)
instance : ZT Try.prog 95 [.sc (.int .i64 0), .sc (.bool false), .sc (.slice none 0 0), .sc (.slice none 0 0), .sc (.bool false), .sc (.slice none 0 0), .sc (.slice none 0 0), .sc (.bool false), .sc (.slice none 0 0), .sc (.slice none 0 0)] := .of (vals := [.int .i64 0, .bool false, .slice none 0 0, .slice none 0 0, .bool false, .slice none 0 0, .slice none 0 0, .bool false, .slice none 0 0, .slice none 0 0]) (by kernel_rfl) (by kernel_rfl) rfl
instance : PlT Try.prog 95 [(0, 1), (1, 3), (4, 3), (7, 3)] := .of (by kernel_rfl)
instance : FldT Try.prog 95 0 0 := .of (by kernel_rfl)
instance : FldT Try.prog 95 1 1 := .of (by kernel_rfl)
instance : FldT Try.prog 95 2 4 := .of (by kernel_rfl)
instance : FldT Try.prog 95 3 7 := .of (by kernel_rfl)
instance : TI Try.prog 98 11 true 184 := .of (by kernel_rfl)
instance : ZT Try.prog 98 [.sc (.int .i64 0), .sc (.int .i64 0), .sc (.bool false), .sc (.slice none 0 0), .sc (.slice none 0 0), .sc (.bool false), .sc (.slice none 0 0), .sc (.slice none 0 0), .sc (.bool false), .sc (.slice none 0 0), .sc (.slice none 0 0)] := .of (vals := [.int .i64 0, .int .i64 0, .bool false, .slice none 0 0, .slice none 0 0, .bool false, .slice none 0 0, .slice none 0 0, .bool false, .slice none 0 0, .slice none 0 0]) (by kernel_rfl) (by kernel_rfl) rfl
instance : PlT Try.prog 98 [(0, 1), (1, 1), (2, 3), (5, 3), (8, 3)] := .of (by kernel_rfl)
instance : FldT Try.prog 98 0 0 := .of (by kernel_rfl)
instance : FldT Try.prog 98 1 1 := .of (by kernel_rfl)
instance : FldT Try.prog 98 2 2 := .of (by kernel_rfl)
instance : FldT Try.prog 98 3 5 := .of (by kernel_rfl)
instance : FldT Try.prog 98 4 8 := .of (by kernel_rfl)
instance : TI Try.prog 117 10 true 176 := .of (by kernel_rfl)
instance : ZT Try.prog 117 [.sc (.int .i64 0), .sc (.bool false), .sc (.slice none 0 0), .sc (.slice none 0 0), .sc (.bool false), .sc (.slice none 0 0), .sc (.slice none 0 0), .sc (.bool false), .sc (.slice none 0 0), .sc (.slice none 0 0)] := .of (vals := [.int .i64 0, .bool false, .slice none 0 0, .slice none 0 0, .bool false, .slice none 0 0, .slice none 0 0, .bool false, .slice none 0 0, .slice none 0 0]) (by kernel_rfl) (by kernel_rfl) rfl
instance : PlT Try.prog 117 [(0, 1), (1, 3), (4, 3), (7, 3)] := .of (by kernel_rfl)
instance : FldT Try.prog 117 0 0 := .of (by kernel_rfl)
instance : FldT Try.prog 117 1 1 := .of (by kernel_rfl)
instance : FldT Try.prog 117 2 4 := .of (by kernel_rfl)
instance : FldT Try.prog 117 3 7 := .of (by kernel_rfl)
instance : Dec Try.prog 3 (encI .i64) (okI .i64) := .int (by kernel_rfl)
instance : Dec Try.prog 4 encB (fun _ => True) := .bool (by kernel_rfl)
instance : Dec Try.prog 26 (encL (encI .i64)) (okL (okI .i64)) := .slice (e := 3) (by kernel_rfl) 1 (by kernel_rfl) (by decide) (fun _ => rfl)
instance : Dec Try.prog 59 encBigInt okBigInt := .struct (n := 2) Try.underlying59 (by kernel_rfl) (DecF.cons (n := 1) rfl (by kernel_rfl) (fun _ => rfl) (DecF.cons (n := 1) rfl (by kernel_rfl) (fun _ => rfl) DecF.nil)) (fun y => ⟨y.1, y.2.1⟩) (fun _ => rfl) (fun _ h => h) (fun _ => rfl)
instance : Dec Try.prog 61 encRat okRat := .struct (n := 3) Try.underlying61 (by kernel_rfl) (DecF.cons (n := 2) rfl (by kernel_rfl) (fun _ => rfl) (DecF.cons (n := 1) rfl (by kernel_rfl) (fun _ => rfl) DecF.nil)) (fun y => ⟨y.1, y.2.1⟩) (fun _ => rfl) (fun _ h => h) (fun _ => rfl)
instance : Dec Try.prog 98 encLink okLink := .struct (n := 11) Try.underlying98 (by kernel_rfl) (DecF.cons (n := 1) rfl (by kernel_rfl) (fun _ => rfl) (DecF.cons (n := 1) rfl (by kernel_rfl) (fun _ => rfl) (DecF.cons (n := 3) rfl (by kernel_rfl) (fun _ => rfl) (DecF.cons (n := 3) rfl (by kernel_rfl) (fun _ => rfl) (DecF.cons (n := 3) rfl (by kernel_rfl) (fun _ => rfl) DecF.nil))))) (fun y => ⟨y.1, y.2.1, y.2.2.1, y.2.2.2.1, y.2.2.2.2.1⟩) (fun _ => rfl) (fun _ h => h) (fun _ => rfl)
instance : Dec Try.prog 58 (encL encLink) (okL okLink) := .slice (e := 98) (by kernel_rfl) 11 (by kernel_rfl) (by decide) (fun _ => rfl)
instance : Dec Try.prog 117 encParent okParent := .struct (n := 10) Try.underlying117 (by kernel_rfl) (DecF.cons (n := 1) rfl (by kernel_rfl) (fun _ => rfl) (DecF.cons (n := 3) rfl (by kernel_rfl) (fun _ => rfl) (DecF.cons (n := 3) rfl (by kernel_rfl) (fun _ => rfl) (DecF.cons (n := 3) rfl (by kernel_rfl) (fun _ => rfl) DecF.nil)))) (fun y => ⟨y.1, y.2.1, y.2.2.1, y.2.2.2.1⟩) (fun _ => rfl) (fun _ h => h) (fun _ => rfl)
instance : Dec Try.prog 62 (encL encParent) (okL okParent) := .slice (e := 117) (by kernel_rfl) 10 (by kernel_rfl) (by decide) (fun _ => rfl)
instance : Dec Try.prog 64 encConditional okConditional := .struct (n := 5) Try.underlying64 (by kernel_rfl) (DecF.cons (n := 1) rfl (by kernel_rfl) (fun _ => rfl) (DecF.cons (n := 3) rfl (by kernel_rfl) (fun _ => rfl) (DecF.cons (n := 1) rfl (by kernel_rfl) (fun _ => rfl) DecF.nil))) (fun y => ⟨y.1, y.2.1, y.2.2.1⟩) (fun _ => rfl) (fun _ h => h) (fun _ => rfl)
instance : Dec Try.prog 66 encTreeNode okTreeNode := .struct (n := 12) Try.underlying66 (by kernel_rfl) (DecF.cons (n := 1) rfl (by kernel_rfl) (fun _ => rfl) (DecF.cons (n := 1) rfl (by kernel_rfl) (fun _ => rfl) (DecF.cons (n := 1) rfl (by kernel_rfl) (fun _ => rfl) (DecF.cons (n := 5) rfl (by kernel_rfl) (fun _ => rfl) (DecF.cons (n := 1) rfl (by kernel_rfl) (fun _ => rfl) (DecF.cons (n := 3) rfl (by kernel_rfl) (fun _ => rfl) DecF.nil)))))) (fun y => ⟨y.1, y.2.1, y.2.2.1, y.2.2.2.1, y.2.2.2.2.1, y.2.2.2.2.2.1⟩) (fun _ => rfl) (fun _ h => h) (fun _ => rfl)
instance : Dec Try.prog 22 (encL encTreeNode) (okL okTreeNode) := .slice (e := 66) (by kernel_rfl) 12 (by kernel_rfl) (by decide) (fun _ => rfl)
instance : Dec Try.prog 24 encTree okTree := .struct (n := 1) Try.underlying24 (by kernel_rfl) (DecF.cons (n := 1) rfl (by kernel_rfl) (fun _ => rfl) DecF.nil) (fun y => ⟨y.1⟩) (fun _ => rfl) (fun _ h => h) (fun _ => rfl)
instance : FnC Try.prog 3 := ⟨_, Try.func3, by kernel_rfl, by kernel_rfl⟩
instance : FnC Try.prog 4 := ⟨_, Try.func4, by kernel_rfl, by kernel_rfl⟩
instance : FnC Try.prog 5 := ⟨_, Try.func5, by kernel_rfl, by kernel_rfl⟩
instance : FnC Try.prog 6 := ⟨_, Try.func6, by kernel_rfl, by kernel_rfl⟩
instance : FnC Try.prog 7 := ⟨_, Try.func7, by kernel_rfl, by kernel_rfl⟩
instance : FnC Try.prog 8 := ⟨_, Try.func8, by kernel_rfl, by kernel_rfl⟩
instance : FnC Try.prog 9 := ⟨_, Try.func9, by kernel_rfl, by kernel_rfl⟩
instance : FnC Try.prog 10 := ⟨_, Try.func10, by kernel_rfl, by kernel_rfl⟩
instance : FnC Try.prog 11 := ⟨_, Try.func11, by kernel_rfl, by kernel_rfl⟩
instance : FnC Try.prog 12 := ⟨_, Try.func12, by kernel_rfl, by kernel_rfl⟩
instance : FnC Try.prog 13 := ⟨_, Try.func13, by kernel_rfl, by kernel_rfl⟩
instance : FnC Try.prog 14 := ⟨_, Try.func14, by kernel_rfl, by kernel_rfl⟩
instance : FnC Try.prog 15 := ⟨_, Try.func15, by kernel_rfl, by kernel_rfl⟩
instance : FnC Try.prog 16 := ⟨_, Try.func16, by kernel_rfl, by kernel_rfl⟩
instance : FnC Try.prog 17 := ⟨_, Try.func17, by kernel_rfl, by kernel_rfl⟩
instance : FnC Try.prog 18 := ⟨_, Try.func18, by kernel_rfl, by kernel_rfl⟩
instance : FnC Try.prog 19 := ⟨_, Try.func19, by kernel_rfl, by kernel_rfl⟩
instance : FnC Try.prog 20 := ⟨_, Try.func20, by kernel_rfl, by kernel_rfl⟩
instance : FnC Try.prog 21 := ⟨_, Try.func21, by kernel_rfl, by kernel_rfl⟩
instance : FnC Try.prog 22 := ⟨_, Try.func22, by kernel_rfl, by kernel_rfl⟩
instance : FnC Try.prog 23 := ⟨_, Try.func23, by kernel_rfl, by kernel_rfl⟩
instance : FnC Try.prog 24 := ⟨_, Try.func24, by kernel_rfl, by kernel_rfl⟩
instance : FnC Try.prog 25 := ⟨_, Try.func25, by kernel_rfl, by kernel_rfl⟩
instance : FnC Try.prog 26 := ⟨_, Try.func26, by kernel_rfl, by kernel_rfl⟩
instance : FnC Try.prog 27 := ⟨_, Try.func27, by kernel_rfl, by kernel_rfl⟩
instance : FnC Try.prog 28 := ⟨_, Try.func28, by kernel_rfl, by kernel_rfl⟩
instance : FnC Try.prog 29 := ⟨_, Try.func29, by kernel_rfl, by kernel_rfl⟩
instance : FnC Try.prog 30 := ⟨_, Try.func30, by kernel_rfl, by kernel_rfl⟩
instance : FnC Try.prog 31 := ⟨_, Try.func31, by kernel_rfl, by kernel_rfl⟩
instance : FnC Try.prog 32 := ⟨_, Try.func32, by kernel_rfl, by kernel_rfl⟩
instance : FnC Try.prog 33 := ⟨_, Try.func33, by kernel_rfl, by kernel_rfl⟩
instance : FnC Try.prog 34 := ⟨_, Try.func34, by kernel_rfl, by kernel_rfl⟩
instance : FnC Try.prog 35 := ⟨_, Try.func35, by kernel_rfl, by kernel_rfl⟩
instance : FnC Try.prog 36 := ⟨_, Try.func36, by kernel_rfl, by kernel_rfl⟩
instance : FnC Try.prog 37 := ⟨_, Try.func37, by kernel_rfl, by kernel_rfl⟩
instance : FnC Try.prog 38 := ⟨_, Try.func38, by kernel_rfl, by kernel_rfl⟩
instance : FnC Try.prog 39 := ⟨_, Try.func39, by kernel_rfl, by kernel_rfl⟩
instance : FnC Try.prog 40 := ⟨_, Try.func40, by kernel_rfl, by kernel_rfl⟩
instance : FnC Try.prog 41 := ⟨_, Try.func41, by kernel_rfl, by kernel_rfl⟩
instance : FnC Try.prog 42 := ⟨_, Try.func42, by kernel_rfl, by kernel_rfl⟩
instance : FnC Try.prog 43 := ⟨_, Try.func43, by kernel_rfl, by kernel_rfl⟩
instance : FnC Try.prog 44 := ⟨_, Try.func44, by kernel_rfl, by kernel_rfl⟩
instance : FnC Try.prog 45 := ⟨_, Try.func45, by kernel_rfl, by kernel_rfl⟩
instance : FnC Try.prog 46 := ⟨_, Try.func46, by kernel_rfl, by kernel_rfl⟩
instance : FnC Try.prog 47 := ⟨_, Try.func47, by kernel_rfl, by kernel_rfl⟩
instance : FnC Try.prog 48 := ⟨_, Try.func48, by kernel_rfl, by kernel_rfl⟩
instance : FnC Try.prog 49 := ⟨_, Try.func49, by kernel_rfl, by kernel_rfl⟩
instance : FnC Try.prog 50 := ⟨_, Try.func50, by kernel_rfl, by kernel_rfl⟩
instance : FnC Try.prog 51 := ⟨_, Try.func51, by kernel_rfl, by kernel_rfl⟩
instance : FnC Try.prog 52 := ⟨_, Try.func52, by kernel_rfl, by kernel_rfl⟩
instance : FnC Try.prog 53 := ⟨_, Try.func53, by kernel_rfl, by kernel_rfl⟩
instance : FnC Try.prog 54 := ⟨_, Try.func54, by kernel_rfl, by kernel_rfl⟩
instance : FnC Try.prog 55 := ⟨_, Try.func55, by kernel_rfl, by kernel_rfl⟩
instance : FnC Try.prog 56 := ⟨_, Try.func56, by kernel_rfl, by kernel_rfl⟩
instance : FnC Try.prog 57 := ⟨_, Try.func57, by kernel_rfl, by kernel_rfl⟩
instance : FnC Try.prog 58 := ⟨_, Try.func58, by kernel_rfl, by kernel_rfl⟩
instance : FnC Try.prog 59 := ⟨_, Try.func59, by kernel_rfl, by kernel_rfl⟩
instance : FnC Try.prog 60 := ⟨_, Try.func60, by kernel_rfl, by kernel_rfl⟩
instance : FnC Try.prog 61 := ⟨_, Try.func61, by kernel_rfl, by kernel_rfl⟩
instance : FnC Try.prog 62 := ⟨_, Try.func62, by kernel_rfl, by kernel_rfl⟩
instance : FnC Try.prog 63 := ⟨_, Try.func63, by kernel_rfl, by kernel_rfl⟩
instance : FnC Try.prog 64 := ⟨_, Try.func64, by kernel_rfl, by kernel_rfl⟩
instance : FnC Try.prog 65 := ⟨_, Try.func65, by kernel_rfl, by kernel_rfl⟩
instance : FnC Try.prog 66 := ⟨_, Try.func66, by kernel_rfl, by kernel_rfl⟩
instance : FnC Try.prog 67 := ⟨_, Try.func67, by kernel_rfl, by kernel_rfl⟩
instance : FnC Try.prog 68 := ⟨_, Try.func68, by kernel_rfl, by kernel_rfl⟩
instance : FnC Try.prog 69 := ⟨_, Try.func69, by kernel_rfl, by kernel_rfl⟩
instance : FnC Try.prog 70 := ⟨_, Try.func70, by kernel_rfl, by kernel_rfl⟩
instance : FnC Try.prog 71 := ⟨_, Try.func71, by kernel_rfl, by kernel_rfl⟩
instance : FnC Try.prog 72 := ⟨_, Try.func72, by kernel_rfl, by kernel_rfl⟩
instance : FnC Try.prog 73 := ⟨_, Try.func73, by kernel_rfl, by kernel_rfl⟩
instance : FnC Try.prog 74 := ⟨_, Try.func74, by kernel_rfl, by kernel_rfl⟩
instance : FnC Try.prog 75 := ⟨_, Try.func75, by kernel_rfl, by kernel_rfl⟩
instance : FnC Try.prog 76 := ⟨_, Try.func76, by kernel_rfl, by kernel_rfl⟩
instance : FnC Try.prog 77 := ⟨_, Try.func77, by kernel_rfl, by kernel_rfl⟩
instance : FnC Try.prog 78 := ⟨_, Try.func78, by kernel_rfl, by kernel_rfl⟩
instance : FnC Try.prog 79 := ⟨_, Try.func79, by kernel_rfl, by kernel_rfl⟩
instance : FnC Try.prog 80 := ⟨_, Try.func80, by kernel_rfl, by kernel_rfl⟩
instance : FnC Try.prog 81 := ⟨_, Try.func81, by kernel_rfl, by kernel_rfl⟩
instance : FnC Try.prog 82 := ⟨_, Try.func82, by kernel_rfl, by kernel_rfl⟩
instance : FnC Try.prog 83 := ⟨_, Try.func83, by kernel_rfl, by kernel_rfl⟩
instance : FnC Try.prog 84 := ⟨_, Try.func84, by kernel_rfl, by kernel_rfl⟩
instance : FnC Try.prog 85 := ⟨_, Try.func85, by kernel_rfl, by kernel_rfl⟩
instance : FnC Try.prog 86 := ⟨_, Try.func86, by kernel_rfl, by kernel_rfl⟩
instance : FnC Try.prog 87 := ⟨_, Try.func87, by kernel_rfl, by kernel_rfl⟩
instance : FnC Try.prog 88 := ⟨_, Try.func88, by kernel_rfl, by kernel_rfl⟩
instance : FnC Try.prog 89 := ⟨_, Try.func89, by kernel_rfl, by kernel_rfl⟩
instance : FnC Try.prog 90 := ⟨_, Try.func90, by kernel_rfl, by kernel_rfl⟩
instance : FnC Try.prog 91 := ⟨_, Try.func91, by kernel_rfl, by kernel_rfl⟩
instance : FnC Try.prog 92 := ⟨_, Try.func92, by kernel_rfl, by kernel_rfl⟩
instance : FnC Try.prog 93 := ⟨_, Try.func93, by kernel_rfl, by kernel_rfl⟩
instance : FnC Try.prog 94 := ⟨_, Try.func94, by kernel_rfl, by kernel_rfl⟩
instance : FnC Try.prog 95 := ⟨_, Try.func95, by kernel_rfl, by kernel_rfl⟩
instance : FnC Try.prog 96 := ⟨_, Try.func96, by kernel_rfl, by kernel_rfl⟩
instance : FnC Try.prog 97 := ⟨_, Try.func97, by kernel_rfl, by kernel_rfl⟩
end Go.Ev
