/- The typed data of this seat and the engine's instances, printed by program (inst.py). -/
import Derived.Test.YtbfjidhekfnfjaaProg
import Derived.KernelRfl
import Derived.Test.YtbfjidhekfnfjaaEvPP
set_option linter.all false
namespace Go.Ev
open Go.Proofs
theorem PPm : Try.prog.follows .mixedOrders = true := by kernel_rfl
theorem w64 {n : Int} (h : -9223372036854775808 ≤ n ∧ n ≤ 9223372036854775807) : IntKind.i64.wrap n = n := by
  rw [IntKind.wrap_i64]; omega
structure BigInt where
  fNeg : Bool
  fMag : (List Int)
  deriving DecidableEq, Inhabited
def encBigInt (y : BigInt) : List PV := [.sc (.bool y.fNeg), .sl y.fMag.length (y.fMag.flatMap (encI .i64))]
def encWBigInt (y : BigInt) : List PV := [.sc (.bool y.fNeg), .rw 1 y.fMag.length (y.fMag.flatMap (encI .i64))]
theorem softBigInt (y : BigInt) : SoftL (encWBigInt y) (encBigInt y) := (SoftL.cons (Soft.refl _) (SoftL.cons (Soft.rw (SoftL.refl _)) SoftL.nil))
def okBigInt (y : BigInt) : Prop := (fun _ => True) y.fNeg ∧ (okL (okI .i64)) y.fMag ∧ True
structure Rat where
  fNum : BigInt
  fDen : (List Int)
  deriving DecidableEq, Inhabited
def encRat (y : Rat) : List PV := [.sc (.bool y.fNum.fNeg), .sl y.fNum.fMag.length (y.fNum.fMag.flatMap (encI .i64)), .sl y.fDen.length (y.fDen.flatMap (encI .i64))]
def encWRat (y : Rat) : List PV := [.sc (.bool y.fNum.fNeg), .rw 1 y.fNum.fMag.length (y.fNum.fMag.flatMap (encI .i64)), .rw 1 y.fDen.length (y.fDen.flatMap (encI .i64))]
theorem softRat (y : Rat) : SoftL (encWRat y) (encRat y) := (SoftL.cons (Soft.refl _) (SoftL.cons (Soft.rw (SoftL.refl _)) (SoftL.cons (Soft.rw (SoftL.refl _)) SoftL.nil)))
def okRat (y : Rat) : Prop := okBigInt y.fNum ∧ (okL (okI .i64)) y.fDen ∧ True
structure Link where
  fA : Int
  fB : Int
  fWeight : Rat
  fDX : Rat
  fDY : Rat
  deriving DecidableEq, Inhabited
def encLink (y : Link) : List PV := [.sc (.int .i64 y.fA), .sc (.int .i64 y.fB), .sc (.bool y.fWeight.fNum.fNeg), .sl y.fWeight.fNum.fMag.length (y.fWeight.fNum.fMag.flatMap (encI .i64)), .sl y.fWeight.fDen.length (y.fWeight.fDen.flatMap (encI .i64)), .sc (.bool y.fDX.fNum.fNeg), .sl y.fDX.fNum.fMag.length (y.fDX.fNum.fMag.flatMap (encI .i64)), .sl y.fDX.fDen.length (y.fDX.fDen.flatMap (encI .i64)), .sc (.bool y.fDY.fNum.fNeg), .sl y.fDY.fNum.fMag.length (y.fDY.fNum.fMag.flatMap (encI .i64)), .sl y.fDY.fDen.length (y.fDY.fDen.flatMap (encI .i64))]
def encWLink (y : Link) : List PV := [.sc (.int .i64 y.fA), .sc (.int .i64 y.fB), .sc (.bool y.fWeight.fNum.fNeg), .rw 1 y.fWeight.fNum.fMag.length (y.fWeight.fNum.fMag.flatMap (encI .i64)), .rw 1 y.fWeight.fDen.length (y.fWeight.fDen.flatMap (encI .i64)), .sc (.bool y.fDX.fNum.fNeg), .rw 1 y.fDX.fNum.fMag.length (y.fDX.fNum.fMag.flatMap (encI .i64)), .rw 1 y.fDX.fDen.length (y.fDX.fDen.flatMap (encI .i64)), .sc (.bool y.fDY.fNum.fNeg), .rw 1 y.fDY.fNum.fMag.length (y.fDY.fNum.fMag.flatMap (encI .i64)), .rw 1 y.fDY.fDen.length (y.fDY.fDen.flatMap (encI .i64))]
theorem softLink (y : Link) : SoftL (encWLink y) (encLink y) := (SoftL.cons (Soft.refl _) (SoftL.cons (Soft.refl _) (SoftL.cons (Soft.refl _) (SoftL.cons (Soft.rw (SoftL.refl _)) (SoftL.cons (Soft.rw (SoftL.refl _)) (SoftL.cons (Soft.refl _) (SoftL.cons (Soft.rw (SoftL.refl _)) (SoftL.cons (Soft.rw (SoftL.refl _)) (SoftL.cons (Soft.refl _) (SoftL.cons (Soft.rw (SoftL.refl _)) (SoftL.cons (Soft.rw (SoftL.refl _)) SoftL.nil)))))))))))
def okLink (y : Link) : Prop := (okI .i64) y.fA ∧ (okI .i64) y.fB ∧ okRat y.fWeight ∧ okRat y.fDX ∧ okRat y.fDY ∧ True
structure Parent where
  fNode : Int
  fShare : Rat
  fDX : Rat
  fDY : Rat
  deriving DecidableEq, Inhabited
def encParent (y : Parent) : List PV := [.sc (.int .i64 y.fNode), .sc (.bool y.fShare.fNum.fNeg), .sl y.fShare.fNum.fMag.length (y.fShare.fNum.fMag.flatMap (encI .i64)), .sl y.fShare.fDen.length (y.fShare.fDen.flatMap (encI .i64)), .sc (.bool y.fDX.fNum.fNeg), .sl y.fDX.fNum.fMag.length (y.fDX.fNum.fMag.flatMap (encI .i64)), .sl y.fDX.fDen.length (y.fDX.fDen.flatMap (encI .i64)), .sc (.bool y.fDY.fNum.fNeg), .sl y.fDY.fNum.fMag.length (y.fDY.fNum.fMag.flatMap (encI .i64)), .sl y.fDY.fDen.length (y.fDY.fDen.flatMap (encI .i64))]
def encWParent (y : Parent) : List PV := [.sc (.int .i64 y.fNode), .sc (.bool y.fShare.fNum.fNeg), .rw 1 y.fShare.fNum.fMag.length (y.fShare.fNum.fMag.flatMap (encI .i64)), .rw 1 y.fShare.fDen.length (y.fShare.fDen.flatMap (encI .i64)), .sc (.bool y.fDX.fNum.fNeg), .rw 1 y.fDX.fNum.fMag.length (y.fDX.fNum.fMag.flatMap (encI .i64)), .rw 1 y.fDX.fDen.length (y.fDX.fDen.flatMap (encI .i64)), .sc (.bool y.fDY.fNum.fNeg), .rw 1 y.fDY.fNum.fMag.length (y.fDY.fNum.fMag.flatMap (encI .i64)), .rw 1 y.fDY.fDen.length (y.fDY.fDen.flatMap (encI .i64))]
theorem softParent (y : Parent) : SoftL (encWParent y) (encParent y) := (SoftL.cons (Soft.refl _) (SoftL.cons (Soft.refl _) (SoftL.cons (Soft.rw (SoftL.refl _)) (SoftL.cons (Soft.rw (SoftL.refl _)) (SoftL.cons (Soft.refl _) (SoftL.cons (Soft.rw (SoftL.refl _)) (SoftL.cons (Soft.rw (SoftL.refl _)) (SoftL.cons (Soft.refl _) (SoftL.cons (Soft.rw (SoftL.refl _)) (SoftL.cons (Soft.rw (SoftL.refl _)) SoftL.nil))))))))))
def okParent (y : Parent) : Prop := (okI .i64) y.fNode ∧ okRat y.fShare ∧ okRat y.fDX ∧ okRat y.fDY ∧ True
structure Conditional where
  fNode : Int
  fTotal : Rat
  fParents : (List Parent)
  deriving DecidableEq, Inhabited
def encConditional (y : Conditional) : List PV := [.sc (.int .i64 y.fNode), .sc (.bool y.fTotal.fNum.fNeg), .sl y.fTotal.fNum.fMag.length (y.fTotal.fNum.fMag.flatMap (encI .i64)), .sl y.fTotal.fDen.length (y.fTotal.fDen.flatMap (encI .i64)), .sl y.fParents.length (y.fParents.flatMap encParent)]
def encWConditional (y : Conditional) : List PV := [.sc (.int .i64 y.fNode), .sc (.bool y.fTotal.fNum.fNeg), .rw 1 y.fTotal.fNum.fMag.length (y.fTotal.fNum.fMag.flatMap (encI .i64)), .rw 1 y.fTotal.fDen.length (y.fTotal.fDen.flatMap (encI .i64)), .rw 10 y.fParents.length (y.fParents.flatMap encWParent)]
theorem softConditional (y : Conditional) : SoftL (encWConditional y) (encConditional y) := (SoftL.cons (Soft.refl _) (SoftL.cons (Soft.refl _) (SoftL.cons (Soft.rw (SoftL.refl _)) (SoftL.cons (Soft.rw (SoftL.refl _)) (SoftL.cons (Soft.rw (SoftL.flat softParent _)) SoftL.nil)))))
def okConditional (y : Conditional) : Prop := (okI .i64) y.fNode ∧ okRat y.fTotal ∧ (okL okParent) y.fParents ∧ True
structure TreeNode where
  fNode : Int
  fUp : Int
  fOwn : (List Link)
  fCond : Conditional
  fMessages : (List Link)
  fEnergy : Rat
  deriving DecidableEq, Inhabited
def encTreeNode (y : TreeNode) : List PV := [.sc (.int .i64 y.fNode), .sc (.int .i64 y.fUp), .sl y.fOwn.length (y.fOwn.flatMap encLink), .sc (.int .i64 y.fCond.fNode), .sc (.bool y.fCond.fTotal.fNum.fNeg), .sl y.fCond.fTotal.fNum.fMag.length (y.fCond.fTotal.fNum.fMag.flatMap (encI .i64)), .sl y.fCond.fTotal.fDen.length (y.fCond.fTotal.fDen.flatMap (encI .i64)), .sl y.fCond.fParents.length (y.fCond.fParents.flatMap encParent), .sl y.fMessages.length (y.fMessages.flatMap encLink), .sc (.bool y.fEnergy.fNum.fNeg), .sl y.fEnergy.fNum.fMag.length (y.fEnergy.fNum.fMag.flatMap (encI .i64)), .sl y.fEnergy.fDen.length (y.fEnergy.fDen.flatMap (encI .i64))]
def encWTreeNode (y : TreeNode) : List PV := [.sc (.int .i64 y.fNode), .sc (.int .i64 y.fUp), .rw 11 y.fOwn.length (y.fOwn.flatMap encWLink), .sc (.int .i64 y.fCond.fNode), .sc (.bool y.fCond.fTotal.fNum.fNeg), .rw 1 y.fCond.fTotal.fNum.fMag.length (y.fCond.fTotal.fNum.fMag.flatMap (encI .i64)), .rw 1 y.fCond.fTotal.fDen.length (y.fCond.fTotal.fDen.flatMap (encI .i64)), .rw 10 y.fCond.fParents.length (y.fCond.fParents.flatMap encWParent), .rw 11 y.fMessages.length (y.fMessages.flatMap encWLink), .sc (.bool y.fEnergy.fNum.fNeg), .rw 1 y.fEnergy.fNum.fMag.length (y.fEnergy.fNum.fMag.flatMap (encI .i64)), .rw 1 y.fEnergy.fDen.length (y.fEnergy.fDen.flatMap (encI .i64))]
theorem softTreeNode (y : TreeNode) : SoftL (encWTreeNode y) (encTreeNode y) := (SoftL.cons (Soft.refl _) (SoftL.cons (Soft.refl _) (SoftL.cons (Soft.rw (SoftL.flat softLink _)) (SoftL.cons (Soft.refl _) (SoftL.cons (Soft.refl _) (SoftL.cons (Soft.rw (SoftL.refl _)) (SoftL.cons (Soft.rw (SoftL.refl _)) (SoftL.cons (Soft.rw (SoftL.flat softParent _)) (SoftL.cons (Soft.rw (SoftL.flat softLink _)) (SoftL.cons (Soft.refl _) (SoftL.cons (Soft.rw (SoftL.refl _)) (SoftL.cons (Soft.rw (SoftL.refl _)) SoftL.nil))))))))))))
def okTreeNode (y : TreeNode) : Prop := (okI .i64) y.fNode ∧ (okI .i64) y.fUp ∧ (okL okLink) y.fOwn ∧ okConditional y.fCond ∧ (okL okLink) y.fMessages ∧ okRat y.fEnergy ∧ True
structure Tree where
  fNodes : (List TreeNode)
  deriving DecidableEq, Inhabited
def encTree (y : Tree) : List PV := [.sl y.fNodes.length (y.fNodes.flatMap encTreeNode)]
def encWTree (y : Tree) : List PV := [.rw 12 y.fNodes.length (y.fNodes.flatMap encWTreeNode)]
theorem softTree (y : Tree) : SoftL (encWTree y) (encTree y) := (SoftL.cons (Soft.rw (SoftL.flat softTreeNode _)) SoftL.nil)
def okTree (y : Tree) : Prop := (okL okTreeNode) y.fNodes ∧ True
structure Pose where
  fTurn : Int
  fX : Int
  fY : Int
  deriving DecidableEq, Inhabited
def encPose (y : Pose) : List PV := [.sc (.int .i64 y.fTurn), .sc (.int .i64 y.fX), .sc (.int .i64 y.fY)]
def okPose (y : Pose) : Prop := (okI .i64) y.fTurn ∧ (okI .i64) y.fX ∧ (okI .i64) y.fY ∧ True
structure Factor where
  fId : Int
  fKind : Int
  fFrom : ByteArray
  fTo : ByteArray
  fPose : Pose
  fWeight : Int
  deriving DecidableEq, Inhabited
def encFactor (y : Factor) : List PV := [.sc (.int .i64 y.fId), .sc (.int .i64 y.fKind), .sc (.string y.fFrom), .sc (.string y.fTo), .sc (.int .i64 y.fPose.fTurn), .sc (.int .i64 y.fPose.fX), .sc (.int .i64 y.fPose.fY), .sc (.int .i64 y.fWeight)]
def okFactor (y : Factor) : Prop := (okI .i64) y.fId ∧ (okI .i64) y.fKind ∧ okS y.fFrom ∧ okS y.fTo ∧ okPose y.fPose ∧ (okI .i64) y.fWeight ∧ True
structure Clique where
  fFrontal : (List Int)
  fSeparator : (List Int)
  fUp : Int
  deriving DecidableEq, Inhabited
def encClique (y : Clique) : List PV := [.sl y.fFrontal.length (y.fFrontal.flatMap (encI .i64)), .sl y.fSeparator.length (y.fSeparator.flatMap (encI .i64)), .sc (.int .i64 y.fUp)]
def encWClique (y : Clique) : List PV := [.rw 1 y.fFrontal.length (y.fFrontal.flatMap (encI .i64)), .rw 1 y.fSeparator.length (y.fSeparator.flatMap (encI .i64)), .sc (.int .i64 y.fUp)]
theorem softClique (y : Clique) : SoftL (encWClique y) (encClique y) := (SoftL.cons (Soft.rw (SoftL.refl _)) (SoftL.cons (Soft.rw (SoftL.refl _)) (SoftL.cons (Soft.refl _) SoftL.nil)))
def okClique (y : Clique) : Prop := (okL (okI .i64)) y.fFrontal ∧ (okL (okI .i64)) y.fSeparator ∧ (okI .i64) y.fUp ∧ True
instance : TI Try.prog 3 1 false 8 := .of (by kernel_rfl)
instance : ZT Try.prog 3 [.sc (.int .i64 0)] := .of (vals := [.int .i64 0]) (by kernel_rfl) (by kernel_rfl) rfl
instance : UT Try.prog 3 (.int .i64) := ⟨by kernel_rfl⟩
instance : TI Try.prog 4 1 false 1 := .of (by kernel_rfl)
instance : ZT Try.prog 4 [.sc (.bool false)] := .of (vals := [.bool false]) (by kernel_rfl) (by kernel_rfl) rfl
instance : UT Try.prog 4 .bool := ⟨by kernel_rfl⟩
instance : TI Try.prog 5 1 false 1 := .of (by kernel_rfl)
instance : ZT Try.prog 5 [.sc (.int .u8 0)] := .of (vals := [.int .u8 0]) (by kernel_rfl) (by kernel_rfl) rfl
instance : UT Try.prog 5 (.int .u8) := ⟨by kernel_rfl⟩
instance : TI Try.prog 9 1 false 16 := .of (by kernel_rfl)
instance : ZT Try.prog 9 [.sc (.string ByteArray.empty)] := .of (vals := [.string ByteArray.empty]) (by kernel_rfl) (by kernel_rfl) rfl
instance : UT Try.prog 9 .string := ⟨by kernel_rfl⟩
instance : TI Try.prog 22 1 false 24 := .of (by kernel_rfl)
instance : ZT Try.prog 22 [.sc (.slice none 0 0)] := .of (vals := [.slice none 0 0]) (by kernel_rfl) (by kernel_rfl) rfl
instance : SlT Try.prog 22 76 := ⟨by kernel_rfl⟩
instance : TI Try.prog 24 1 false 24 := .of (by kernel_rfl)
instance : ZT Try.prog 24 [.sc (.slice none 0 0)] := .of (vals := [.slice none 0 0]) (by kernel_rfl) (by kernel_rfl) rfl
instance : SlT Try.prog 24 3 := ⟨by kernel_rfl⟩
instance : TI Try.prog 26 1 false 24 := .of (by kernel_rfl)
instance : ZT Try.prog 26 [.sc (.slice none 0 0)] := .of (vals := [.slice none 0 0]) (by kernel_rfl) (by kernel_rfl) rfl
instance : SlT Try.prog 26 88 := ⟨by kernel_rfl⟩
instance : TI Try.prog 33 1 false 24 := .of (by kernel_rfl)
instance : ZT Try.prog 33 [.sc (.slice none 0 0)] := .of (vals := [.slice none 0 0]) (by kernel_rfl) (by kernel_rfl) rfl
instance : SlT Try.prog 33 86 := ⟨by kernel_rfl⟩
instance : TI Try.prog 34 1 false 24 := .of (by kernel_rfl)
instance : ZT Try.prog 34 [.sc (.slice none 0 0)] := .of (vals := [.slice none 0 0]) (by kernel_rfl) (by kernel_rfl) rfl
instance : SlT Try.prog 34 4 := ⟨by kernel_rfl⟩
instance : TI Try.prog 41 1 false 24 := .of (by kernel_rfl)
instance : ZT Try.prog 41 [.sc (.slice none 0 0)] := .of (vals := [.slice none 0 0]) (by kernel_rfl) (by kernel_rfl) rfl
instance : SlT Try.prog 41 109 := ⟨by kernel_rfl⟩
instance : TI Try.prog 44 1 false 24 := .of (by kernel_rfl)
instance : ZT Try.prog 44 [.sc (.slice none 0 0)] := .of (vals := [.slice none 0 0]) (by kernel_rfl) (by kernel_rfl) rfl
instance : SlT Try.prog 44 110 := ⟨by kernel_rfl⟩
instance : TI Try.prog 51 1 false 24 := .of (by kernel_rfl)
instance : ZT Try.prog 51 [.sc (.slice none 0 0)] := .of (vals := [.slice none 0 0]) (by kernel_rfl) (by kernel_rfl) rfl
instance : SlT Try.prog 51 157 := ⟨by kernel_rfl⟩
instance : TI Try.prog 53 1 true 24 := .of (by kernel_rfl)
instance : ZT Try.prog 53 [.sc (.slice none 0 0)] := .of (vals := [.slice none 0 0]) (by kernel_rfl) (by kernel_rfl) rfl
instance : PlT Try.prog 53 [(0, 1)] := .of (by kernel_rfl)
instance : FldT Try.prog 53 0 0 := .of (by kernel_rfl)
instance : TI Try.prog 55 1 false 24 := .of (by kernel_rfl)
instance : ZT Try.prog 55 [.sc (.slice none 0 0)] := .of (vals := [.slice none 0 0]) (by kernel_rfl) (by kernel_rfl) rfl
instance : SlT Try.prog 55 83 := ⟨by kernel_rfl⟩
instance : TI Try.prog 57 1 false 24 := .of (by kernel_rfl)
instance : ZT Try.prog 57 [.sc (.slice none 0 0)] := .of (vals := [.slice none 0 0]) (by kernel_rfl) (by kernel_rfl) rfl
instance : SlT Try.prog 57 122 := ⟨by kernel_rfl⟩
instance : TI Try.prog 59 1 true 24 := .of (by kernel_rfl)
instance : ZT Try.prog 59 [.sc (.slice none 0 0)] := .of (vals := [.slice none 0 0]) (by kernel_rfl) (by kernel_rfl) rfl
instance : PlT Try.prog 59 [(0, 1)] := .of (by kernel_rfl)
instance : FldT Try.prog 59 0 0 := .of (by kernel_rfl)
instance : TI Try.prog 69 1 false 24 := .of (by kernel_rfl)
instance : ZT Try.prog 69 [.sc (.slice none 0 0)] := .of (vals := [.slice none 0 0]) (by kernel_rfl) (by kernel_rfl) rfl
instance : SlT Try.prog 69 120 := ⟨by kernel_rfl⟩
instance : TI Try.prog 74 3 true 24 := .of (by kernel_rfl)
instance : ZT Try.prog 74 [.sc (.int .i64 0), .sc (.int .i64 0), .sc (.int .i64 0)] := .of (vals := [.int .i64 0, .int .i64 0, .int .i64 0]) (by kernel_rfl) (by kernel_rfl) rfl
instance : PlT Try.prog 74 [(0, 1), (1, 1), (2, 1)] := .of (by kernel_rfl)
instance : FldT Try.prog 74 0 0 := .of (by kernel_rfl)
instance : FldT Try.prog 74 1 1 := .of (by kernel_rfl)
instance : FldT Try.prog 74 2 2 := .of (by kernel_rfl)
instance : TI Try.prog 76 8 true 80 := .of (by kernel_rfl)
instance : ZT Try.prog 76 [.sc (.int .i64 0), .sc (.int .i64 0), .sc (.string ByteArray.empty), .sc (.string ByteArray.empty), .sc (.int .i64 0), .sc (.int .i64 0), .sc (.int .i64 0), .sc (.int .i64 0)] := .of (vals := [.int .i64 0, .int .i64 0, .string ByteArray.empty, .string ByteArray.empty, .int .i64 0, .int .i64 0, .int .i64 0, .int .i64 0]) (by kernel_rfl) (by kernel_rfl) rfl
instance : PlT Try.prog 76 [(0, 1), (1, 1), (2, 1), (3, 1), (4, 3), (7, 1)] := .of (by kernel_rfl)
instance : FldT Try.prog 76 0 0 := .of (by kernel_rfl)
instance : FldT Try.prog 76 1 1 := .of (by kernel_rfl)
instance : FldT Try.prog 76 2 2 := .of (by kernel_rfl)
instance : FldT Try.prog 76 3 3 := .of (by kernel_rfl)
instance : FldT Try.prog 76 4 4 := .of (by kernel_rfl)
instance : FldT Try.prog 76 5 7 := .of (by kernel_rfl)
instance : TI Try.prog 79 2 true 32 := .of (by kernel_rfl)
instance : ZT Try.prog 79 [.sc (.bool false), .sc (.slice none 0 0)] := .of (vals := [.bool false, .slice none 0 0]) (by kernel_rfl) (by kernel_rfl) rfl
instance : PlT Try.prog 79 [(0, 1), (1, 1)] := .of (by kernel_rfl)
instance : FldT Try.prog 79 0 0 := .of (by kernel_rfl)
instance : FldT Try.prog 79 1 1 := .of (by kernel_rfl)
instance : TI Try.prog 81 3 true 56 := .of (by kernel_rfl)
instance : ZT Try.prog 81 [.sc (.bool false), .sc (.slice none 0 0), .sc (.slice none 0 0)] := .of (vals := [.bool false, .slice none 0 0, .slice none 0 0]) (by kernel_rfl) (by kernel_rfl) rfl
instance : PlT Try.prog 81 [(0, 2), (2, 1)] := .of (by kernel_rfl)
instance : FldT Try.prog 81 0 0 := .of (by kernel_rfl)
instance : FldT Try.prog 81 1 2 := .of (by kernel_rfl)
instance : TI Try.prog 83 11 true 184 := .of (by kernel_rfl)
instance : ZT Try.prog 83 [.sc (.int .i64 0), .sc (.int .i64 0), .sc (.bool false), .sc (.slice none 0 0), .sc (.slice none 0 0), .sc (.bool false), .sc (.slice none 0 0), .sc (.slice none 0 0), .sc (.bool false), .sc (.slice none 0 0), .sc (.slice none 0 0)] := .of (vals := [.int .i64 0, .int .i64 0, .bool false, .slice none 0 0, .slice none 0 0, .bool false, .slice none 0 0, .slice none 0 0, .bool false, .slice none 0 0, .slice none 0 0]) (by kernel_rfl) (by kernel_rfl) rfl
instance : PlT Try.prog 83 [(0, 1), (1, 1), (2, 3), (5, 3), (8, 3)] := .of (by kernel_rfl)
instance : FldT Try.prog 83 0 0 := .of (by kernel_rfl)
instance : FldT Try.prog 83 1 1 := .of (by kernel_rfl)
instance : FldT Try.prog 83 2 2 := .of (by kernel_rfl)
instance : FldT Try.prog 83 3 5 := .of (by kernel_rfl)
instance : FldT Try.prog 83 4 8 := .of (by kernel_rfl)
instance : TI Try.prog 86 3 true 24 := .of (by kernel_rfl)
instance : ZT Try.prog 86 [.sc (.int .i64 0), .sc (.int .i64 0), .sc (.int .i64 0)] := .of (vals := [.int .i64 0, .int .i64 0, .int .i64 0]) (by kernel_rfl) (by kernel_rfl) rfl
instance : PlT Try.prog 86 [(0, 1), (1, 1), (2, 1)] := .of (by kernel_rfl)
instance : FldT Try.prog 86 0 0 := .of (by kernel_rfl)
instance : FldT Try.prog 86 1 1 := .of (by kernel_rfl)
instance : FldT Try.prog 86 2 2 := .of (by kernel_rfl)
instance : TI Try.prog 88 8 true 80 := .of (by kernel_rfl)
instance : ZT Try.prog 88 [.sc (.int .i64 0), .sc (.int .i64 0), .sc (.string ByteArray.empty), .sc (.string ByteArray.empty), .sc (.int .i64 0), .sc (.int .i64 0), .sc (.int .i64 0), .sc (.int .i64 0)] := .of (vals := [.int .i64 0, .int .i64 0, .string ByteArray.empty, .string ByteArray.empty, .int .i64 0, .int .i64 0, .int .i64 0, .int .i64 0]) (by kernel_rfl) (by kernel_rfl) rfl
instance : PlT Try.prog 88 [(0, 1), (1, 1), (2, 1), (3, 1), (4, 3), (7, 1)] := .of (by kernel_rfl)
instance : FldT Try.prog 88 0 0 := .of (by kernel_rfl)
instance : FldT Try.prog 88 1 1 := .of (by kernel_rfl)
instance : FldT Try.prog 88 2 2 := .of (by kernel_rfl)
instance : FldT Try.prog 88 3 3 := .of (by kernel_rfl)
instance : FldT Try.prog 88 4 4 := .of (by kernel_rfl)
instance : FldT Try.prog 88 5 7 := .of (by kernel_rfl)
instance : TI Try.prog 98 1 false 24 := .of (by kernel_rfl)
instance : ZT Try.prog 98 [.sc (.slice none 0 0)] := .of (vals := [.slice none 0 0]) (by kernel_rfl) (by kernel_rfl) rfl
instance : SlT Try.prog 98 9 := ⟨by kernel_rfl⟩
instance : TI Try.prog 109 3 true 56 := .of (by kernel_rfl)
instance : ZT Try.prog 109 [.sc (.slice none 0 0), .sc (.slice none 0 0), .sc (.int .i64 0)] := .of (vals := [.slice none 0 0, .slice none 0 0, .int .i64 0]) (by kernel_rfl) (by kernel_rfl) rfl
instance : PlT Try.prog 109 [(0, 1), (1, 1), (2, 1)] := .of (by kernel_rfl)
instance : FldT Try.prog 109 0 0 := .of (by kernel_rfl)
instance : FldT Try.prog 109 1 1 := .of (by kernel_rfl)
instance : FldT Try.prog 109 2 2 := .of (by kernel_rfl)
instance : TI Try.prog 110 3 true 56 := .of (by kernel_rfl)
instance : ZT Try.prog 110 [.sc (.slice none 0 0), .sc (.slice none 0 0), .sc (.int .i64 0)] := .of (vals := [.slice none 0 0, .slice none 0 0, .int .i64 0]) (by kernel_rfl) (by kernel_rfl) rfl
instance : PlT Try.prog 110 [(0, 1), (1, 1), (2, 1)] := .of (by kernel_rfl)
instance : FldT Try.prog 110 0 0 := .of (by kernel_rfl)
instance : FldT Try.prog 110 1 1 := .of (by kernel_rfl)
instance : FldT Try.prog 110 2 2 := .of (by kernel_rfl)
instance : TI Try.prog 118 1 false 24 := .of (by kernel_rfl)
instance : ZT Try.prog 118 [.sc (.slice none 0 0)] := .of (vals := [.slice none 0 0]) (by kernel_rfl) (by kernel_rfl) rfl
instance : SlT Try.prog 118 162 := ⟨by kernel_rfl⟩
instance : TI Try.prog 120 5 true 88 := .of (by kernel_rfl)
instance : ZT Try.prog 120 [.sc (.int .i64 0), .sc (.bool false), .sc (.slice none 0 0), .sc (.slice none 0 0), .sc (.slice none 0 0)] := .of (vals := [.int .i64 0, .bool false, .slice none 0 0, .slice none 0 0, .slice none 0 0]) (by kernel_rfl) (by kernel_rfl) rfl
instance : PlT Try.prog 120 [(0, 1), (1, 3), (4, 1)] := .of (by kernel_rfl)
instance : FldT Try.prog 120 0 0 := .of (by kernel_rfl)
instance : FldT Try.prog 120 1 1 := .of (by kernel_rfl)
instance : FldT Try.prog 120 2 4 := .of (by kernel_rfl)
instance : TI Try.prog 122 12 true 208 := .of (by kernel_rfl)
instance : ZT Try.prog 122 [.sc (.int .i64 0), .sc (.int .i64 0), .sc (.slice none 0 0), .sc (.int .i64 0), .sc (.bool false), .sc (.slice none 0 0), .sc (.slice none 0 0), .sc (.slice none 0 0), .sc (.slice none 0 0), .sc (.bool false), .sc (.slice none 0 0), .sc (.slice none 0 0)] := .of (vals := [.int .i64 0, .int .i64 0, .slice none 0 0, .int .i64 0, .bool false, .slice none 0 0, .slice none 0 0, .slice none 0 0, .slice none 0 0, .bool false, .slice none 0 0, .slice none 0 0]) (by kernel_rfl) (by kernel_rfl) rfl
instance : PlT Try.prog 122 [(0, 1), (1, 1), (2, 1), (3, 5), (8, 1), (9, 3)] := .of (by kernel_rfl)
instance : FldT Try.prog 122 0 0 := .of (by kernel_rfl)
instance : FldT Try.prog 122 1 1 := .of (by kernel_rfl)
instance : FldT Try.prog 122 2 2 := .of (by kernel_rfl)
instance : FldT Try.prog 122 3 3 := .of (by kernel_rfl)
instance : FldT Try.prog 122 4 8 := .of (by kernel_rfl)
instance : FldT Try.prog 122 5 9 := .of (by kernel_rfl)
instance : TI Try.prog 143 1 false 24 := .of (by kernel_rfl)
instance : ZT Try.prog 143 [.sc (.slice none 0 0)] := .of (vals := [.slice none 0 0]) (by kernel_rfl) (by kernel_rfl) rfl
instance : SlT Try.prog 143 5 := ⟨by kernel_rfl⟩
instance : TI Try.prog 149 1 false 24 := .of (by kernel_rfl)
instance : ZT Try.prog 149 [.sc (.slice none 0 0)] := .of (vals := [.slice none 0 0]) (by kernel_rfl) (by kernel_rfl) rfl
instance : SlT Try.prog 149 196 := ⟨by kernel_rfl⟩
instance : TI Try.prog 150 2 true 32 := .of (by kernel_rfl)
instance : ZT Try.prog 150 [.sc (.bool false), .sc (.slice none 0 0)] := .of (vals := [.bool false, .slice none 0 0]) (by kernel_rfl) (by kernel_rfl) rfl
instance : PlT Try.prog 150 [(0, 1), (1, 1)] := .of (by kernel_rfl)
instance : FldT Try.prog 150 0 0 := .of (by kernel_rfl)
instance : FldT Try.prog 150 1 1 := .of (by kernel_rfl)
instance : TI Try.prog 152 3 true 56 := .of (by kernel_rfl)
instance : ZT Try.prog 152 [.sc (.bool false), .sc (.slice none 0 0), .sc (.slice none 0 0)] := .of (vals := [.bool false, .slice none 0 0, .slice none 0 0]) (by kernel_rfl) (by kernel_rfl) rfl
instance : PlT Try.prog 152 [(0, 2), (2, 1)] := .of (by kernel_rfl)
instance : FldT Try.prog 152 0 0 := .of (by kernel_rfl)
instance : FldT Try.prog 152 1 2 := .of (by kernel_rfl)
instance : TI Try.prog 153 1 false 24 := .of (by kernel_rfl)
instance : ZT Try.prog 153 [.sc (.slice none 0 0)] := .of (vals := [.slice none 0 0]) (by kernel_rfl) (by kernel_rfl) rfl
instance : SlT Try.prog 153 213 := ⟨by kernel_rfl⟩
instance : TI Try.prog 155 5 true 88 := .of (by kernel_rfl)
instance : ZT Try.prog 155 [.sc (.int .i64 0), .sc (.bool false), .sc (.slice none 0 0), .sc (.slice none 0 0), .sc (.slice none 0 0)] := .of (vals := [.int .i64 0, .bool false, .slice none 0 0, .slice none 0 0, .slice none 0 0]) (by kernel_rfl) (by kernel_rfl) rfl
instance : PlT Try.prog 155 [(0, 1), (1, 3), (4, 1)] := .of (by kernel_rfl)
instance : FldT Try.prog 155 0 0 := .of (by kernel_rfl)
instance : FldT Try.prog 155 1 1 := .of (by kernel_rfl)
instance : FldT Try.prog 155 2 4 := .of (by kernel_rfl)
instance : TI Try.prog 157 12 true 208 := .of (by kernel_rfl)
instance : ZT Try.prog 157 [.sc (.int .i64 0), .sc (.int .i64 0), .sc (.slice none 0 0), .sc (.int .i64 0), .sc (.bool false), .sc (.slice none 0 0), .sc (.slice none 0 0), .sc (.slice none 0 0), .sc (.slice none 0 0), .sc (.bool false), .sc (.slice none 0 0), .sc (.slice none 0 0)] := .of (vals := [.int .i64 0, .int .i64 0, .slice none 0 0, .int .i64 0, .bool false, .slice none 0 0, .slice none 0 0, .slice none 0 0, .slice none 0 0, .bool false, .slice none 0 0, .slice none 0 0]) (by kernel_rfl) (by kernel_rfl) rfl
instance : PlT Try.prog 157 [(0, 1), (1, 1), (2, 1), (3, 5), (8, 1), (9, 3)] := .of (by kernel_rfl)
instance : FldT Try.prog 157 0 0 := .of (by kernel_rfl)
instance : FldT Try.prog 157 1 1 := .of (by kernel_rfl)
instance : FldT Try.prog 157 2 2 := .of (by kernel_rfl)
instance : FldT Try.prog 157 3 3 := .of (by kernel_rfl)
instance : FldT Try.prog 157 4 8 := .of (by kernel_rfl)
instance : FldT Try.prog 157 5 9 := .of (by kernel_rfl)
instance : TI Try.prog 162 10 true 176 := .of (by kernel_rfl)
instance : ZT Try.prog 162 [.sc (.int .i64 0), .sc (.bool false), .sc (.slice none 0 0), .sc (.slice none 0 0), .sc (.bool false), .sc (.slice none 0 0), .sc (.slice none 0 0), .sc (.bool false), .sc (.slice none 0 0), .sc (.slice none 0 0)] := .of (vals := [.int .i64 0, .bool false, .slice none 0 0, .slice none 0 0, .bool false, .slice none 0 0, .slice none 0 0, .bool false, .slice none 0 0, .slice none 0 0]) (by kernel_rfl) (by kernel_rfl) rfl
instance : PlT Try.prog 162 [(0, 1), (1, 3), (4, 3), (7, 3)] := .of (by kernel_rfl)
instance : FldT Try.prog 162 0 0 := .of (by kernel_rfl)
instance : FldT Try.prog 162 1 1 := .of (by kernel_rfl)
instance : FldT Try.prog 162 2 4 := .of (by kernel_rfl)
instance : FldT Try.prog 162 3 7 := .of (by kernel_rfl)
instance : TI Try.prog 172 1 false 8 := .of (by kernel_rfl)
instance : ZT Try.prog 172 [.sc (.int .u64 0)] := .of (vals := [.int .u64 0]) (by kernel_rfl) (by kernel_rfl) rfl
instance : UT Try.prog 172 (.int .u64) := ⟨by kernel_rfl⟩
instance : TI Try.prog 182 1 false 8 := .of (by kernel_rfl)
instance : ZT Try.prog 182 [.sc (.int .i64 0)] := .of (vals := [.int .i64 0]) (by kernel_rfl) (by kernel_rfl) rfl
instance : UT Try.prog 182 (.int .i64) := ⟨by kernel_rfl⟩
instance : TI Try.prog 193 1 false 8 := .of (by kernel_rfl)
instance : ZT Try.prog 193 [.sc (.int .u64 0)] := .of (vals := [.int .u64 0]) (by kernel_rfl) (by kernel_rfl) rfl
instance : UT Try.prog 193 (.int .u64) := ⟨by kernel_rfl⟩
instance : TI Try.prog 196 11 true 184 := .of (by kernel_rfl)
instance : ZT Try.prog 196 [.sc (.int .i64 0), .sc (.int .i64 0), .sc (.bool false), .sc (.slice none 0 0), .sc (.slice none 0 0), .sc (.bool false), .sc (.slice none 0 0), .sc (.slice none 0 0), .sc (.bool false), .sc (.slice none 0 0), .sc (.slice none 0 0)] := .of (vals := [.int .i64 0, .int .i64 0, .bool false, .slice none 0 0, .slice none 0 0, .bool false, .slice none 0 0, .slice none 0 0, .bool false, .slice none 0 0, .slice none 0 0]) (by kernel_rfl) (by kernel_rfl) rfl
instance : PlT Try.prog 196 [(0, 1), (1, 1), (2, 3), (5, 3), (8, 3)] := .of (by kernel_rfl)
instance : FldT Try.prog 196 0 0 := .of (by kernel_rfl)
instance : FldT Try.prog 196 1 1 := .of (by kernel_rfl)
instance : FldT Try.prog 196 2 2 := .of (by kernel_rfl)
instance : FldT Try.prog 196 3 5 := .of (by kernel_rfl)
instance : FldT Try.prog 196 4 8 := .of (by kernel_rfl)
instance : TI Try.prog 205 1 false 8 := .of (by kernel_rfl)
instance : ZT Try.prog 205 [.sc (.int .u64 0)] := .of (vals := [.int .u64 0]) (by kernel_rfl) (by kernel_rfl) rfl
instance : UT Try.prog 205 (.int .u64) := ⟨by kernel_rfl⟩
instance : TI Try.prog 209 1 false 8 := .of (by kernel_rfl)
instance : ZT Try.prog 209 [.sc (.pointer none)] := .of (vals := [.pointer none]) (by kernel_rfl) (by kernel_rfl) rfl
instance : TI Try.prog 213 10 true 176 := .of (by kernel_rfl)
instance : ZT Try.prog 213 [.sc (.int .i64 0), .sc (.bool false), .sc (.slice none 0 0), .sc (.slice none 0 0), .sc (.bool false), .sc (.slice none 0 0), .sc (.slice none 0 0), .sc (.bool false), .sc (.slice none 0 0), .sc (.slice none 0 0)] := .of (vals := [.int .i64 0, .bool false, .slice none 0 0, .slice none 0 0, .bool false, .slice none 0 0, .slice none 0 0, .bool false, .slice none 0 0, .slice none 0 0]) (by kernel_rfl) (by kernel_rfl) rfl
instance : PlT Try.prog 213 [(0, 1), (1, 3), (4, 3), (7, 3)] := .of (by kernel_rfl)
instance : FldT Try.prog 213 0 0 := .of (by kernel_rfl)
instance : FldT Try.prog 213 1 1 := .of (by kernel_rfl)
instance : FldT Try.prog 213 2 4 := .of (by kernel_rfl)
instance : FldT Try.prog 213 3 7 := .of (by kernel_rfl)
instance : Dec Try.prog 3 (encI .i64) (okI .i64) := .int (by kernel_rfl)
instance : Dec Try.prog 9 encS okS := .str (by kernel_rfl)
instance : Dec Try.prog 74 encPose okPose := .struct (n := 3) Try.underlying74 (by kernel_rfl) (DecF.cons (n := 1) rfl (by kernel_rfl) (fun _ => rfl) (DecF.cons (n := 1) rfl (by kernel_rfl) (fun _ => rfl) (DecF.cons (n := 1) rfl (by kernel_rfl) (fun _ => rfl) DecF.nil))) (fun y => ⟨y.1, y.2.1, y.2.2.1⟩) (fun _ => rfl) (fun _ h => h) (fun _ => rfl)
instance : Dec Try.prog 76 encFactor okFactor := .struct (n := 8) Try.underlying76 (by kernel_rfl) (DecF.cons (n := 1) rfl (by kernel_rfl) (fun _ => rfl) (DecF.cons (n := 1) rfl (by kernel_rfl) (fun _ => rfl) (DecF.cons (n := 1) rfl (by kernel_rfl) (fun _ => rfl) (DecF.cons (n := 1) rfl (by kernel_rfl) (fun _ => rfl) (DecF.cons (n := 3) rfl (by kernel_rfl) (fun _ => rfl) (DecF.cons (n := 1) rfl (by kernel_rfl) (fun _ => rfl) DecF.nil)))))) (fun y => ⟨y.1, y.2.1, y.2.2.1, y.2.2.2.1, y.2.2.2.2.1, y.2.2.2.2.2.1⟩) (fun _ => rfl) (fun _ h => h) (fun _ => rfl)
instance : Dec Try.prog 22 (encL encFactor) (okL okFactor) := .slice (e := 76) (by kernel_rfl) 8 (by kernel_rfl) (by decide) (fun _ => rfl)
instance : Dec Try.prog 24 (encL (encI .i64)) (okL (okI .i64)) := .slice (e := 3) (by kernel_rfl) 1 (by kernel_rfl) (by decide) (fun _ => rfl)
instance : Dec Try.prog 109 encClique okClique := .struct (n := 3) Try.underlying109 (by kernel_rfl) (DecF.cons (n := 1) rfl (by kernel_rfl) (fun _ => rfl) (DecF.cons (n := 1) rfl (by kernel_rfl) (fun _ => rfl) (DecF.cons (n := 1) rfl (by kernel_rfl) (fun _ => rfl) DecF.nil))) (fun y => ⟨y.1, y.2.1, y.2.2.1⟩) (fun _ => rfl) (fun _ h => h) (fun _ => rfl)
instance : Dec Try.prog 41 (encL encClique) (okL okClique) := .slice (e := 109) (by kernel_rfl) 3 (by kernel_rfl) (by decide) (fun _ => rfl)
instance : Dec Try.prog 4 encB (fun _ => True) := .bool (by kernel_rfl)
instance : Dec Try.prog 150 encBigInt okBigInt := .struct (n := 2) Try.underlying150 (by kernel_rfl) (DecF.cons (n := 1) rfl (by kernel_rfl) (fun _ => rfl) (DecF.cons (n := 1) rfl (by kernel_rfl) (fun _ => rfl) DecF.nil)) (fun y => ⟨y.1, y.2.1⟩) (fun _ => rfl) (fun _ h => h) (fun _ => rfl)
instance : Dec Try.prog 152 encRat okRat := .struct (n := 3) Try.underlying152 (by kernel_rfl) (DecF.cons (n := 2) rfl (by kernel_rfl) (fun _ => rfl) (DecF.cons (n := 1) rfl (by kernel_rfl) (fun _ => rfl) DecF.nil)) (fun y => ⟨y.1, y.2.1⟩) (fun _ => rfl) (fun _ h => h) (fun _ => rfl)
instance : Dec Try.prog 196 encLink okLink := .struct (n := 11) Try.underlying196 (by kernel_rfl) (DecF.cons (n := 1) rfl (by kernel_rfl) (fun _ => rfl) (DecF.cons (n := 1) rfl (by kernel_rfl) (fun _ => rfl) (DecF.cons (n := 3) rfl (by kernel_rfl) (fun _ => rfl) (DecF.cons (n := 3) rfl (by kernel_rfl) (fun _ => rfl) (DecF.cons (n := 3) rfl (by kernel_rfl) (fun _ => rfl) DecF.nil))))) (fun y => ⟨y.1, y.2.1, y.2.2.1, y.2.2.2.1, y.2.2.2.2.1⟩) (fun _ => rfl) (fun _ h => h) (fun _ => rfl)
instance : Dec Try.prog 149 (encL encLink) (okL okLink) := .slice (e := 196) (by kernel_rfl) 11 (by kernel_rfl) (by decide) (fun _ => rfl)
instance : Dec Try.prog 213 encParent okParent := .struct (n := 10) Try.underlying213 (by kernel_rfl) (DecF.cons (n := 1) rfl (by kernel_rfl) (fun _ => rfl) (DecF.cons (n := 3) rfl (by kernel_rfl) (fun _ => rfl) (DecF.cons (n := 3) rfl (by kernel_rfl) (fun _ => rfl) (DecF.cons (n := 3) rfl (by kernel_rfl) (fun _ => rfl) DecF.nil)))) (fun y => ⟨y.1, y.2.1, y.2.2.1, y.2.2.2.1⟩) (fun _ => rfl) (fun _ h => h) (fun _ => rfl)
instance : Dec Try.prog 153 (encL encParent) (okL okParent) := .slice (e := 213) (by kernel_rfl) 10 (by kernel_rfl) (by decide) (fun _ => rfl)
instance : Dec Try.prog 155 encConditional okConditional := .struct (n := 5) Try.underlying155 (by kernel_rfl) (DecF.cons (n := 1) rfl (by kernel_rfl) (fun _ => rfl) (DecF.cons (n := 3) rfl (by kernel_rfl) (fun _ => rfl) (DecF.cons (n := 1) rfl (by kernel_rfl) (fun _ => rfl) DecF.nil))) (fun y => ⟨y.1, y.2.1, y.2.2.1⟩) (fun _ => rfl) (fun _ h => h) (fun _ => rfl)
instance : Dec Try.prog 157 encTreeNode okTreeNode := .struct (n := 12) Try.underlying157 (by kernel_rfl) (DecF.cons (n := 1) rfl (by kernel_rfl) (fun _ => rfl) (DecF.cons (n := 1) rfl (by kernel_rfl) (fun _ => rfl) (DecF.cons (n := 1) rfl (by kernel_rfl) (fun _ => rfl) (DecF.cons (n := 5) rfl (by kernel_rfl) (fun _ => rfl) (DecF.cons (n := 1) rfl (by kernel_rfl) (fun _ => rfl) (DecF.cons (n := 3) rfl (by kernel_rfl) (fun _ => rfl) DecF.nil)))))) (fun y => ⟨y.1, y.2.1, y.2.2.1, y.2.2.2.1, y.2.2.2.2.1, y.2.2.2.2.2.1⟩) (fun _ => rfl) (fun _ h => h) (fun _ => rfl)
instance : Dec Try.prog 51 (encL encTreeNode) (okL okTreeNode) := .slice (e := 157) (by kernel_rfl) 12 (by kernel_rfl) (by decide) (fun _ => rfl)
instance : Dec Try.prog 53 encTree okTree := .struct (n := 1) Try.underlying53 (by kernel_rfl) (DecF.cons (n := 1) rfl (by kernel_rfl) (fun _ => rfl) DecF.nil) (fun y => ⟨y.1⟩) (fun _ => rfl) (fun _ h => h) (fun _ => rfl)
instance : FnC Try.prog 3 := ⟨_, Try.func3, by kernel_rfl, by kernel_rfl⟩
instance : FnC Try.prog 4 := ⟨_, Try.func4, by kernel_rfl, by kernel_rfl⟩
instance : FnC Try.prog 5 := ⟨_, Try.func5, by kernel_rfl, by kernel_rfl⟩
instance : FnC Try.prog 6 := ⟨_, Try.func6, by kernel_rfl, by kernel_rfl⟩
instance : FnC Try.prog 7 := ⟨_, Try.func7, by kernel_rfl, by kernel_rfl⟩
instance : FnC Try.prog 8 := ⟨_, Try.func8, by kernel_rfl, by kernel_rfl⟩
instance : FnC Try.prog 9 := ⟨_, Try.func9, by kernel_rfl, by kernel_rfl⟩
instance : FnC Try.prog 10 := ⟨_, Try.func10, by kernel_rfl, by kernel_rfl⟩
instance : FnC Try.prog 11 := ⟨_, Try.func11, by kernel_rfl, by kernel_rfl⟩
instance : FnC Try.prog 12 := ⟨_, Try.func12, by kernel_rfl, by kernel_rfl⟩
instance : FnC Try.prog 13 := ⟨_, Try.func13, by kernel_rfl, by kernel_rfl⟩
instance : FnC Try.prog 14 := ⟨_, Try.func14, by kernel_rfl, by kernel_rfl⟩
instance : FnC Try.prog 15 := ⟨_, Try.func15, by kernel_rfl, by kernel_rfl⟩
instance : FnC Try.prog 16 := ⟨_, Try.func16, by kernel_rfl, by kernel_rfl⟩
instance : FnC Try.prog 17 := ⟨_, Try.func17, by kernel_rfl, by kernel_rfl⟩
instance : FnC Try.prog 18 := ⟨_, Try.func18, by kernel_rfl, by kernel_rfl⟩
instance : FnC Try.prog 19 := ⟨_, Try.func19, by kernel_rfl, by kernel_rfl⟩
instance : FnC Try.prog 20 := ⟨_, Try.func20, by kernel_rfl, by kernel_rfl⟩
instance : FnC Try.prog 21 := ⟨_, Try.func21, by kernel_rfl, by kernel_rfl⟩
instance : FnC Try.prog 22 := ⟨_, Try.func22, by kernel_rfl, by kernel_rfl⟩
instance : FnC Try.prog 23 := ⟨_, Try.func23, by kernel_rfl, by kernel_rfl⟩
instance : FnC Try.prog 24 := ⟨_, Try.func24, by kernel_rfl, by kernel_rfl⟩
instance : FnC Try.prog 25 := ⟨_, Try.func25, by kernel_rfl, by kernel_rfl⟩
instance : FnC Try.prog 26 := ⟨_, Try.func26, by kernel_rfl, by kernel_rfl⟩
instance : FnC Try.prog 27 := ⟨_, Try.func27, by kernel_rfl, by kernel_rfl⟩
instance : FnC Try.prog 28 := ⟨_, Try.func28, by kernel_rfl, by kernel_rfl⟩
instance : FnC Try.prog 29 := ⟨_, Try.func29, by kernel_rfl, by kernel_rfl⟩
instance : FnC Try.prog 30 := ⟨_, Try.func30, by kernel_rfl, by kernel_rfl⟩
instance : FnC Try.prog 31 := ⟨_, Try.func31, by kernel_rfl, by kernel_rfl⟩
instance : FnC Try.prog 32 := ⟨_, Try.func32, by kernel_rfl, by kernel_rfl⟩
instance : FnC Try.prog 33 := ⟨_, Try.func33, by kernel_rfl, by kernel_rfl⟩
instance : FnC Try.prog 34 := ⟨_, Try.func34, by kernel_rfl, by kernel_rfl⟩
instance : FnC Try.prog 35 := ⟨_, Try.func35, by kernel_rfl, by kernel_rfl⟩
instance : FnC Try.prog 36 := ⟨_, Try.func36, by kernel_rfl, by kernel_rfl⟩
instance : FnC Try.prog 37 := ⟨_, Try.func37, by kernel_rfl, by kernel_rfl⟩
instance : FnC Try.prog 38 := ⟨_, Try.func38, by kernel_rfl, by kernel_rfl⟩
instance : FnC Try.prog 39 := ⟨_, Try.func39, by kernel_rfl, by kernel_rfl⟩
instance : FnC Try.prog 40 := ⟨_, Try.func40, by kernel_rfl, by kernel_rfl⟩
instance : FnC Try.prog 41 := ⟨_, Try.func41, by kernel_rfl, by kernel_rfl⟩
instance : FnC Try.prog 42 := ⟨_, Try.func42, by kernel_rfl, by kernel_rfl⟩
instance : FnC Try.prog 43 := ⟨_, Try.func43, by kernel_rfl, by kernel_rfl⟩
instance : FnC Try.prog 44 := ⟨_, Try.func44, by kernel_rfl, by kernel_rfl⟩
instance : FnC Try.prog 45 := ⟨_, Try.func45, by kernel_rfl, by kernel_rfl⟩
instance : FnC Try.prog 46 := ⟨_, Try.func46, by kernel_rfl, by kernel_rfl⟩
instance : FnC Try.prog 47 := ⟨_, Try.func47, by kernel_rfl, by kernel_rfl⟩
instance : FnC Try.prog 48 := ⟨_, Try.func48, by kernel_rfl, by kernel_rfl⟩
instance : FnC Try.prog 49 := ⟨_, Try.func49, by kernel_rfl, by kernel_rfl⟩
instance : FnC Try.prog 50 := ⟨_, Try.func50, by kernel_rfl, by kernel_rfl⟩
instance : FnC Try.prog 51 := ⟨_, Try.func51, by kernel_rfl, by kernel_rfl⟩
instance : FnC Try.prog 52 := ⟨_, Try.func52, by kernel_rfl, by kernel_rfl⟩
instance : FnC Try.prog 53 := ⟨_, Try.func53, by kernel_rfl, by kernel_rfl⟩
instance : FnC Try.prog 54 := ⟨_, Try.func54, by kernel_rfl, by kernel_rfl⟩
instance : FnC Try.prog 55 := ⟨_, Try.func55, by kernel_rfl, by kernel_rfl⟩
instance : FnC Try.prog 56 := ⟨_, Try.func56, by kernel_rfl, by kernel_rfl⟩
instance : FnC Try.prog 57 := ⟨_, Try.func57, by kernel_rfl, by kernel_rfl⟩
instance : FnC Try.prog 58 := ⟨_, Try.func58, by kernel_rfl, by kernel_rfl⟩
instance : FnC Try.prog 59 := ⟨_, Try.func59, by kernel_rfl, by kernel_rfl⟩
instance : FnC Try.prog 60 := ⟨_, Try.func60, by kernel_rfl, by kernel_rfl⟩
instance : FnC Try.prog 61 := ⟨_, Try.func61, by kernel_rfl, by kernel_rfl⟩
instance : FnC Try.prog 62 := ⟨_, Try.func62, by kernel_rfl, by kernel_rfl⟩
instance : FnC Try.prog 63 := ⟨_, Try.func63, by kernel_rfl, by kernel_rfl⟩
instance : FnC Try.prog 64 := ⟨_, Try.func64, by kernel_rfl, by kernel_rfl⟩
instance : FnC Try.prog 65 := ⟨_, Try.func65, by kernel_rfl, by kernel_rfl⟩
instance : FnC Try.prog 66 := ⟨_, Try.func66, by kernel_rfl, by kernel_rfl⟩
instance : FnC Try.prog 67 := ⟨_, Try.func67, by kernel_rfl, by kernel_rfl⟩
instance : FnC Try.prog 68 := ⟨_, Try.func68, by kernel_rfl, by kernel_rfl⟩
instance : FnC Try.prog 69 := ⟨_, Try.func69, by kernel_rfl, by kernel_rfl⟩
instance : FnC Try.prog 70 := ⟨_, Try.func70, by kernel_rfl, by kernel_rfl⟩
instance : FnC Try.prog 71 := ⟨_, Try.func71, by kernel_rfl, by kernel_rfl⟩
instance : FnC Try.prog 72 := ⟨_, Try.func72, by kernel_rfl, by kernel_rfl⟩
instance : FnC Try.prog 73 := ⟨_, Try.func73, by kernel_rfl, by kernel_rfl⟩
instance : FnC Try.prog 74 := ⟨_, Try.func74, by kernel_rfl, by kernel_rfl⟩
instance : FnC Try.prog 75 := ⟨_, Try.func75, by kernel_rfl, by kernel_rfl⟩
instance : FnC Try.prog 76 := ⟨_, Try.func76, by kernel_rfl, by kernel_rfl⟩
instance : FnC Try.prog 77 := ⟨_, Try.func77, by kernel_rfl, by kernel_rfl⟩
instance : FnC Try.prog 78 := ⟨_, Try.func78, by kernel_rfl, by kernel_rfl⟩
instance : FnC Try.prog 79 := ⟨_, Try.func79, by kernel_rfl, by kernel_rfl⟩
instance : FnC Try.prog 80 := ⟨_, Try.func80, by kernel_rfl, by kernel_rfl⟩
instance : FnC Try.prog 81 := ⟨_, Try.func81, by kernel_rfl, by kernel_rfl⟩
instance : FnC Try.prog 82 := ⟨_, Try.func82, by kernel_rfl, by kernel_rfl⟩
instance : FnC Try.prog 83 := ⟨_, Try.func83, by kernel_rfl, by kernel_rfl⟩
instance : FnC Try.prog 84 := ⟨_, Try.func84, by kernel_rfl, by kernel_rfl⟩
instance : FnC Try.prog 85 := ⟨_, Try.func85, by kernel_rfl, by kernel_rfl⟩
instance : FnC Try.prog 86 := ⟨_, Try.func86, by kernel_rfl, by kernel_rfl⟩
instance : FnC Try.prog 87 := ⟨_, Try.func87, by kernel_rfl, by kernel_rfl⟩
instance : FnC Try.prog 88 := ⟨_, Try.func88, by kernel_rfl, by kernel_rfl⟩
instance : FnC Try.prog 90 := ⟨_, Try.func90, by kernel_rfl, by kernel_rfl⟩
instance : FnC Try.prog 91 := ⟨_, Try.func91, by kernel_rfl, by kernel_rfl⟩
instance : FnC Try.prog 92 := ⟨_, Try.func92, by kernel_rfl, by kernel_rfl⟩
instance : FnC Try.prog 93 := ⟨_, Try.func93, by kernel_rfl, by kernel_rfl⟩
instance : FnC Try.prog 94 := ⟨_, Try.func94, by kernel_rfl, by kernel_rfl⟩
instance : FnC Try.prog 95 := ⟨_, Try.func95, by kernel_rfl, by kernel_rfl⟩
instance : FnC Try.prog 96 := ⟨_, Try.func96, by kernel_rfl, by kernel_rfl⟩
instance : FnC Try.prog 97 := ⟨_, Try.func97, by kernel_rfl, by kernel_rfl⟩
instance : FnC Try.prog 98 := ⟨_, Try.func98, by kernel_rfl, by kernel_rfl⟩
instance : FnC Try.prog 99 := ⟨_, Try.func99, by kernel_rfl, by kernel_rfl⟩
instance : FnC Try.prog 100 := ⟨_, Try.func100, by kernel_rfl, by kernel_rfl⟩
instance : FnC Try.prog 101 := ⟨_, Try.func101, by kernel_rfl, by kernel_rfl⟩
instance : FnC Try.prog 102 := ⟨_, Try.func102, by kernel_rfl, by kernel_rfl⟩
instance : FnC Try.prog 103 := ⟨_, Try.func103, by kernel_rfl, by kernel_rfl⟩
instance : FnC Try.prog 104 := ⟨_, Try.func104, by kernel_rfl, by kernel_rfl⟩
instance : FnC Try.prog 105 := ⟨_, Try.func105, by kernel_rfl, by kernel_rfl⟩
instance : FnC Try.prog 106 := ⟨_, Try.func106, by kernel_rfl, by kernel_rfl⟩
instance : FnC Try.prog 107 := ⟨_, Try.func107, by kernel_rfl, by kernel_rfl⟩
instance : FnC Try.prog 108 := ⟨_, Try.func108, by kernel_rfl, by kernel_rfl⟩
instance : FnC Try.prog 109 := ⟨_, Try.func109, by kernel_rfl, by kernel_rfl⟩
instance : FnC Try.prog 110 := ⟨_, Try.func110, by kernel_rfl, by kernel_rfl⟩
instance : FnC Try.prog 111 := ⟨_, Try.func111, by kernel_rfl, by kernel_rfl⟩
instance : FnC Try.prog 112 := ⟨_, Try.func112, by kernel_rfl, by kernel_rfl⟩
instance : FnC Try.prog 113 := ⟨_, Try.func113, by kernel_rfl, by kernel_rfl⟩
instance : FnC Try.prog 114 := ⟨_, Try.func114, by kernel_rfl, by kernel_rfl⟩
instance : FnC Try.prog 115 := ⟨_, Try.func115, by kernel_rfl, by kernel_rfl⟩
instance : FnC Try.prog 116 := ⟨_, Try.func116, by kernel_rfl, by kernel_rfl⟩
instance : FnC Try.prog 117 := ⟨_, Try.func117, by kernel_rfl, by kernel_rfl⟩
instance : FnC Try.prog 118 := ⟨_, Try.func118, by kernel_rfl, by kernel_rfl⟩
instance : FnC Try.prog 119 := ⟨_, Try.func119, by kernel_rfl, by kernel_rfl⟩
instance : FnC Try.prog 120 := ⟨_, Try.func120, by kernel_rfl, by kernel_rfl⟩
instance : FnC Try.prog 121 := ⟨_, Try.func121, by kernel_rfl, by kernel_rfl⟩
instance : FnC Try.prog 122 := ⟨_, Try.func122, by kernel_rfl, by kernel_rfl⟩
instance : FnC Try.prog 123 := ⟨_, Try.func123, by kernel_rfl, by kernel_rfl⟩
instance : FnC Try.prog 124 := ⟨_, Try.func124, by kernel_rfl, by kernel_rfl⟩
instance : FnC Try.prog 125 := ⟨_, Try.func125, by kernel_rfl, by kernel_rfl⟩
instance : FnC Try.prog 126 := ⟨_, Try.func126, by kernel_rfl, by kernel_rfl⟩
instance : FnC Try.prog 127 := ⟨_, Try.func127, by kernel_rfl, by kernel_rfl⟩
instance : FnC Try.prog 128 := ⟨_, Try.func128, by kernel_rfl, by kernel_rfl⟩
instance : FnC Try.prog 129 := ⟨_, Try.func129, by kernel_rfl, by kernel_rfl⟩
instance : FnC Try.prog 131 := ⟨_, Try.func131, by kernel_rfl, by kernel_rfl⟩
instance : FnC Try.prog 132 := ⟨_, Try.func132, by kernel_rfl, by kernel_rfl⟩
instance : FnC Try.prog 133 := ⟨_, Try.func133, by kernel_rfl, by kernel_rfl⟩
instance : FnC Try.prog 134 := ⟨_, Try.func134, by kernel_rfl, by kernel_rfl⟩
instance : FnC Try.prog 135 := ⟨_, Try.func135, by kernel_rfl, by kernel_rfl⟩
instance : FnC Try.prog 136 := ⟨_, Try.func136, by kernel_rfl, by kernel_rfl⟩
instance : FnC Try.prog 137 := ⟨_, Try.func137, by kernel_rfl, by kernel_rfl⟩
instance : FnC Try.prog 138 := ⟨_, Try.func138, by kernel_rfl, by kernel_rfl⟩
instance : FnC Try.prog 139 := ⟨_, Try.func139, by kernel_rfl, by kernel_rfl⟩
instance : FnC Try.prog 140 := ⟨_, Try.func140, by kernel_rfl, by kernel_rfl⟩
instance : FnC Try.prog 141 := ⟨_, Try.func141, by kernel_rfl, by kernel_rfl⟩
instance : FnC Try.prog 142 := ⟨_, Try.func142, by kernel_rfl, by kernel_rfl⟩
instance : FnC Try.prog 143 := ⟨_, Try.func143, by kernel_rfl, by kernel_rfl⟩
instance : FnC Try.prog 144 := ⟨_, Try.func144, by kernel_rfl, by kernel_rfl⟩
instance : FnC Try.prog 145 := ⟨_, Try.func145, by kernel_rfl, by kernel_rfl⟩
instance : FnC Try.prog 146 := ⟨_, Try.func146, by kernel_rfl, by kernel_rfl⟩
instance : FnC Try.prog 147 := ⟨_, Try.func147, by kernel_rfl, by kernel_rfl⟩
instance : FnC Try.prog 148 := ⟨_, Try.func148, by kernel_rfl, by kernel_rfl⟩
instance : FnC Try.prog 149 := ⟨_, Try.func149, by kernel_rfl, by kernel_rfl⟩
instance : FnC Try.prog 150 := ⟨_, Try.func150, by kernel_rfl, by kernel_rfl⟩
instance : FnC Try.prog 151 := ⟨_, Try.func151, by kernel_rfl, by kernel_rfl⟩
instance : FnC Try.prog 152 := ⟨_, Try.func152, by kernel_rfl, by kernel_rfl⟩
instance : FnC Try.prog 153 := ⟨_, Try.func153, by kernel_rfl, by kernel_rfl⟩
instance : FnC Try.prog 154 := ⟨_, Try.func154, by kernel_rfl, by kernel_rfl⟩
instance : FnC Try.prog 155 := ⟨_, Try.func155, by kernel_rfl, by kernel_rfl⟩
instance : FnC Try.prog 156 := ⟨_, Try.func156, by kernel_rfl, by kernel_rfl⟩
instance : FnC Try.prog 157 := ⟨_, Try.func157, by kernel_rfl, by kernel_rfl⟩
instance : FnC Try.prog 158 := ⟨_, Try.func158, by kernel_rfl, by kernel_rfl⟩
instance : FnC Try.prog 161 := ⟨_, Try.func161, by kernel_rfl, by kernel_rfl⟩
instance : FnC Try.prog 162 := ⟨_, Try.func162, by kernel_rfl, by kernel_rfl⟩
instance : FnC Try.prog 163 := ⟨_, Try.func163, by kernel_rfl, by kernel_rfl⟩
instance : FnC Try.prog 164 := ⟨_, Try.func164, by kernel_rfl, by kernel_rfl⟩
instance : FnC Try.prog 165 := ⟨_, Try.func165, by kernel_rfl, by kernel_rfl⟩
instance : FnC Try.prog 166 := ⟨_, Try.func166, by kernel_rfl, by kernel_rfl⟩
instance : FnC Try.prog 167 := ⟨_, Try.func167, by kernel_rfl, by kernel_rfl⟩
instance : FnC Try.prog 168 := ⟨_, Try.func168, by kernel_rfl, by kernel_rfl⟩
instance : FnC Try.prog 169 := ⟨_, Try.func169, by kernel_rfl, by kernel_rfl⟩
instance : FnC Try.prog 170 := ⟨_, Try.func170, by kernel_rfl, by kernel_rfl⟩
instance : FnC Try.prog 171 := ⟨_, Try.func171, by kernel_rfl, by kernel_rfl⟩
instance : FnC Try.prog 172 := ⟨_, Try.func172, by kernel_rfl, by kernel_rfl⟩
instance : FnC Try.prog 173 := ⟨_, Try.func173, by kernel_rfl, by kernel_rfl⟩
instance : FnC Try.prog 174 := ⟨_, Try.func174, by kernel_rfl, by kernel_rfl⟩
instance : FnC Try.prog 186 := ⟨_, Try.func186, by kernel_rfl, by kernel_rfl⟩
instance : FnC Try.prog 187 := ⟨_, Try.func187, by kernel_rfl, by kernel_rfl⟩
instance : FnC Try.prog 188 := ⟨_, Try.func188, by kernel_rfl, by kernel_rfl⟩
instance : FnC Try.prog 189 := ⟨_, Try.func189, by kernel_rfl, by kernel_rfl⟩
instance : FnC Try.prog 190 := ⟨_, Try.func190, by kernel_rfl, by kernel_rfl⟩
instance : FnC Try.prog 191 := ⟨_, Try.func191, by kernel_rfl, by kernel_rfl⟩
instance : FnC Try.prog 192 := ⟨_, Try.func192, by kernel_rfl, by kernel_rfl⟩
instance : FnC Try.prog 193 := ⟨_, Try.func193, by kernel_rfl, by kernel_rfl⟩
instance : FnC Try.prog 194 := ⟨_, Try.func194, by kernel_rfl, by kernel_rfl⟩
instance : FnC Try.prog 195 := ⟨_, Try.func195, by kernel_rfl, by kernel_rfl⟩
instance : FnC Try.prog 202 := ⟨_, Try.func202, by kernel_rfl, by kernel_rfl⟩
instance : FnC Try.prog 203 := ⟨_, Try.func203, by kernel_rfl, by kernel_rfl⟩
instance : FnC Try.prog 204 := ⟨_, Try.func204, by kernel_rfl, by kernel_rfl⟩
instance : FnC Try.prog 206 := ⟨_, Try.func206, by kernel_rfl, by kernel_rfl⟩
end Go.Ev
