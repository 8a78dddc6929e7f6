/- The typed data of this seat and the engine's instances, printed by program (inst.py). -/
import Derived.Test.YtlfbihajihpchaaGreatProg
import Derived.KernelRfl
import Derived.Test.YtlfbihajihpchaaGreatEvSS
set_option linter.all false
namespace Go.Ev
open Go.Proofs
theorem PPm : Tryz.prog.follows .mixedOrders = true := by kernel_rfl
structure BigInt where
  fNeg : Bool
  fMag : (List Int)
  deriving DecidableEq, Inhabited
def encBigInt (y : BigInt) : List PV := [.sc (.bool y.fNeg), .sl y.fMag.length (y.fMag.flatMap (encI .i64))]
def encWBigInt (y : BigInt) : List PV := [.sc (.bool y.fNeg), .rw 1 y.fMag.length (y.fMag.flatMap (encI .i64))]
theorem softBigInt (y : BigInt) : SoftL (encWBigInt y) (encBigInt y) := (SoftL.cons (Soft.refl _) (SoftL.cons (Soft.rw (SoftL.refl _)) SoftL.nil))
def okBigInt (y : BigInt) : Prop := (fun _ => True) y.fNeg ∧ (okL (okI .i64)) y.fMag ∧ True
structure Rat where
  fNum : BigInt
  fDen : (List Int)
  deriving DecidableEq, Inhabited
def encRat (y : Rat) : List PV := [.sc (.bool y.fNum.fNeg), .sl y.fNum.fMag.length (y.fNum.fMag.flatMap (encI .i64)), .sl y.fDen.length (y.fDen.flatMap (encI .i64))]
def encWRat (y : Rat) : List PV := [.sc (.bool y.fNum.fNeg), .rw 1 y.fNum.fMag.length (y.fNum.fMag.flatMap (encI .i64)), .rw 1 y.fDen.length (y.fDen.flatMap (encI .i64))]
theorem softRat (y : Rat) : SoftL (encWRat y) (encRat y) := (SoftL.cons (Soft.refl _) (SoftL.cons (Soft.rw (SoftL.refl _)) (SoftL.cons (Soft.rw (SoftL.refl _)) SoftL.nil)))
def okRat (y : Rat) : Prop := okBigInt y.fNum ∧ (okL (okI .i64)) y.fDen ∧ True
structure Link where
  fA : Int
  fB : Int
  fWeight : Rat
  fDX : Rat
  fDY : Rat
  deriving DecidableEq, Inhabited
def encLink (y : Link) : List PV := [.sc (.int .i64 y.fA), .sc (.int .i64 y.fB), .sc (.bool y.fWeight.fNum.fNeg), .sl y.fWeight.fNum.fMag.length (y.fWeight.fNum.fMag.flatMap (encI .i64)), .sl y.fWeight.fDen.length (y.fWeight.fDen.flatMap (encI .i64)), .sc (.bool y.fDX.fNum.fNeg), .sl y.fDX.fNum.fMag.length (y.fDX.fNum.fMag.flatMap (encI .i64)), .sl y.fDX.fDen.length (y.fDX.fDen.flatMap (encI .i64)), .sc (.bool y.fDY.fNum.fNeg), .sl y.fDY.fNum.fMag.length (y.fDY.fNum.fMag.flatMap (encI .i64)), .sl y.fDY.fDen.length (y.fDY.fDen.flatMap (encI .i64))]
def encWLink (y : Link) : List PV := [.sc (.int .i64 y.fA), .sc (.int .i64 y.fB), .sc (.bool y.fWeight.fNum.fNeg), .rw 1 y.fWeight.fNum.fMag.length (y.fWeight.fNum.fMag.flatMap (encI .i64)), .rw 1 y.fWeight.fDen.length (y.fWeight.fDen.flatMap (encI .i64)), .sc (.bool y.fDX.fNum.fNeg), .rw 1 y.fDX.fNum.fMag.length (y.fDX.fNum.fMag.flatMap (encI .i64)), .rw 1 y.fDX.fDen.length (y.fDX.fDen.flatMap (encI .i64)), .sc (.bool y.fDY.fNum.fNeg), .rw 1 y.fDY.fNum.fMag.length (y.fDY.fNum.fMag.flatMap (encI .i64)), .rw 1 y.fDY.fDen.length (y.fDY.fDen.flatMap (encI .i64))]
theorem softLink (y : Link) : SoftL (encWLink y) (encLink y) := (SoftL.cons (Soft.refl _) (SoftL.cons (Soft.refl _) (SoftL.cons (Soft.refl _) (SoftL.cons (Soft.rw (SoftL.refl _)) (SoftL.cons (Soft.rw (SoftL.refl _)) (SoftL.cons (Soft.refl _) (SoftL.cons (Soft.rw (SoftL.refl _)) (SoftL.cons (Soft.rw (SoftL.refl _)) (SoftL.cons (Soft.refl _) (SoftL.cons (Soft.rw (SoftL.refl _)) (SoftL.cons (Soft.rw (SoftL.refl _)) SoftL.nil)))))))))))
def okLink (y : Link) : Prop := (okI .i64) y.fA ∧ (okI .i64) y.fB ∧ okRat y.fWeight ∧ okRat y.fDX ∧ okRat y.fDY ∧ True
structure Parent where
  fNode : Int
  fShare : Rat
  fDX : Rat
  fDY : Rat
  deriving DecidableEq, Inhabited
def encParent (y : Parent) : List PV := [.sc (.int .i64 y.fNode), .sc (.bool y.fShare.fNum.fNeg), .sl y.fShare.fNum.fMag.length (y.fShare.fNum.fMag.flatMap (encI .i64)), .sl y.fShare.fDen.length (y.fShare.fDen.flatMap (encI .i64)), .sc (.bool y.fDX.fNum.fNeg), .sl y.fDX.fNum.fMag.length (y.fDX.fNum.fMag.flatMap (encI .i64)), .sl y.fDX.fDen.length (y.fDX.fDen.flatMap (encI .i64)), .sc (.bool y.fDY.fNum.fNeg), .sl y.fDY.fNum.fMag.length (y.fDY.fNum.fMag.flatMap (encI .i64)), .sl y.fDY.fDen.length (y.fDY.fDen.flatMap (encI .i64))]
def encWParent (y : Parent) : List PV := [.sc (.int .i64 y.fNode), .sc (.bool y.fShare.fNum.fNeg), .rw 1 y.fShare.fNum.fMag.length (y.fShare.fNum.fMag.flatMap (encI .i64)), .rw 1 y.fShare.fDen.length (y.fShare.fDen.flatMap (encI .i64)), .sc (.bool y.fDX.fNum.fNeg), .rw 1 y.fDX.fNum.fMag.length (y.fDX.fNum.fMag.flatMap (encI .i64)), .rw 1 y.fDX.fDen.length (y.fDX.fDen.flatMap (encI .i64)), .sc (.bool y.fDY.fNum.fNeg), .rw 1 y.fDY.fNum.fMag.length (y.fDY.fNum.fMag.flatMap (encI .i64)), .rw 1 y.fDY.fDen.length (y.fDY.fDen.flatMap (encI .i64))]
theorem softParent (y : Parent) : SoftL (encWParent y) (encParent y) := (SoftL.cons (Soft.refl _) (SoftL.cons (Soft.refl _) (SoftL.cons (Soft.rw (SoftL.refl _)) (SoftL.cons (Soft.rw (SoftL.refl _)) (SoftL.cons (Soft.refl _) (SoftL.cons (Soft.rw (SoftL.refl _)) (SoftL.cons (Soft.rw (SoftL.refl _)) (SoftL.cons (Soft.refl _) (SoftL.cons (Soft.rw (SoftL.refl _)) (SoftL.cons (Soft.rw (SoftL.refl _)) SoftL.nil))))))))))
def okParent (y : Parent) : Prop := (okI .i64) y.fNode ∧ okRat y.fShare ∧ okRat y.fDX ∧ okRat y.fDY ∧ True
structure Conditional where
  fNode : Int
  fTotal : Rat
  fParents : (List Parent)
  deriving DecidableEq, Inhabited
def encConditional (y : Conditional) : List PV := [.sc (.int .i64 y.fNode), .sc (.bool y.fTotal.fNum.fNeg), .sl y.fTotal.fNum.fMag.length (y.fTotal.fNum.fMag.flatMap (encI .i64)), .sl y.fTotal.fDen.length (y.fTotal.fDen.flatMap (encI .i64)), .sl y.fParents.length (y.fParents.flatMap encParent)]
def encWConditional (y : Conditional) : List PV := [.sc (.int .i64 y.fNode), .sc (.bool y.fTotal.fNum.fNeg), .rw 1 y.fTotal.fNum.fMag.length (y.fTotal.fNum.fMag.flatMap (encI .i64)), .rw 1 y.fTotal.fDen.length (y.fTotal.fDen.flatMap (encI .i64)), .rw 10 y.fParents.length (y.fParents.flatMap encWParent)]
theorem softConditional (y : Conditional) : SoftL (encWConditional y) (encConditional y) := (SoftL.cons (Soft.refl _) (SoftL.cons (Soft.refl _) (SoftL.cons (Soft.rw (SoftL.refl _)) (SoftL.cons (Soft.rw (SoftL.refl _)) (SoftL.cons (Soft.rw (SoftL.flat softParent _)) SoftL.nil)))))
def okConditional (y : Conditional) : Prop := (okI .i64) y.fNode ∧ okRat y.fTotal ∧ (okL okParent) y.fParents ∧ True
structure TreeNode where
  fNode : Int
  fUp : Int
  fOwn : (List Link)
  fCond : Conditional
  fMessages : (List Link)
  fEnergy : Rat
  deriving DecidableEq, Inhabited
def encTreeNode (y : TreeNode) : List PV := [.sc (.int .i64 y.fNode), .sc (.int .i64 y.fUp), .sl y.fOwn.length (y.fOwn.flatMap encLink), .sc (.int .i64 y.fCond.fNode), .sc (.bool y.fCond.fTotal.fNum.fNeg), .sl y.fCond.fTotal.fNum.fMag.length (y.fCond.fTotal.fNum.fMag.flatMap (encI .i64)), .sl y.fCond.fTotal.fDen.length (y.fCond.fTotal.fDen.flatMap (encI .i64)), .sl y.fCond.fParents.length (y.fCond.fParents.flatMap encParent), .sl y.fMessages.length (y.fMessages.flatMap encLink), .sc (.bool y.fEnergy.fNum.fNeg), .sl y.fEnergy.fNum.fMag.length (y.fEnergy.fNum.fMag.flatMap (encI .i64)), .sl y.fEnergy.fDen.length (y.fEnergy.fDen.flatMap (encI .i64))]
def encWTreeNode (y : TreeNode) : List PV := [.sc (.int .i64 y.fNode), .sc (.int .i64 y.fUp), .rw 11 y.fOwn.length (y.fOwn.flatMap encWLink), .sc (.int .i64 y.fCond.fNode), .sc (.bool y.fCond.fTotal.fNum.fNeg), .rw 1 y.fCond.fTotal.fNum.fMag.length (y.fCond.fTotal.fNum.fMag.flatMap (encI .i64)), .rw 1 y.fCond.fTotal.fDen.length (y.fCond.fTotal.fDen.flatMap (encI .i64)), .rw 10 y.fCond.fParents.length (y.fCond.fParents.flatMap encWParent), .rw 11 y.fMessages.length (y.fMessages.flatMap encWLink), .sc (.bool y.fEnergy.fNum.fNeg), .rw 1 y.fEnergy.fNum.fMag.length (y.fEnergy.fNum.fMag.flatMap (encI .i64)), .rw 1 y.fEnergy.fDen.length (y.fEnergy.fDen.flatMap (encI .i64))]
theorem softTreeNode (y : TreeNode) : SoftL (encWTreeNode y) (encTreeNode y) := (SoftL.cons (Soft.refl _) (SoftL.cons (Soft.refl _) (SoftL.cons (Soft.rw (SoftL.flat softLink _)) (SoftL.cons (Soft.refl _) (SoftL.cons (Soft.refl _) (SoftL.cons (Soft.rw (SoftL.refl _)) (SoftL.cons (Soft.rw (SoftL.refl _)) (SoftL.cons (Soft.rw (SoftL.flat softParent _)) (SoftL.cons (Soft.rw (SoftL.flat softLink _)) (SoftL.cons (Soft.refl _) (SoftL.cons (Soft.rw (SoftL.refl _)) (SoftL.cons (Soft.rw (SoftL.refl _)) SoftL.nil))))))))))))
def okTreeNode (y : TreeNode) : Prop := (okI .i64) y.fNode ∧ (okI .i64) y.fUp ∧ (okL okLink) y.fOwn ∧ okConditional y.fCond ∧ (okL okLink) y.fMessages ∧ okRat y.fEnergy ∧ True
structure Tree where
  fNodes : (List TreeNode)
  deriving DecidableEq, Inhabited
def encTree (y : Tree) : List PV := [.sl y.fNodes.length (y.fNodes.flatMap encTreeNode)]
def encWTree (y : Tree) : List PV := [.rw 12 y.fNodes.length (y.fNodes.flatMap encWTreeNode)]
theorem softTree (y : Tree) : SoftL (encWTree y) (encTree y) := (SoftL.cons (Soft.rw (SoftL.flat softTreeNode _)) SoftL.nil)
def okTree (y : Tree) : Prop := (okL okTreeNode) y.fNodes ∧ True
structure Point where
  fX : Rat
  fY : Rat
  deriving DecidableEq, Inhabited
def encPoint (y : Point) : List PV := [.sc (.bool y.fX.fNum.fNeg), .sl y.fX.fNum.fMag.length (y.fX.fNum.fMag.flatMap (encI .i64)), .sl y.fX.fDen.length (y.fX.fDen.flatMap (encI .i64)), .sc (.bool y.fY.fNum.fNeg), .sl y.fY.fNum.fMag.length (y.fY.fNum.fMag.flatMap (encI .i64)), .sl y.fY.fDen.length (y.fY.fDen.flatMap (encI .i64))]
def encWPoint (y : Point) : List PV := [.sc (.bool y.fX.fNum.fNeg), .rw 1 y.fX.fNum.fMag.length (y.fX.fNum.fMag.flatMap (encI .i64)), .rw 1 y.fX.fDen.length (y.fX.fDen.flatMap (encI .i64)), .sc (.bool y.fY.fNum.fNeg), .rw 1 y.fY.fNum.fMag.length (y.fY.fNum.fMag.flatMap (encI .i64)), .rw 1 y.fY.fDen.length (y.fY.fDen.flatMap (encI .i64))]
theorem softPoint (y : Point) : SoftL (encWPoint y) (encPoint y) := (SoftL.cons (Soft.refl _) (SoftL.cons (Soft.rw (SoftL.refl _)) (SoftL.cons (Soft.rw (SoftL.refl _)) (SoftL.cons (Soft.refl _) (SoftL.cons (Soft.rw (SoftL.refl _)) (SoftL.cons (Soft.rw (SoftL.refl _)) SoftL.nil))))))
structure l08Arm where
  fnode : Int
  fweight : Rat
  fdx : Rat
  fdy : Rat
  deriving DecidableEq, Inhabited
instance : TI Tryz.prog 3 1 false 8 := .of (by kernel_rfl)
instance : ZT Tryz.prog 3 [.sc (.int .i64 0)] := .of (vals := [.int .i64 0]) (by kernel_rfl) (by kernel_rfl) rfl
instance : UT Tryz.prog 3 (.int .i64) := ⟨by kernel_rfl⟩
instance : TI Tryz.prog 4 1 false 1 := .of (by kernel_rfl)
instance : UT Tryz.prog 4 .bool := ⟨by kernel_rfl⟩
instance : TI Tryz.prog 24 1 false 24 := .of (by kernel_rfl)
instance : SlT Tryz.prog 24 3 := ⟨by kernel_rfl⟩
instance : TI Tryz.prog 26 2 true 32 := .of (by kernel_rfl)
instance : ZT Tryz.prog 26 [.sc (.bool false), .sc (.slice none 0 0)] := .of (vals := [.bool false, .slice none 0 0]) (by kernel_rfl) (by kernel_rfl) rfl
instance : PlT Tryz.prog 26 [(0, 1), (1, 1)] := .of (by kernel_rfl)
instance : FldT Tryz.prog 26 0 0 := .of (by kernel_rfl)
instance : FldT Tryz.prog 26 1 1 := .of (by kernel_rfl)
instance : TI Tryz.prog 28 3 true 56 := .of (by kernel_rfl)
instance : ZT Tryz.prog 28 [.sc (.bool false), .sc (.slice none 0 0), .sc (.slice none 0 0)] := .of (vals := [.bool false, .slice none 0 0, .slice none 0 0]) (by kernel_rfl) (by kernel_rfl) rfl
instance : PlT Tryz.prog 28 [(0, 2), (2, 1)] := .of (by kernel_rfl)
instance : FldT Tryz.prog 28 0 0 := .of (by kernel_rfl)
instance : FldT Tryz.prog 28 1 2 := .of (by kernel_rfl)
instance : SlT Tryz.prog 30 86 := ⟨by kernel_rfl⟩
instance : TI Tryz.prog 37 1 false 24 := .of (by kernel_rfl)
instance : SlT Tryz.prog 37 145 := ⟨by kernel_rfl⟩
instance : TI Tryz.prog 39 1 true 24 := .of (by kernel_rfl)
instance : FldT Tryz.prog 39 0 0 := .of (by kernel_rfl)
instance : TI Tryz.prog 42 1 false 24 := .of (by kernel_rfl)
instance : SlT Tryz.prog 42 110 := ⟨by kernel_rfl⟩
instance : TI Tryz.prog 44 1 true 24 := .of (by kernel_rfl)
instance : ZT Tryz.prog 44 [.sc (.slice none 0 0)] := .of (vals := [.slice none 0 0]) (by kernel_rfl) (by kernel_rfl) rfl
instance : FldT Tryz.prog 44 0 0 := .of (by kernel_rfl)
instance : SlT Tryz.prog 53 108 := ⟨by kernel_rfl⟩
instance : TI Tryz.prog 62 1 false 24 := .of (by kernel_rfl)
instance : SlT Tryz.prog 62 113 := ⟨by kernel_rfl⟩
instance : TI Tryz.prog 66 1 false 24 := .of (by kernel_rfl)
instance : SlT Tryz.prog 66 118 := ⟨by kernel_rfl⟩
instance : TI Tryz.prog 77 2 true 32 := .of (by kernel_rfl)
instance : FldT Tryz.prog 77 0 0 := .of (by kernel_rfl)
instance : FldT Tryz.prog 77 1 1 := .of (by kernel_rfl)
instance : TI Tryz.prog 79 3 true 56 := .of (by kernel_rfl)
instance : FldT Tryz.prog 79 0 0 := .of (by kernel_rfl)
instance : FldT Tryz.prog 79 1 2 := .of (by kernel_rfl)
instance : TI Tryz.prog 80 1 false 24 := .of (by kernel_rfl)
instance : SlT Tryz.prog 80 168 := ⟨by kernel_rfl⟩
instance : TI Tryz.prog 82 5 true 88 := .of (by kernel_rfl)
instance : FldT Tryz.prog 82 0 0 := .of (by kernel_rfl)
instance : FldT Tryz.prog 82 1 1 := .of (by kernel_rfl)
instance : FldT Tryz.prog 82 2 4 := .of (by kernel_rfl)
instance : TI Tryz.prog 84 1 false 24 := .of (by kernel_rfl)
instance : SlT Tryz.prog 84 93 := ⟨by kernel_rfl⟩
instance : TI Tryz.prog 86 5 true 88 := .of (by kernel_rfl)
instance : ZT Tryz.prog 86 [.sc (.int .i64 0), .sc (.bool false), .sc (.slice none 0 0), .sc (.slice none 0 0), .sc (.slice none 0 0)] := .of (vals := [.int .i64 0, .bool false, .slice none 0 0, .slice none 0 0, .slice none 0 0]) (by kernel_rfl) (by kernel_rfl) rfl
instance : PlT Tryz.prog 86 [(0, 1), (1, 3), (4, 1)] := .of (by kernel_rfl)
instance : FldT Tryz.prog 86 0 0 := .of (by kernel_rfl)
instance : FldT Tryz.prog 86 1 1 := .of (by kernel_rfl)
instance : FldT Tryz.prog 86 2 4 := .of (by kernel_rfl)
instance : TI Tryz.prog 93 10 true 176 := .of (by kernel_rfl)
instance : ZT Tryz.prog 93 [.sc (.int .i64 0), .sc (.bool false), .sc (.slice none 0 0), .sc (.slice none 0 0), .sc (.bool false), .sc (.slice none 0 0), .sc (.slice none 0 0), .sc (.bool false), .sc (.slice none 0 0), .sc (.slice none 0 0)] := .of (vals := [.int .i64 0, .bool false, .slice none 0 0, .slice none 0 0, .bool false, .slice none 0 0, .slice none 0 0, .bool false, .slice none 0 0, .slice none 0 0]) (by kernel_rfl) (by kernel_rfl) rfl
instance : PlT Tryz.prog 93 [(0, 1), (1, 3), (4, 3), (7, 3)] := .of (by kernel_rfl)
instance : FldT Tryz.prog 93 0 0 := .of (by kernel_rfl)
instance : FldT Tryz.prog 93 1 1 := .of (by kernel_rfl)
instance : FldT Tryz.prog 93 2 4 := .of (by kernel_rfl)
instance : FldT Tryz.prog 93 3 7 := .of (by kernel_rfl)
instance : TI Tryz.prog 108 6 true 112 := .of (by kernel_rfl)
instance : ZT Tryz.prog 108 [.sc (.bool false), .sc (.slice none 0 0), .sc (.slice none 0 0), .sc (.bool false), .sc (.slice none 0 0), .sc (.slice none 0 0)] := .of (vals := [.bool false, .slice none 0 0, .slice none 0 0, .bool false, .slice none 0 0, .slice none 0 0]) (by kernel_rfl) (by kernel_rfl) rfl
instance : PlT Tryz.prog 108 [(0, 3), (3, 3)] := .of (by kernel_rfl)
instance : FldT Tryz.prog 108 0 0 := .of (by kernel_rfl)
instance : FldT Tryz.prog 108 1 3 := .of (by kernel_rfl)
instance : TI Tryz.prog 110 12 true 208 := .of (by kernel_rfl)
instance : ZT Tryz.prog 110 [.sc (.int .i64 0), .sc (.int .i64 0), .sc (.slice none 0 0), .sc (.int .i64 0), .sc (.bool false), .sc (.slice none 0 0), .sc (.slice none 0 0), .sc (.slice none 0 0), .sc (.slice none 0 0), .sc (.bool false), .sc (.slice none 0 0), .sc (.slice none 0 0)] := .of (vals := [.int .i64 0, .int .i64 0, .slice none 0 0, .int .i64 0, .bool false, .slice none 0 0, .slice none 0 0, .slice none 0 0, .slice none 0 0, .bool false, .slice none 0 0, .slice none 0 0]) (by kernel_rfl) (by kernel_rfl) rfl
instance : FldT Tryz.prog 110 0 0 := .of (by kernel_rfl)
instance : FldT Tryz.prog 110 1 1 := .of (by kernel_rfl)
instance : FldT Tryz.prog 110 2 2 := .of (by kernel_rfl)
instance : FldT Tryz.prog 110 3 3 := .of (by kernel_rfl)
instance : FldT Tryz.prog 110 4 8 := .of (by kernel_rfl)
instance : FldT Tryz.prog 110 5 9 := .of (by kernel_rfl)
instance : TI Tryz.prog 113 11 true 184 := .of (by kernel_rfl)
instance : FldT Tryz.prog 113 0 0 := .of (by kernel_rfl)
instance : FldT Tryz.prog 113 1 1 := .of (by kernel_rfl)
instance : FldT Tryz.prog 113 2 2 := .of (by kernel_rfl)
instance : FldT Tryz.prog 113 3 5 := .of (by kernel_rfl)
instance : FldT Tryz.prog 113 4 8 := .of (by kernel_rfl)
instance : TI Tryz.prog 118 11 true 184 := .of (by kernel_rfl)
instance : ZT Tryz.prog 118 [.sc (.int .i64 0), .sc (.int .i64 0), .sc (.bool false), .sc (.slice none 0 0), .sc (.slice none 0 0), .sc (.bool false), .sc (.slice none 0 0), .sc (.slice none 0 0), .sc (.bool false), .sc (.slice none 0 0), .sc (.slice none 0 0)] := .of (vals := [.int .i64 0, .int .i64 0, .bool false, .slice none 0 0, .slice none 0 0, .bool false, .slice none 0 0, .slice none 0 0, .bool false, .slice none 0 0, .slice none 0 0]) (by kernel_rfl) (by kernel_rfl) rfl
instance : FldT Tryz.prog 118 0 0 := .of (by kernel_rfl)
instance : FldT Tryz.prog 118 1 1 := .of (by kernel_rfl)
instance : FldT Tryz.prog 118 2 2 := .of (by kernel_rfl)
instance : FldT Tryz.prog 118 3 5 := .of (by kernel_rfl)
instance : FldT Tryz.prog 118 4 8 := .of (by kernel_rfl)
instance : TI Tryz.prog 145 12 true 208 := .of (by kernel_rfl)
instance : FldT Tryz.prog 145 0 0 := .of (by kernel_rfl)
instance : FldT Tryz.prog 145 1 1 := .of (by kernel_rfl)
instance : FldT Tryz.prog 145 2 2 := .of (by kernel_rfl)
instance : FldT Tryz.prog 145 3 3 := .of (by kernel_rfl)
instance : FldT Tryz.prog 145 4 8 := .of (by kernel_rfl)
instance : FldT Tryz.prog 145 5 9 := .of (by kernel_rfl)
instance : TI Tryz.prog 168 10 true 176 := .of (by kernel_rfl)
instance : FldT Tryz.prog 168 0 0 := .of (by kernel_rfl)
instance : FldT Tryz.prog 168 1 1 := .of (by kernel_rfl)
instance : FldT Tryz.prog 168 2 4 := .of (by kernel_rfl)
instance : FldT Tryz.prog 168 3 7 := .of (by kernel_rfl)
instance : UT Tryz.prog 176 (.int .u64) := ⟨by kernel_rfl⟩
instance : Dec Tryz.prog 3 (encI .i64) (okI .i64) := .int (by kernel_rfl)
instance : Dec Tryz.prog 4 encB (fun _ => True) := .bool (by kernel_rfl)
instance : Dec Tryz.prog 24 (encL (encI .i64)) (okL (okI .i64)) := .slice (e := 3) (by kernel_rfl) 1 (by kernel_rfl) (by decide) (fun _ => rfl)
instance : Dec Tryz.prog 77 encBigInt okBigInt := .struct (n := 2) Tryz.underlying77 (by kernel_rfl) (DecF.cons (n := 1) rfl (by kernel_rfl) (fun _ => rfl) (DecF.cons (n := 1) rfl (by kernel_rfl) (fun _ => rfl) DecF.nil)) (fun y => ⟨y.1, y.2.1⟩) (fun _ => rfl) (fun _ h => h) (fun _ => rfl)
instance : Dec Tryz.prog 79 encRat okRat := .struct (n := 3) Tryz.underlying79 (by kernel_rfl) (DecF.cons (n := 2) rfl (by kernel_rfl) (fun _ => rfl) (DecF.cons (n := 1) rfl (by kernel_rfl) (fun _ => rfl) DecF.nil)) (fun y => ⟨y.1, y.2.1⟩) (fun _ => rfl) (fun _ h => h) (fun _ => rfl)
instance : Dec Tryz.prog 168 encParent okParent := .struct (n := 10) Tryz.underlying168 (by kernel_rfl) (DecF.cons (n := 1) rfl (by kernel_rfl) (fun _ => rfl) (DecF.cons (n := 3) rfl (by kernel_rfl) (fun _ => rfl) (DecF.cons (n := 3) rfl (by kernel_rfl) (fun _ => rfl) (DecF.cons (n := 3) rfl (by kernel_rfl) (fun _ => rfl) DecF.nil)))) (fun y => ⟨y.1, y.2.1, y.2.2.1, y.2.2.2.1⟩) (fun _ => rfl) (fun _ h => h) (fun _ => rfl)
instance : Dec Tryz.prog 80 (encL encParent) (okL okParent) := .slice (e := 168) (by kernel_rfl) 10 (by kernel_rfl) (by decide) (fun _ => rfl)
instance : Dec Tryz.prog 82 encConditional okConditional := .struct (n := 5) Tryz.underlying82 (by kernel_rfl) (DecF.cons (n := 1) rfl (by kernel_rfl) (fun _ => rfl) (DecF.cons (n := 3) rfl (by kernel_rfl) (fun _ => rfl) (DecF.cons (n := 1) rfl (by kernel_rfl) (fun _ => rfl) DecF.nil))) (fun y => ⟨y.1, y.2.1, y.2.2.1⟩) (fun _ => rfl) (fun _ h => h) (fun _ => rfl)
instance : Dec Tryz.prog 113 encLink okLink := .struct (n := 11) Tryz.underlying113 (by kernel_rfl) (DecF.cons (n := 1) rfl (by kernel_rfl) (fun _ => rfl) (DecF.cons (n := 1) rfl (by kernel_rfl) (fun _ => rfl) (DecF.cons (n := 3) rfl (by kernel_rfl) (fun _ => rfl) (DecF.cons (n := 3) rfl (by kernel_rfl) (fun _ => rfl) (DecF.cons (n := 3) rfl (by kernel_rfl) (fun _ => rfl) DecF.nil))))) (fun y => ⟨y.1, y.2.1, y.2.2.1, y.2.2.2.1, y.2.2.2.2.1⟩) (fun _ => rfl) (fun _ h => h) (fun _ => rfl)
instance : Dec Tryz.prog 62 (encL encLink) (okL okLink) := .slice (e := 113) (by kernel_rfl) 11 (by kernel_rfl) (by decide) (fun _ => rfl)
instance : Dec Tryz.prog 145 encTreeNode okTreeNode := .struct (n := 12) Tryz.underlying145 (by kernel_rfl) (DecF.cons (n := 1) rfl (by kernel_rfl) (fun _ => rfl) (DecF.cons (n := 1) rfl (by kernel_rfl) (fun _ => rfl) (DecF.cons (n := 1) rfl (by kernel_rfl) (fun _ => rfl) (DecF.cons (n := 5) rfl (by kernel_rfl) (fun _ => rfl) (DecF.cons (n := 1) rfl (by kernel_rfl) (fun _ => rfl) (DecF.cons (n := 3) rfl (by kernel_rfl) (fun _ => rfl) DecF.nil)))))) (fun y => ⟨y.1, y.2.1, y.2.2.1, y.2.2.2.1, y.2.2.2.2.1, y.2.2.2.2.2.1⟩) (fun _ => rfl) (fun _ h => h) (fun _ => rfl)
instance : Dec Tryz.prog 37 (encL encTreeNode) (okL okTreeNode) := .slice (e := 145) (by kernel_rfl) 12 (by kernel_rfl) (by decide) (fun _ => rfl)
instance : Dec Tryz.prog 39 encTree okTree := .struct (n := 1) Tryz.underlying39 (by kernel_rfl) (DecF.cons (n := 1) rfl (by kernel_rfl) (fun _ => rfl) DecF.nil) (fun y => ⟨y.1⟩) (fun _ => rfl) (fun _ h => h) (fun _ => rfl)
instance : FnC Tryz.prog 18 := ⟨_, Tryz.func18, by kernel_rfl, by kernel_rfl⟩
instance : FnC Tryz.prog 23 := ⟨_, Tryz.func23, by kernel_rfl, by kernel_rfl⟩
instance : FnC Tryz.prog 25 := ⟨_, Tryz.func25, by kernel_rfl, by kernel_rfl⟩
instance : FnC Tryz.prog 27 := ⟨_, Tryz.func27, by kernel_rfl, by kernel_rfl⟩
instance : FnC Tryz.prog 32 := ⟨_, Tryz.func32, by kernel_rfl, by kernel_rfl⟩
instance : FnC Tryz.prog 37 := ⟨_, Tryz.func37, by kernel_rfl, by kernel_rfl⟩
instance : FnC Tryz.prog 38 := ⟨_, Tryz.func38, by kernel_rfl, by kernel_rfl⟩
instance : FnC Tryz.prog 39 := ⟨_, Tryz.func39, by kernel_rfl, by kernel_rfl⟩
instance : FnC Tryz.prog 40 := ⟨_, Tryz.func40, by kernel_rfl, by kernel_rfl⟩
instance : FnC Tryz.prog 41 := ⟨_, Tryz.func41, by kernel_rfl, by kernel_rfl⟩
instance : FnC Tryz.prog 47 := ⟨_, Tryz.func47, by kernel_rfl, by kernel_rfl⟩
instance : FnC Tryz.prog 49 := ⟨_, Tryz.func49, by kernel_rfl, by kernel_rfl⟩
instance : FnC Tryz.prog 50 := ⟨_, Tryz.func50, by kernel_rfl, by kernel_rfl⟩
instance : FnC Tryz.prog 52 := ⟨_, Tryz.func52, by kernel_rfl, by kernel_rfl⟩
instance : FnC Tryz.prog 53 := ⟨_, Tryz.func53, by kernel_rfl, by kernel_rfl⟩
instance : FnC Tryz.prog 54 := ⟨_, Tryz.func54, by kernel_rfl, by kernel_rfl⟩
instance : FnC Tryz.prog 55 := ⟨_, Tryz.func55, by kernel_rfl, by kernel_rfl⟩
instance : FnC Tryz.prog 61 := ⟨_, Tryz.func61, by kernel_rfl, by kernel_rfl⟩
instance : FnC Tryz.prog 62 := ⟨_, Tryz.func62, by kernel_rfl, by kernel_rfl⟩
instance : FnC Tryz.prog 63 := ⟨_, Tryz.func63, by kernel_rfl, by kernel_rfl⟩
instance : FnC Tryz.prog 65 := ⟨_, Tryz.func65, by kernel_rfl, by kernel_rfl⟩
instance : FnC Tryz.prog 66 := ⟨_, Tryz.func66, by kernel_rfl, by kernel_rfl⟩
instance : FnC Tryz.prog 68 := ⟨_, Tryz.func68, by kernel_rfl, by kernel_rfl⟩
instance : FnC Tryz.prog 69 := ⟨_, Tryz.func69, by kernel_rfl, by kernel_rfl⟩
instance : FnC Tryz.prog 70 := ⟨_, Tryz.func70, by kernel_rfl, by kernel_rfl⟩
instance : FnC Tryz.prog 72 := ⟨_, Tryz.func72, by kernel_rfl, by kernel_rfl⟩
instance : FnC Tryz.prog 73 := ⟨_, Tryz.func73, by kernel_rfl, by kernel_rfl⟩
instance : FnC Tryz.prog 74 := ⟨_, Tryz.func74, by kernel_rfl, by kernel_rfl⟩
instance : FnC Tryz.prog 75 := ⟨_, Tryz.func75, by kernel_rfl, by kernel_rfl⟩
instance : FnC Tryz.prog 78 := ⟨_, Tryz.func78, by kernel_rfl, by kernel_rfl⟩
instance : FnC Tryz.prog 80 := ⟨_, Tryz.func80, by kernel_rfl, by kernel_rfl⟩
instance : FnC Tryz.prog 82 := ⟨_, Tryz.func82, by kernel_rfl, by kernel_rfl⟩
instance : FnC Tryz.prog 83 := ⟨_, Tryz.func83, by kernel_rfl, by kernel_rfl⟩
instance : FnC Tryz.prog 84 := ⟨_, Tryz.func84, by kernel_rfl, by kernel_rfl⟩
instance : FnC Tryz.prog 85 := ⟨_, Tryz.func85, by kernel_rfl, by kernel_rfl⟩
instance : FnC Tryz.prog 86 := ⟨_, Tryz.func86, by kernel_rfl, by kernel_rfl⟩
instance : FnC Tryz.prog 87 := ⟨_, Tryz.func87, by kernel_rfl, by kernel_rfl⟩
instance : FnC Tryz.prog 89 := ⟨_, Tryz.func89, by kernel_rfl, by kernel_rfl⟩
instance : FnC Tryz.prog 91 := ⟨_, Tryz.func91, by kernel_rfl, by kernel_rfl⟩
instance : FnC Tryz.prog 92 := ⟨_, Tryz.func92, by kernel_rfl, by kernel_rfl⟩
instance : FnC Tryz.prog 93 := ⟨_, Tryz.func93, by kernel_rfl, by kernel_rfl⟩
instance : FnC Tryz.prog 94 := ⟨_, Tryz.func94, by kernel_rfl, by kernel_rfl⟩
instance : FnC Tryz.prog 99 := ⟨_, Tryz.func99, by kernel_rfl, by kernel_rfl⟩
instance : FnC Tryz.prog 102 := ⟨_, Tryz.func102, by kernel_rfl, by kernel_rfl⟩
instance : FnC Tryz.prog 105 := ⟨_, Tryz.func105, by kernel_rfl, by kernel_rfl⟩
instance : FnC Tryz.prog 115 := ⟨_, Tryz.func115, by kernel_rfl, by kernel_rfl⟩
instance : FnC Tryz.prog 116 := ⟨_, Tryz.func116, by kernel_rfl, by kernel_rfl⟩
instance : FnC Tryz.prog 117 := ⟨_, Tryz.func117, by kernel_rfl, by kernel_rfl⟩
instance : FnC Tryz.prog 120 := ⟨_, Tryz.func120, by kernel_rfl, by kernel_rfl⟩
instance : FnC Tryz.prog 121 := ⟨_, Tryz.func121, by kernel_rfl, by kernel_rfl⟩
instance : FnC Tryz.prog 122 := ⟨_, Tryz.func122, by kernel_rfl, by kernel_rfl⟩
instance : FnC Tryz.prog 123 := ⟨_, Tryz.func123, by kernel_rfl, by kernel_rfl⟩
instance : FnC Tryz.prog 124 := ⟨_, Tryz.func124, by kernel_rfl, by kernel_rfl⟩
instance : FnC Tryz.prog 125 := ⟨_, Tryz.func125, by kernel_rfl, by kernel_rfl⟩
instance : FnC Tryz.prog 126 := ⟨_, Tryz.func126, by kernel_rfl, by kernel_rfl⟩
instance : FnC Tryz.prog 127 := ⟨_, Tryz.func127, by kernel_rfl, by kernel_rfl⟩
instance : FnC Tryz.prog 128 := ⟨_, Tryz.func128, by kernel_rfl, by kernel_rfl⟩
instance : FnC Tryz.prog 129 := ⟨_, Tryz.func129, by kernel_rfl, by kernel_rfl⟩
instance : FnC Tryz.prog 130 := ⟨_, Tryz.func130, by kernel_rfl, by kernel_rfl⟩
instance : FnC Tryz.prog 131 := ⟨_, Tryz.func131, by kernel_rfl, by kernel_rfl⟩
instance : FnC Tryz.prog 132 := ⟨_, Tryz.func132, by kernel_rfl, by kernel_rfl⟩
instance : FnC Tryz.prog 133 := ⟨_, Tryz.func133, by kernel_rfl, by kernel_rfl⟩
instance : FnC Tryz.prog 135 := ⟨_, Tryz.func135, by kernel_rfl, by kernel_rfl⟩
instance : FnC Tryz.prog 138 := ⟨_, Tryz.func138, by kernel_rfl, by kernel_rfl⟩
instance : FnC Tryz.prog 139 := ⟨_, Tryz.func139, by kernel_rfl, by kernel_rfl⟩
instance : FnC Tryz.prog 140 := ⟨_, Tryz.func140, by kernel_rfl, by kernel_rfl⟩
instance : FnC Tryz.prog 141 := ⟨_, Tryz.func141, by kernel_rfl, by kernel_rfl⟩
instance : FnC Tryz.prog 142 := ⟨_, Tryz.func142, by kernel_rfl, by kernel_rfl⟩
instance : FnC Tryz.prog 143 := ⟨_, Tryz.func143, by kernel_rfl, by kernel_rfl⟩
instance : FnC Tryz.prog 146 := ⟨_, Tryz.func146, by kernel_rfl, by kernel_rfl⟩
instance : FnC Tryz.prog 147 := ⟨_, Tryz.func147, by kernel_rfl, by kernel_rfl⟩
instance : FnC Tryz.prog 148 := ⟨_, Tryz.func148, by kernel_rfl, by kernel_rfl⟩
instance : FnC Tryz.prog 149 := ⟨_, Tryz.func149, by kernel_rfl, by kernel_rfl⟩
instance : FnC Tryz.prog 172 := ⟨_, Tryz.func172, by kernel_rfl, by kernel_rfl⟩
instance : FnC Tryz.prog 173 := ⟨_, Tryz.func173, by kernel_rfl, by kernel_rfl⟩
instance : FnC Tryz.prog 174 := ⟨_, Tryz.func174, by kernel_rfl, by kernel_rfl⟩
instance : FnC Tryz.prog 175 := ⟨_, Tryz.func175, by kernel_rfl, by kernel_rfl⟩
instance : FnC Tryz.prog 176 := ⟨_, Tryz.func176, by kernel_rfl, by kernel_rfl⟩
instance : FnC Tryz.prog 177 := ⟨_, Tryz.func177, by kernel_rfl, by kernel_rfl⟩
instance : FnC Tryz.prog 178 := ⟨_, Tryz.func178, by kernel_rfl, by kernel_rfl⟩
instance : FnC Tryz.prog 180 := ⟨_, Tryz.func180, by kernel_rfl, by kernel_rfl⟩
instance : FnC Tryz.prog 181 := ⟨_, Tryz.func181, by kernel_rfl, by kernel_rfl⟩
instance : FnC Tryz.prog 182 := ⟨_, Tryz.func182, by kernel_rfl, by kernel_rfl⟩
instance : FnC Tryz.prog 183 := ⟨_, Tryz.func183, by kernel_rfl, by kernel_rfl⟩
instance : FnC Tryz.prog 184 := ⟨_, Tryz.func184, by kernel_rfl, by kernel_rfl⟩
instance : FnC Tryz.prog 185 := ⟨_, Tryz.func185, by kernel_rfl, by kernel_rfl⟩
instance : FnC Tryz.prog 186 := ⟨_, Tryz.func186, by kernel_rfl, by kernel_rfl⟩
instance : FnC Tryz.prog 187 := ⟨_, Tryz.func187, by kernel_rfl, by kernel_rfl⟩
instance : FnC Tryz.prog 188 := ⟨_, Tryz.func188, by kernel_rfl, by kernel_rfl⟩
instance : FnC Tryz.prog 189 := ⟨_, Tryz.func189, by kernel_rfl, by kernel_rfl⟩
instance : FnC Tryz.prog 190 := ⟨_, Tryz.func190, by kernel_rfl, by kernel_rfl⟩
instance : FnC Tryz.prog 191 := ⟨_, Tryz.func191, by kernel_rfl, by kernel_rfl⟩
instance : FnC Tryz.prog 192 := ⟨_, Tryz.func192, by kernel_rfl, by kernel_rfl⟩
instance : FnC Tryz.prog 193 := ⟨_, Tryz.func193, by kernel_rfl, by kernel_rfl⟩
instance : FnC Tryz.prog 194 := ⟨_, Tryz.func194, by kernel_rfl, by kernel_rfl⟩
instance : FnC Tryz.prog 195 := ⟨_, Tryz.func195, by kernel_rfl, by kernel_rfl⟩
instance : FnC Tryz.prog 196 := ⟨_, Tryz.func196, by kernel_rfl, by kernel_rfl⟩
instance : FnC Tryz.prog 197 := ⟨_, Tryz.func197, by kernel_rfl, by kernel_rfl⟩
instance : FnC Tryz.prog 198 := ⟨_, Tryz.func198, by kernel_rfl, by kernel_rfl⟩
instance : FnC Tryz.prog 201 := ⟨_, Tryz.func201, by kernel_rfl, by kernel_rfl⟩
instance : FnC Tryz.prog 202 := ⟨_, Tryz.func202, by kernel_rfl, by kernel_rfl⟩
instance : FnC Tryz.prog 203 := ⟨_, Tryz.func203, by kernel_rfl, by kernel_rfl⟩
instance : FnC Tryz.prog 204 := ⟨_, Tryz.func204, by kernel_rfl, by kernel_rfl⟩
instance : FnC Tryz.prog 205 := ⟨_, Tryz.func205, by kernel_rfl, by kernel_rfl⟩
instance : FnC Tryz.prog 206 := ⟨_, Tryz.func206, by kernel_rfl, by kernel_rfl⟩
instance : FnC Tryz.prog 207 := ⟨_, Tryz.func207, by kernel_rfl, by kernel_rfl⟩
instance : FnC Tryz.prog 225 := ⟨_, Tryz.func225, by kernel_rfl, by kernel_rfl⟩
instance : FnC Tryz.prog 226 := ⟨_, Tryz.func226, by kernel_rfl, by kernel_rfl⟩
instance : FnC Tryz.prog 227 := ⟨_, Tryz.func227, by kernel_rfl, by kernel_rfl⟩
instance : FnC Tryz.prog 228 := ⟨_, Tryz.func228, by kernel_rfl, by kernel_rfl⟩
instance : FnC Tryz.prog 229 := ⟨_, Tryz.func229, by kernel_rfl, by kernel_rfl⟩
instance : FnC Tryz.prog 230 := ⟨_, Tryz.func230, by kernel_rfl, by kernel_rfl⟩
instance : FnC Tryz.prog 231 := ⟨_, Tryz.func231, by kernel_rfl, by kernel_rfl⟩
instance : FnC Tryz.prog 232 := ⟨_, Tryz.func232, by kernel_rfl, by kernel_rfl⟩
instance : FnC Tryz.prog 233 := ⟨_, Tryz.func233, by kernel_rfl, by kernel_rfl⟩
instance : FnC Tryz.prog 234 := ⟨_, Tryz.func234, by kernel_rfl, by kernel_rfl⟩
instance : FnC Tryz.prog 235 := ⟨_, Tryz.func235, by kernel_rfl, by kernel_rfl⟩
instance : FnC Tryz.prog 237 := ⟨_, Tryz.func237, by kernel_rfl, by kernel_rfl⟩
instance : FnC Tryz.prog 238 := ⟨_, Tryz.func238, by kernel_rfl, by kernel_rfl⟩
instance : FnC Tryz.prog 239 := ⟨_, Tryz.func239, by kernel_rfl, by kernel_rfl⟩
instance : FnC Tryz.prog 240 := ⟨_, Tryz.func240, by kernel_rfl, by kernel_rfl⟩
instance : FnC Tryz.prog 241 := ⟨_, Tryz.func241, by kernel_rfl, by kernel_rfl⟩
instance : FnC Tryz.prog 246 := ⟨_, Tryz.func246, by kernel_rfl, by kernel_rfl⟩
instance : FnC Tryz.prog 247 := ⟨_, Tryz.func247, by kernel_rfl, by kernel_rfl⟩
end Go.Ev
