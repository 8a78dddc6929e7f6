/- Parts W0. -/
import Derived.Test.YtachfjpemagdiaaGreatProg
import Derived.KernelRfl
import Derived.Test.YtachfjpemagdiaaGreatE6
set_option linter.all false
/- The typed data of this seat and the engine's instances, printed by program (inst.py). -/
namespace Go.Ev
noncomputable section
open Go.Proofs
theorem PPm:Tryz.prog.follows .mixedOrders=true:=by kernel_rfl
structure BigInt where
 fNeg:Bool
 fMag:(List Int)
 deriving DecidableEq,Inhabited
def jG (y:BigInt):List PV:=[.sc (.bool y.fNeg),.sl y.fMag.length (y.fMag.flatMap (aB .i64))]
def bW (y:BigInt):List PV:=[.sc (.bool y.fNeg),.rw 1 y.fMag.length (y.fMag.flatMap (aB .i64))]
theorem lZ (y:BigInt):SoftL (bW y) (jG y):=(SoftL.cons (Soft.refl _) (SoftL.cons (Soft.rw (SoftL.refl _)) SoftL.nil))
structure Rat where
 fNum:BigInt
 fDen:(List Int)
 deriving DecidableEq,Inhabited
def aN (y:Rat):List PV:=[.sc (.bool y.fNum.fNeg),.sl y.fNum.fMag.length (y.fNum.fMag.flatMap (aB .i64)),.sl y.fDen.length (y.fDen.flatMap (aB .i64))]
def aM (y:Rat):List PV:=[.sc (.bool y.fNum.fNeg),.rw 1 y.fNum.fMag.length (y.fNum.fMag.flatMap (aB .i64)),.rw 1 y.fDen.length (y.fDen.flatMap (aB .i64))]
theorem aR (y:Rat):SoftL (aM y) (aN y):=(SoftL.cons (Soft.refl _) (SoftL.cons (Soft.rw (SoftL.refl _)) (SoftL.cons (Soft.rw (SoftL.refl _)) SoftL.nil)))
structure Link where
 fA:Int
 fB:Int
 fWeight:Rat
 fDX:Rat
 fDY:Rat
 deriving DecidableEq,Inhabited
def aD (y:Link):List PV:=[.sc (.int .i64 y.fA),.sc (.int .i64 y.fB),.sc (.bool y.fWeight.fNum.fNeg),.sl y.fWeight.fNum.fMag.length (y.fWeight.fNum.fMag.flatMap (aB .i64)),.sl y.fWeight.fDen.length (y.fWeight.fDen.flatMap (aB .i64)),.sc (.bool y.fDX.fNum.fNeg),.sl y.fDX.fNum.fMag.length (y.fDX.fNum.fMag.flatMap (aB .i64)),.sl y.fDX.fDen.length (y.fDX.fDen.flatMap (aB .i64)),.sc (.bool y.fDY.fNum.fNeg),.sl y.fDY.fNum.fMag.length (y.fDY.fNum.fMag.flatMap (aB .i64)),.sl y.fDY.fDen.length (y.fDY.fDen.flatMap (aB .i64))]
def bA (y:Link):List PV:=[.sc (.int .i64 y.fA),.sc (.int .i64 y.fB),.sc (.bool y.fWeight.fNum.fNeg),.rw 1 y.fWeight.fNum.fMag.length (y.fWeight.fNum.fMag.flatMap (aB .i64)),.rw 1 y.fWeight.fDen.length (y.fWeight.fDen.flatMap (aB .i64)),.sc (.bool y.fDX.fNum.fNeg),.rw 1 y.fDX.fNum.fMag.length (y.fDX.fNum.fMag.flatMap (aB .i64)),.rw 1 y.fDX.fDen.length (y.fDX.fDen.flatMap (aB .i64)),.sc (.bool y.fDY.fNum.fNeg),.rw 1 y.fDY.fNum.fMag.length (y.fDY.fNum.fMag.flatMap (aB .i64)),.rw 1 y.fDY.fDen.length (y.fDY.fDen.flatMap (aB .i64))]
theorem gW (y:Link):SoftL (bA y) (aD y):=(SoftL.cons (Soft.refl _) (SoftL.cons (Soft.refl _) (SoftL.cons (Soft.refl _) (SoftL.cons (Soft.rw (SoftL.refl _)) (SoftL.cons (Soft.rw (SoftL.refl _)) (SoftL.cons (Soft.refl _) (SoftL.cons (Soft.rw (SoftL.refl _)) (SoftL.cons (Soft.rw (SoftL.refl _)) (SoftL.cons (Soft.refl _) (SoftL.cons (Soft.rw (SoftL.refl _)) (SoftL.cons (Soft.rw (SoftL.refl _)) SoftL.nil)))))))))))
structure Parent where
 fNode:Int
 fShare:Rat
 fDX:Rat
 fDY:Rat
 deriving DecidableEq,Inhabited
def aZ (y:Parent):List PV:=[.sc (.int .i64 y.fNode),.sc (.bool y.fShare.fNum.fNeg),.sl y.fShare.fNum.fMag.length (y.fShare.fNum.fMag.flatMap (aB .i64)),.sl y.fShare.fDen.length (y.fShare.fDen.flatMap (aB .i64)),.sc (.bool y.fDX.fNum.fNeg),.sl y.fDX.fNum.fMag.length (y.fDX.fNum.fMag.flatMap (aB .i64)),.sl y.fDX.fDen.length (y.fDX.fDen.flatMap (aB .i64)),.sc (.bool y.fDY.fNum.fNeg),.sl y.fDY.fNum.fMag.length (y.fDY.fNum.fMag.flatMap (aB .i64)),.sl y.fDY.fDen.length (y.fDY.fDen.flatMap (aB .i64))]
def eZ (y:Parent):List PV:=[.sc (.int .i64 y.fNode),.sc (.bool y.fShare.fNum.fNeg),.rw 1 y.fShare.fNum.fMag.length (y.fShare.fNum.fMag.flatMap (aB .i64)),.rw 1 y.fShare.fDen.length (y.fShare.fDen.flatMap (aB .i64)),.sc (.bool y.fDX.fNum.fNeg),.rw 1 y.fDX.fNum.fMag.length (y.fDX.fNum.fMag.flatMap (aB .i64)),.rw 1 y.fDX.fDen.length (y.fDX.fDen.flatMap (aB .i64)),.sc (.bool y.fDY.fNum.fNeg),.rw 1 y.fDY.fNum.fMag.length (y.fDY.fNum.fMag.flatMap (aB .i64)),.rw 1 y.fDY.fDen.length (y.fDY.fDen.flatMap (aB .i64))]
theorem aAK (y:Parent):SoftL (eZ y) (aZ y):=(SoftL.cons (Soft.refl _) (SoftL.cons (Soft.refl _) (SoftL.cons (Soft.rw (SoftL.refl _)) (SoftL.cons (Soft.rw (SoftL.refl _)) (SoftL.cons (Soft.refl _) (SoftL.cons (Soft.rw (SoftL.refl _)) (SoftL.cons (Soft.rw (SoftL.refl _)) (SoftL.cons (Soft.refl _) (SoftL.cons (Soft.rw (SoftL.refl _)) (SoftL.cons (Soft.rw (SoftL.refl _)) SoftL.nil))))))))))
structure Conditional where
 fNode:Int
 fTotal:Rat
 fParents:(List Parent)
 deriving DecidableEq,Inhabited
def aF (y:Conditional):List PV:=[.sc (.int .i64 y.fNode),.sc (.bool y.fTotal.fNum.fNeg),.sl y.fTotal.fNum.fMag.length (y.fTotal.fNum.fMag.flatMap (aB .i64)),.sl y.fTotal.fDen.length (y.fTotal.fDen.flatMap (aB .i64)),.sl y.fParents.length (y.fParents.flatMap aZ)]
def lI (y:Conditional):List PV:=[.sc (.int .i64 y.fNode),.sc (.bool y.fTotal.fNum.fNeg),.rw 1 y.fTotal.fNum.fMag.length (y.fTotal.fNum.fMag.flatMap (aB .i64)),.rw 1 y.fTotal.fDen.length (y.fTotal.fDen.flatMap (aB .i64)),.rw 10 y.fParents.length (y.fParents.flatMap eZ)]
theorem aEz (y:Conditional):SoftL (lI y) (aF y):=(SoftL.cons (Soft.refl _) (SoftL.cons (Soft.refl _) (SoftL.cons (Soft.rw (SoftL.refl _)) (SoftL.cons (Soft.rw (SoftL.refl _)) (SoftL.cons (Soft.rw (SoftL.flat aAK _)) SoftL.nil)))))
structure TreeNode where
 fNode:Int
 fUp:Int
 fOwn:(List Link)
 fCond:Conditional
 fMessages:(List Link)
 fEnergy:Rat
 deriving DecidableEq,Inhabited
def aJ (y:TreeNode):List PV:=[.sc (.int .i64 y.fNode),.sc (.int .i64 y.fUp),.sl y.fOwn.length (y.fOwn.flatMap aD),.sc (.int .i64 y.fCond.fNode),.sc (.bool y.fCond.fTotal.fNum.fNeg),.sl y.fCond.fTotal.fNum.fMag.length (y.fCond.fTotal.fNum.fMag.flatMap (aB .i64)),.sl y.fCond.fTotal.fDen.length (y.fCond.fTotal.fDen.flatMap (aB .i64)),.sl y.fCond.fParents.length (y.fCond.fParents.flatMap aZ),.sl y.fMessages.length (y.fMessages.flatMap aD),.sc (.bool y.fEnergy.fNum.fNeg),.sl y.fEnergy.fNum.fMag.length (y.fEnergy.fNum.fMag.flatMap (aB .i64)),.sl y.fEnergy.fDen.length (y.fEnergy.fDen.flatMap (aB .i64))]
def oE (y:TreeNode):List PV:=[.sc (.int .i64 y.fNode),.sc (.int .i64 y.fUp),.rw 11 y.fOwn.length (y.fOwn.flatMap bA),.sc (.int .i64 y.fCond.fNode),.sc (.bool y.fCond.fTotal.fNum.fNeg),.rw 1 y.fCond.fTotal.fNum.fMag.length (y.fCond.fTotal.fNum.fMag.flatMap (aB .i64)),.rw 1 y.fCond.fTotal.fDen.length (y.fCond.fTotal.fDen.flatMap (aB .i64)),.rw 10 y.fCond.fParents.length (y.fCond.fParents.flatMap eZ),.rw 11 y.fMessages.length (y.fMessages.flatMap bA),.sc (.bool y.fEnergy.fNum.fNeg),.rw 1 y.fEnergy.fNum.fMag.length (y.fEnergy.fNum.fMag.flatMap (aB .i64)),.rw 1 y.fEnergy.fDen.length (y.fEnergy.fDen.flatMap (aB .i64))]
theorem aId (y:TreeNode):SoftL (oE y) (aJ y):=(SoftL.cons (Soft.refl _) (SoftL.cons (Soft.refl _) (SoftL.cons (Soft.rw (SoftL.flat gW _)) (SoftL.cons (Soft.refl _) (SoftL.cons (Soft.refl _) (SoftL.cons (Soft.rw (SoftL.refl _)) (SoftL.cons (Soft.rw (SoftL.refl _)) (SoftL.cons (Soft.rw (SoftL.flat aAK _)) (SoftL.cons (Soft.rw (SoftL.flat gW _)) (SoftL.cons (Soft.refl _) (SoftL.cons (Soft.rw (SoftL.refl _)) (SoftL.cons (Soft.rw (SoftL.refl _)) SoftL.nil))))))))))))
structure Tree where
 fNodes:(List TreeNode)
 deriving DecidableEq,Inhabited
def bU (y:Tree):List PV:=[.sl y.fNodes.length (y.fNodes.flatMap aJ)]
def eI (y:Tree):List PV:=[.rw 12 y.fNodes.length (y.fNodes.flatMap oE)]
theorem yB (y:Tree):SoftL (eI y) (bU y):=(SoftL.cons (Soft.rw (SoftL.flat aId _)) SoftL.nil)
structure Point where
 fX:Rat
 fY:Rat
 deriving DecidableEq,Inhabited
def sQ (y:Point):List PV:=[.sc (.bool y.fX.fNum.fNeg),.sl y.fX.fNum.fMag.length (y.fX.fNum.fMag.flatMap (aB .i64)),.sl y.fX.fDen.length (y.fX.fDen.flatMap (aB .i64)),.sc (.bool y.fY.fNum.fNeg),.sl y.fY.fNum.fMag.length (y.fY.fNum.fMag.flatMap (aB .i64)),.sl y.fY.fDen.length (y.fY.fDen.flatMap (aB .i64))]
def dG (y:Point):List PV:=[.sc (.bool y.fX.fNum.fNeg),.rw 1 y.fX.fNum.fMag.length (y.fX.fNum.fMag.flatMap (aB .i64)),.rw 1 y.fX.fDen.length (y.fX.fDen.flatMap (aB .i64)),.sc (.bool y.fY.fNum.fNeg),.rw 1 y.fY.fNum.fMag.length (y.fY.fNum.fMag.flatMap (aB .i64)),.rw 1 y.fY.fDen.length (y.fY.fDen.flatMap (aB .i64))]
theorem aDQ (y:Point):SoftL (dG y) (sQ y):=(SoftL.cons (Soft.refl _) (SoftL.cons (Soft.rw (SoftL.refl _)) (SoftL.cons (Soft.rw (SoftL.refl _)) (SoftL.cons (Soft.refl _) (SoftL.cons (Soft.rw (SoftL.refl _)) (SoftL.cons (Soft.rw (SoftL.refl _)) SoftL.nil))))))
structure Clique where
 fFrontal:(List Int)
 fSeparator:(List Int)
 fUp:Int
 deriving DecidableEq,Inhabited
structure l01Cur where
 fb:(List Int)
 fi:Int
 fh:Int
 deriving DecidableEq,Inhabited
structure l08Arm where
 fnode:Int
 fweight:Rat
 fdx:Rat
 fdy:Rat
 deriving DecidableEq,Inhabited
def cQ (y:l08Arm):List PV:=[.sc (.int .i64 y.fnode),.sc (.bool y.fweight.fNum.fNeg),.sl y.fweight.fNum.fMag.length (y.fweight.fNum.fMag.flatMap (aB .i64)),.sl y.fweight.fDen.length (y.fweight.fDen.flatMap (aB .i64)),.sc (.bool y.fdx.fNum.fNeg),.sl y.fdx.fNum.fMag.length (y.fdx.fNum.fMag.flatMap (aB .i64)),.sl y.fdx.fDen.length (y.fdx.fDen.flatMap (aB .i64)),.sc (.bool y.fdy.fNum.fNeg),.sl y.fdy.fNum.fMag.length (y.fdy.fNum.fMag.flatMap (aB .i64)),.sl y.fdy.fDen.length (y.fdy.fDen.flatMap (aB .i64))]
instance:TI Tryz.prog 3 1 false 8:=.of (by kernel_rfl)
instance:ZT Tryz.prog 3 [.sc (.int .i64 0)]:=.of (vals:=[.int .i64 0]) (by kernel_rfl) (by kernel_rfl) rfl
instance:UT Tryz.prog 3 (.int .i64):=⟨by kernel_rfl⟩
instance:TI Tryz.prog 4 1 false 1:=.of (by kernel_rfl)
instance:UT Tryz.prog 4 .bool:=⟨by kernel_rfl⟩
instance:TI Tryz.prog 5 1 false 1:=.of (by kernel_rfl)
instance:UT Tryz.prog 5 (.int .u8):=⟨by kernel_rfl⟩
instance:TI Tryz.prog 22 1 false 24:=.of (by kernel_rfl)
instance:SlT Tryz.prog 22 5:=⟨by kernel_rfl⟩
instance:TI Tryz.prog 23 1 false 24:=.of (by kernel_rfl)
instance:SlT Tryz.prog 23 54:=⟨by kernel_rfl⟩
instance:TI Tryz.prog 25 1 true 24:=.of (by kernel_rfl)
instance:ZT Tryz.prog 25 [.sc (.slice none 0 0)]:=.of (vals:=[.slice none 0 0]) (by kernel_rfl) (by kernel_rfl) rfl
instance:PlT Tryz.prog 25 [(0,1)]:=.of (by kernel_rfl)
instance:FldT Tryz.prog 25 0 0:=.of (by kernel_rfl)
instance:TI Tryz.prog 27 1 false 24:=.of (by kernel_rfl)
instance:SlT Tryz.prog 27 3:=⟨by kernel_rfl⟩
instance:TI Tryz.prog 29 2 true 32:=.of (by kernel_rfl)
instance:ZT Tryz.prog 29 [.sc (.bool false),.sc (.slice none 0 0)]:=.of (vals:=[.bool false,.slice none 0 0]) (by kernel_rfl) (by kernel_rfl) rfl
instance:PlT Tryz.prog 29 [(0,1),(1,1)]:=.of (by kernel_rfl)
instance:FldT Tryz.prog 29 0 0:=.of (by kernel_rfl)
instance:FldT Tryz.prog 29 1 1:=.of (by kernel_rfl)
instance:TI Tryz.prog 31 3 true 56:=.of (by kernel_rfl)
instance:ZT Tryz.prog 31 [.sc (.bool false),.sc (.slice none 0 0),.sc (.slice none 0 0)]:=.of (vals:=[.bool false,.slice none 0 0,.slice none 0 0]) (by kernel_rfl) (by kernel_rfl) rfl
instance:PlT Tryz.prog 31 [(0,2),(2,1)]:=.of (by kernel_rfl)
instance:FldT Tryz.prog 31 0 0:=.of (by kernel_rfl)
instance:FldT Tryz.prog 31 1 2:=.of (by kernel_rfl)
instance:TI Tryz.prog 33 11 true 184:=.of (by kernel_rfl)
instance:ZT Tryz.prog 33 [.sc (.int .i64 0),.sc (.int .i64 0),.sc (.bool false),.sc (.slice none 0 0),.sc (.slice none 0 0),.sc (.bool false),.sc (.slice none 0 0),.sc (.slice none 0 0),.sc (.bool false),.sc (.slice none 0 0),.sc (.slice none 0 0)]:=.of (vals:=[.int .i64 0,.int .i64 0,.bool false,.slice none 0 0,.slice none 0 0,.bool false,.slice none 0 0,.slice none 0 0,.bool false,.slice none 0 0,.slice none 0 0]) (by kernel_rfl) (by kernel_rfl) rfl
instance:PlT Tryz.prog 33 [(0,1),(1,1),(2,3),(5,3),(8,3)]:=.of (by kernel_rfl)
instance:FldT Tryz.prog 33 0 0:=.of (by kernel_rfl)
instance:FldT Tryz.prog 33 1 1:=.of (by kernel_rfl)
instance:FldT Tryz.prog 33 2 2:=.of (by kernel_rfl)
instance:FldT Tryz.prog 33 3 5:=.of (by kernel_rfl)
instance:FldT Tryz.prog 33 4 8:=.of (by kernel_rfl)
instance:TI Tryz.prog 42 1 false 24:=.of (by kernel_rfl)
instance:SlT Tryz.prog 42 33:=⟨by kernel_rfl⟩
instance:TI Tryz.prog 50 1 false 24:=.of (by kernel_rfl)
instance:SlT Tryz.prog 50 94:=⟨by kernel_rfl⟩
instance:TI Tryz.prog 52 5 true 88:=.of (by kernel_rfl)
instance:ZT Tryz.prog 52 [.sc (.int .i64 0),.sc (.bool false),.sc (.slice none 0 0),.sc (.slice none 0 0),.sc (.slice none 0 0)]:=.of (vals:=[.int .i64 0,.bool false,.slice none 0 0,.slice none 0 0,.slice none 0 0]) (by kernel_rfl) (by kernel_rfl) rfl
instance:PlT Tryz.prog 52 [(0,1),(1,3),(4,1)]:=.of (by kernel_rfl)
instance:FldT Tryz.prog 52 0 0:=.of (by kernel_rfl)
instance:FldT Tryz.prog 52 1 1:=.of (by kernel_rfl)
instance:FldT Tryz.prog 52 2 4:=.of (by kernel_rfl)
instance:TI Tryz.prog 54 12 true 208:=.of (by kernel_rfl)
instance:ZT Tryz.prog 54 [.sc (.int .i64 0),.sc (.int .i64 0),.sc (.slice none 0 0),.sc (.int .i64 0),.sc (.bool false),.sc (.slice none 0 0),.sc (.slice none 0 0),.sc (.slice none 0 0),.sc (.slice none 0 0),.sc (.bool false),.sc (.slice none 0 0),.sc (.slice none 0 0)]:=.of (vals:=[.int .i64 0,.int .i64 0,.slice none 0 0,.int .i64 0,.bool false,.slice none 0 0,.slice none 0 0,.slice none 0 0,.slice none 0 0,.bool false,.slice none 0 0,.slice none 0 0]) (by kernel_rfl) (by kernel_rfl) rfl
instance:PlT Tryz.prog 54 [(0,1),(1,1),(2,1),(3,5),(8,1),(9,3)]:=.of (by kernel_rfl)
instance:FldT Tryz.prog 54 0 0:=.of (by kernel_rfl)
instance:FldT Tryz.prog 54 1 1:=.of (by kernel_rfl)
instance:FldT Tryz.prog 54 2 2:=.of (by kernel_rfl)
instance:FldT Tryz.prog 54 3 3:=.of (by kernel_rfl)
instance:FldT Tryz.prog 54 4 8:=.of (by kernel_rfl)
instance:FldT Tryz.prog 54 5 9:=.of (by kernel_rfl)
instance:SlT Tryz.prog 55 90:=⟨by kernel_rfl⟩
instance:SlT Tryz.prog 87 52:=⟨by kernel_rfl⟩
instance:TI Tryz.prog 90 6 true 112:=.of (by kernel_rfl)
instance:ZT Tryz.prog 90 [.sc (.bool false),.sc (.slice none 0 0),.sc (.slice none 0 0),.sc (.bool false),.sc (.slice none 0 0),.sc (.slice none 0 0)]:=.of (vals:=[.bool false,.slice none 0 0,.slice none 0 0,.bool false,.slice none 0 0,.slice none 0 0]) (by kernel_rfl) (by kernel_rfl) rfl
instance:PlT Tryz.prog 90 [(0,3),(3,3)]:=.of (by kernel_rfl)
instance:FldT Tryz.prog 90 0 0:=.of (by kernel_rfl)
instance:FldT Tryz.prog 90 1 3:=.of (by kernel_rfl)
instance:TI Tryz.prog 94 10 true 176:=.of (by kernel_rfl)
instance:ZT Tryz.prog 94 [.sc (.int .i64 0),.sc (.bool false),.sc (.slice none 0 0),.sc (.slice none 0 0),.sc (.bool false),.sc (.slice none 0 0),.sc (.slice none 0 0),.sc (.bool false),.sc (.slice none 0 0),.sc (.slice none 0 0)]:=.of (vals:=[.int .i64 0,.bool false,.slice none 0 0,.slice none 0 0,.bool false,.slice none 0 0,.slice none 0 0,.bool false,.slice none 0 0,.slice none 0 0]) (by kernel_rfl) (by kernel_rfl) rfl
instance:PlT Tryz.prog 94 [(0,1),(1,3),(4,3),(7,3)]:=.of (by kernel_rfl)
instance:FldT Tryz.prog 94 0 0:=.of (by kernel_rfl)
instance:FldT Tryz.prog 94 1 1:=.of (by kernel_rfl)
instance:FldT Tryz.prog 94 2 4:=.of (by kernel_rfl)
instance:FldT Tryz.prog 94 3 7:=.of (by kernel_rfl)
instance:ZT Tryz.prog 102 [.sc (.slice none 0 0),.sc (.int .i64 0),.sc (.int .i64 0)]:=.of (vals:=[.slice none 0 0,.int .i64 0,.int .i64 0]) (by kernel_rfl) (by kernel_rfl) rfl
instance:PlT Tryz.prog 102 [(0,1),(1,1),(2,1)]:=.of (by kernel_rfl)
instance:FldT Tryz.prog 102 0 0:=.of (by kernel_rfl)
instance:FldT Tryz.prog 102 1 1:=.of (by kernel_rfl)
instance:FldT Tryz.prog 102 2 2:=.of (by kernel_rfl)
instance:UT Tryz.prog 142 (.int .u64):=⟨by kernel_rfl⟩
instance:SlT Tryz.prog 153 31:=⟨by kernel_rfl⟩
instance:SlT Tryz.prog 176 179:=⟨by kernel_rfl⟩
instance:TI Tryz.prog 179 10 true 176:=.of (by kernel_rfl)
instance:ZT Tryz.prog 179 [.sc (.int .i64 0),.sc (.bool false),.sc (.slice none 0 0),.sc (.slice none 0 0),.sc (.bool false),.sc (.slice none 0 0),.sc (.slice none 0 0),.sc (.bool false),.sc (.slice none 0 0),.sc (.slice none 0 0)]:=.of (vals:=[.int .i64 0,.bool false,.slice none 0 0,.slice none 0 0,.bool false,.slice none 0 0,.slice none 0 0,.bool false,.slice none 0 0,.slice none 0 0]) (by kernel_rfl) (by kernel_rfl) rfl
instance:PlT Tryz.prog 179 [(0,1),(1,3),(4,3),(7,3)]:=.of (by kernel_rfl)
instance:FldT Tryz.prog 179 0 0:=.of (by kernel_rfl)
instance:FldT Tryz.prog 179 1 1:=.of (by kernel_rfl)
instance:FldT Tryz.prog 179 2 4:=.of (by kernel_rfl)
instance:FldT Tryz.prog 179 3 7:=.of (by kernel_rfl)
instance:Dec Tryz.prog 5 (aB .u8) (okI .u8):=.int (by kernel_rfl)
instance:Dec Tryz.prog 22 (aOz (aB .u8)) (okL (okI .u8)):=.slice (e:=5) (by kernel_rfl) 1 (by kernel_rfl) (by decide) (fun _=>rfl)
instance:FnC Tryz.prog 7:=⟨_,Tryz.func7,by kernel_rfl,by kernel_rfl⟩
instance:FnC Tryz.prog 8:=⟨_,Tryz.func8,by kernel_rfl,by kernel_rfl⟩
instance:FnC Tryz.prog 9:=⟨_,Tryz.func9,by kernel_rfl,by kernel_rfl⟩
instance:FnC Tryz.prog 10:=⟨_,Tryz.func10,by kernel_rfl,by kernel_rfl⟩
instance:FnC Tryz.prog 11:=⟨_,Tryz.func11,by kernel_rfl,by kernel_rfl⟩
instance:FnC Tryz.prog 12:=⟨_,Tryz.func12,by kernel_rfl,by kernel_rfl⟩
instance:FnC Tryz.prog 13:=⟨_,Tryz.func13,by kernel_rfl,by kernel_rfl⟩
instance:FnC Tryz.prog 14:=⟨_,Tryz.func14,by kernel_rfl,by kernel_rfl⟩
instance:FnC Tryz.prog 15:=⟨_,Tryz.func15,by kernel_rfl,by kernel_rfl⟩
instance:FnC Tryz.prog 16:=⟨_,Tryz.func16,by kernel_rfl,by kernel_rfl⟩
instance:FnC Tryz.prog 20:=⟨_,Tryz.func20,by kernel_rfl,by kernel_rfl⟩
instance:FnC Tryz.prog 21:=⟨_,Tryz.func21,by kernel_rfl,by kernel_rfl⟩
instance:FnC Tryz.prog 22:=⟨_,Tryz.func22,by kernel_rfl,by kernel_rfl⟩
instance:FnC Tryz.prog 23:=⟨_,Tryz.func23,by kernel_rfl,by kernel_rfl⟩
instance:FnC Tryz.prog 24:=⟨_,Tryz.func24,by kernel_rfl,by kernel_rfl⟩
instance:FnC Tryz.prog 25:=⟨_,Tryz.func25,by kernel_rfl,by kernel_rfl⟩
instance:FnC Tryz.prog 32:=⟨_,Tryz.func32,by kernel_rfl,by kernel_rfl⟩
instance:FnC Tryz.prog 33:=⟨_,Tryz.func33,by kernel_rfl,by kernel_rfl⟩
instance:FnC Tryz.prog 34:=⟨_,Tryz.func34,by kernel_rfl,by kernel_rfl⟩
instance:FnC Tryz.prog 35:=⟨_,Tryz.func35,by kernel_rfl,by kernel_rfl⟩
instance:FnC Tryz.prog 36:=⟨_,Tryz.func36,by kernel_rfl,by kernel_rfl⟩
instance:FnC Tryz.prog 37:=⟨_,Tryz.func37,by kernel_rfl,by kernel_rfl⟩
instance:FnC Tryz.prog 38:=⟨_,Tryz.func38,by kernel_rfl,by kernel_rfl⟩
instance:FnC Tryz.prog 39:=⟨_,Tryz.func39,by kernel_rfl,by kernel_rfl⟩
instance:FnC Tryz.prog 40:=⟨_,Tryz.func40,by kernel_rfl,by kernel_rfl⟩
instance:FnC Tryz.prog 41:=⟨_,Tryz.func41,by kernel_rfl,by kernel_rfl⟩
instance:FnC Tryz.prog 42:=⟨_,Tryz.func42,by kernel_rfl,by kernel_rfl⟩
instance:FnC Tryz.prog 43:=⟨_,Tryz.func43,by kernel_rfl,by kernel_rfl⟩
instance:FnC Tryz.prog 44:=⟨_,Tryz.func44,by kernel_rfl,by kernel_rfl⟩
instance:FnC Tryz.prog 45:=⟨_,Tryz.func45,by kernel_rfl,by kernel_rfl⟩
instance:FnC Tryz.prog 46:=⟨_,Tryz.func46,by kernel_rfl,by kernel_rfl⟩
instance:FnC Tryz.prog 47:=⟨_,Tryz.func47,by kernel_rfl,by kernel_rfl⟩
instance:FnC Tryz.prog 48:=⟨_,Tryz.func48,by kernel_rfl,by kernel_rfl⟩
instance:FnC Tryz.prog 49:=⟨_,Tryz.func49,by kernel_rfl,by kernel_rfl⟩
instance:FnC Tryz.prog 50:=⟨_,Tryz.func50,by kernel_rfl,by kernel_rfl⟩
instance:FnC Tryz.prog 51:=⟨_,Tryz.func51,by kernel_rfl,by kernel_rfl⟩
instance:FnC Tryz.prog 52:=⟨_,Tryz.func52,by kernel_rfl,by kernel_rfl⟩
instance:FnC Tryz.prog 53:=⟨_,Tryz.func53,by kernel_rfl,by kernel_rfl⟩
instance:FnC Tryz.prog 54:=⟨_,Tryz.func54,by kernel_rfl,by kernel_rfl⟩
instance:FnC Tryz.prog 55:=⟨_,Tryz.func55,by kernel_rfl,by kernel_rfl⟩
instance:FnC Tryz.prog 57:=⟨_,Tryz.func57,by kernel_rfl,by kernel_rfl⟩
instance:FnC Tryz.prog 58:=⟨_,Tryz.func58,by kernel_rfl,by kernel_rfl⟩
instance:FnC Tryz.prog 59:=⟨_,Tryz.func59,by kernel_rfl,by kernel_rfl⟩
instance:FnC Tryz.prog 60:=⟨_,Tryz.func60,by kernel_rfl,by kernel_rfl⟩
instance:FnC Tryz.prog 61:=⟨_,Tryz.func61,by kernel_rfl,by kernel_rfl⟩
instance:FnC Tryz.prog 62:=⟨_,Tryz.func62,by kernel_rfl,by kernel_rfl⟩
instance:FnC Tryz.prog 63:=⟨_,Tryz.func63,by kernel_rfl,by kernel_rfl⟩
instance:FnC Tryz.prog 64:=⟨_,Tryz.func64,by kernel_rfl,by kernel_rfl⟩
instance:FnC Tryz.prog 65:=⟨_,Tryz.func65,by kernel_rfl,by kernel_rfl⟩
instance:FnC Tryz.prog 66:=⟨_,Tryz.func66,by kernel_rfl,by kernel_rfl⟩
instance:FnC Tryz.prog 67:=⟨_,Tryz.func67,by kernel_rfl,by kernel_rfl⟩
instance:FnC Tryz.prog 68:=⟨_,Tryz.func68,by kernel_rfl,by kernel_rfl⟩
instance:FnC Tryz.prog 69:=⟨_,Tryz.func69,by kernel_rfl,by kernel_rfl⟩
instance:FnC Tryz.prog 70:=⟨_,Tryz.func70,by kernel_rfl,by kernel_rfl⟩
instance:FnC Tryz.prog 71:=⟨_,Tryz.func71,by kernel_rfl,by kernel_rfl⟩
instance:FnC Tryz.prog 72:=⟨_,Tryz.func72,by kernel_rfl,by kernel_rfl⟩
instance:FnC Tryz.prog 73:=⟨_,Tryz.func73,by kernel_rfl,by kernel_rfl⟩
instance:FnC Tryz.prog 74:=⟨_,Tryz.func74,by kernel_rfl,by kernel_rfl⟩
instance:FnC Tryz.prog 75:=⟨_,Tryz.func75,by kernel_rfl,by kernel_rfl⟩
instance:FnC Tryz.prog 76:=⟨_,Tryz.func76,by kernel_rfl,by kernel_rfl⟩
instance:FnC Tryz.prog 77:=⟨_,Tryz.func77,by kernel_rfl,by kernel_rfl⟩
instance:FnC Tryz.prog 78:=⟨_,Tryz.func78,by kernel_rfl,by kernel_rfl⟩
instance:FnC Tryz.prog 79:=⟨_,Tryz.func79,by kernel_rfl,by kernel_rfl⟩
instance:FnC Tryz.prog 81:=⟨_,Tryz.func81,by kernel_rfl,by kernel_rfl⟩
instance:FnC Tryz.prog 82:=⟨_,Tryz.func82,by kernel_rfl,by kernel_rfl⟩
instance:FnC Tryz.prog 83:=⟨_,Tryz.func83,by kernel_rfl,by kernel_rfl⟩
instance:FnC Tryz.prog 84:=⟨_,Tryz.func84,by kernel_rfl,by kernel_rfl⟩
instance:FnC Tryz.prog 85:=⟨_,Tryz.func85,by kernel_rfl,by kernel_rfl⟩
instance:FnC Tryz.prog 86:=⟨_,Tryz.func86,by kernel_rfl,by kernel_rfl⟩
instance:FnC Tryz.prog 87:=⟨_,Tryz.func87,by kernel_rfl,by kernel_rfl⟩
instance:FnC Tryz.prog 88:=⟨_,Tryz.func88,by kernel_rfl,by kernel_rfl⟩
instance:FnC Tryz.prog 89:=⟨_,Tryz.func89,by kernel_rfl,by kernel_rfl⟩
instance:FnC Tryz.prog 90:=⟨_,Tryz.func90,by kernel_rfl,by kernel_rfl⟩
instance:FnC Tryz.prog 91:=⟨_,Tryz.func91,by kernel_rfl,by kernel_rfl⟩
instance:FnC Tryz.prog 92:=⟨_,Tryz.func92,by kernel_rfl,by kernel_rfl⟩
instance:FnC Tryz.prog 93:=⟨_,Tryz.func93,by kernel_rfl,by kernel_rfl⟩
instance:FnC Tryz.prog 94:=⟨_,Tryz.func94,by kernel_rfl,by kernel_rfl⟩
instance:FnC Tryz.prog 95:=⟨_,Tryz.func95,by kernel_rfl,by kernel_rfl⟩
instance:FnC Tryz.prog 96:=⟨_,Tryz.func96,by kernel_rfl,by kernel_rfl⟩
instance:FnC Tryz.prog 97:=⟨_,Tryz.func97,by kernel_rfl,by kernel_rfl⟩
instance:FnC Tryz.prog 98:=⟨_,Tryz.func98,by kernel_rfl,by kernel_rfl⟩
instance:FnC Tryz.prog 99:=⟨_,Tryz.func99,by kernel_rfl,by kernel_rfl⟩
instance:FnC Tryz.prog 100:=⟨_,Tryz.func100,by kernel_rfl,by kernel_rfl⟩
instance:FnC Tryz.prog 101:=⟨_,Tryz.func101,by kernel_rfl,by kernel_rfl⟩
instance:FnC Tryz.prog 102:=⟨_,Tryz.func102,by kernel_rfl,by kernel_rfl⟩
instance:FnC Tryz.prog 103:=⟨_,Tryz.func103,by kernel_rfl,by kernel_rfl⟩
instance:FnC Tryz.prog 104:=⟨_,Tryz.func104,by kernel_rfl,by kernel_rfl⟩
instance:FnC Tryz.prog 105:=⟨_,Tryz.func105,by kernel_rfl,by kernel_rfl⟩
instance:FnC Tryz.prog 106:=⟨_,Tryz.func106,by kernel_rfl,by kernel_rfl⟩
instance:FnC Tryz.prog 109:=⟨_,Tryz.func109,by kernel_rfl,by kernel_rfl⟩
instance:FnC Tryz.prog 110:=⟨_,Tryz.func110,by kernel_rfl,by kernel_rfl⟩
instance:FnC Tryz.prog 111:=⟨_,Tryz.func111,by kernel_rfl,by kernel_rfl⟩
instance:FnC Tryz.prog 112:=⟨_,Tryz.func112,by kernel_rfl,by kernel_rfl⟩
instance:FnC Tryz.prog 113:=⟨_,Tryz.func113,by kernel_rfl,by kernel_rfl⟩
instance:FnC Tryz.prog 114:=⟨_,Tryz.func114,by kernel_rfl,by kernel_rfl⟩
instance:FnC Tryz.prog 115:=⟨_,Tryz.func115,by kernel_rfl,by kernel_rfl⟩
instance:FnC Tryz.prog 116:=⟨_,Tryz.func116,by kernel_rfl,by kernel_rfl⟩
instance:FnC Tryz.prog 117:=⟨_,Tryz.func117,by kernel_rfl,by kernel_rfl⟩
instance:FnC Tryz.prog 118:=⟨_,Tryz.func118,by kernel_rfl,by kernel_rfl⟩
instance:FnC Tryz.prog 119:=⟨_,Tryz.func119,by kernel_rfl,by kernel_rfl⟩
instance:FnC Tryz.prog 120:=⟨_,Tryz.func120,by kernel_rfl,by kernel_rfl⟩
instance:FnC Tryz.prog 121:=⟨_,Tryz.func121,by kernel_rfl,by kernel_rfl⟩
instance:FnC Tryz.prog 122:=⟨_,Tryz.func122,by kernel_rfl,by kernel_rfl⟩
instance:FnC Tryz.prog 123:=⟨_,Tryz.func123,by kernel_rfl,by kernel_rfl⟩
instance:FnC Tryz.prog 124:=⟨_,Tryz.func124,by kernel_rfl,by kernel_rfl⟩
instance:FnC Tryz.prog 125:=⟨_,Tryz.func125,by kernel_rfl,by kernel_rfl⟩
instance:FnC Tryz.prog 126:=⟨_,Tryz.func126,by kernel_rfl,by kernel_rfl⟩
instance:FnC Tryz.prog 127:=⟨_,Tryz.func127,by kernel_rfl,by kernel_rfl⟩
instance:FnC Tryz.prog 128:=⟨_,Tryz.func128,by kernel_rfl,by kernel_rfl⟩
instance:FnC Tryz.prog 129:=⟨_,Tryz.func129,by kernel_rfl,by kernel_rfl⟩
instance:FnC Tryz.prog 141:=⟨_,Tryz.func141,by kernel_rfl,by kernel_rfl⟩
instance:FnC Tryz.prog 142:=⟨_,Tryz.func142,by kernel_rfl,by kernel_rfl⟩
instance:FnC Tryz.prog 143:=⟨_,Tryz.func143,by kernel_rfl,by kernel_rfl⟩
instance:FnC Tryz.prog 144:=⟨_,Tryz.func144,by kernel_rfl,by kernel_rfl⟩
instance:FnC Tryz.prog 145:=⟨_,Tryz.func145,by kernel_rfl,by kernel_rfl⟩
instance:FnC Tryz.prog 146:=⟨_,Tryz.func146,by kernel_rfl,by kernel_rfl⟩
instance:FnC Tryz.prog 147:=⟨_,Tryz.func147,by kernel_rfl,by kernel_rfl⟩
instance:FnC Tryz.prog 148:=⟨_,Tryz.func148,by kernel_rfl,by kernel_rfl⟩
instance:FnC Tryz.prog 149:=⟨_,Tryz.func149,by kernel_rfl,by kernel_rfl⟩
instance:FnC Tryz.prog 150:=⟨_,Tryz.func150,by kernel_rfl,by kernel_rfl⟩
instance:FnC Tryz.prog 151:=⟨_,Tryz.func151,by kernel_rfl,by kernel_rfl⟩
instance:FnC Tryz.prog 152:=⟨_,Tryz.func152,by kernel_rfl,by kernel_rfl⟩
instance:FnC Tryz.prog 153:=⟨_,Tryz.func153,by kernel_rfl,by kernel_rfl⟩
instance:FnC Tryz.prog 154:=⟨_,Tryz.func154,by kernel_rfl,by kernel_rfl⟩
instance:FnC Tryz.prog 155:=⟨_,Tryz.func155,by kernel_rfl,by kernel_rfl⟩
instance:FnC Tryz.prog 156:=⟨_,Tryz.func156,by kernel_rfl,by kernel_rfl⟩
instance:FnC Tryz.prog 163:=⟨_,Tryz.func163,by kernel_rfl,by kernel_rfl⟩
instance:FnC Tryz.prog 164:=⟨_,Tryz.func164,by kernel_rfl,by kernel_rfl⟩
instance:FnC Tryz.prog 165:=⟨_,Tryz.func165,by kernel_rfl,by kernel_rfl⟩
instance:FnC Tryz.prog 166:=⟨_,Tryz.func166,by kernel_rfl,by kernel_rfl⟩
instance:FnC Tryz.prog 167:=⟨_,Tryz.func167,by kernel_rfl,by kernel_rfl⟩
instance:FnC Tryz.prog 168:=⟨_,Tryz.func168,by kernel_rfl,by kernel_rfl⟩
instance:FnC Tryz.prog 169:=⟨_,Tryz.func169,by kernel_rfl,by kernel_rfl⟩
instance:FnC Tryz.prog 170:=⟨_,Tryz.func170,by kernel_rfl,by kernel_rfl⟩
instance:FnC Tryz.prog 171:=⟨_,Tryz.func171,by kernel_rfl,by kernel_rfl⟩
instance:FnC Tryz.prog 172:=⟨_,Tryz.func172,by kernel_rfl,by kernel_rfl⟩
instance:FnC Tryz.prog 173:=⟨_,Tryz.func173,by kernel_rfl,by kernel_rfl⟩
instance:FnC Tryz.prog 174:=⟨_,Tryz.func174,by kernel_rfl,by kernel_rfl⟩
instance:FnC Tryz.prog 175:=⟨_,Tryz.func175,by kernel_rfl,by kernel_rfl⟩
instance:FnC Tryz.prog 176:=⟨_,Tryz.func176,by kernel_rfl,by kernel_rfl⟩
instance:FnC Tryz.prog 177:=⟨_,Tryz.func177,by kernel_rfl,by kernel_rfl⟩
instance:FnC Tryz.prog 179:=⟨_,Tryz.func179,by kernel_rfl,by kernel_rfl⟩
instance:FnC Tryz.prog 180:=⟨_,Tryz.func180,by kernel_rfl,by kernel_rfl⟩
instance:FnC Tryz.prog 181:=⟨_,Tryz.func181,by kernel_rfl,by kernel_rfl⟩
instance:FnC Tryz.prog 182:=⟨_,Tryz.func182,by kernel_rfl,by kernel_rfl⟩
instance:FnC Tryz.prog 183:=⟨_,Tryz.func183,by kernel_rfl,by kernel_rfl⟩
instance:FnC Tryz.prog 184:=⟨_,Tryz.func184,by kernel_rfl,by kernel_rfl⟩
instance:FnC Tryz.prog 185:=⟨_,Tryz.func185,by kernel_rfl,by kernel_rfl⟩
instance:FnC Tryz.prog 186:=⟨_,Tryz.func186,by kernel_rfl,by kernel_rfl⟩
instance:FnC Tryz.prog 187:=⟨_,Tryz.func187,by kernel_rfl,by kernel_rfl⟩
instance:FnC Tryz.prog 188:=⟨_,Tryz.func188,by kernel_rfl,by kernel_rfl⟩
instance:FnC Tryz.prog 189:=⟨_,Tryz.func189,by kernel_rfl,by kernel_rfl⟩
instance:FnC Tryz.prog 190:=⟨_,Tryz.func190,by kernel_rfl,by kernel_rfl⟩
instance:FnC Tryz.prog 191:=⟨_,Tryz.func191,by kernel_rfl,by kernel_rfl⟩
end
end Go.Ev
