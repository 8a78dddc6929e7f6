/- Parts W0. -/
import Derived.Test.YtmgbflccodamfaaGreatProg
import Derived.KernelRfl
import Derived.Test.YtmgbflccodamfaaGreatE6
set_option linter.all false
/- The typed data of this seat and the engine's instances, printed by program (inst.py). -/
namespace Go.Ev
noncomputable section
open Go.Proofs
theorem PPm:Tryz.prog.follows .mixedOrders=true:=by kernel_rfl
structure BigInt where
 fNeg:Bool
 fMag:(List Int)
 deriving DecidableEq,Inhabited
def mW (y:BigInt):List PV:=[.sc (.bool y.fNeg),.sl y.fMag.length (y.fMag.flatMap (aC .i64))]
def gX (y:BigInt):List PV:=[.sc (.bool y.fNeg),.rw 1 y.fMag.length (y.fMag.flatMap (aC .i64))]
theorem pY (y:BigInt):SoftL (gX y) (mW y):=(aW9 (aXa _) (aW9 (aXl (aXf _)) aXj))
structure Rat where
 fNum:BigInt
 fDen:(List Int)
 deriving DecidableEq,Inhabited
def aX (y:Rat):List PV:=[.sc (.bool y.fNum.fNeg),.sl y.fNum.fMag.length (y.fNum.fMag.flatMap (aC .i64)),.sl y.fDen.length (y.fDen.flatMap (aC .i64))]
def aQ (y:Rat):List PV:=[.sc (.bool y.fNum.fNeg),.rw 1 y.fNum.fMag.length (y.fNum.fMag.flatMap (aC .i64)),.rw 1 y.fDen.length (y.fDen.flatMap (aC .i64))]
theorem bB (y:Rat):SoftL (aQ y) (aX y):=(aW9 (aXa _) (aW9 (aXl (aXf _)) (aW9 (aXl (aXf _)) aXj)))
structure Link where
 fA:Int
 fB:Int
 fWeight:Rat
 fDX:Rat
 fDY:Rat
 deriving DecidableEq,Inhabited
def aE (y:Link):List PV:=[.sc (.int .i64 y.fA),.sc (.int .i64 y.fB),.sc (.bool y.fWeight.fNum.fNeg),.sl y.fWeight.fNum.fMag.length (y.fWeight.fNum.fMag.flatMap (aC .i64)),.sl y.fWeight.fDen.length (y.fWeight.fDen.flatMap (aC .i64)),.sc (.bool y.fDX.fNum.fNeg),.sl y.fDX.fNum.fMag.length (y.fDX.fNum.fMag.flatMap (aC .i64)),.sl y.fDX.fDen.length (y.fDX.fDen.flatMap (aC .i64)),.sc (.bool y.fDY.fNum.fNeg),.sl y.fDY.fNum.fMag.length (y.fDY.fNum.fMag.flatMap (aC .i64)),.sl y.fDY.fDen.length (y.fDY.fDen.flatMap (aC .i64))]
def cH (y:Link):List PV:=[.sc (.int .i64 y.fA),.sc (.int .i64 y.fB),.sc (.bool y.fWeight.fNum.fNeg),.rw 1 y.fWeight.fNum.fMag.length (y.fWeight.fNum.fMag.flatMap (aC .i64)),.rw 1 y.fWeight.fDen.length (y.fWeight.fDen.flatMap (aC .i64)),.sc (.bool y.fDX.fNum.fNeg),.rw 1 y.fDX.fNum.fMag.length (y.fDX.fNum.fMag.flatMap (aC .i64)),.rw 1 y.fDX.fDen.length (y.fDX.fDen.flatMap (aC .i64)),.sc (.bool y.fDY.fNum.fNeg),.rw 1 y.fDY.fNum.fMag.length (y.fDY.fNum.fMag.flatMap (aC .i64)),.rw 1 y.fDY.fDen.length (y.fDY.fDen.flatMap (aC .i64))]
theorem yD (y:Link):SoftL (cH y) (aE y):=(aW9 (aXa _) (aW9 (aXa _) (aW9 (aXa _) (aW9 (aXl (aXf _)) (aW9 (aXl (aXf _)) (aW9 (aXa _) (aW9 (aXl (aXf _)) (aW9 (aXl (aXf _)) (aW9 (aXa _) (aW9 (aXl (aXf _)) (aW9 (aXl (aXf _)) aXj)))))))))))
structure Pose where
 fTurn:Int
 fX:Int
 fY:Int
 deriving DecidableEq,Inhabited
def fC (y:Pose):List PV:=[.sc (.int .i64 y.fTurn),.sc (.int .i64 y.fX),.sc (.int .i64 y.fY)]
structure Factor where
 fId:Int
 fKind:Int
 fFrom:ByteArray
 fTo:ByteArray
 fPose:Pose
 fWeight:Int
 deriving DecidableEq,Inhabited
def aJ (y:Factor):List PV:=[.sc (.int .i64 y.fId),.sc (.int .i64 y.fKind),.sc (.string y.fFrom),.sc (.string y.fTo),.sc (.int .i64 y.fPose.fTurn),.sc (.int .i64 y.fPose.fX),.sc (.int .i64 y.fPose.fY),.sc (.int .i64 y.fWeight)]
structure Point where
 fX:Rat
 fY:Rat
 deriving DecidableEq,Inhabited
def bY (y:Point):List PV:=[.sc (.bool y.fX.fNum.fNeg),.sl y.fX.fNum.fMag.length (y.fX.fNum.fMag.flatMap (aC .i64)),.sl y.fX.fDen.length (y.fX.fDen.flatMap (aC .i64)),.sc (.bool y.fY.fNum.fNeg),.sl y.fY.fNum.fMag.length (y.fY.fNum.fMag.flatMap (aC .i64)),.sl y.fY.fDen.length (y.fY.fDen.flatMap (aC .i64))]
def cU (y:Point):List PV:=[.sc (.bool y.fX.fNum.fNeg),.rw 1 y.fX.fNum.fMag.length (y.fX.fNum.fMag.flatMap (aC .i64)),.rw 1 y.fX.fDen.length (y.fX.fDen.flatMap (aC .i64)),.sc (.bool y.fY.fNum.fNeg),.rw 1 y.fY.fNum.fMag.length (y.fY.fNum.fMag.flatMap (aC .i64)),.rw 1 y.fY.fDen.length (y.fY.fDen.flatMap (aC .i64))]
theorem aAj (y:Point):SoftL (cU y) (bY y):=(aW9 (aXa _) (aW9 (aXl (aXf _)) (aW9 (aXl (aXf _)) (aW9 (aXa _) (aW9 (aXl (aXf _)) (aW9 (aXl (aXf _)) aXj))))))
structure Parent where
 fNode:Int
 fShare:Rat
 fDX:Rat
 fDY:Rat
 deriving DecidableEq,Inhabited
def bI (y:Parent):List PV:=[.sc (.int .i64 y.fNode),.sc (.bool y.fShare.fNum.fNeg),.sl y.fShare.fNum.fMag.length (y.fShare.fNum.fMag.flatMap (aC .i64)),.sl y.fShare.fDen.length (y.fShare.fDen.flatMap (aC .i64)),.sc (.bool y.fDX.fNum.fNeg),.sl y.fDX.fNum.fMag.length (y.fDX.fNum.fMag.flatMap (aC .i64)),.sl y.fDX.fDen.length (y.fDX.fDen.flatMap (aC .i64)),.sc (.bool y.fDY.fNum.fNeg),.sl y.fDY.fNum.fMag.length (y.fDY.fNum.fMag.flatMap (aC .i64)),.sl y.fDY.fDen.length (y.fDY.fDen.flatMap (aC .i64))]
def qO (y:Parent):List PV:=[.sc (.int .i64 y.fNode),.sc (.bool y.fShare.fNum.fNeg),.rw 1 y.fShare.fNum.fMag.length (y.fShare.fNum.fMag.flatMap (aC .i64)),.rw 1 y.fShare.fDen.length (y.fShare.fDen.flatMap (aC .i64)),.sc (.bool y.fDX.fNum.fNeg),.rw 1 y.fDX.fNum.fMag.length (y.fDX.fNum.fMag.flatMap (aC .i64)),.rw 1 y.fDX.fDen.length (y.fDX.fDen.flatMap (aC .i64)),.sc (.bool y.fDY.fNum.fNeg),.rw 1 y.fDY.fNum.fMag.length (y.fDY.fNum.fMag.flatMap (aC .i64)),.rw 1 y.fDY.fDen.length (y.fDY.fDen.flatMap (aC .i64))]
theorem aFQ (y:Parent):SoftL (qO y) (bI y):=(aW9 (aXa _) (aW9 (aXa _) (aW9 (aXl (aXf _)) (aW9 (aXl (aXf _)) (aW9 (aXa _) (aW9 (aXl (aXf _)) (aW9 (aXl (aXf _)) (aW9 (aXa _) (aW9 (aXl (aXf _)) (aW9 (aXl (aXf _)) aXj))))))))))
structure Conditional where
 fNode:Int
 fTotal:Rat
 fParents:(List Parent)
 deriving DecidableEq,Inhabited
def aM (y:Conditional):List PV:=[.sc (.int .i64 y.fNode),.sc (.bool y.fTotal.fNum.fNeg),.sl y.fTotal.fNum.fMag.length (y.fTotal.fNum.fMag.flatMap (aC .i64)),.sl y.fTotal.fDen.length (y.fTotal.fDen.flatMap (aC .i64)),.sl y.fParents.length (y.fParents.flatMap bI)]
def kW (y:Conditional):List PV:=[.sc (.int .i64 y.fNode),.sc (.bool y.fTotal.fNum.fNeg),.rw 1 y.fTotal.fNum.fMag.length (y.fTotal.fNum.fMag.flatMap (aC .i64)),.rw 1 y.fTotal.fDen.length (y.fTotal.fDen.flatMap (aC .i64)),.rw 10 y.fParents.length (y.fParents.flatMap qO)]
theorem aFa (y:Conditional):SoftL (kW y) (aM y):=(aW9 (aXa _) (aW9 (aXa _) (aW9 (aXl (aXf _)) (aW9 (aXl (aXf _)) (aW9 (aXl (aXC aFQ _)) aXj)))))
structure TreeNode where
 fNode:Int
 fUp:Int
 fOwn:(List Link)
 fCond:Conditional
 fMessages:(List Link)
 fEnergy:Rat
 deriving DecidableEq,Inhabited
def bG (y:TreeNode):List PV:=[.sc (.int .i64 y.fNode),.sc (.int .i64 y.fUp),.sl y.fOwn.length (y.fOwn.flatMap aE),.sc (.int .i64 y.fCond.fNode),.sc (.bool y.fCond.fTotal.fNum.fNeg),.sl y.fCond.fTotal.fNum.fMag.length (y.fCond.fTotal.fNum.fMag.flatMap (aC .i64)),.sl y.fCond.fTotal.fDen.length (y.fCond.fTotal.fDen.flatMap (aC .i64)),.sl y.fCond.fParents.length (y.fCond.fParents.flatMap bI),.sl y.fMessages.length (y.fMessages.flatMap aE),.sc (.bool y.fEnergy.fNum.fNeg),.sl y.fEnergy.fNum.fMag.length (y.fEnergy.fNum.fMag.flatMap (aC .i64)),.sl y.fEnergy.fDen.length (y.fEnergy.fDen.flatMap (aC .i64))]
def nX (y:TreeNode):List PV:=[.sc (.int .i64 y.fNode),.sc (.int .i64 y.fUp),.rw 11 y.fOwn.length (y.fOwn.flatMap cH),.sc (.int .i64 y.fCond.fNode),.sc (.bool y.fCond.fTotal.fNum.fNeg),.rw 1 y.fCond.fTotal.fNum.fMag.length (y.fCond.fTotal.fNum.fMag.flatMap (aC .i64)),.rw 1 y.fCond.fTotal.fDen.length (y.fCond.fTotal.fDen.flatMap (aC .i64)),.rw 10 y.fCond.fParents.length (y.fCond.fParents.flatMap qO),.rw 11 y.fMessages.length (y.fMessages.flatMap cH),.sc (.bool y.fEnergy.fNum.fNeg),.rw 1 y.fEnergy.fNum.fMag.length (y.fEnergy.fNum.fMag.flatMap (aC .i64)),.rw 1 y.fEnergy.fDen.length (y.fEnergy.fDen.flatMap (aC .i64))]
theorem aIF (y:TreeNode):SoftL (nX y) (bG y):=(aW9 (aXa _) (aW9 (aXa _) (aW9 (aXl (aXC yD _)) (aW9 (aXa _) (aW9 (aXa _) (aW9 (aXl (aXf _)) (aW9 (aXl (aXf _)) (aW9 (aXl (aXC aFQ _)) (aW9 (aXl (aXC yD _)) (aW9 (aXa _) (aW9 (aXl (aXf _)) (aW9 (aXl (aXf _)) aXj))))))))))))
structure Tree where
 fNodes:(List TreeNode)
 deriving DecidableEq,Inhabited
def aD1 (y:Tree):List PV:=[.sl y.fNodes.length (y.fNodes.flatMap bG)]
def oP (y:Tree):List PV:=[.rw 12 y.fNodes.length (y.fNodes.flatMap nX)]
theorem aJH (y:Tree):SoftL (oP y) (aD1 y):=(aW9 (aXl (aXC aIF _)) aXj)
structure l01Cur where
 fb:(List Int)
 fi:Int
 fh:Int
 deriving DecidableEq,Inhabited
structure l08Arm where
 fnode:Int
 fweight:Rat
 fdx:Rat
 fdy:Rat
 deriving DecidableEq,Inhabited
instance:TI Tryz.prog 3 1 false 8:=.of (by kernel_rfl)
instance:ZT Tryz.prog 3 [.sc (.int .i64 0)]:=.of (vals:=[.int .i64 0]) (by kernel_rfl) (by kernel_rfl) rfl
instance:UT Tryz.prog 3 (.int .i64):=⟨by kernel_rfl⟩
instance:TI Tryz.prog 4 1 false 1:=.of (by kernel_rfl)
instance:UT Tryz.prog 4 .bool:=⟨by kernel_rfl⟩
instance:TI Tryz.prog 5 1 false 1:=.of (by kernel_rfl)
instance:ZT Tryz.prog 5 [.sc (.int .u8 0)]:=.of (vals:=[.int .u8 0]) (by kernel_rfl) (by kernel_rfl) rfl
instance:UT Tryz.prog 5 (.int .u8):=⟨by kernel_rfl⟩
instance:TI Tryz.prog 9 1 false 16:=.of (by kernel_rfl)
instance:ZT Tryz.prog 9 [.sc (.string ByteArray.empty)]:=.of (vals:=[.string ByteArray.empty]) (by kernel_rfl) (by kernel_rfl) rfl
instance:UT Tryz.prog 9 .string:=⟨by kernel_rfl⟩
instance:TI Tryz.prog 22 1 false 24:=.of (by kernel_rfl)
instance:SlT Tryz.prog 22 5:=⟨by kernel_rfl⟩
instance:SlT Tryz.prog 23 44:=⟨by kernel_rfl⟩
instance:SlT Tryz.prog 25 46:=⟨by kernel_rfl⟩
instance:TI Tryz.prog 26 1 false 24:=.of (by kernel_rfl)
instance:SlT Tryz.prog 26 3:=⟨by kernel_rfl⟩
instance:TI Tryz.prog 28 2 true 32:=.of (by kernel_rfl)
instance:ZT Tryz.prog 28 [.sc (.bool false),.sc (.slice none 0 0)]:=.of (vals:=[.bool false,.slice none 0 0]) (by kernel_rfl) (by kernel_rfl) rfl
instance:PlT Tryz.prog 28 [(0,1),(1,1)]:=.of (by kernel_rfl)
instance:FldT Tryz.prog 28 0 0:=.of (by kernel_rfl)
instance:FldT Tryz.prog 28 1 1:=.of (by kernel_rfl)
instance:TI Tryz.prog 30 3 true 56:=.of (by kernel_rfl)
instance:ZT Tryz.prog 30 [.sc (.bool false),.sc (.slice none 0 0),.sc (.slice none 0 0)]:=.of (vals:=[.bool false,.slice none 0 0,.slice none 0 0]) (by kernel_rfl) (by kernel_rfl) rfl
instance:PlT Tryz.prog 30 [(0,2),(2,1)]:=.of (by kernel_rfl)
instance:FldT Tryz.prog 30 0 0:=.of (by kernel_rfl)
instance:FldT Tryz.prog 30 1 2:=.of (by kernel_rfl)
instance:TI Tryz.prog 33 1 false 24:=.of (by kernel_rfl)
instance:SlT Tryz.prog 33 40:=⟨by kernel_rfl⟩
instance:TI Tryz.prog 40 11 true 184:=.of (by kernel_rfl)
instance:ZT Tryz.prog 40 [.sc (.int .i64 0),.sc (.int .i64 0),.sc (.bool false),.sc (.slice none 0 0),.sc (.slice none 0 0),.sc (.bool false),.sc (.slice none 0 0),.sc (.slice none 0 0),.sc (.bool false),.sc (.slice none 0 0),.sc (.slice none 0 0)]:=.of (vals:=[.int .i64 0,.int .i64 0,.bool false,.slice none 0 0,.slice none 0 0,.bool false,.slice none 0 0,.slice none 0 0,.bool false,.slice none 0 0,.slice none 0 0]) (by kernel_rfl) (by kernel_rfl) rfl
instance:PlT Tryz.prog 40 [(0,1),(1,1),(2,3),(5,3),(8,3)]:=.of (by kernel_rfl)
instance:FldT Tryz.prog 40 0 0:=.of (by kernel_rfl)
instance:FldT Tryz.prog 40 1 1:=.of (by kernel_rfl)
instance:FldT Tryz.prog 40 2 2:=.of (by kernel_rfl)
instance:FldT Tryz.prog 40 3 5:=.of (by kernel_rfl)
instance:FldT Tryz.prog 40 4 8:=.of (by kernel_rfl)
instance:TI Tryz.prog 42 3 true 24:=.of (by kernel_rfl)
instance:ZT Tryz.prog 42 [.sc (.int .i64 0),.sc (.int .i64 0),.sc (.int .i64 0)]:=.of (vals:=[.int .i64 0,.int .i64 0,.int .i64 0]) (by kernel_rfl) (by kernel_rfl) rfl
instance:FldT Tryz.prog 42 0 0:=.of (by kernel_rfl)
instance:FldT Tryz.prog 42 1 1:=.of (by kernel_rfl)
instance:FldT Tryz.prog 42 2 2:=.of (by kernel_rfl)
instance:TI Tryz.prog 44 8 true 80:=.of (by kernel_rfl)
instance:ZT Tryz.prog 44 [.sc (.int .i64 0),.sc (.int .i64 0),.sc (.string ByteArray.empty),.sc (.string ByteArray.empty),.sc (.int .i64 0),.sc (.int .i64 0),.sc (.int .i64 0),.sc (.int .i64 0)]:=.of (vals:=[.int .i64 0,.int .i64 0,.string ByteArray.empty,.string ByteArray.empty,.int .i64 0,.int .i64 0,.int .i64 0,.int .i64 0]) (by kernel_rfl) (by kernel_rfl) rfl
instance:FldT Tryz.prog 44 0 0:=.of (by kernel_rfl)
instance:FldT Tryz.prog 44 1 1:=.of (by kernel_rfl)
instance:FldT Tryz.prog 44 2 2:=.of (by kernel_rfl)
instance:FldT Tryz.prog 44 3 3:=.of (by kernel_rfl)
instance:FldT Tryz.prog 44 4 4:=.of (by kernel_rfl)
instance:FldT Tryz.prog 44 5 7:=.of (by kernel_rfl)
instance:TI Tryz.prog 46 6 true 112:=.of (by kernel_rfl)
instance:ZT Tryz.prog 46 [.sc (.bool false),.sc (.slice none 0 0),.sc (.slice none 0 0),.sc (.bool false),.sc (.slice none 0 0),.sc (.slice none 0 0)]:=.of (vals:=[.bool false,.slice none 0 0,.slice none 0 0,.bool false,.slice none 0 0,.slice none 0 0]) (by kernel_rfl) (by kernel_rfl) rfl
instance:PlT Tryz.prog 46 [(0,3),(3,3)]:=.of (by kernel_rfl)
instance:FldT Tryz.prog 46 0 0:=.of (by kernel_rfl)
instance:FldT Tryz.prog 46 1 3:=.of (by kernel_rfl)
instance:TI Tryz.prog 57 1 false 24:=.of (by kernel_rfl)
instance:SlT Tryz.prog 57 108:=⟨by kernel_rfl⟩
instance:TI Tryz.prog 59 1 true 24:=.of (by kernel_rfl)
instance:ZT Tryz.prog 59 [.sc (.slice none 0 0)]:=.of (vals:=[.slice none 0 0]) (by kernel_rfl) (by kernel_rfl) rfl
instance:PlT Tryz.prog 59 [(0,1)]:=.of (by kernel_rfl)
instance:FldT Tryz.prog 59 0 0:=.of (by kernel_rfl)
instance:SlT Tryz.prog 89 9:=⟨by kernel_rfl⟩
instance:TI Tryz.prog 104 1 false 24:=.of (by kernel_rfl)
instance:SlT Tryz.prog 104 190:=⟨by kernel_rfl⟩
instance:TI Tryz.prog 106 5 true 88:=.of (by kernel_rfl)
instance:ZT Tryz.prog 106 [.sc (.int .i64 0),.sc (.bool false),.sc (.slice none 0 0),.sc (.slice none 0 0),.sc (.slice none 0 0)]:=.of (vals:=[.int .i64 0,.bool false,.slice none 0 0,.slice none 0 0,.slice none 0 0]) (by kernel_rfl) (by kernel_rfl) rfl
instance:PlT Tryz.prog 106 [(0,1),(1,3),(4,1)]:=.of (by kernel_rfl)
instance:FldT Tryz.prog 106 0 0:=.of (by kernel_rfl)
instance:FldT Tryz.prog 106 1 1:=.of (by kernel_rfl)
instance:FldT Tryz.prog 106 2 4:=.of (by kernel_rfl)
instance:TI Tryz.prog 108 12 true 208:=.of (by kernel_rfl)
instance:ZT Tryz.prog 108 [.sc (.int .i64 0),.sc (.int .i64 0),.sc (.slice none 0 0),.sc (.int .i64 0),.sc (.bool false),.sc (.slice none 0 0),.sc (.slice none 0 0),.sc (.slice none 0 0),.sc (.slice none 0 0),.sc (.bool false),.sc (.slice none 0 0),.sc (.slice none 0 0)]:=.of (vals:=[.int .i64 0,.int .i64 0,.slice none 0 0,.int .i64 0,.bool false,.slice none 0 0,.slice none 0 0,.slice none 0 0,.slice none 0 0,.bool false,.slice none 0 0,.slice none 0 0]) (by kernel_rfl) (by kernel_rfl) rfl
instance:PlT Tryz.prog 108 [(0,1),(1,1),(2,1),(3,5),(8,1),(9,3)]:=.of (by kernel_rfl)
instance:FldT Tryz.prog 108 0 0:=.of (by kernel_rfl)
instance:FldT Tryz.prog 108 1 1:=.of (by kernel_rfl)
instance:FldT Tryz.prog 108 2 2:=.of (by kernel_rfl)
instance:FldT Tryz.prog 108 3 3:=.of (by kernel_rfl)
instance:FldT Tryz.prog 108 4 8:=.of (by kernel_rfl)
instance:FldT Tryz.prog 108 5 9:=.of (by kernel_rfl)
instance:SlT Tryz.prog 118 42:=⟨by kernel_rfl⟩
instance:ZT Tryz.prog 124 [.sc (.slice none 0 0),.sc (.int .i64 0),.sc (.int .i64 0)]:=.of (vals:=[.slice none 0 0,.int .i64 0,.int .i64 0]) (by kernel_rfl) (by kernel_rfl) rfl
instance:PlT Tryz.prog 124 [(0,1),(1,1),(2,1)]:=.of (by kernel_rfl)
instance:FldT Tryz.prog 124 0 0:=.of (by kernel_rfl)
instance:FldT Tryz.prog 124 1 1:=.of (by kernel_rfl)
instance:FldT Tryz.prog 124 2 2:=.of (by kernel_rfl)
instance:SlT Tryz.prog 127 106:=⟨by kernel_rfl⟩
instance:TI Tryz.prog 159 10 true 10:=.of (by kernel_rfl)
instance:ArT Tryz.prog 159 10 4:=⟨by kernel_rfl⟩
instance:TI Tryz.prog 161 100 true 100:=.of (by kernel_rfl)
instance:ZT Tryz.prog 161 (iX 100 fun _=>false):=.of (vals:=[.bool false,.bool false,.bool false,.bool false,.bool false,.bool false,.bool false,.bool false,.bool false,.bool false,.bool false,.bool false,.bool false,.bool false,.bool false,.bool false,.bool false,.bool false,.bool false,.bool false,.bool false,.bool false,.bool false,.bool false,.bool false,.bool false,.bool false,.bool false,.bool false,.bool false,.bool false,.bool false,.bool false,.bool false,.bool false,.bool false,.bool false,.bool false,.bool false,.bool false,.bool false,.bool false,.bool false,.bool false,.bool false,.bool false,.bool false,.bool false,.bool false,.bool false,.bool false,.bool false,.bool false,.bool false,.bool false,.bool false,.bool false,.bool false,.bool false,.bool false,.bool false,.bool false,.bool false,.bool false,.bool false,.bool false,.bool false,.bool false,.bool false,.bool false,.bool false,.bool false,.bool false,.bool false,.bool false,.bool false,.bool false,.bool false,.bool false,.bool false,.bool false,.bool false,.bool false,.bool false,.bool false,.bool false,.bool false,.bool false,.bool false,.bool false,.bool false,.bool false,.bool false,.bool false,.bool false,.bool false,.bool false,.bool false,.bool false,.bool false]) (by kernel_rfl) (by kernel_rfl) rfl
instance:ArT Tryz.prog 161 10 159:=⟨by kernel_rfl⟩
instance:UT Tryz.prog 176 (.int .u64):=⟨by kernel_rfl⟩
instance:TI Tryz.prog 190 10 true 176:=.of (by kernel_rfl)
instance:ZT Tryz.prog 190 [.sc (.int .i64 0),.sc (.bool false),.sc (.slice none 0 0),.sc (.slice none 0 0),.sc (.bool false),.sc (.slice none 0 0),.sc (.slice none 0 0),.sc (.bool false),.sc (.slice none 0 0),.sc (.slice none 0 0)]:=.of (vals:=[.int .i64 0,.bool false,.slice none 0 0,.slice none 0 0,.bool false,.slice none 0 0,.slice none 0 0,.bool false,.slice none 0 0,.slice none 0 0]) (by kernel_rfl) (by kernel_rfl) rfl
instance:PlT Tryz.prog 190 [(0,1),(1,3),(4,3),(7,3)]:=.of (by kernel_rfl)
instance:FldT Tryz.prog 190 0 0:=.of (by kernel_rfl)
instance:FldT Tryz.prog 190 1 1:=.of (by kernel_rfl)
instance:FldT Tryz.prog 190 2 4:=.of (by kernel_rfl)
instance:FldT Tryz.prog 190 3 7:=.of (by kernel_rfl)
instance:SlT Tryz.prog 207 30:=⟨by kernel_rfl⟩
instance:Dec Tryz.prog 5 (aC .u8) (okI .u8):=.int (by kernel_rfl)
instance:Dec Tryz.prog 22 (aPy (aC .u8)) (okL (okI .u8)):=.slice (e:=5) (by kernel_rfl) 1 (by kernel_rfl) (by decide) (fun _=>rfl)
instance:FnC Tryz.prog 5:=⟨_,Tryz.func5,by kernel_rfl,by kernel_rfl⟩
instance:FnC Tryz.prog 6:=⟨_,Tryz.func6,by kernel_rfl,by kernel_rfl⟩
instance:FnC Tryz.prog 7:=⟨_,Tryz.func7,by kernel_rfl,by kernel_rfl⟩
instance:FnC Tryz.prog 8:=⟨_,Tryz.func8,by kernel_rfl,by kernel_rfl⟩
instance:FnC Tryz.prog 9:=⟨_,Tryz.func9,by kernel_rfl,by kernel_rfl⟩
instance:FnC Tryz.prog 10:=⟨_,Tryz.func10,by kernel_rfl,by kernel_rfl⟩
instance:FnC Tryz.prog 11:=⟨_,Tryz.func11,by kernel_rfl,by kernel_rfl⟩
instance:FnC Tryz.prog 12:=⟨_,Tryz.func12,by kernel_rfl,by kernel_rfl⟩
instance:FnC Tryz.prog 13:=⟨_,Tryz.func13,by kernel_rfl,by kernel_rfl⟩
instance:FnC Tryz.prog 14:=⟨_,Tryz.func14,by kernel_rfl,by kernel_rfl⟩
instance:FnC Tryz.prog 15:=⟨_,Tryz.func15,by kernel_rfl,by kernel_rfl⟩
instance:FnC Tryz.prog 20:=⟨_,Tryz.func20,by kernel_rfl,by kernel_rfl⟩
instance:FnC Tryz.prog 28:=⟨_,Tryz.func28,by kernel_rfl,by kernel_rfl⟩
instance:FnC Tryz.prog 29:=⟨_,Tryz.func29,by kernel_rfl,by kernel_rfl⟩
instance:FnC Tryz.prog 30:=⟨_,Tryz.func30,by kernel_rfl,by kernel_rfl⟩
instance:FnC Tryz.prog 31:=⟨_,Tryz.func31,by kernel_rfl,by kernel_rfl⟩
instance:FnC Tryz.prog 32:=⟨_,Tryz.func32,by kernel_rfl,by kernel_rfl⟩
instance:FnC Tryz.prog 33:=⟨_,Tryz.func33,by kernel_rfl,by kernel_rfl⟩
instance:FnC Tryz.prog 34:=⟨_,Tryz.func34,by kernel_rfl,by kernel_rfl⟩
instance:FnC Tryz.prog 35:=⟨_,Tryz.func35,by kernel_rfl,by kernel_rfl⟩
instance:FnC Tryz.prog 36:=⟨_,Tryz.func36,by kernel_rfl,by kernel_rfl⟩
instance:FnC Tryz.prog 37:=⟨_,Tryz.func37,by kernel_rfl,by kernel_rfl⟩
instance:FnC Tryz.prog 38:=⟨_,Tryz.func38,by kernel_rfl,by kernel_rfl⟩
instance:FnC Tryz.prog 39:=⟨_,Tryz.func39,by kernel_rfl,by kernel_rfl⟩
instance:FnC Tryz.prog 40:=⟨_,Tryz.func40,by kernel_rfl,by kernel_rfl⟩
instance:FnC Tryz.prog 41:=⟨_,Tryz.func41,by kernel_rfl,by kernel_rfl⟩
instance:FnC Tryz.prog 42:=⟨_,Tryz.func42,by kernel_rfl,by kernel_rfl⟩
instance:FnC Tryz.prog 43:=⟨_,Tryz.func43,by kernel_rfl,by kernel_rfl⟩
instance:FnC Tryz.prog 44:=⟨_,Tryz.func44,by kernel_rfl,by kernel_rfl⟩
instance:FnC Tryz.prog 45:=⟨_,Tryz.func45,by kernel_rfl,by kernel_rfl⟩
instance:FnC Tryz.prog 46:=⟨_,Tryz.func46,by kernel_rfl,by kernel_rfl⟩
instance:FnC Tryz.prog 47:=⟨_,Tryz.func47,by kernel_rfl,by kernel_rfl⟩
instance:FnC Tryz.prog 48:=⟨_,Tryz.func48,by kernel_rfl,by kernel_rfl⟩
instance:FnC Tryz.prog 49:=⟨_,Tryz.func49,by kernel_rfl,by kernel_rfl⟩
instance:FnC Tryz.prog 50:=⟨_,Tryz.func50,by kernel_rfl,by kernel_rfl⟩
instance:FnC Tryz.prog 57:=⟨_,Tryz.func57,by kernel_rfl,by kernel_rfl⟩
instance:FnC Tryz.prog 58:=⟨_,Tryz.func58,by kernel_rfl,by kernel_rfl⟩
instance:FnC Tryz.prog 59:=⟨_,Tryz.func59,by kernel_rfl,by kernel_rfl⟩
instance:FnC Tryz.prog 60:=⟨_,Tryz.func60,by kernel_rfl,by kernel_rfl⟩
instance:FnC Tryz.prog 65:=⟨_,Tryz.func65,by kernel_rfl,by kernel_rfl⟩
instance:FnC Tryz.prog 66:=⟨_,Tryz.func66,by kernel_rfl,by kernel_rfl⟩
instance:FnC Tryz.prog 67:=⟨_,Tryz.func67,by kernel_rfl,by kernel_rfl⟩
instance:FnC Tryz.prog 68:=⟨_,Tryz.func68,by kernel_rfl,by kernel_rfl⟩
instance:FnC Tryz.prog 69:=⟨_,Tryz.func69,by kernel_rfl,by kernel_rfl⟩
instance:FnC Tryz.prog 70:=⟨_,Tryz.func70,by kernel_rfl,by kernel_rfl⟩
instance:FnC Tryz.prog 71:=⟨_,Tryz.func71,by kernel_rfl,by kernel_rfl⟩
instance:FnC Tryz.prog 72:=⟨_,Tryz.func72,by kernel_rfl,by kernel_rfl⟩
instance:FnC Tryz.prog 73:=⟨_,Tryz.func73,by kernel_rfl,by kernel_rfl⟩
instance:FnC Tryz.prog 74:=⟨_,Tryz.func74,by kernel_rfl,by kernel_rfl⟩
instance:FnC Tryz.prog 75:=⟨_,Tryz.func75,by kernel_rfl,by kernel_rfl⟩
instance:FnC Tryz.prog 76:=⟨_,Tryz.func76,by kernel_rfl,by kernel_rfl⟩
instance:FnC Tryz.prog 77:=⟨_,Tryz.func77,by kernel_rfl,by kernel_rfl⟩
instance:FnC Tryz.prog 78:=⟨_,Tryz.func78,by kernel_rfl,by kernel_rfl⟩
instance:FnC Tryz.prog 79:=⟨_,Tryz.func79,by kernel_rfl,by kernel_rfl⟩
instance:FnC Tryz.prog 80:=⟨_,Tryz.func80,by kernel_rfl,by kernel_rfl⟩
instance:FnC Tryz.prog 81:=⟨_,Tryz.func81,by kernel_rfl,by kernel_rfl⟩
instance:FnC Tryz.prog 82:=⟨_,Tryz.func82,by kernel_rfl,by kernel_rfl⟩
instance:FnC Tryz.prog 83:=⟨_,Tryz.func83,by kernel_rfl,by kernel_rfl⟩
instance:FnC Tryz.prog 84:=⟨_,Tryz.func84,by kernel_rfl,by kernel_rfl⟩
instance:FnC Tryz.prog 85:=⟨_,Tryz.func85,by kernel_rfl,by kernel_rfl⟩
instance:FnC Tryz.prog 86:=⟨_,Tryz.func86,by kernel_rfl,by kernel_rfl⟩
instance:FnC Tryz.prog 87:=⟨_,Tryz.func87,by kernel_rfl,by kernel_rfl⟩
instance:FnC Tryz.prog 88:=⟨_,Tryz.func88,by kernel_rfl,by kernel_rfl⟩
instance:FnC Tryz.prog 102:=⟨_,Tryz.func102,by kernel_rfl,by kernel_rfl⟩
instance:FnC Tryz.prog 103:=⟨_,Tryz.func103,by kernel_rfl,by kernel_rfl⟩
instance:FnC Tryz.prog 104:=⟨_,Tryz.func104,by kernel_rfl,by kernel_rfl⟩
instance:FnC Tryz.prog 105:=⟨_,Tryz.func105,by kernel_rfl,by kernel_rfl⟩
instance:FnC Tryz.prog 106:=⟨_,Tryz.func106,by kernel_rfl,by kernel_rfl⟩
instance:FnC Tryz.prog 107:=⟨_,Tryz.func107,by kernel_rfl,by kernel_rfl⟩
instance:FnC Tryz.prog 108:=⟨_,Tryz.func108,by kernel_rfl,by kernel_rfl⟩
instance:FnC Tryz.prog 109:=⟨_,Tryz.func109,by kernel_rfl,by kernel_rfl⟩
instance:FnC Tryz.prog 116:=⟨_,Tryz.func116,by kernel_rfl,by kernel_rfl⟩
instance:FnC Tryz.prog 117:=⟨_,Tryz.func117,by kernel_rfl,by kernel_rfl⟩
instance:FnC Tryz.prog 118:=⟨_,Tryz.func118,by kernel_rfl,by kernel_rfl⟩
instance:FnC Tryz.prog 119:=⟨_,Tryz.func119,by kernel_rfl,by kernel_rfl⟩
instance:FnC Tryz.prog 120:=⟨_,Tryz.func120,by kernel_rfl,by kernel_rfl⟩
instance:FnC Tryz.prog 121:=⟨_,Tryz.func121,by kernel_rfl,by kernel_rfl⟩
instance:FnC Tryz.prog 122:=⟨_,Tryz.func122,by kernel_rfl,by kernel_rfl⟩
instance:FnC Tryz.prog 123:=⟨_,Tryz.func123,by kernel_rfl,by kernel_rfl⟩
instance:FnC Tryz.prog 124:=⟨_,Tryz.func124,by kernel_rfl,by kernel_rfl⟩
instance:FnC Tryz.prog 125:=⟨_,Tryz.func125,by kernel_rfl,by kernel_rfl⟩
instance:FnC Tryz.prog 126:=⟨_,Tryz.func126,by kernel_rfl,by kernel_rfl⟩
instance:FnC Tryz.prog 127:=⟨_,Tryz.func127,by kernel_rfl,by kernel_rfl⟩
instance:FnC Tryz.prog 128:=⟨_,Tryz.func128,by kernel_rfl,by kernel_rfl⟩
instance:FnC Tryz.prog 129:=⟨_,Tryz.func129,by kernel_rfl,by kernel_rfl⟩
instance:FnC Tryz.prog 130:=⟨_,Tryz.func130,by kernel_rfl,by kernel_rfl⟩
instance:FnC Tryz.prog 131:=⟨_,Tryz.func131,by kernel_rfl,by kernel_rfl⟩
instance:FnC Tryz.prog 132:=⟨_,Tryz.func132,by kernel_rfl,by kernel_rfl⟩
instance:FnC Tryz.prog 133:=⟨_,Tryz.func133,by kernel_rfl,by kernel_rfl⟩
instance:FnC Tryz.prog 134:=⟨_,Tryz.func134,by kernel_rfl,by kernel_rfl⟩
instance:FnC Tryz.prog 135:=⟨_,Tryz.func135,by kernel_rfl,by kernel_rfl⟩
instance:FnC Tryz.prog 136:=⟨_,Tryz.func136,by kernel_rfl,by kernel_rfl⟩
instance:FnC Tryz.prog 137:=⟨_,Tryz.func137,by kernel_rfl,by kernel_rfl⟩
instance:FnC Tryz.prog 138:=⟨_,Tryz.func138,by kernel_rfl,by kernel_rfl⟩
instance:FnC Tryz.prog 139:=⟨_,Tryz.func139,by kernel_rfl,by kernel_rfl⟩
instance:FnC Tryz.prog 140:=⟨_,Tryz.func140,by kernel_rfl,by kernel_rfl⟩
instance:FnC Tryz.prog 141:=⟨_,Tryz.func141,by kernel_rfl,by kernel_rfl⟩
instance:FnC Tryz.prog 142:=⟨_,Tryz.func142,by kernel_rfl,by kernel_rfl⟩
instance:FnC Tryz.prog 159:=⟨_,Tryz.func159,by kernel_rfl,by kernel_rfl⟩
instance:FnC Tryz.prog 160:=⟨_,Tryz.func160,by kernel_rfl,by kernel_rfl⟩
instance:FnC Tryz.prog 161:=⟨_,Tryz.func161,by kernel_rfl,by kernel_rfl⟩
instance:FnC Tryz.prog 162:=⟨_,Tryz.func162,by kernel_rfl,by kernel_rfl⟩
instance:FnC Tryz.prog 163:=⟨_,Tryz.func163,by kernel_rfl,by kernel_rfl⟩
instance:FnC Tryz.prog 164:=⟨_,Tryz.func164,by kernel_rfl,by kernel_rfl⟩
instance:FnC Tryz.prog 167:=⟨_,Tryz.func167,by kernel_rfl,by kernel_rfl⟩
instance:FnC Tryz.prog 168:=⟨_,Tryz.func168,by kernel_rfl,by kernel_rfl⟩
instance:FnC Tryz.prog 169:=⟨_,Tryz.func169,by kernel_rfl,by kernel_rfl⟩
instance:FnC Tryz.prog 170:=⟨_,Tryz.func170,by kernel_rfl,by kernel_rfl⟩
instance:FnC Tryz.prog 171:=⟨_,Tryz.func171,by kernel_rfl,by kernel_rfl⟩
instance:FnC Tryz.prog 172:=⟨_,Tryz.func172,by kernel_rfl,by kernel_rfl⟩
instance:FnC Tryz.prog 173:=⟨_,Tryz.func173,by kernel_rfl,by kernel_rfl⟩
instance:FnC Tryz.prog 174:=⟨_,Tryz.func174,by kernel_rfl,by kernel_rfl⟩
instance:FnC Tryz.prog 187:=⟨_,Tryz.func187,by kernel_rfl,by kernel_rfl⟩
instance:FnC Tryz.prog 193:=⟨_,Tryz.func193,by kernel_rfl,by kernel_rfl⟩
instance:FnC Tryz.prog 194:=⟨_,Tryz.func194,by kernel_rfl,by kernel_rfl⟩
end
end Go.Ev
