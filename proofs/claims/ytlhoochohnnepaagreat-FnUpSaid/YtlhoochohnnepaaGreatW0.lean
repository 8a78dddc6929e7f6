/- Parts W0. -/
import Derived.Test.YtlhoochohnnepaaGreatProg
import Derived.KernelRfl
import Derived.Test.YtlhoochohnnepaaGreatE5
set_option linter.all false
/- The typed data of this seat and the engine's instances, printed by program (inst.py). -/
namespace Go.Ev
noncomputable section
open Go.Proofs
theorem PPm:Tryz.prog.follows .mixedOrders=true:=by kernel_rfl
structure BigInt where
 fNeg:Bool
 fMag:(List Int)
 deriving DecidableEq,Inhabited
def gW (y:BigInt):List PV:=[.sc (.bool y.fNeg),.sl y.fMag.length (y.fMag.flatMap (aB .i64))]
def bK (y:BigInt):List PV:=[.sc (.bool y.fNeg),.rw 1 y.fMag.length (y.fMag.flatMap (aB .i64))]
theorem jO (y:BigInt):SoftL (bK y) (gW y):=(SoftL.cons (Soft.refl _) (SoftL.cons (Soft.rw (SoftL.refl _)) SoftL.nil))
structure Rat where
 fNum:BigInt
 fDen:(List Int)
 deriving DecidableEq,Inhabited
def aH (y:Rat):List PV:=[.sc (.bool y.fNum.fNeg),.sl y.fNum.fMag.length (y.fNum.fMag.flatMap (aB .i64)),.sl y.fDen.length (y.fDen.flatMap (aB .i64))]
def aL (y:Rat):List PV:=[.sc (.bool y.fNum.fNeg),.rw 1 y.fNum.fMag.length (y.fNum.fMag.flatMap (aB .i64)),.rw 1 y.fDen.length (y.fDen.flatMap (aB .i64))]
theorem aQ (y:Rat):SoftL (aL y) (aH y):=(SoftL.cons (Soft.refl _) (SoftL.cons (Soft.rw (SoftL.refl _)) (SoftL.cons (Soft.rw (SoftL.refl _)) SoftL.nil)))
structure Link where
 fA:Int
 fB:Int
 fWeight:Rat
 fDX:Rat
 fDY:Rat
 deriving DecidableEq,Inhabited
def aD (y:Link):List PV:=[.sc (.int .i64 y.fA),.sc (.int .i64 y.fB),.sc (.bool y.fWeight.fNum.fNeg),.sl y.fWeight.fNum.fMag.length (y.fWeight.fNum.fMag.flatMap (aB .i64)),.sl y.fWeight.fDen.length (y.fWeight.fDen.flatMap (aB .i64)),.sc (.bool y.fDX.fNum.fNeg),.sl y.fDX.fNum.fMag.length (y.fDX.fNum.fMag.flatMap (aB .i64)),.sl y.fDX.fDen.length (y.fDX.fDen.flatMap (aB .i64)),.sc (.bool y.fDY.fNum.fNeg),.sl y.fDY.fNum.fMag.length (y.fDY.fNum.fMag.flatMap (aB .i64)),.sl y.fDY.fDen.length (y.fDY.fDen.flatMap (aB .i64))]
def bZ (y:Link):List PV:=[.sc (.int .i64 y.fA),.sc (.int .i64 y.fB),.sc (.bool y.fWeight.fNum.fNeg),.rw 1 y.fWeight.fNum.fMag.length (y.fWeight.fNum.fMag.flatMap (aB .i64)),.rw 1 y.fWeight.fDen.length (y.fWeight.fDen.flatMap (aB .i64)),.sc (.bool y.fDX.fNum.fNeg),.rw 1 y.fDX.fNum.fMag.length (y.fDX.fNum.fMag.flatMap (aB .i64)),.rw 1 y.fDX.fDen.length (y.fDX.fDen.flatMap (aB .i64)),.sc (.bool y.fDY.fNum.fNeg),.rw 1 y.fDY.fNum.fMag.length (y.fDY.fNum.fMag.flatMap (aB .i64)),.rw 1 y.fDY.fDen.length (y.fDY.fDen.flatMap (aB .i64))]
theorem vN (y:Link):SoftL (bZ y) (aD y):=(SoftL.cons (Soft.refl _) (SoftL.cons (Soft.refl _) (SoftL.cons (Soft.refl _) (SoftL.cons (Soft.rw (SoftL.refl _)) (SoftL.cons (Soft.rw (SoftL.refl _)) (SoftL.cons (Soft.refl _) (SoftL.cons (Soft.rw (SoftL.refl _)) (SoftL.cons (Soft.rw (SoftL.refl _)) (SoftL.cons (Soft.refl _) (SoftL.cons (Soft.rw (SoftL.refl _)) (SoftL.cons (Soft.rw (SoftL.refl _)) SoftL.nil)))))))))))
structure Parent where
 fNode:Int
 fShare:Rat
 fDX:Rat
 fDY:Rat
 deriving DecidableEq,Inhabited
def bI (y:Parent):List PV:=[.sc (.int .i64 y.fNode),.sc (.bool y.fShare.fNum.fNeg),.sl y.fShare.fNum.fMag.length (y.fShare.fNum.fMag.flatMap (aB .i64)),.sl y.fShare.fDen.length (y.fShare.fDen.flatMap (aB .i64)),.sc (.bool y.fDX.fNum.fNeg),.sl y.fDX.fNum.fMag.length (y.fDX.fNum.fMag.flatMap (aB .i64)),.sl y.fDX.fDen.length (y.fDX.fDen.flatMap (aB .i64)),.sc (.bool y.fDY.fNum.fNeg),.sl y.fDY.fNum.fMag.length (y.fDY.fNum.fMag.flatMap (aB .i64)),.sl y.fDY.fDen.length (y.fDY.fDen.flatMap (aB .i64))]
def nH (y:Parent):List PV:=[.sc (.int .i64 y.fNode),.sc (.bool y.fShare.fNum.fNeg),.rw 1 y.fShare.fNum.fMag.length (y.fShare.fNum.fMag.flatMap (aB .i64)),.rw 1 y.fShare.fDen.length (y.fShare.fDen.flatMap (aB .i64)),.sc (.bool y.fDX.fNum.fNeg),.rw 1 y.fDX.fNum.fMag.length (y.fDX.fNum.fMag.flatMap (aB .i64)),.rw 1 y.fDX.fDen.length (y.fDX.fDen.flatMap (aB .i64)),.sc (.bool y.fDY.fNum.fNeg),.rw 1 y.fDY.fNum.fMag.length (y.fDY.fNum.fMag.flatMap (aB .i64)),.rw 1 y.fDY.fDen.length (y.fDY.fDen.flatMap (aB .i64))]
theorem aGY (y:Parent):SoftL (nH y) (bI y):=(SoftL.cons (Soft.refl _) (SoftL.cons (Soft.refl _) (SoftL.cons (Soft.rw (SoftL.refl _)) (SoftL.cons (Soft.rw (SoftL.refl _)) (SoftL.cons (Soft.refl _) (SoftL.cons (Soft.rw (SoftL.refl _)) (SoftL.cons (Soft.rw (SoftL.refl _)) (SoftL.cons (Soft.refl _) (SoftL.cons (Soft.rw (SoftL.refl _)) (SoftL.cons (Soft.rw (SoftL.refl _)) SoftL.nil))))))))))
structure Conditional where
 fNode:Int
 fTotal:Rat
 fParents:(List Parent)
 deriving DecidableEq,Inhabited
def aY (y:Conditional):List PV:=[.sc (.int .i64 y.fNode),.sc (.bool y.fTotal.fNum.fNeg),.sl y.fTotal.fNum.fMag.length (y.fTotal.fNum.fMag.flatMap (aB .i64)),.sl y.fTotal.fDen.length (y.fTotal.fDen.flatMap (aB .i64)),.sl y.fParents.length (y.fParents.flatMap bI)]
def aCt (y:Conditional):List PV:=[.sc (.int .i64 y.fNode),.sc (.bool y.fTotal.fNum.fNeg),.rw 1 y.fTotal.fNum.fMag.length (y.fTotal.fNum.fMag.flatMap (aB .i64)),.rw 1 y.fTotal.fDen.length (y.fTotal.fDen.flatMap (aB .i64)),.rw 10 y.fParents.length (y.fParents.flatMap nH)]
structure TreeNode where
 fNode:Int
 fUp:Int
 fOwn:(List Link)
 fCond:Conditional
 fMessages:(List Link)
 fEnergy:Rat
 deriving DecidableEq,Inhabited
def bB (y:TreeNode):List PV:=[.sc (.int .i64 y.fNode),.sc (.int .i64 y.fUp),.sl y.fOwn.length (y.fOwn.flatMap aD),.sc (.int .i64 y.fCond.fNode),.sc (.bool y.fCond.fTotal.fNum.fNeg),.sl y.fCond.fTotal.fNum.fMag.length (y.fCond.fTotal.fNum.fMag.flatMap (aB .i64)),.sl y.fCond.fTotal.fDen.length (y.fCond.fTotal.fDen.flatMap (aB .i64)),.sl y.fCond.fParents.length (y.fCond.fParents.flatMap bI),.sl y.fMessages.length (y.fMessages.flatMap aD),.sc (.bool y.fEnergy.fNum.fNeg),.sl y.fEnergy.fNum.fMag.length (y.fEnergy.fNum.fMag.flatMap (aB .i64)),.sl y.fEnergy.fDen.length (y.fEnergy.fDen.flatMap (aB .i64))]
def lG (y:TreeNode):List PV:=[.sc (.int .i64 y.fNode),.sc (.int .i64 y.fUp),.rw 11 y.fOwn.length (y.fOwn.flatMap bZ),.sc (.int .i64 y.fCond.fNode),.sc (.bool y.fCond.fTotal.fNum.fNeg),.rw 1 y.fCond.fTotal.fNum.fMag.length (y.fCond.fTotal.fNum.fMag.flatMap (aB .i64)),.rw 1 y.fCond.fTotal.fDen.length (y.fCond.fTotal.fDen.flatMap (aB .i64)),.rw 10 y.fCond.fParents.length (y.fCond.fParents.flatMap nH),.rw 11 y.fMessages.length (y.fMessages.flatMap bZ),.sc (.bool y.fEnergy.fNum.fNeg),.rw 1 y.fEnergy.fNum.fMag.length (y.fEnergy.fNum.fMag.flatMap (aB .i64)),.rw 1 y.fEnergy.fDen.length (y.fEnergy.fDen.flatMap (aB .i64))]
theorem aAS (y:TreeNode):SoftL (lG y) (bB y):=(SoftL.cons (Soft.refl _) (SoftL.cons (Soft.refl _) (SoftL.cons (Soft.rw (SoftL.flat vN _)) (SoftL.cons (Soft.refl _) (SoftL.cons (Soft.refl _) (SoftL.cons (Soft.rw (SoftL.refl _)) (SoftL.cons (Soft.rw (SoftL.refl _)) (SoftL.cons (Soft.rw (SoftL.flat aGY _)) (SoftL.cons (Soft.rw (SoftL.flat vN _)) (SoftL.cons (Soft.refl _) (SoftL.cons (Soft.rw (SoftL.refl _)) (SoftL.cons (Soft.rw (SoftL.refl _)) SoftL.nil))))))))))))
structure Tree where
 fNodes:(List TreeNode)
 deriving DecidableEq,Inhabited
def aLg (y:Tree):List PV:=[.sl y.fNodes.length (y.fNodes.flatMap bB)]
def sF (y:Tree):List PV:=[.rw 12 y.fNodes.length (y.fNodes.flatMap lG)]
structure Point where
 fX:Rat
 fY:Rat
 deriving DecidableEq,Inhabited
structure l01Cur where
 fb:(List Int)
 fi:Int
 fh:Int
 deriving DecidableEq,Inhabited
structure l08Arm where
 fnode:Int
 fweight:Rat
 fdx:Rat
 fdy:Rat
 deriving DecidableEq,Inhabited
instance:TI Tryz.prog 3 1 false 8:=.of (by kernel_rfl)
instance:ZT Tryz.prog 3 [.sc (.int .i64 0)]:=.of (vals:=[.int .i64 0]) (by kernel_rfl) (by kernel_rfl) rfl
instance:UT Tryz.prog 3 (.int .i64):=⟨by kernel_rfl⟩
instance:TI Tryz.prog 4 1 false 1:=.of (by kernel_rfl)
instance:UT Tryz.prog 4 .bool:=⟨by kernel_rfl⟩
instance:TI Tryz.prog 5 1 false 1:=.of (by kernel_rfl)
instance:UT Tryz.prog 5 (.int .u8):=⟨by kernel_rfl⟩
instance:TI Tryz.prog 22 1 false 24:=.of (by kernel_rfl)
instance:SlT Tryz.prog 22 5:=⟨by kernel_rfl⟩
instance:TI Tryz.prog 23 1 false 24:=.of (by kernel_rfl)
instance:SlT Tryz.prog 23 59:=⟨by kernel_rfl⟩
instance:TI Tryz.prog 25 1 true 24:=.of (by kernel_rfl)
instance:ZT Tryz.prog 25 [.sc (.slice none 0 0)]:=.of (vals:=[.slice none 0 0]) (by kernel_rfl) (by kernel_rfl) rfl
instance:PlT Tryz.prog 25 [(0,1)]:=.of (by kernel_rfl)
instance:FldT Tryz.prog 25 0 0:=.of (by kernel_rfl)
instance:TI Tryz.prog 27 1 false 24:=.of (by kernel_rfl)
instance:SlT Tryz.prog 27 71:=⟨by kernel_rfl⟩
instance:TI Tryz.prog 28 1 false 24:=.of (by kernel_rfl)
instance:SlT Tryz.prog 28 3:=⟨by kernel_rfl⟩
instance:TI Tryz.prog 30 2 true 32:=.of (by kernel_rfl)
instance:ZT Tryz.prog 30 [.sc (.bool false),.sc (.slice none 0 0)]:=.of (vals:=[.bool false,.slice none 0 0]) (by kernel_rfl) (by kernel_rfl) rfl
instance:PlT Tryz.prog 30 [(0,1),(1,1)]:=.of (by kernel_rfl)
instance:FldT Tryz.prog 30 0 0:=.of (by kernel_rfl)
instance:FldT Tryz.prog 30 1 1:=.of (by kernel_rfl)
instance:TI Tryz.prog 32 3 true 56:=.of (by kernel_rfl)
instance:ZT Tryz.prog 32 [.sc (.bool false),.sc (.slice none 0 0),.sc (.slice none 0 0)]:=.of (vals:=[.bool false,.slice none 0 0,.slice none 0 0]) (by kernel_rfl) (by kernel_rfl) rfl
instance:PlT Tryz.prog 32 [(0,2),(2,1)]:=.of (by kernel_rfl)
instance:FldT Tryz.prog 32 0 0:=.of (by kernel_rfl)
instance:FldT Tryz.prog 32 1 2:=.of (by kernel_rfl)
instance:SlT Tryz.prog 40 32:=⟨by kernel_rfl⟩
instance:TI Tryz.prog 55 1 false 24:=.of (by kernel_rfl)
instance:SlT Tryz.prog 55 137:=⟨by kernel_rfl⟩
instance:TI Tryz.prog 57 5 true 88:=.of (by kernel_rfl)
instance:ZT Tryz.prog 57 [.sc (.int .i64 0),.sc (.bool false),.sc (.slice none 0 0),.sc (.slice none 0 0),.sc (.slice none 0 0)]:=.of (vals:=[.int .i64 0,.bool false,.slice none 0 0,.slice none 0 0,.slice none 0 0]) (by kernel_rfl) (by kernel_rfl) rfl
instance:PlT Tryz.prog 57 [(0,1),(1,3),(4,1)]:=.of (by kernel_rfl)
instance:FldT Tryz.prog 57 0 0:=.of (by kernel_rfl)
instance:FldT Tryz.prog 57 1 1:=.of (by kernel_rfl)
instance:FldT Tryz.prog 57 2 4:=.of (by kernel_rfl)
instance:TI Tryz.prog 59 12 true 208:=.of (by kernel_rfl)
instance:ZT Tryz.prog 59 [.sc (.int .i64 0),.sc (.int .i64 0),.sc (.slice none 0 0),.sc (.int .i64 0),.sc (.bool false),.sc (.slice none 0 0),.sc (.slice none 0 0),.sc (.slice none 0 0),.sc (.slice none 0 0),.sc (.bool false),.sc (.slice none 0 0),.sc (.slice none 0 0)]:=.of (vals:=[.int .i64 0,.int .i64 0,.slice none 0 0,.int .i64 0,.bool false,.slice none 0 0,.slice none 0 0,.slice none 0 0,.slice none 0 0,.bool false,.slice none 0 0,.slice none 0 0]) (by kernel_rfl) (by kernel_rfl) rfl
instance:PlT Tryz.prog 59 [(0,1),(1,1),(2,1),(3,5),(8,1),(9,3)]:=.of (by kernel_rfl)
instance:FldT Tryz.prog 59 0 0:=.of (by kernel_rfl)
instance:FldT Tryz.prog 59 1 1:=.of (by kernel_rfl)
instance:FldT Tryz.prog 59 2 2:=.of (by kernel_rfl)
instance:FldT Tryz.prog 59 3 3:=.of (by kernel_rfl)
instance:FldT Tryz.prog 59 4 8:=.of (by kernel_rfl)
instance:FldT Tryz.prog 59 5 9:=.of (by kernel_rfl)
instance:TI Tryz.prog 71 11 true 184:=.of (by kernel_rfl)
instance:ZT Tryz.prog 71 [.sc (.int .i64 0),.sc (.int .i64 0),.sc (.bool false),.sc (.slice none 0 0),.sc (.slice none 0 0),.sc (.bool false),.sc (.slice none 0 0),.sc (.slice none 0 0),.sc (.bool false),.sc (.slice none 0 0),.sc (.slice none 0 0)]:=.of (vals:=[.int .i64 0,.int .i64 0,.bool false,.slice none 0 0,.slice none 0 0,.bool false,.slice none 0 0,.slice none 0 0,.bool false,.slice none 0 0,.slice none 0 0]) (by kernel_rfl) (by kernel_rfl) rfl
instance:PlT Tryz.prog 71 [(0,1),(1,1),(2,3),(5,3),(8,3)]:=.of (by kernel_rfl)
instance:FldT Tryz.prog 71 0 0:=.of (by kernel_rfl)
instance:FldT Tryz.prog 71 1 1:=.of (by kernel_rfl)
instance:FldT Tryz.prog 71 2 2:=.of (by kernel_rfl)
instance:FldT Tryz.prog 71 3 5:=.of (by kernel_rfl)
instance:FldT Tryz.prog 71 4 8:=.of (by kernel_rfl)
instance:TI Tryz.prog 99 10 true 10:=.of (by kernel_rfl)
instance:ArT Tryz.prog 99 10 4:=⟨by kernel_rfl⟩
instance:TI Tryz.prog 101 100 true 100:=.of (by kernel_rfl)
instance:ZT Tryz.prog 101 (jK 100 fun _=>false):=.of (vals:=[.bool false,.bool false,.bool false,.bool false,.bool false,.bool false,.bool false,.bool false,.bool false,.bool false,.bool false,.bool false,.bool false,.bool false,.bool false,.bool false,.bool false,.bool false,.bool false,.bool false,.bool false,.bool false,.bool false,.bool false,.bool false,.bool false,.bool false,.bool false,.bool false,.bool false,.bool false,.bool false,.bool false,.bool false,.bool false,.bool false,.bool false,.bool false,.bool false,.bool false,.bool false,.bool false,.bool false,.bool false,.bool false,.bool false,.bool false,.bool false,.bool false,.bool false,.bool false,.bool false,.bool false,.bool false,.bool false,.bool false,.bool false,.bool false,.bool false,.bool false,.bool false,.bool false,.bool false,.bool false,.bool false,.bool false,.bool false,.bool false,.bool false,.bool false,.bool false,.bool false,.bool false,.bool false,.bool false,.bool false,.bool false,.bool false,.bool false,.bool false,.bool false,.bool false,.bool false,.bool false,.bool false,.bool false,.bool false,.bool false,.bool false,.bool false,.bool false,.bool false,.bool false,.bool false,.bool false,.bool false,.bool false,.bool false,.bool false,.bool false]) (by kernel_rfl) (by kernel_rfl) rfl
instance:ArT Tryz.prog 101 10 99:=⟨by kernel_rfl⟩
instance:ZT Tryz.prog 124 [.sc (.slice none 0 0),.sc (.int .i64 0),.sc (.int .i64 0)]:=.of (vals:=[.slice none 0 0,.int .i64 0,.int .i64 0]) (by kernel_rfl) (by kernel_rfl) rfl
instance:PlT Tryz.prog 124 [(0,1),(1,1),(2,1)]:=.of (by kernel_rfl)
instance:FldT Tryz.prog 124 0 0:=.of (by kernel_rfl)
instance:FldT Tryz.prog 124 1 1:=.of (by kernel_rfl)
instance:FldT Tryz.prog 124 2 2:=.of (by kernel_rfl)
instance:TI Tryz.prog 137 10 true 176:=.of (by kernel_rfl)
instance:ZT Tryz.prog 137 [.sc (.int .i64 0),.sc (.bool false),.sc (.slice none 0 0),.sc (.slice none 0 0),.sc (.bool false),.sc (.slice none 0 0),.sc (.slice none 0 0),.sc (.bool false),.sc (.slice none 0 0),.sc (.slice none 0 0)]:=.of (vals:=[.int .i64 0,.bool false,.slice none 0 0,.slice none 0 0,.bool false,.slice none 0 0,.slice none 0 0,.bool false,.slice none 0 0,.slice none 0 0]) (by kernel_rfl) (by kernel_rfl) rfl
instance:PlT Tryz.prog 137 [(0,1),(1,3),(4,3),(7,3)]:=.of (by kernel_rfl)
instance:FldT Tryz.prog 137 0 0:=.of (by kernel_rfl)
instance:FldT Tryz.prog 137 1 1:=.of (by kernel_rfl)
instance:FldT Tryz.prog 137 2 4:=.of (by kernel_rfl)
instance:FldT Tryz.prog 137 3 7:=.of (by kernel_rfl)
instance:UT Tryz.prog 173 (.int .u64):=⟨by kernel_rfl⟩
instance:Dec Tryz.prog 5 (aB .u8) (okI .u8):=.int (by kernel_rfl)
instance:Dec Tryz.prog 22 (aKm (aB .u8)) (okL (okI .u8)):=.slice (e:=5) (by kernel_rfl) 1 (by kernel_rfl) (by decide) (fun _=>rfl)
instance:FnC Tryz.prog 10:=⟨_,Tryz.func10,by kernel_rfl,by kernel_rfl⟩
instance:FnC Tryz.prog 14:=⟨_,Tryz.func14,by kernel_rfl,by kernel_rfl⟩
instance:FnC Tryz.prog 22:=⟨_,Tryz.func22,by kernel_rfl,by kernel_rfl⟩
instance:FnC Tryz.prog 23:=⟨_,Tryz.func23,by kernel_rfl,by kernel_rfl⟩
instance:FnC Tryz.prog 24:=⟨_,Tryz.func24,by kernel_rfl,by kernel_rfl⟩
instance:FnC Tryz.prog 25:=⟨_,Tryz.func25,by kernel_rfl,by kernel_rfl⟩
instance:FnC Tryz.prog 26:=⟨_,Tryz.func26,by kernel_rfl,by kernel_rfl⟩
instance:FnC Tryz.prog 27:=⟨_,Tryz.func27,by kernel_rfl,by kernel_rfl⟩
instance:FnC Tryz.prog 28:=⟨_,Tryz.func28,by kernel_rfl,by kernel_rfl⟩
instance:FnC Tryz.prog 39:=⟨_,Tryz.func39,by kernel_rfl,by kernel_rfl⟩
instance:FnC Tryz.prog 43:=⟨_,Tryz.func43,by kernel_rfl,by kernel_rfl⟩
instance:FnC Tryz.prog 44:=⟨_,Tryz.func44,by kernel_rfl,by kernel_rfl⟩
instance:FnC Tryz.prog 45:=⟨_,Tryz.func45,by kernel_rfl,by kernel_rfl⟩
instance:FnC Tryz.prog 46:=⟨_,Tryz.func46,by kernel_rfl,by kernel_rfl⟩
instance:FnC Tryz.prog 48:=⟨_,Tryz.func48,by kernel_rfl,by kernel_rfl⟩
instance:FnC Tryz.prog 49:=⟨_,Tryz.func49,by kernel_rfl,by kernel_rfl⟩
instance:FnC Tryz.prog 51:=⟨_,Tryz.func51,by kernel_rfl,by kernel_rfl⟩
instance:FnC Tryz.prog 54:=⟨_,Tryz.func54,by kernel_rfl,by kernel_rfl⟩
instance:FnC Tryz.prog 55:=⟨_,Tryz.func55,by kernel_rfl,by kernel_rfl⟩
instance:FnC Tryz.prog 56:=⟨_,Tryz.func56,by kernel_rfl,by kernel_rfl⟩
instance:FnC Tryz.prog 57:=⟨_,Tryz.func57,by kernel_rfl,by kernel_rfl⟩
instance:FnC Tryz.prog 58:=⟨_,Tryz.func58,by kernel_rfl,by kernel_rfl⟩
instance:FnC Tryz.prog 59:=⟨_,Tryz.func59,by kernel_rfl,by kernel_rfl⟩
instance:FnC Tryz.prog 60:=⟨_,Tryz.func60,by kernel_rfl,by kernel_rfl⟩
instance:FnC Tryz.prog 62:=⟨_,Tryz.func62,by kernel_rfl,by kernel_rfl⟩
instance:FnC Tryz.prog 63:=⟨_,Tryz.func63,by kernel_rfl,by kernel_rfl⟩
instance:FnC Tryz.prog 64:=⟨_,Tryz.func64,by kernel_rfl,by kernel_rfl⟩
instance:FnC Tryz.prog 65:=⟨_,Tryz.func65,by kernel_rfl,by kernel_rfl⟩
instance:FnC Tryz.prog 66:=⟨_,Tryz.func66,by kernel_rfl,by kernel_rfl⟩
instance:FnC Tryz.prog 67:=⟨_,Tryz.func67,by kernel_rfl,by kernel_rfl⟩
instance:FnC Tryz.prog 68:=⟨_,Tryz.func68,by kernel_rfl,by kernel_rfl⟩
instance:FnC Tryz.prog 69:=⟨_,Tryz.func69,by kernel_rfl,by kernel_rfl⟩
instance:FnC Tryz.prog 70:=⟨_,Tryz.func70,by kernel_rfl,by kernel_rfl⟩
instance:FnC Tryz.prog 71:=⟨_,Tryz.func71,by kernel_rfl,by kernel_rfl⟩
instance:FnC Tryz.prog 77:=⟨_,Tryz.func77,by kernel_rfl,by kernel_rfl⟩
instance:FnC Tryz.prog 79:=⟨_,Tryz.func79,by kernel_rfl,by kernel_rfl⟩
instance:FnC Tryz.prog 80:=⟨_,Tryz.func80,by kernel_rfl,by kernel_rfl⟩
instance:FnC Tryz.prog 88:=⟨_,Tryz.func88,by kernel_rfl,by kernel_rfl⟩
instance:FnC Tryz.prog 89:=⟨_,Tryz.func89,by kernel_rfl,by kernel_rfl⟩
instance:FnC Tryz.prog 92:=⟨_,Tryz.func92,by kernel_rfl,by kernel_rfl⟩
instance:FnC Tryz.prog 97:=⟨_,Tryz.func97,by kernel_rfl,by kernel_rfl⟩
instance:FnC Tryz.prog 98:=⟨_,Tryz.func98,by kernel_rfl,by kernel_rfl⟩
instance:FnC Tryz.prog 99:=⟨_,Tryz.func99,by kernel_rfl,by kernel_rfl⟩
instance:FnC Tryz.prog 100:=⟨_,Tryz.func100,by kernel_rfl,by kernel_rfl⟩
instance:FnC Tryz.prog 101:=⟨_,Tryz.func101,by kernel_rfl,by kernel_rfl⟩
instance:FnC Tryz.prog 102:=⟨_,Tryz.func102,by kernel_rfl,by kernel_rfl⟩
instance:FnC Tryz.prog 103:=⟨_,Tryz.func103,by kernel_rfl,by kernel_rfl⟩
instance:FnC Tryz.prog 104:=⟨_,Tryz.func104,by kernel_rfl,by kernel_rfl⟩
instance:FnC Tryz.prog 105:=⟨_,Tryz.func105,by kernel_rfl,by kernel_rfl⟩
instance:FnC Tryz.prog 106:=⟨_,Tryz.func106,by kernel_rfl,by kernel_rfl⟩
instance:FnC Tryz.prog 107:=⟨_,Tryz.func107,by kernel_rfl,by kernel_rfl⟩
instance:FnC Tryz.prog 108:=⟨_,Tryz.func108,by kernel_rfl,by kernel_rfl⟩
instance:FnC Tryz.prog 110:=⟨_,Tryz.func110,by kernel_rfl,by kernel_rfl⟩
instance:FnC Tryz.prog 111:=⟨_,Tryz.func111,by kernel_rfl,by kernel_rfl⟩
instance:FnC Tryz.prog 112:=⟨_,Tryz.func112,by kernel_rfl,by kernel_rfl⟩
instance:FnC Tryz.prog 113:=⟨_,Tryz.func113,by kernel_rfl,by kernel_rfl⟩
instance:FnC Tryz.prog 114:=⟨_,Tryz.func114,by kernel_rfl,by kernel_rfl⟩
instance:FnC Tryz.prog 115:=⟨_,Tryz.func115,by kernel_rfl,by kernel_rfl⟩
instance:FnC Tryz.prog 116:=⟨_,Tryz.func116,by kernel_rfl,by kernel_rfl⟩
instance:FnC Tryz.prog 117:=⟨_,Tryz.func117,by kernel_rfl,by kernel_rfl⟩
instance:FnC Tryz.prog 118:=⟨_,Tryz.func118,by kernel_rfl,by kernel_rfl⟩
instance:FnC Tryz.prog 119:=⟨_,Tryz.func119,by kernel_rfl,by kernel_rfl⟩
instance:FnC Tryz.prog 122:=⟨_,Tryz.func122,by kernel_rfl,by kernel_rfl⟩
instance:FnC Tryz.prog 124:=⟨_,Tryz.func124,by kernel_rfl,by kernel_rfl⟩
instance:FnC Tryz.prog 130:=⟨_,Tryz.func130,by kernel_rfl,by kernel_rfl⟩
instance:FnC Tryz.prog 132:=⟨_,Tryz.func132,by kernel_rfl,by kernel_rfl⟩
instance:FnC Tryz.prog 133:=⟨_,Tryz.func133,by kernel_rfl,by kernel_rfl⟩
instance:FnC Tryz.prog 134:=⟨_,Tryz.func134,by kernel_rfl,by kernel_rfl⟩
instance:FnC Tryz.prog 135:=⟨_,Tryz.func135,by kernel_rfl,by kernel_rfl⟩
instance:FnC Tryz.prog 136:=⟨_,Tryz.func136,by kernel_rfl,by kernel_rfl⟩
instance:FnC Tryz.prog 137:=⟨_,Tryz.func137,by kernel_rfl,by kernel_rfl⟩
instance:FnC Tryz.prog 138:=⟨_,Tryz.func138,by kernel_rfl,by kernel_rfl⟩
instance:FnC Tryz.prog 139:=⟨_,Tryz.func139,by kernel_rfl,by kernel_rfl⟩
instance:FnC Tryz.prog 140:=⟨_,Tryz.func140,by kernel_rfl,by kernel_rfl⟩
instance:FnC Tryz.prog 141:=⟨_,Tryz.func141,by kernel_rfl,by kernel_rfl⟩
instance:FnC Tryz.prog 142:=⟨_,Tryz.func142,by kernel_rfl,by kernel_rfl⟩
instance:FnC Tryz.prog 143:=⟨_,Tryz.func143,by kernel_rfl,by kernel_rfl⟩
instance:FnC Tryz.prog 144:=⟨_,Tryz.func144,by kernel_rfl,by kernel_rfl⟩
instance:FnC Tryz.prog 145:=⟨_,Tryz.func145,by kernel_rfl,by kernel_rfl⟩
instance:FnC Tryz.prog 146:=⟨_,Tryz.func146,by kernel_rfl,by kernel_rfl⟩
instance:FnC Tryz.prog 147:=⟨_,Tryz.func147,by kernel_rfl,by kernel_rfl⟩
instance:FnC Tryz.prog 148:=⟨_,Tryz.func148,by kernel_rfl,by kernel_rfl⟩
instance:FnC Tryz.prog 149:=⟨_,Tryz.func149,by kernel_rfl,by kernel_rfl⟩
instance:FnC Tryz.prog 150:=⟨_,Tryz.func150,by kernel_rfl,by kernel_rfl⟩
instance:FnC Tryz.prog 151:=⟨_,Tryz.func151,by kernel_rfl,by kernel_rfl⟩
instance:FnC Tryz.prog 152:=⟨_,Tryz.func152,by kernel_rfl,by kernel_rfl⟩
instance:FnC Tryz.prog 153:=⟨_,Tryz.func153,by kernel_rfl,by kernel_rfl⟩
instance:FnC Tryz.prog 154:=⟨_,Tryz.func154,by kernel_rfl,by kernel_rfl⟩
instance:FnC Tryz.prog 155:=⟨_,Tryz.func155,by kernel_rfl,by kernel_rfl⟩
instance:FnC Tryz.prog 156:=⟨_,Tryz.func156,by kernel_rfl,by kernel_rfl⟩
instance:FnC Tryz.prog 163:=⟨_,Tryz.func163,by kernel_rfl,by kernel_rfl⟩
instance:FnC Tryz.prog 164:=⟨_,Tryz.func164,by kernel_rfl,by kernel_rfl⟩
instance:FnC Tryz.prog 165:=⟨_,Tryz.func165,by kernel_rfl,by kernel_rfl⟩
instance:FnC Tryz.prog 166:=⟨_,Tryz.func166,by kernel_rfl,by kernel_rfl⟩
instance:FnC Tryz.prog 167:=⟨_,Tryz.func167,by kernel_rfl,by kernel_rfl⟩
instance:FnC Tryz.prog 168:=⟨_,Tryz.func168,by kernel_rfl,by kernel_rfl⟩
instance:FnC Tryz.prog 169:=⟨_,Tryz.func169,by kernel_rfl,by kernel_rfl⟩
instance:FnC Tryz.prog 170:=⟨_,Tryz.func170,by kernel_rfl,by kernel_rfl⟩
instance:FnC Tryz.prog 171:=⟨_,Tryz.func171,by kernel_rfl,by kernel_rfl⟩
instance:FnC Tryz.prog 172:=⟨_,Tryz.func172,by kernel_rfl,by kernel_rfl⟩
instance:FnC Tryz.prog 173:=⟨_,Tryz.func173,by kernel_rfl,by kernel_rfl⟩
instance:FnC Tryz.prog 174:=⟨_,Tryz.func174,by kernel_rfl,by kernel_rfl⟩
instance:FnC Tryz.prog 175:=⟨_,Tryz.func175,by kernel_rfl,by kernel_rfl⟩
instance:FnC Tryz.prog 176:=⟨_,Tryz.func176,by kernel_rfl,by kernel_rfl⟩
instance:FnC Tryz.prog 177:=⟨_,Tryz.func177,by kernel_rfl,by kernel_rfl⟩
instance:FnC Tryz.prog 178:=⟨_,Tryz.func178,by kernel_rfl,by kernel_rfl⟩
instance:FnC Tryz.prog 182:=⟨_,Tryz.func182,by kernel_rfl,by kernel_rfl⟩
instance:FnC Tryz.prog 183:=⟨_,Tryz.func183,by kernel_rfl,by kernel_rfl⟩
instance:FnC Tryz.prog 184:=⟨_,Tryz.func184,by kernel_rfl,by kernel_rfl⟩
instance:FnC Tryz.prog 185:=⟨_,Tryz.func185,by kernel_rfl,by kernel_rfl⟩
instance:FnC Tryz.prog 186:=⟨_,Tryz.func186,by kernel_rfl,by kernel_rfl⟩
instance:FnC Tryz.prog 187:=⟨_,Tryz.func187,by kernel_rfl,by kernel_rfl⟩
instance:FnC Tryz.prog 188:=⟨_,Tryz.func188,by kernel_rfl,by kernel_rfl⟩
instance:FnC Tryz.prog 189:=⟨_,Tryz.func189,by kernel_rfl,by kernel_rfl⟩
instance:FnC Tryz.prog 190:=⟨_,Tryz.func190,by kernel_rfl,by kernel_rfl⟩
end
end Go.Ev
