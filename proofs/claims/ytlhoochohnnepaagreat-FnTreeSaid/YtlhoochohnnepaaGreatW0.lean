/- Parts W0. -/
import Derived.Test.YtlhoochohnnepaaGreatProg
import Derived.KernelRfl
import Derived.Test.YtlhoochohnnepaaGreatE6
set_option linter.all false
/- The typed data of this seat and the engine's instances, printed by program (inst.py). -/
namespace Go.Ev
noncomputable section
open Go.Proofs
theorem PPm:Tryz.prog.follows .mixedOrders=true:=by kernel_rfl
theorem w64 {n:Int}(h:-9223372036854775808<=n/\n<=9223372036854775807):IntKind.i64.wrap n=n:=by
 rw[IntKind.wrap_i64];omega
structure BigInt where
 fNeg:Bool
 fMag:(List Int)
 deriving DecidableEq,Inhabited
def jL (y:BigInt):List PV:=[.sc (.bool y.fNeg),.sl y.fMag.length (y.fMag.flatMap (aC .i64))]
def bX (y:BigInt):List PV:=[.sc (.bool y.fNeg),.rw 1 y.fMag.length (y.fMag.flatMap (aC .i64))]
theorem mH (y:BigInt):SoftL (bX y) (jL y):=(aWJ (aWK _) (aWJ (aWS (aWM _)) aWV))
structure Rat where
 fNum:BigInt
 fDen:(List Int)
 deriving DecidableEq,Inhabited
def aF (y:Rat):List PV:=[.sc (.bool y.fNum.fNeg),.sl y.fNum.fMag.length (y.fNum.fMag.flatMap (aC .i64)),.sl y.fDen.length (y.fDen.flatMap (aC .i64))]
def aH (y:Rat):List PV:=[.sc (.bool y.fNum.fNeg),.rw 1 y.fNum.fMag.length (y.fNum.fMag.flatMap (aC .i64)),.rw 1 y.fDen.length (y.fDen.flatMap (aC .i64))]
theorem aP (y:Rat):SoftL (aH y) (aF y):=(aWJ (aWK _) (aWJ (aWS (aWM _)) (aWJ (aWS (aWM _)) aWV)))
structure Link where
 fA:Int
 fB:Int
 fWeight:Rat
 fDX:Rat
 fDY:Rat
 deriving DecidableEq,Inhabited
def aD (y:Link):List PV:=[.sc (.int .i64 y.fA),.sc (.int .i64 y.fB),.sc (.bool y.fWeight.fNum.fNeg),.sl y.fWeight.fNum.fMag.length (y.fWeight.fNum.fMag.flatMap (aC .i64)),.sl y.fWeight.fDen.length (y.fWeight.fDen.flatMap (aC .i64)),.sc (.bool y.fDX.fNum.fNeg),.sl y.fDX.fNum.fMag.length (y.fDX.fNum.fMag.flatMap (aC .i64)),.sl y.fDX.fDen.length (y.fDX.fDen.flatMap (aC .i64)),.sc (.bool y.fDY.fNum.fNeg),.sl y.fDY.fNum.fMag.length (y.fDY.fNum.fMag.flatMap (aC .i64)),.sl y.fDY.fDen.length (y.fDY.fDen.flatMap (aC .i64))]
def cC (y:Link):List PV:=[.sc (.int .i64 y.fA),.sc (.int .i64 y.fB),.sc (.bool y.fWeight.fNum.fNeg),.rw 1 y.fWeight.fNum.fMag.length (y.fWeight.fNum.fMag.flatMap (aC .i64)),.rw 1 y.fWeight.fDen.length (y.fWeight.fDen.flatMap (aC .i64)),.sc (.bool y.fDX.fNum.fNeg),.rw 1 y.fDX.fNum.fMag.length (y.fDX.fNum.fMag.flatMap (aC .i64)),.rw 1 y.fDX.fDen.length (y.fDX.fDen.flatMap (aC .i64)),.sc (.bool y.fDY.fNum.fNeg),.rw 1 y.fDY.fNum.fMag.length (y.fDY.fNum.fMag.flatMap (aC .i64)),.rw 1 y.fDY.fDen.length (y.fDY.fDen.flatMap (aC .i64))]
theorem yG (y:Link):SoftL (cC y) (aD y):=(aWJ (aWK _) (aWJ (aWK _) (aWJ (aWK _) (aWJ (aWS (aWM _)) (aWJ (aWS (aWM _)) (aWJ (aWK _) (aWJ (aWS (aWM _)) (aWJ (aWS (aWM _)) (aWJ (aWK _) (aWJ (aWS (aWM _)) (aWJ (aWS (aWM _)) aWV)))))))))))
structure Parent where
 fNode:Int
 fShare:Rat
 fDX:Rat
 fDY:Rat
 deriving DecidableEq,Inhabited
def bD (y:Parent):List PV:=[.sc (.int .i64 y.fNode),.sc (.bool y.fShare.fNum.fNeg),.sl y.fShare.fNum.fMag.length (y.fShare.fNum.fMag.flatMap (aC .i64)),.sl y.fShare.fDen.length (y.fShare.fDen.flatMap (aC .i64)),.sc (.bool y.fDX.fNum.fNeg),.sl y.fDX.fNum.fMag.length (y.fDX.fNum.fMag.flatMap (aC .i64)),.sl y.fDX.fDen.length (y.fDX.fDen.flatMap (aC .i64)),.sc (.bool y.fDY.fNum.fNeg),.sl y.fDY.fNum.fMag.length (y.fDY.fNum.fMag.flatMap (aC .i64)),.sl y.fDY.fDen.length (y.fDY.fDen.flatMap (aC .i64))]
def rM (y:Parent):List PV:=[.sc (.int .i64 y.fNode),.sc (.bool y.fShare.fNum.fNeg),.rw 1 y.fShare.fNum.fMag.length (y.fShare.fNum.fMag.flatMap (aC .i64)),.rw 1 y.fShare.fDen.length (y.fShare.fDen.flatMap (aC .i64)),.sc (.bool y.fDX.fNum.fNeg),.rw 1 y.fDX.fNum.fMag.length (y.fDX.fNum.fMag.flatMap (aC .i64)),.rw 1 y.fDX.fDen.length (y.fDX.fDen.flatMap (aC .i64)),.sc (.bool y.fDY.fNum.fNeg),.rw 1 y.fDY.fNum.fMag.length (y.fDY.fNum.fMag.flatMap (aC .i64)),.rw 1 y.fDY.fDen.length (y.fDY.fDen.flatMap (aC .i64))]
theorem aF5 (y:Parent):SoftL (rM y) (bD y):=(aWJ (aWK _) (aWJ (aWK _) (aWJ (aWS (aWM _)) (aWJ (aWS (aWM _)) (aWJ (aWK _) (aWJ (aWS (aWM _)) (aWJ (aWS (aWM _)) (aWJ (aWK _) (aWJ (aWS (aWM _)) (aWJ (aWS (aWM _)) aWV))))))))))
structure Conditional where
 fNode:Int
 fTotal:Rat
 fParents:(List Parent)
 deriving DecidableEq,Inhabited
def aO (y:Conditional):List PV:=[.sc (.int .i64 y.fNode),.sc (.bool y.fTotal.fNum.fNeg),.sl y.fTotal.fNum.fMag.length (y.fTotal.fNum.fMag.flatMap (aC .i64)),.sl y.fTotal.fDen.length (y.fTotal.fDen.flatMap (aC .i64)),.sl y.fParents.length (y.fParents.flatMap bD)]
def lN (y:Conditional):List PV:=[.sc (.int .i64 y.fNode),.sc (.bool y.fTotal.fNum.fNeg),.rw 1 y.fTotal.fNum.fMag.length (y.fTotal.fNum.fMag.flatMap (aC .i64)),.rw 1 y.fTotal.fDen.length (y.fTotal.fDen.flatMap (aC .i64)),.rw 10 y.fParents.length (y.fParents.flatMap rM)]
theorem aFh (y:Conditional):SoftL (lN y) (aO y):=(aWJ (aWK _) (aWJ (aWK _) (aWJ (aWS (aWM _)) (aWJ (aWS (aWM _)) (aWJ (aWS (aXa aF5 _)) aWV)))))
structure TreeNode where
 fNode:Int
 fUp:Int
 fOwn:(List Link)
 fCond:Conditional
 fMessages:(List Link)
 fEnergy:Rat
 deriving DecidableEq,Inhabited
def aY (y:TreeNode):List PV:=[.sc (.int .i64 y.fNode),.sc (.int .i64 y.fUp),.sl y.fOwn.length (y.fOwn.flatMap aD),.sc (.int .i64 y.fCond.fNode),.sc (.bool y.fCond.fTotal.fNum.fNeg),.sl y.fCond.fTotal.fNum.fMag.length (y.fCond.fTotal.fNum.fMag.flatMap (aC .i64)),.sl y.fCond.fTotal.fDen.length (y.fCond.fTotal.fDen.flatMap (aC .i64)),.sl y.fCond.fParents.length (y.fCond.fParents.flatMap bD),.sl y.fMessages.length (y.fMessages.flatMap aD),.sc (.bool y.fEnergy.fNum.fNeg),.sl y.fEnergy.fNum.fMag.length (y.fEnergy.fNum.fMag.flatMap (aC .i64)),.sl y.fEnergy.fDen.length (y.fEnergy.fDen.flatMap (aC .i64))]
def oL (y:TreeNode):List PV:=[.sc (.int .i64 y.fNode),.sc (.int .i64 y.fUp),.rw 11 y.fOwn.length (y.fOwn.flatMap cC),.sc (.int .i64 y.fCond.fNode),.sc (.bool y.fCond.fTotal.fNum.fNeg),.rw 1 y.fCond.fTotal.fNum.fMag.length (y.fCond.fTotal.fNum.fMag.flatMap (aC .i64)),.rw 1 y.fCond.fTotal.fDen.length (y.fCond.fTotal.fDen.flatMap (aC .i64)),.rw 10 y.fCond.fParents.length (y.fCond.fParents.flatMap rM),.rw 11 y.fMessages.length (y.fMessages.flatMap cC),.sc (.bool y.fEnergy.fNum.fNeg),.rw 1 y.fEnergy.fNum.fMag.length (y.fEnergy.fNum.fMag.flatMap (aC .i64)),.rw 1 y.fEnergy.fDen.length (y.fEnergy.fDen.flatMap (aC .i64))]
theorem aIL (y:TreeNode):SoftL (oL y) (aY y):=(aWJ (aWK _) (aWJ (aWK _) (aWJ (aWS (aXa yG _)) (aWJ (aWK _) (aWJ (aWK _) (aWJ (aWS (aWM _)) (aWJ (aWS (aWM _)) (aWJ (aWS (aXa aF5 _)) (aWJ (aWS (aXa yG _)) (aWJ (aWK _) (aWJ (aWS (aWM _)) (aWJ (aWS (aWM _)) aWV))))))))))))
structure Tree where
 fNodes:(List TreeNode)
 deriving DecidableEq,Inhabited
def uW (y:Tree):List PV:=[.sl y.fNodes.length (y.fNodes.flatMap aY)]
def uV (y:Tree):List PV:=[.rw 12 y.fNodes.length (y.fNodes.flatMap oL)]
theorem aDA (y:Tree):SoftL (uV y) (uW y):=(aWJ (aWS (aXa aIL _)) aWV)
structure Point where
 fX:Rat
 fY:Rat
 deriving DecidableEq,Inhabited
def eI (y:Point):List PV:=[.sc (.bool y.fX.fNum.fNeg),.sl y.fX.fNum.fMag.length (y.fX.fNum.fMag.flatMap (aC .i64)),.sl y.fX.fDen.length (y.fX.fDen.flatMap (aC .i64)),.sc (.bool y.fY.fNum.fNeg),.sl y.fY.fNum.fMag.length (y.fY.fNum.fMag.flatMap (aC .i64)),.sl y.fY.fDen.length (y.fY.fDen.flatMap (aC .i64))]
def eC (y:Point):List PV:=[.sc (.bool y.fX.fNum.fNeg),.rw 1 y.fX.fNum.fMag.length (y.fX.fNum.fMag.flatMap (aC .i64)),.rw 1 y.fX.fDen.length (y.fX.fDen.flatMap (aC .i64)),.sc (.bool y.fY.fNum.fNeg),.rw 1 y.fY.fNum.fMag.length (y.fY.fNum.fMag.flatMap (aC .i64)),.rw 1 y.fY.fDen.length (y.fY.fDen.flatMap (aC .i64))]
theorem aEs (y:Point):SoftL (eC y) (eI y):=(aWJ (aWK _) (aWJ (aWS (aWM _)) (aWJ (aWS (aWM _)) (aWJ (aWK _) (aWJ (aWS (aWM _)) (aWJ (aWS (aWM _)) aWV))))))
structure l01Cur where
 fb:(List Int)
 fi:Int
 fh:Int
 deriving DecidableEq,Inhabited
structure l08Arm where
 fnode:Int
 fweight:Rat
 fdx:Rat
 fdy:Rat
 deriving DecidableEq,Inhabited
instance:TI Tryz.prog 3 1 false 8:=.of (by kernel_rfl)
instance:ZT Tryz.prog 3 [.sc (.int .i64 0)]:=.of (vals:=[.int .i64 0]) (by kernel_rfl) (by kernel_rfl) rfl
instance:UT Tryz.prog 3 (.int .i64):=⟨by kernel_rfl⟩
instance:TI Tryz.prog 4 1 false 1:=.of (by kernel_rfl)
instance:UT Tryz.prog 4 .bool:=⟨by kernel_rfl⟩
instance:TI Tryz.prog 5 1 false 1:=.of (by kernel_rfl)
instance:UT Tryz.prog 5 (.int .u8):=⟨by kernel_rfl⟩
instance:TI Tryz.prog 22 1 false 24:=.of (by kernel_rfl)
instance:SlT Tryz.prog 22 5:=⟨by kernel_rfl⟩
instance:TI Tryz.prog 23 1 false 24:=.of (by kernel_rfl)
instance:SlT Tryz.prog 23 59:=⟨by kernel_rfl⟩
instance:TI Tryz.prog 25 1 true 24:=.of (by kernel_rfl)
instance:ZT Tryz.prog 25 [.sc (.slice none 0 0)]:=.of (vals:=[.slice none 0 0]) (by kernel_rfl) (by kernel_rfl) rfl
instance:PlT Tryz.prog 25 [(0,1)]:=.of (by kernel_rfl)
instance:FldT Tryz.prog 25 0 0:=.of (by kernel_rfl)
instance:TI Tryz.prog 27 1 false 24:=.of (by kernel_rfl)
instance:SlT Tryz.prog 27 71:=⟨by kernel_rfl⟩
instance:TI Tryz.prog 28 1 false 24:=.of (by kernel_rfl)
instance:SlT Tryz.prog 28 3:=⟨by kernel_rfl⟩
instance:TI Tryz.prog 30 2 true 32:=.of (by kernel_rfl)
instance:ZT Tryz.prog 30 [.sc (.bool false),.sc (.slice none 0 0)]:=.of (vals:=[.bool false,.slice none 0 0]) (by kernel_rfl) (by kernel_rfl) rfl
instance:PlT Tryz.prog 30 [(0,1),(1,1)]:=.of (by kernel_rfl)
instance:FldT Tryz.prog 30 0 0:=.of (by kernel_rfl)
instance:FldT Tryz.prog 30 1 1:=.of (by kernel_rfl)
instance:TI Tryz.prog 32 3 true 56:=.of (by kernel_rfl)
instance:ZT Tryz.prog 32 [.sc (.bool false),.sc (.slice none 0 0),.sc (.slice none 0 0)]:=.of (vals:=[.bool false,.slice none 0 0,.slice none 0 0]) (by kernel_rfl) (by kernel_rfl) rfl
instance:PlT Tryz.prog 32 [(0,2),(2,1)]:=.of (by kernel_rfl)
instance:FldT Tryz.prog 32 0 0:=.of (by kernel_rfl)
instance:FldT Tryz.prog 32 1 2:=.of (by kernel_rfl)
instance:SlT Tryz.prog 36 40:=⟨by kernel_rfl⟩
instance:TI Tryz.prog 40 1 false 24:=.of (by kernel_rfl)
instance:ZT Tryz.prog 40 [.sc (.slice none 0 0)]:=.of (vals:=[.slice none 0 0]) (by kernel_rfl) (by kernel_rfl) rfl
instance:SlT Tryz.prog 40 32:=⟨by kernel_rfl⟩
instance:TI Tryz.prog 55 1 false 24:=.of (by kernel_rfl)
instance:SlT Tryz.prog 55 137:=⟨by kernel_rfl⟩
instance:TI Tryz.prog 57 5 true 88:=.of (by kernel_rfl)
instance:ZT Tryz.prog 57 [.sc (.int .i64 0),.sc (.bool false),.sc (.slice none 0 0),.sc (.slice none 0 0),.sc (.slice none 0 0)]:=.of (vals:=[.int .i64 0,.bool false,.slice none 0 0,.slice none 0 0,.slice none 0 0]) (by kernel_rfl) (by kernel_rfl) rfl
instance:PlT Tryz.prog 57 [(0,1),(1,3),(4,1)]:=.of (by kernel_rfl)
instance:FldT Tryz.prog 57 0 0:=.of (by kernel_rfl)
instance:FldT Tryz.prog 57 1 1:=.of (by kernel_rfl)
instance:FldT Tryz.prog 57 2 4:=.of (by kernel_rfl)
instance:TI Tryz.prog 59 12 true 208:=.of (by kernel_rfl)
instance:ZT Tryz.prog 59 [.sc (.int .i64 0),.sc (.int .i64 0),.sc (.slice none 0 0),.sc (.int .i64 0),.sc (.bool false),.sc (.slice none 0 0),.sc (.slice none 0 0),.sc (.slice none 0 0),.sc (.slice none 0 0),.sc (.bool false),.sc (.slice none 0 0),.sc (.slice none 0 0)]:=.of (vals:=[.int .i64 0,.int .i64 0,.slice none 0 0,.int .i64 0,.bool false,.slice none 0 0,.slice none 0 0,.slice none 0 0,.slice none 0 0,.bool false,.slice none 0 0,.slice none 0 0]) (by kernel_rfl) (by kernel_rfl) rfl
instance:PlT Tryz.prog 59 [(0,1),(1,1),(2,1),(3,5),(8,1),(9,3)]:=.of (by kernel_rfl)
instance:FldT Tryz.prog 59 0 0:=.of (by kernel_rfl)
instance:FldT Tryz.prog 59 1 1:=.of (by kernel_rfl)
instance:FldT Tryz.prog 59 2 2:=.of (by kernel_rfl)
instance:FldT Tryz.prog 59 3 3:=.of (by kernel_rfl)
instance:FldT Tryz.prog 59 4 8:=.of (by kernel_rfl)
instance:FldT Tryz.prog 59 5 9:=.of (by kernel_rfl)
instance:SlT Tryz.prog 61 111:=⟨by kernel_rfl⟩
instance:TI Tryz.prog 71 11 true 184:=.of (by kernel_rfl)
instance:ZT Tryz.prog 71 [.sc (.int .i64 0),.sc (.int .i64 0),.sc (.bool false),.sc (.slice none 0 0),.sc (.slice none 0 0),.sc (.bool false),.sc (.slice none 0 0),.sc (.slice none 0 0),.sc (.bool false),.sc (.slice none 0 0),.sc (.slice none 0 0)]:=.of (vals:=[.int .i64 0,.int .i64 0,.bool false,.slice none 0 0,.slice none 0 0,.bool false,.slice none 0 0,.slice none 0 0,.bool false,.slice none 0 0,.slice none 0 0]) (by kernel_rfl) (by kernel_rfl) rfl
instance:PlT Tryz.prog 71 [(0,1),(1,1),(2,3),(5,3),(8,3)]:=.of (by kernel_rfl)
instance:FldT Tryz.prog 71 0 0:=.of (by kernel_rfl)
instance:FldT Tryz.prog 71 1 1:=.of (by kernel_rfl)
instance:FldT Tryz.prog 71 2 2:=.of (by kernel_rfl)
instance:FldT Tryz.prog 71 3 5:=.of (by kernel_rfl)
instance:FldT Tryz.prog 71 4 8:=.of (by kernel_rfl)
instance:SlT Tryz.prog 87 57:=⟨by kernel_rfl⟩
instance:TI Tryz.prog 111 6 true 112:=.of (by kernel_rfl)
instance:ZT Tryz.prog 111 [.sc (.bool false),.sc (.slice none 0 0),.sc (.slice none 0 0),.sc (.bool false),.sc (.slice none 0 0),.sc (.slice none 0 0)]:=.of (vals:=[.bool false,.slice none 0 0,.slice none 0 0,.bool false,.slice none 0 0,.slice none 0 0]) (by kernel_rfl) (by kernel_rfl) rfl
instance:PlT Tryz.prog 111 [(0,3),(3,3)]:=.of (by kernel_rfl)
instance:FldT Tryz.prog 111 0 0:=.of (by kernel_rfl)
instance:FldT Tryz.prog 111 1 3:=.of (by kernel_rfl)
instance:ZT Tryz.prog 124 [.sc (.slice none 0 0),.sc (.int .i64 0),.sc (.int .i64 0)]:=.of (vals:=[.slice none 0 0,.int .i64 0,.int .i64 0]) (by kernel_rfl) (by kernel_rfl) rfl
instance:PlT Tryz.prog 124 [(0,1),(1,1),(2,1)]:=.of (by kernel_rfl)
instance:FldT Tryz.prog 124 0 0:=.of (by kernel_rfl)
instance:FldT Tryz.prog 124 1 1:=.of (by kernel_rfl)
instance:FldT Tryz.prog 124 2 2:=.of (by kernel_rfl)
instance:TI Tryz.prog 137 10 true 176:=.of (by kernel_rfl)
instance:ZT Tryz.prog 137 [.sc (.int .i64 0),.sc (.bool false),.sc (.slice none 0 0),.sc (.slice none 0 0),.sc (.bool false),.sc (.slice none 0 0),.sc (.slice none 0 0),.sc (.bool false),.sc (.slice none 0 0),.sc (.slice none 0 0)]:=.of (vals:=[.int .i64 0,.bool false,.slice none 0 0,.slice none 0 0,.bool false,.slice none 0 0,.slice none 0 0,.bool false,.slice none 0 0,.slice none 0 0]) (by kernel_rfl) (by kernel_rfl) rfl
instance:PlT Tryz.prog 137 [(0,1),(1,3),(4,3),(7,3)]:=.of (by kernel_rfl)
instance:FldT Tryz.prog 137 0 0:=.of (by kernel_rfl)
instance:FldT Tryz.prog 137 1 1:=.of (by kernel_rfl)
instance:FldT Tryz.prog 137 2 4:=.of (by kernel_rfl)
instance:FldT Tryz.prog 137 3 7:=.of (by kernel_rfl)
instance:UT Tryz.prog 173 (.int .u64):=⟨by kernel_rfl⟩
instance:Dec Tryz.prog 5 (aC .u8) (okI .u8):=.int (by kernel_rfl)
instance:Dec Tryz.prog 22 (uB (aC .u8)) (okL (okI .u8)):=.slice (e:=5) (by kernel_rfl) 1 (by kernel_rfl) (by decide) (fun _=>rfl)
instance:FnC Tryz.prog 10:=⟨_,Tryz.func10,by kernel_rfl,by kernel_rfl⟩
instance:FnC Tryz.prog 11:=⟨_,Tryz.func11,by kernel_rfl,by kernel_rfl⟩
instance:FnC Tryz.prog 14:=⟨_,Tryz.func14,by kernel_rfl,by kernel_rfl⟩
instance:FnC Tryz.prog 16:=⟨_,Tryz.func16,by kernel_rfl,by kernel_rfl⟩
instance:FnC Tryz.prog 21:=⟨_,Tryz.func21,by kernel_rfl,by kernel_rfl⟩
instance:FnC Tryz.prog 22:=⟨_,Tryz.func22,by kernel_rfl,by kernel_rfl⟩
instance:FnC Tryz.prog 23:=⟨_,Tryz.func23,by kernel_rfl,by kernel_rfl⟩
instance:FnC Tryz.prog 24:=⟨_,Tryz.func24,by kernel_rfl,by kernel_rfl⟩
instance:FnC Tryz.prog 25:=⟨_,Tryz.func25,by kernel_rfl,by kernel_rfl⟩
instance:FnC Tryz.prog 26:=⟨_,Tryz.func26,by kernel_rfl,by kernel_rfl⟩
instance:FnC Tryz.prog 29:=⟨_,Tryz.func29,by kernel_rfl,by kernel_rfl⟩
instance:FnC Tryz.prog 30:=⟨_,Tryz.func30,by kernel_rfl,by kernel_rfl⟩
instance:FnC Tryz.prog 31:=⟨_,Tryz.func31,by kernel_rfl,by kernel_rfl⟩
instance:FnC Tryz.prog 32:=⟨_,Tryz.func32,by kernel_rfl,by kernel_rfl⟩
instance:FnC Tryz.prog 33:=⟨_,Tryz.func33,by kernel_rfl,by kernel_rfl⟩
instance:FnC Tryz.prog 34:=⟨_,Tryz.func34,by kernel_rfl,by kernel_rfl⟩
instance:FnC Tryz.prog 39:=⟨_,Tryz.func39,by kernel_rfl,by kernel_rfl⟩
instance:FnC Tryz.prog 43:=⟨_,Tryz.func43,by kernel_rfl,by kernel_rfl⟩
instance:FnC Tryz.prog 44:=⟨_,Tryz.func44,by kernel_rfl,by kernel_rfl⟩
instance:FnC Tryz.prog 45:=⟨_,Tryz.func45,by kernel_rfl,by kernel_rfl⟩
instance:FnC Tryz.prog 46:=⟨_,Tryz.func46,by kernel_rfl,by kernel_rfl⟩
instance:FnC Tryz.prog 47:=⟨_,Tryz.func47,by kernel_rfl,by kernel_rfl⟩
instance:FnC Tryz.prog 48:=⟨_,Tryz.func48,by kernel_rfl,by kernel_rfl⟩
instance:FnC Tryz.prog 49:=⟨_,Tryz.func49,by kernel_rfl,by kernel_rfl⟩
instance:FnC Tryz.prog 51:=⟨_,Tryz.func51,by kernel_rfl,by kernel_rfl⟩
instance:FnC Tryz.prog 53:=⟨_,Tryz.func53,by kernel_rfl,by kernel_rfl⟩
instance:FnC Tryz.prog 54:=⟨_,Tryz.func54,by kernel_rfl,by kernel_rfl⟩
instance:FnC Tryz.prog 55:=⟨_,Tryz.func55,by kernel_rfl,by kernel_rfl⟩
instance:FnC Tryz.prog 56:=⟨_,Tryz.func56,by kernel_rfl,by kernel_rfl⟩
instance:FnC Tryz.prog 57:=⟨_,Tryz.func57,by kernel_rfl,by kernel_rfl⟩
instance:FnC Tryz.prog 58:=⟨_,Tryz.func58,by kernel_rfl,by kernel_rfl⟩
instance:FnC Tryz.prog 59:=⟨_,Tryz.func59,by kernel_rfl,by kernel_rfl⟩
instance:FnC Tryz.prog 60:=⟨_,Tryz.func60,by kernel_rfl,by kernel_rfl⟩
instance:FnC Tryz.prog 62:=⟨_,Tryz.func62,by kernel_rfl,by kernel_rfl⟩
instance:FnC Tryz.prog 63:=⟨_,Tryz.func63,by kernel_rfl,by kernel_rfl⟩
instance:FnC Tryz.prog 64:=⟨_,Tryz.func64,by kernel_rfl,by kernel_rfl⟩
instance:FnC Tryz.prog 65:=⟨_,Tryz.func65,by kernel_rfl,by kernel_rfl⟩
instance:FnC Tryz.prog 66:=⟨_,Tryz.func66,by kernel_rfl,by kernel_rfl⟩
instance:FnC Tryz.prog 67:=⟨_,Tryz.func67,by kernel_rfl,by kernel_rfl⟩
instance:FnC Tryz.prog 68:=⟨_,Tryz.func68,by kernel_rfl,by kernel_rfl⟩
instance:FnC Tryz.prog 69:=⟨_,Tryz.func69,by kernel_rfl,by kernel_rfl⟩
instance:FnC Tryz.prog 72:=⟨_,Tryz.func72,by kernel_rfl,by kernel_rfl⟩
instance:FnC Tryz.prog 73:=⟨_,Tryz.func73,by kernel_rfl,by kernel_rfl⟩
instance:FnC Tryz.prog 74:=⟨_,Tryz.func74,by kernel_rfl,by kernel_rfl⟩
instance:FnC Tryz.prog 75:=⟨_,Tryz.func75,by kernel_rfl,by kernel_rfl⟩
instance:FnC Tryz.prog 76:=⟨_,Tryz.func76,by kernel_rfl,by kernel_rfl⟩
instance:FnC Tryz.prog 77:=⟨_,Tryz.func77,by kernel_rfl,by kernel_rfl⟩
instance:FnC Tryz.prog 78:=⟨_,Tryz.func78,by kernel_rfl,by kernel_rfl⟩
instance:FnC Tryz.prog 79:=⟨_,Tryz.func79,by kernel_rfl,by kernel_rfl⟩
instance:FnC Tryz.prog 80:=⟨_,Tryz.func80,by kernel_rfl,by kernel_rfl⟩
instance:FnC Tryz.prog 88:=⟨_,Tryz.func88,by kernel_rfl,by kernel_rfl⟩
instance:FnC Tryz.prog 89:=⟨_,Tryz.func89,by kernel_rfl,by kernel_rfl⟩
instance:FnC Tryz.prog 90:=⟨_,Tryz.func90,by kernel_rfl,by kernel_rfl⟩
instance:FnC Tryz.prog 91:=⟨_,Tryz.func91,by kernel_rfl,by kernel_rfl⟩
instance:FnC Tryz.prog 92:=⟨_,Tryz.func92,by kernel_rfl,by kernel_rfl⟩
instance:FnC Tryz.prog 93:=⟨_,Tryz.func93,by kernel_rfl,by kernel_rfl⟩
instance:FnC Tryz.prog 94:=⟨_,Tryz.func94,by kernel_rfl,by kernel_rfl⟩
instance:FnC Tryz.prog 95:=⟨_,Tryz.func95,by kernel_rfl,by kernel_rfl⟩
instance:FnC Tryz.prog 97:=⟨_,Tryz.func97,by kernel_rfl,by kernel_rfl⟩
instance:FnC Tryz.prog 98:=⟨_,Tryz.func98,by kernel_rfl,by kernel_rfl⟩
instance:FnC Tryz.prog 99:=⟨_,Tryz.func99,by kernel_rfl,by kernel_rfl⟩
instance:FnC Tryz.prog 100:=⟨_,Tryz.func100,by kernel_rfl,by kernel_rfl⟩
instance:FnC Tryz.prog 101:=⟨_,Tryz.func101,by kernel_rfl,by kernel_rfl⟩
instance:FnC Tryz.prog 102:=⟨_,Tryz.func102,by kernel_rfl,by kernel_rfl⟩
instance:FnC Tryz.prog 103:=⟨_,Tryz.func103,by kernel_rfl,by kernel_rfl⟩
instance:FnC Tryz.prog 104:=⟨_,Tryz.func104,by kernel_rfl,by kernel_rfl⟩
instance:FnC Tryz.prog 105:=⟨_,Tryz.func105,by kernel_rfl,by kernel_rfl⟩
instance:FnC Tryz.prog 106:=⟨_,Tryz.func106,by kernel_rfl,by kernel_rfl⟩
instance:FnC Tryz.prog 107:=⟨_,Tryz.func107,by kernel_rfl,by kernel_rfl⟩
instance:FnC Tryz.prog 108:=⟨_,Tryz.func108,by kernel_rfl,by kernel_rfl⟩
instance:FnC Tryz.prog 110:=⟨_,Tryz.func110,by kernel_rfl,by kernel_rfl⟩
instance:FnC Tryz.prog 111:=⟨_,Tryz.func111,by kernel_rfl,by kernel_rfl⟩
instance:FnC Tryz.prog 112:=⟨_,Tryz.func112,by kernel_rfl,by kernel_rfl⟩
instance:FnC Tryz.prog 113:=⟨_,Tryz.func113,by kernel_rfl,by kernel_rfl⟩
instance:FnC Tryz.prog 114:=⟨_,Tryz.func114,by kernel_rfl,by kernel_rfl⟩
instance:FnC Tryz.prog 115:=⟨_,Tryz.func115,by kernel_rfl,by kernel_rfl⟩
instance:FnC Tryz.prog 116:=⟨_,Tryz.func116,by kernel_rfl,by kernel_rfl⟩
instance:FnC Tryz.prog 117:=⟨_,Tryz.func117,by kernel_rfl,by kernel_rfl⟩
instance:FnC Tryz.prog 118:=⟨_,Tryz.func118,by kernel_rfl,by kernel_rfl⟩
instance:FnC Tryz.prog 119:=⟨_,Tryz.func119,by kernel_rfl,by kernel_rfl⟩
instance:FnC Tryz.prog 120:=⟨_,Tryz.func120,by kernel_rfl,by kernel_rfl⟩
instance:FnC Tryz.prog 121:=⟨_,Tryz.func121,by kernel_rfl,by kernel_rfl⟩
instance:FnC Tryz.prog 122:=⟨_,Tryz.func122,by kernel_rfl,by kernel_rfl⟩
instance:FnC Tryz.prog 123:=⟨_,Tryz.func123,by kernel_rfl,by kernel_rfl⟩
instance:FnC Tryz.prog 124:=⟨_,Tryz.func124,by kernel_rfl,by kernel_rfl⟩
instance:FnC Tryz.prog 130:=⟨_,Tryz.func130,by kernel_rfl,by kernel_rfl⟩
instance:FnC Tryz.prog 131:=⟨_,Tryz.func131,by kernel_rfl,by kernel_rfl⟩
instance:FnC Tryz.prog 132:=⟨_,Tryz.func132,by kernel_rfl,by kernel_rfl⟩
instance:FnC Tryz.prog 133:=⟨_,Tryz.func133,by kernel_rfl,by kernel_rfl⟩
instance:FnC Tryz.prog 134:=⟨_,Tryz.func134,by kernel_rfl,by kernel_rfl⟩
instance:FnC Tryz.prog 135:=⟨_,Tryz.func135,by kernel_rfl,by kernel_rfl⟩
instance:FnC Tryz.prog 136:=⟨_,Tryz.func136,by kernel_rfl,by kernel_rfl⟩
instance:FnC Tryz.prog 137:=⟨_,Tryz.func137,by kernel_rfl,by kernel_rfl⟩
instance:FnC Tryz.prog 138:=⟨_,Tryz.func138,by kernel_rfl,by kernel_rfl⟩
instance:FnC Tryz.prog 139:=⟨_,Tryz.func139,by kernel_rfl,by kernel_rfl⟩
instance:FnC Tryz.prog 140:=⟨_,Tryz.func140,by kernel_rfl,by kernel_rfl⟩
instance:FnC Tryz.prog 141:=⟨_,Tryz.func141,by kernel_rfl,by kernel_rfl⟩
instance:FnC Tryz.prog 142:=⟨_,Tryz.func142,by kernel_rfl,by kernel_rfl⟩
instance:FnC Tryz.prog 143:=⟨_,Tryz.func143,by kernel_rfl,by kernel_rfl⟩
instance:FnC Tryz.prog 144:=⟨_,Tryz.func144,by kernel_rfl,by kernel_rfl⟩
instance:FnC Tryz.prog 145:=⟨_,Tryz.func145,by kernel_rfl,by kernel_rfl⟩
instance:FnC Tryz.prog 146:=⟨_,Tryz.func146,by kernel_rfl,by kernel_rfl⟩
instance:FnC Tryz.prog 147:=⟨_,Tryz.func147,by kernel_rfl,by kernel_rfl⟩
instance:FnC Tryz.prog 148:=⟨_,Tryz.func148,by kernel_rfl,by kernel_rfl⟩
instance:FnC Tryz.prog 149:=⟨_,Tryz.func149,by kernel_rfl,by kernel_rfl⟩
instance:FnC Tryz.prog 150:=⟨_,Tryz.func150,by kernel_rfl,by kernel_rfl⟩
instance:FnC Tryz.prog 151:=⟨_,Tryz.func151,by kernel_rfl,by kernel_rfl⟩
instance:FnC Tryz.prog 152:=⟨_,Tryz.func152,by kernel_rfl,by kernel_rfl⟩
instance:FnC Tryz.prog 153:=⟨_,Tryz.func153,by kernel_rfl,by kernel_rfl⟩
instance:FnC Tryz.prog 154:=⟨_,Tryz.func154,by kernel_rfl,by kernel_rfl⟩
instance:FnC Tryz.prog 155:=⟨_,Tryz.func155,by kernel_rfl,by kernel_rfl⟩
instance:FnC Tryz.prog 156:=⟨_,Tryz.func156,by kernel_rfl,by kernel_rfl⟩
instance:FnC Tryz.prog 157:=⟨_,Tryz.func157,by kernel_rfl,by kernel_rfl⟩
instance:FnC Tryz.prog 158:=⟨_,Tryz.func158,by kernel_rfl,by kernel_rfl⟩
instance:FnC Tryz.prog 163:=⟨_,Tryz.func163,by kernel_rfl,by kernel_rfl⟩
instance:FnC Tryz.prog 164:=⟨_,Tryz.func164,by kernel_rfl,by kernel_rfl⟩
instance:FnC Tryz.prog 165:=⟨_,Tryz.func165,by kernel_rfl,by kernel_rfl⟩
instance:FnC Tryz.prog 166:=⟨_,Tryz.func166,by kernel_rfl,by kernel_rfl⟩
instance:FnC Tryz.prog 167:=⟨_,Tryz.func167,by kernel_rfl,by kernel_rfl⟩
instance:FnC Tryz.prog 168:=⟨_,Tryz.func168,by kernel_rfl,by kernel_rfl⟩
instance:FnC Tryz.prog 169:=⟨_,Tryz.func169,by kernel_rfl,by kernel_rfl⟩
instance:FnC Tryz.prog 170:=⟨_,Tryz.func170,by kernel_rfl,by kernel_rfl⟩
instance:FnC Tryz.prog 171:=⟨_,Tryz.func171,by kernel_rfl,by kernel_rfl⟩
instance:FnC Tryz.prog 172:=⟨_,Tryz.func172,by kernel_rfl,by kernel_rfl⟩
instance:FnC Tryz.prog 173:=⟨_,Tryz.func173,by kernel_rfl,by kernel_rfl⟩
instance:FnC Tryz.prog 174:=⟨_,Tryz.func174,by kernel_rfl,by kernel_rfl⟩
instance:FnC Tryz.prog 175:=⟨_,Tryz.func175,by kernel_rfl,by kernel_rfl⟩
instance:FnC Tryz.prog 176:=⟨_,Tryz.func176,by kernel_rfl,by kernel_rfl⟩
instance:FnC Tryz.prog 177:=⟨_,Tryz.func177,by kernel_rfl,by kernel_rfl⟩
instance:FnC Tryz.prog 178:=⟨_,Tryz.func178,by kernel_rfl,by kernel_rfl⟩
instance:FnC Tryz.prog 179:=⟨_,Tryz.func179,by kernel_rfl,by kernel_rfl⟩
instance:FnC Tryz.prog 182:=⟨_,Tryz.func182,by kernel_rfl,by kernel_rfl⟩
instance:FnC Tryz.prog 183:=⟨_,Tryz.func183,by kernel_rfl,by kernel_rfl⟩
instance:FnC Tryz.prog 184:=⟨_,Tryz.func184,by kernel_rfl,by kernel_rfl⟩
instance:FnC Tryz.prog 185:=⟨_,Tryz.func185,by kernel_rfl,by kernel_rfl⟩
instance:FnC Tryz.prog 186:=⟨_,Tryz.func186,by kernel_rfl,by kernel_rfl⟩
instance:FnC Tryz.prog 187:=⟨_,Tryz.func187,by kernel_rfl,by kernel_rfl⟩
instance:FnC Tryz.prog 188:=⟨_,Tryz.func188,by kernel_rfl,by kernel_rfl⟩
instance:FnC Tryz.prog 189:=⟨_,Tryz.func189,by kernel_rfl,by kernel_rfl⟩
instance:FnC Tryz.prog 190:=⟨_,Tryz.func190,by kernel_rfl,by kernel_rfl⟩
end
end Go.Ev
