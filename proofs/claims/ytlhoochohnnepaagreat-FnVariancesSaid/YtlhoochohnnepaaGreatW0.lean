/- Parts W0. -/
import Derived.Test.YtlhoochohnnepaaGreatProg
import Derived.KernelRfl
import Derived.Test.YtlhoochohnnepaaGreatE6
set_option linter.all false
/- The typed data of this seat and the engine's instances, printed by program (inst.py). -/
namespace Go.Ev
noncomputable section
open Go.Proofs
theorem PPm:Tryz.prog.follows .mixedOrders=true:=by kernel_rfl
theorem w64 {n:Int}(h:-9223372036854775808<=n/\n<=9223372036854775807):IntKind.i64.wrap n=n:=by
 rw[IntKind.wrap_i64];omega
structure BigInt where
 fNeg:Bool
 fMag:(List Int)
 deriving DecidableEq,Inhabited
def jC (y:BigInt):List PV:=[.sc (.bool y.fNeg),.sl y.fMag.length (y.fMag.flatMap (aC .i64))]
def bU (y:BigInt):List PV:=[.sc (.bool y.fNeg),.rw 1 y.fMag.length (y.fMag.flatMap (aC .i64))]
theorem lX (y:BigInt):SoftL (bU y) (jC y):=(aV7 (aV9 _) (aV7 (aWm (aWc _)) aWq))
structure Rat where
 fNum:BigInt
 fDen:(List Int)
 deriving DecidableEq,Inhabited
def aE (y:Rat):List PV:=[.sc (.bool y.fNum.fNeg),.sl y.fNum.fMag.length (y.fNum.fMag.flatMap (aC .i64)),.sl y.fDen.length (y.fDen.flatMap (aC .i64))]
def aG (y:Rat):List PV:=[.sc (.bool y.fNum.fNeg),.rw 1 y.fNum.fMag.length (y.fNum.fMag.flatMap (aC .i64)),.rw 1 y.fDen.length (y.fDen.flatMap (aC .i64))]
theorem aO (y:Rat):SoftL (aG y) (aE y):=(aV7 (aV9 _) (aV7 (aWm (aWc _)) (aV7 (aWm (aWc _)) aWq)))
structure Link where
 fA:Int
 fB:Int
 fWeight:Rat
 fDX:Rat
 fDY:Rat
 deriving DecidableEq,Inhabited
def aD (y:Link):List PV:=[.sc (.int .i64 y.fA),.sc (.int .i64 y.fB),.sc (.bool y.fWeight.fNum.fNeg),.sl y.fWeight.fNum.fMag.length (y.fWeight.fNum.fMag.flatMap (aC .i64)),.sl y.fWeight.fDen.length (y.fWeight.fDen.flatMap (aC .i64)),.sc (.bool y.fDX.fNum.fNeg),.sl y.fDX.fNum.fMag.length (y.fDX.fNum.fMag.flatMap (aC .i64)),.sl y.fDX.fDen.length (y.fDX.fDen.flatMap (aC .i64)),.sc (.bool y.fDY.fNum.fNeg),.sl y.fDY.fNum.fMag.length (y.fDY.fNum.fMag.flatMap (aC .i64)),.sl y.fDY.fDen.length (y.fDY.fDen.flatMap (aC .i64))]
def aZ (y:Link):List PV:=[.sc (.int .i64 y.fA),.sc (.int .i64 y.fB),.sc (.bool y.fWeight.fNum.fNeg),.rw 1 y.fWeight.fNum.fMag.length (y.fWeight.fNum.fMag.flatMap (aC .i64)),.rw 1 y.fWeight.fDen.length (y.fWeight.fDen.flatMap (aC .i64)),.sc (.bool y.fDX.fNum.fNeg),.rw 1 y.fDX.fNum.fMag.length (y.fDX.fNum.fMag.flatMap (aC .i64)),.rw 1 y.fDX.fDen.length (y.fDX.fDen.flatMap (aC .i64)),.sc (.bool y.fDY.fNum.fNeg),.rw 1 y.fDY.fNum.fMag.length (y.fDY.fNum.fMag.flatMap (aC .i64)),.rw 1 y.fDY.fDen.length (y.fDY.fDen.flatMap (aC .i64))]
theorem rH (y:Link):SoftL (aZ y) (aD y):=(aV7 (aV9 _) (aV7 (aV9 _) (aV7 (aV9 _) (aV7 (aWm (aWc _)) (aV7 (aWm (aWc _)) (aV7 (aV9 _) (aV7 (aWm (aWc _)) (aV7 (aWm (aWc _)) (aV7 (aV9 _) (aV7 (aWm (aWc _)) (aV7 (aWm (aWc _)) aWq)))))))))))
structure Parent where
 fNode:Int
 fShare:Rat
 fDX:Rat
 fDY:Rat
 deriving DecidableEq,Inhabited
def cI (y:Parent):List PV:=[.sc (.int .i64 y.fNode),.sc (.bool y.fShare.fNum.fNeg),.sl y.fShare.fNum.fMag.length (y.fShare.fNum.fMag.flatMap (aC .i64)),.sl y.fShare.fDen.length (y.fShare.fDen.flatMap (aC .i64)),.sc (.bool y.fDX.fNum.fNeg),.sl y.fDX.fNum.fMag.length (y.fDX.fNum.fMag.flatMap (aC .i64)),.sl y.fDX.fDen.length (y.fDX.fDen.flatMap (aC .i64)),.sc (.bool y.fDY.fNum.fNeg),.sl y.fDY.fNum.fMag.length (y.fDY.fNum.fMag.flatMap (aC .i64)),.sl y.fDY.fDen.length (y.fDY.fDen.flatMap (aC .i64))]
def gK (y:Parent):List PV:=[.sc (.int .i64 y.fNode),.sc (.bool y.fShare.fNum.fNeg),.rw 1 y.fShare.fNum.fMag.length (y.fShare.fNum.fMag.flatMap (aC .i64)),.rw 1 y.fShare.fDen.length (y.fShare.fDen.flatMap (aC .i64)),.sc (.bool y.fDX.fNum.fNeg),.rw 1 y.fDX.fNum.fMag.length (y.fDX.fNum.fMag.flatMap (aC .i64)),.rw 1 y.fDX.fDen.length (y.fDX.fDen.flatMap (aC .i64)),.sc (.bool y.fDY.fNum.fNeg),.rw 1 y.fDY.fNum.fMag.length (y.fDY.fNum.fMag.flatMap (aC .i64)),.rw 1 y.fDY.fDen.length (y.fDY.fDen.flatMap (aC .i64))]
theorem aCA (y:Parent):SoftL (gK y) (cI y):=(aV7 (aV9 _) (aV7 (aV9 _) (aV7 (aWm (aWc _)) (aV7 (aWm (aWc _)) (aV7 (aV9 _) (aV7 (aWm (aWc _)) (aV7 (aWm (aWc _)) (aV7 (aV9 _) (aV7 (aWm (aWc _)) (aV7 (aWm (aWc _)) aWq))))))))))
structure Conditional where
 fNode:Int
 fTotal:Rat
 fParents:(List Parent)
 deriving DecidableEq,Inhabited
def aH (y:Conditional):List PV:=[.sc (.int .i64 y.fNode),.sc (.bool y.fTotal.fNum.fNeg),.sl y.fTotal.fNum.fMag.length (y.fTotal.fNum.fMag.flatMap (aC .i64)),.sl y.fTotal.fDen.length (y.fTotal.fDen.flatMap (aC .i64)),.sl y.fParents.length (y.fParents.flatMap cI)]
def lC (y:Conditional):List PV:=[.sc (.int .i64 y.fNode),.sc (.bool y.fTotal.fNum.fNeg),.rw 1 y.fTotal.fNum.fMag.length (y.fTotal.fNum.fMag.flatMap (aC .i64)),.rw 1 y.fTotal.fDen.length (y.fTotal.fDen.flatMap (aC .i64)),.rw 10 y.fParents.length (y.fParents.flatMap gK)]
theorem aEw (y:Conditional):SoftL (lC y) (aH y):=(aV7 (aV9 _) (aV7 (aV9 _) (aV7 (aWm (aWc _)) (aV7 (aWm (aWc _)) (aV7 (aWm (aWz aCA _)) aWq)))))
structure TreeNode where
 fNode:Int
 fUp:Int
 fOwn:(List Link)
 fCond:Conditional
 fMessages:(List Link)
 fEnergy:Rat
 deriving DecidableEq,Inhabited
def cP (y:TreeNode):List PV:=[.sc (.int .i64 y.fNode),.sc (.int .i64 y.fUp),.sl y.fOwn.length (y.fOwn.flatMap aD),.sc (.int .i64 y.fCond.fNode),.sc (.bool y.fCond.fTotal.fNum.fNeg),.sl y.fCond.fTotal.fNum.fMag.length (y.fCond.fTotal.fNum.fMag.flatMap (aC .i64)),.sl y.fCond.fTotal.fDen.length (y.fCond.fTotal.fDen.flatMap (aC .i64)),.sl y.fCond.fParents.length (y.fCond.fParents.flatMap cI),.sl y.fMessages.length (y.fMessages.flatMap aD),.sc (.bool y.fEnergy.fNum.fNeg),.sl y.fEnergy.fNum.fMag.length (y.fEnergy.fNum.fMag.flatMap (aC .i64)),.sl y.fEnergy.fDen.length (y.fEnergy.fDen.flatMap (aC .i64))]
structure Tree where
 fNodes:(List TreeNode)
 deriving DecidableEq,Inhabited
def kQ (y:Tree):List PV:=[.sl y.fNodes.length (y.fNodes.flatMap cP)]
structure Point where
 fX:Rat
 fY:Rat
 deriving DecidableEq,Inhabited
structure l01Cur where
 fb:(List Int)
 fi:Int
 fh:Int
 deriving DecidableEq,Inhabited
structure l08Arm where
 fnode:Int
 fweight:Rat
 fdx:Rat
 fdy:Rat
 deriving DecidableEq,Inhabited
def cH (y:l08Arm):List PV:=[.sc (.int .i64 y.fnode),.sc (.bool y.fweight.fNum.fNeg),.sl y.fweight.fNum.fMag.length (y.fweight.fNum.fMag.flatMap (aC .i64)),.sl y.fweight.fDen.length (y.fweight.fDen.flatMap (aC .i64)),.sc (.bool y.fdx.fNum.fNeg),.sl y.fdx.fNum.fMag.length (y.fdx.fNum.fMag.flatMap (aC .i64)),.sl y.fdx.fDen.length (y.fdx.fDen.flatMap (aC .i64)),.sc (.bool y.fdy.fNum.fNeg),.sl y.fdy.fNum.fMag.length (y.fdy.fNum.fMag.flatMap (aC .i64)),.sl y.fdy.fDen.length (y.fdy.fDen.flatMap (aC .i64))]
instance:TI Tryz.prog 3 1 false 8:=.of (by kernel_rfl)
instance:ZT Tryz.prog 3 [.sc (.int .i64 0)]:=.of (vals:=[.int .i64 0]) (by kernel_rfl) (by kernel_rfl) rfl
instance:UT Tryz.prog 3 (.int .i64):=⟨by kernel_rfl⟩
instance:TI Tryz.prog 4 1 false 1:=.of (by kernel_rfl)
instance:UT Tryz.prog 4 .bool:=⟨by kernel_rfl⟩
instance:TI Tryz.prog 5 1 false 1:=.of (by kernel_rfl)
instance:UT Tryz.prog 5 (.int .u8):=⟨by kernel_rfl⟩
instance:TI Tryz.prog 22 1 false 24:=.of (by kernel_rfl)
instance:SlT Tryz.prog 22 5:=⟨by kernel_rfl⟩
instance:TI Tryz.prog 23 1 false 24:=.of (by kernel_rfl)
instance:SlT Tryz.prog 23 59:=⟨by kernel_rfl⟩
instance:TI Tryz.prog 25 1 true 24:=.of (by kernel_rfl)
instance:ZT Tryz.prog 25 [.sc (.slice none 0 0)]:=.of (vals:=[.slice none 0 0]) (by kernel_rfl) (by kernel_rfl) rfl
instance:PlT Tryz.prog 25 [(0,1)]:=.of (by kernel_rfl)
instance:FldT Tryz.prog 25 0 0:=.of (by kernel_rfl)
instance:TI Tryz.prog 27 1 false 24:=.of (by kernel_rfl)
instance:SlT Tryz.prog 27 71:=⟨by kernel_rfl⟩
instance:TI Tryz.prog 28 1 false 24:=.of (by kernel_rfl)
instance:SlT Tryz.prog 28 3:=⟨by kernel_rfl⟩
instance:TI Tryz.prog 30 2 true 32:=.of (by kernel_rfl)
instance:ZT Tryz.prog 30 [.sc (.bool false),.sc (.slice none 0 0)]:=.of (vals:=[.bool false,.slice none 0 0]) (by kernel_rfl) (by kernel_rfl) rfl
instance:PlT Tryz.prog 30 [(0,1),(1,1)]:=.of (by kernel_rfl)
instance:FldT Tryz.prog 30 0 0:=.of (by kernel_rfl)
instance:FldT Tryz.prog 30 1 1:=.of (by kernel_rfl)
instance:TI Tryz.prog 32 3 true 56:=.of (by kernel_rfl)
instance:ZT Tryz.prog 32 [.sc (.bool false),.sc (.slice none 0 0),.sc (.slice none 0 0)]:=.of (vals:=[.bool false,.slice none 0 0,.slice none 0 0]) (by kernel_rfl) (by kernel_rfl) rfl
instance:PlT Tryz.prog 32 [(0,2),(2,1)]:=.of (by kernel_rfl)
instance:FldT Tryz.prog 32 0 0:=.of (by kernel_rfl)
instance:FldT Tryz.prog 32 1 2:=.of (by kernel_rfl)
instance:SlT Tryz.prog 36 40:=⟨by kernel_rfl⟩
instance:TI Tryz.prog 40 1 false 24:=.of (by kernel_rfl)
instance:ZT Tryz.prog 40 [.sc (.slice none 0 0)]:=.of (vals:=[.slice none 0 0]) (by kernel_rfl) (by kernel_rfl) rfl
instance:SlT Tryz.prog 40 32:=⟨by kernel_rfl⟩
instance:TI Tryz.prog 55 1 false 24:=.of (by kernel_rfl)
instance:SlT Tryz.prog 55 137:=⟨by kernel_rfl⟩
instance:TI Tryz.prog 57 5 true 88:=.of (by kernel_rfl)
instance:ZT Tryz.prog 57 [.sc (.int .i64 0),.sc (.bool false),.sc (.slice none 0 0),.sc (.slice none 0 0),.sc (.slice none 0 0)]:=.of (vals:=[.int .i64 0,.bool false,.slice none 0 0,.slice none 0 0,.slice none 0 0]) (by kernel_rfl) (by kernel_rfl) rfl
instance:PlT Tryz.prog 57 [(0,1),(1,3),(4,1)]:=.of (by kernel_rfl)
instance:FldT Tryz.prog 57 0 0:=.of (by kernel_rfl)
instance:FldT Tryz.prog 57 1 1:=.of (by kernel_rfl)
instance:FldT Tryz.prog 57 2 4:=.of (by kernel_rfl)
instance:TI Tryz.prog 59 12 true 208:=.of (by kernel_rfl)
instance:ZT Tryz.prog 59 [.sc (.int .i64 0),.sc (.int .i64 0),.sc (.slice none 0 0),.sc (.int .i64 0),.sc (.bool false),.sc (.slice none 0 0),.sc (.slice none 0 0),.sc (.slice none 0 0),.sc (.slice none 0 0),.sc (.bool false),.sc (.slice none 0 0),.sc (.slice none 0 0)]:=.of (vals:=[.int .i64 0,.int .i64 0,.slice none 0 0,.int .i64 0,.bool false,.slice none 0 0,.slice none 0 0,.slice none 0 0,.slice none 0 0,.bool false,.slice none 0 0,.slice none 0 0]) (by kernel_rfl) (by kernel_rfl) rfl
instance:PlT Tryz.prog 59 [(0,1),(1,1),(2,1),(3,5),(8,1),(9,3)]:=.of (by kernel_rfl)
instance:FldT Tryz.prog 59 1 1:=.of (by kernel_rfl)
instance:FldT Tryz.prog 59 2 2:=.of (by kernel_rfl)
instance:FldT Tryz.prog 59 3 3:=.of (by kernel_rfl)
instance:FldT Tryz.prog 59 4 8:=.of (by kernel_rfl)
instance:TI Tryz.prog 71 11 true 184:=.of (by kernel_rfl)
instance:ZT Tryz.prog 71 [.sc (.int .i64 0),.sc (.int .i64 0),.sc (.bool false),.sc (.slice none 0 0),.sc (.slice none 0 0),.sc (.bool false),.sc (.slice none 0 0),.sc (.slice none 0 0),.sc (.bool false),.sc (.slice none 0 0),.sc (.slice none 0 0)]:=.of (vals:=[.int .i64 0,.int .i64 0,.bool false,.slice none 0 0,.slice none 0 0,.bool false,.slice none 0 0,.slice none 0 0,.bool false,.slice none 0 0,.slice none 0 0]) (by kernel_rfl) (by kernel_rfl) rfl
instance:PlT Tryz.prog 71 [(0,1),(1,1),(2,3),(5,3),(8,3)]:=.of (by kernel_rfl)
instance:FldT Tryz.prog 71 0 0:=.of (by kernel_rfl)
instance:FldT Tryz.prog 71 1 1:=.of (by kernel_rfl)
instance:FldT Tryz.prog 71 2 2:=.of (by kernel_rfl)
instance:FldT Tryz.prog 71 3 5:=.of (by kernel_rfl)
instance:FldT Tryz.prog 71 4 8:=.of (by kernel_rfl)
instance:SlT Tryz.prog 87 57:=⟨by kernel_rfl⟩
instance:ZT Tryz.prog 124 [.sc (.slice none 0 0),.sc (.int .i64 0),.sc (.int .i64 0)]:=.of (vals:=[.slice none 0 0,.int .i64 0,.int .i64 0]) (by kernel_rfl) (by kernel_rfl) rfl
instance:PlT Tryz.prog 124 [(0,1),(1,1),(2,1)]:=.of (by kernel_rfl)
instance:FldT Tryz.prog 124 0 0:=.of (by kernel_rfl)
instance:FldT Tryz.prog 124 1 1:=.of (by kernel_rfl)
instance:FldT Tryz.prog 124 2 2:=.of (by kernel_rfl)
instance:TI Tryz.prog 134 30 true 560:=.of (by kernel_rfl)
instance:ArT Tryz.prog 134 10 32:=⟨by kernel_rfl⟩
instance:ZT Tryz.prog 135 (((List.replicate 100 [.bool false,.slice none 0 0,.slice none 0 0]).flatten).map .sc):=.of (vals:=(List.replicate 100 [.bool false,.slice none 0 0,.slice none 0 0]).flatten) (by kernel_rfl) (by kernel_rfl) rfl
instance:ArT Tryz.prog 135 10 134:=⟨by kernel_rfl⟩
instance:TI Tryz.prog 137 10 true 176:=.of (by kernel_rfl)
instance:ZT Tryz.prog 137 [.sc (.int .i64 0),.sc (.bool false),.sc (.slice none 0 0),.sc (.slice none 0 0),.sc (.bool false),.sc (.slice none 0 0),.sc (.slice none 0 0),.sc (.bool false),.sc (.slice none 0 0),.sc (.slice none 0 0)]:=.of (vals:=[.int .i64 0,.bool false,.slice none 0 0,.slice none 0 0,.bool false,.slice none 0 0,.slice none 0 0,.bool false,.slice none 0 0,.slice none 0 0]) (by kernel_rfl) (by kernel_rfl) rfl
instance:PlT Tryz.prog 137 [(0,1),(1,3),(4,3),(7,3)]:=.of (by kernel_rfl)
instance:FldT Tryz.prog 137 0 0:=.of (by kernel_rfl)
instance:FldT Tryz.prog 137 1 1:=.of (by kernel_rfl)
instance:FldT Tryz.prog 137 2 4:=.of (by kernel_rfl)
instance:FldT Tryz.prog 137 3 7:=.of (by kernel_rfl)
instance:UT Tryz.prog 173 (.int .u64):=⟨by kernel_rfl⟩
instance:SlT Tryz.prog 189 192:=⟨by kernel_rfl⟩
instance:TI Tryz.prog 192 10 true 176:=.of (by kernel_rfl)
instance:ZT Tryz.prog 192 [.sc (.int .i64 0),.sc (.bool false),.sc (.slice none 0 0),.sc (.slice none 0 0),.sc (.bool false),.sc (.slice none 0 0),.sc (.slice none 0 0),.sc (.bool false),.sc (.slice none 0 0),.sc (.slice none 0 0)]:=.of (vals:=[.int .i64 0,.bool false,.slice none 0 0,.slice none 0 0,.bool false,.slice none 0 0,.slice none 0 0,.bool false,.slice none 0 0,.slice none 0 0]) (by kernel_rfl) (by kernel_rfl) rfl
instance:PlT Tryz.prog 192 [(0,1),(1,3),(4,3),(7,3)]:=.of (by kernel_rfl)
instance:FldT Tryz.prog 192 0 0:=.of (by kernel_rfl)
instance:FldT Tryz.prog 192 1 1:=.of (by kernel_rfl)
instance:FldT Tryz.prog 192 2 4:=.of (by kernel_rfl)
instance:FldT Tryz.prog 192 3 7:=.of (by kernel_rfl)
instance:Dec Tryz.prog 5 (aC .u8) (okI .u8):=.int (by kernel_rfl)
instance:Dec Tryz.prog 22 (mC (aC .u8)) (okL (okI .u8)):=.slice (e:=5) (by kernel_rfl) 1 (by kernel_rfl) (by decide) (fun _=>rfl)
instance:FnC Tryz.prog 9:=⟨_,Tryz.func9,by kernel_rfl,by kernel_rfl⟩
instance:FnC Tryz.prog 10:=⟨_,Tryz.func10,by kernel_rfl,by kernel_rfl⟩
instance:FnC Tryz.prog 11:=⟨_,Tryz.func11,by kernel_rfl,by kernel_rfl⟩
instance:FnC Tryz.prog 12:=⟨_,Tryz.func12,by kernel_rfl,by kernel_rfl⟩
instance:FnC Tryz.prog 13:=⟨_,Tryz.func13,by kernel_rfl,by kernel_rfl⟩
instance:FnC Tryz.prog 14:=⟨_,Tryz.func14,by kernel_rfl,by kernel_rfl⟩
instance:FnC Tryz.prog 15:=⟨_,Tryz.func15,by kernel_rfl,by kernel_rfl⟩
instance:FnC Tryz.prog 22:=⟨_,Tryz.func22,by kernel_rfl,by kernel_rfl⟩
instance:FnC Tryz.prog 42:=⟨_,Tryz.func42,by kernel_rfl,by kernel_rfl⟩
instance:FnC Tryz.prog 43:=⟨_,Tryz.func43,by kernel_rfl,by kernel_rfl⟩
instance:FnC Tryz.prog 44:=⟨_,Tryz.func44,by kernel_rfl,by kernel_rfl⟩
instance:FnC Tryz.prog 45:=⟨_,Tryz.func45,by kernel_rfl,by kernel_rfl⟩
instance:FnC Tryz.prog 46:=⟨_,Tryz.func46,by kernel_rfl,by kernel_rfl⟩
instance:FnC Tryz.prog 47:=⟨_,Tryz.func47,by kernel_rfl,by kernel_rfl⟩
instance:FnC Tryz.prog 48:=⟨_,Tryz.func48,by kernel_rfl,by kernel_rfl⟩
instance:FnC Tryz.prog 49:=⟨_,Tryz.func49,by kernel_rfl,by kernel_rfl⟩
instance:FnC Tryz.prog 50:=⟨_,Tryz.func50,by kernel_rfl,by kernel_rfl⟩
instance:FnC Tryz.prog 51:=⟨_,Tryz.func51,by kernel_rfl,by kernel_rfl⟩
instance:FnC Tryz.prog 52:=⟨_,Tryz.func52,by kernel_rfl,by kernel_rfl⟩
instance:FnC Tryz.prog 53:=⟨_,Tryz.func53,by kernel_rfl,by kernel_rfl⟩
instance:FnC Tryz.prog 55:=⟨_,Tryz.func55,by kernel_rfl,by kernel_rfl⟩
instance:FnC Tryz.prog 56:=⟨_,Tryz.func56,by kernel_rfl,by kernel_rfl⟩
instance:FnC Tryz.prog 57:=⟨_,Tryz.func57,by kernel_rfl,by kernel_rfl⟩
instance:FnC Tryz.prog 58:=⟨_,Tryz.func58,by kernel_rfl,by kernel_rfl⟩
instance:FnC Tryz.prog 59:=⟨_,Tryz.func59,by kernel_rfl,by kernel_rfl⟩
instance:FnC Tryz.prog 60:=⟨_,Tryz.func60,by kernel_rfl,by kernel_rfl⟩
instance:FnC Tryz.prog 62:=⟨_,Tryz.func62,by kernel_rfl,by kernel_rfl⟩
instance:FnC Tryz.prog 63:=⟨_,Tryz.func63,by kernel_rfl,by kernel_rfl⟩
instance:FnC Tryz.prog 64:=⟨_,Tryz.func64,by kernel_rfl,by kernel_rfl⟩
instance:FnC Tryz.prog 65:=⟨_,Tryz.func65,by kernel_rfl,by kernel_rfl⟩
instance:FnC Tryz.prog 66:=⟨_,Tryz.func66,by kernel_rfl,by kernel_rfl⟩
instance:FnC Tryz.prog 67:=⟨_,Tryz.func67,by kernel_rfl,by kernel_rfl⟩
instance:FnC Tryz.prog 77:=⟨_,Tryz.func77,by kernel_rfl,by kernel_rfl⟩
instance:FnC Tryz.prog 79:=⟨_,Tryz.func79,by kernel_rfl,by kernel_rfl⟩
instance:FnC Tryz.prog 80:=⟨_,Tryz.func80,by kernel_rfl,by kernel_rfl⟩
instance:FnC Tryz.prog 86:=⟨_,Tryz.func86,by kernel_rfl,by kernel_rfl⟩
instance:FnC Tryz.prog 87:=⟨_,Tryz.func87,by kernel_rfl,by kernel_rfl⟩
instance:FnC Tryz.prog 88:=⟨_,Tryz.func88,by kernel_rfl,by kernel_rfl⟩
instance:FnC Tryz.prog 89:=⟨_,Tryz.func89,by kernel_rfl,by kernel_rfl⟩
instance:FnC Tryz.prog 90:=⟨_,Tryz.func90,by kernel_rfl,by kernel_rfl⟩
instance:FnC Tryz.prog 91:=⟨_,Tryz.func91,by kernel_rfl,by kernel_rfl⟩
instance:FnC Tryz.prog 92:=⟨_,Tryz.func92,by kernel_rfl,by kernel_rfl⟩
instance:FnC Tryz.prog 93:=⟨_,Tryz.func93,by kernel_rfl,by kernel_rfl⟩
instance:FnC Tryz.prog 94:=⟨_,Tryz.func94,by kernel_rfl,by kernel_rfl⟩
instance:FnC Tryz.prog 95:=⟨_,Tryz.func95,by kernel_rfl,by kernel_rfl⟩
instance:FnC Tryz.prog 96:=⟨_,Tryz.func96,by kernel_rfl,by kernel_rfl⟩
instance:FnC Tryz.prog 97:=⟨_,Tryz.func97,by kernel_rfl,by kernel_rfl⟩
instance:FnC Tryz.prog 98:=⟨_,Tryz.func98,by kernel_rfl,by kernel_rfl⟩
instance:FnC Tryz.prog 99:=⟨_,Tryz.func99,by kernel_rfl,by kernel_rfl⟩
instance:FnC Tryz.prog 100:=⟨_,Tryz.func100,by kernel_rfl,by kernel_rfl⟩
instance:FnC Tryz.prog 101:=⟨_,Tryz.func101,by kernel_rfl,by kernel_rfl⟩
instance:FnC Tryz.prog 102:=⟨_,Tryz.func102,by kernel_rfl,by kernel_rfl⟩
instance:FnC Tryz.prog 103:=⟨_,Tryz.func103,by kernel_rfl,by kernel_rfl⟩
instance:FnC Tryz.prog 104:=⟨_,Tryz.func104,by kernel_rfl,by kernel_rfl⟩
instance:FnC Tryz.prog 105:=⟨_,Tryz.func105,by kernel_rfl,by kernel_rfl⟩
instance:FnC Tryz.prog 106:=⟨_,Tryz.func106,by kernel_rfl,by kernel_rfl⟩
instance:FnC Tryz.prog 107:=⟨_,Tryz.func107,by kernel_rfl,by kernel_rfl⟩
instance:FnC Tryz.prog 108:=⟨_,Tryz.func108,by kernel_rfl,by kernel_rfl⟩
instance:FnC Tryz.prog 110:=⟨_,Tryz.func110,by kernel_rfl,by kernel_rfl⟩
instance:FnC Tryz.prog 111:=⟨_,Tryz.func111,by kernel_rfl,by kernel_rfl⟩
instance:FnC Tryz.prog 112:=⟨_,Tryz.func112,by kernel_rfl,by kernel_rfl⟩
instance:FnC Tryz.prog 113:=⟨_,Tryz.func113,by kernel_rfl,by kernel_rfl⟩
instance:FnC Tryz.prog 114:=⟨_,Tryz.func114,by kernel_rfl,by kernel_rfl⟩
instance:FnC Tryz.prog 115:=⟨_,Tryz.func115,by kernel_rfl,by kernel_rfl⟩
instance:FnC Tryz.prog 116:=⟨_,Tryz.func116,by kernel_rfl,by kernel_rfl⟩
instance:FnC Tryz.prog 122:=⟨_,Tryz.func122,by kernel_rfl,by kernel_rfl⟩
instance:FnC Tryz.prog 124:=⟨_,Tryz.func124,by kernel_rfl,by kernel_rfl⟩
instance:FnC Tryz.prog 127:=⟨_,Tryz.func127,by kernel_rfl,by kernel_rfl⟩
instance:FnC Tryz.prog 128:=⟨_,Tryz.func128,by kernel_rfl,by kernel_rfl⟩
instance:FnC Tryz.prog 129:=⟨_,Tryz.func129,by kernel_rfl,by kernel_rfl⟩
instance:FnC Tryz.prog 130:=⟨_,Tryz.func130,by kernel_rfl,by kernel_rfl⟩
instance:FnC Tryz.prog 131:=⟨_,Tryz.func131,by kernel_rfl,by kernel_rfl⟩
instance:FnC Tryz.prog 132:=⟨_,Tryz.func132,by kernel_rfl,by kernel_rfl⟩
instance:FnC Tryz.prog 133:=⟨_,Tryz.func133,by kernel_rfl,by kernel_rfl⟩
instance:FnC Tryz.prog 134:=⟨_,Tryz.func134,by kernel_rfl,by kernel_rfl⟩
instance:FnC Tryz.prog 135:=⟨_,Tryz.func135,by kernel_rfl,by kernel_rfl⟩
instance:FnC Tryz.prog 136:=⟨_,Tryz.func136,by kernel_rfl,by kernel_rfl⟩
instance:FnC Tryz.prog 137:=⟨_,Tryz.func137,by kernel_rfl,by kernel_rfl⟩
instance:FnC Tryz.prog 138:=⟨_,Tryz.func138,by kernel_rfl,by kernel_rfl⟩
instance:FnC Tryz.prog 139:=⟨_,Tryz.func139,by kernel_rfl,by kernel_rfl⟩
instance:FnC Tryz.prog 140:=⟨_,Tryz.func140,by kernel_rfl,by kernel_rfl⟩
instance:FnC Tryz.prog 141:=⟨_,Tryz.func141,by kernel_rfl,by kernel_rfl⟩
instance:FnC Tryz.prog 142:=⟨_,Tryz.func142,by kernel_rfl,by kernel_rfl⟩
instance:FnC Tryz.prog 143:=⟨_,Tryz.func143,by kernel_rfl,by kernel_rfl⟩
instance:FnC Tryz.prog 144:=⟨_,Tryz.func144,by kernel_rfl,by kernel_rfl⟩
instance:FnC Tryz.prog 145:=⟨_,Tryz.func145,by kernel_rfl,by kernel_rfl⟩
instance:FnC Tryz.prog 146:=⟨_,Tryz.func146,by kernel_rfl,by kernel_rfl⟩
instance:FnC Tryz.prog 147:=⟨_,Tryz.func147,by kernel_rfl,by kernel_rfl⟩
instance:FnC Tryz.prog 148:=⟨_,Tryz.func148,by kernel_rfl,by kernel_rfl⟩
instance:FnC Tryz.prog 149:=⟨_,Tryz.func149,by kernel_rfl,by kernel_rfl⟩
instance:FnC Tryz.prog 150:=⟨_,Tryz.func150,by kernel_rfl,by kernel_rfl⟩
instance:FnC Tryz.prog 151:=⟨_,Tryz.func151,by kernel_rfl,by kernel_rfl⟩
instance:FnC Tryz.prog 152:=⟨_,Tryz.func152,by kernel_rfl,by kernel_rfl⟩
instance:FnC Tryz.prog 153:=⟨_,Tryz.func153,by kernel_rfl,by kernel_rfl⟩
instance:FnC Tryz.prog 154:=⟨_,Tryz.func154,by kernel_rfl,by kernel_rfl⟩
instance:FnC Tryz.prog 159:=⟨_,Tryz.func159,by kernel_rfl,by kernel_rfl⟩
instance:FnC Tryz.prog 160:=⟨_,Tryz.func160,by kernel_rfl,by kernel_rfl⟩
instance:FnC Tryz.prog 161:=⟨_,Tryz.func161,by kernel_rfl,by kernel_rfl⟩
instance:FnC Tryz.prog 162:=⟨_,Tryz.func162,by kernel_rfl,by kernel_rfl⟩
instance:FnC Tryz.prog 163:=⟨_,Tryz.func163,by kernel_rfl,by kernel_rfl⟩
instance:FnC Tryz.prog 164:=⟨_,Tryz.func164,by kernel_rfl,by kernel_rfl⟩
instance:FnC Tryz.prog 165:=⟨_,Tryz.func165,by kernel_rfl,by kernel_rfl⟩
instance:FnC Tryz.prog 166:=⟨_,Tryz.func166,by kernel_rfl,by kernel_rfl⟩
instance:FnC Tryz.prog 167:=⟨_,Tryz.func167,by kernel_rfl,by kernel_rfl⟩
instance:FnC Tryz.prog 168:=⟨_,Tryz.func168,by kernel_rfl,by kernel_rfl⟩
instance:FnC Tryz.prog 169:=⟨_,Tryz.func169,by kernel_rfl,by kernel_rfl⟩
instance:FnC Tryz.prog 170:=⟨_,Tryz.func170,by kernel_rfl,by kernel_rfl⟩
instance:FnC Tryz.prog 171:=⟨_,Tryz.func171,by kernel_rfl,by kernel_rfl⟩
instance:FnC Tryz.prog 172:=⟨_,Tryz.func172,by kernel_rfl,by kernel_rfl⟩
instance:FnC Tryz.prog 173:=⟨_,Tryz.func173,by kernel_rfl,by kernel_rfl⟩
instance:FnC Tryz.prog 174:=⟨_,Tryz.func174,by kernel_rfl,by kernel_rfl⟩
instance:FnC Tryz.prog 175:=⟨_,Tryz.func175,by kernel_rfl,by kernel_rfl⟩
instance:FnC Tryz.prog 176:=⟨_,Tryz.func176,by kernel_rfl,by kernel_rfl⟩
instance:FnC Tryz.prog 177:=⟨_,Tryz.func177,by kernel_rfl,by kernel_rfl⟩
instance:FnC Tryz.prog 178:=⟨_,Tryz.func178,by kernel_rfl,by kernel_rfl⟩
instance:FnC Tryz.prog 180:=⟨_,Tryz.func180,by kernel_rfl,by kernel_rfl⟩
instance:FnC Tryz.prog 181:=⟨_,Tryz.func181,by kernel_rfl,by kernel_rfl⟩
instance:FnC Tryz.prog 182:=⟨_,Tryz.func182,by kernel_rfl,by kernel_rfl⟩
instance:FnC Tryz.prog 183:=⟨_,Tryz.func183,by kernel_rfl,by kernel_rfl⟩
instance:FnC Tryz.prog 184:=⟨_,Tryz.func184,by kernel_rfl,by kernel_rfl⟩
instance:FnC Tryz.prog 185:=⟨_,Tryz.func185,by kernel_rfl,by kernel_rfl⟩
instance:FnC Tryz.prog 186:=⟨_,Tryz.func186,by kernel_rfl,by kernel_rfl⟩
instance:FnC Tryz.prog 187:=⟨_,Tryz.func187,by kernel_rfl,by kernel_rfl⟩
instance:FnC Tryz.prog 188:=⟨_,Tryz.func188,by kernel_rfl,by kernel_rfl⟩
instance:FnC Tryz.prog 189:=⟨_,Tryz.func189,by kernel_rfl,by kernel_rfl⟩
instance:FnC Tryz.prog 190:=⟨_,Tryz.func190,by kernel_rfl,by kernel_rfl⟩
instance:FnC Tryz.prog 191:=⟨_,Tryz.func191,by kernel_rfl,by kernel_rfl⟩
instance:FnC Tryz.prog 192:=⟨_,Tryz.func192,by kernel_rfl,by kernel_rfl⟩
instance:FnC Tryz.prog 193:=⟨_,Tryz.func193,by kernel_rfl,by kernel_rfl⟩
instance:FnC Tryz.prog 194:=⟨_,Tryz.func194,by kernel_rfl,by kernel_rfl⟩
instance:FnC Tryz.prog 195:=⟨_,Tryz.func195,by kernel_rfl,by kernel_rfl⟩
instance:FnC Tryz.prog 196:=⟨_,Tryz.func196,by kernel_rfl,by kernel_rfl⟩
instance:FnC Tryz.prog 197:=⟨_,Tryz.func197,by kernel_rfl,by kernel_rfl⟩
end
end Go.Ev
