/- Parts W0. -/
import Derived.Test.YtfloffdjklhooaaDoorProg
import Derived.KernelRfl
import Derived.Test.YtfloffdjklhooaaDoorE4
set_option linter.all false
/- The typed data of this seat and the engine's instances, printed by program (inst.py). -/
namespace Go.Ev
noncomputable section
open Go.Proofs
theorem PPm:Tryd.prog.follows .mixedOrders=true:=by kernel_rfl
structure Pose where
  fTurn:Int
  fX:Int
  fY:Int
  deriving DecidableEq,Inhabited
def dD (y:Pose):List PV:=[.sc (.int .i64 y.fTurn),.sc (.int .i64 y.fX),.sc (.int .i64 y.fY)]
structure Factor where
  fId:Int
  fKind:Int
  fFrom:ByteArray
  fTo:ByteArray
  fPose:Pose
  fWeight:Int
  deriving DecidableEq,Inhabited
def aM (y:Factor):List PV:=[.sc (.int .i64 y.fId),.sc (.int .i64 y.fKind),.sc (.string y.fFrom),.sc (.string y.fTo),.sc (.int .i64 y.fPose.fTurn),.sc (.int .i64 y.fPose.fX),.sc (.int .i64 y.fPose.fY),.sc (.int .i64 y.fWeight)]
instance:TI Tryd.prog 3 1 false 8:=.of (by kernel_rfl)
instance:UT Tryd.prog 3 (.int .i64):=⟨by kernel_rfl⟩
instance:UT Tryd.prog 4 .bool:=⟨by kernel_rfl⟩
instance:TI Tryd.prog 5 1 false 1:=.of (by kernel_rfl)
instance:ZT Tryd.prog 5 [.sc (.int .u8 0)]:=.of (vals:=[.int .u8 0]) (by kernel_rfl) (by kernel_rfl) rfl
instance:UT Tryd.prog 5 (.int .u8):=⟨by kernel_rfl⟩
instance:TI Tryd.prog 9 1 false 16:=.of (by kernel_rfl)
instance:ZT Tryd.prog 9 [.sc (.string ByteArray.empty)]:=.of (vals:=[.string ByteArray.empty]) (by kernel_rfl) (by kernel_rfl) rfl
instance:UT Tryd.prog 9 .string:=⟨by kernel_rfl⟩
instance:TI Tryd.prog 28 3 true 24:=.of (by kernel_rfl)
instance:ZT Tryd.prog 28 [.sc (.int .i64 0),.sc (.int .i64 0),.sc (.int .i64 0)]:=.of (vals:=[.int .i64 0,.int .i64 0,.int .i64 0]) (by kernel_rfl) (by kernel_rfl) rfl
instance:FldT Tryd.prog 28 0 0:=.of (by kernel_rfl)
instance:FldT Tryd.prog 28 1 1:=.of (by kernel_rfl)
instance:FldT Tryd.prog 28 2 2:=.of (by kernel_rfl)
instance:TI Tryd.prog 30 8 true 80:=.of (by kernel_rfl)
instance:ZT Tryd.prog 30 [.sc (.int .i64 0),.sc (.int .i64 0),.sc (.string ByteArray.empty),.sc (.string ByteArray.empty),.sc (.int .i64 0),.sc (.int .i64 0),.sc (.int .i64 0),.sc (.int .i64 0)]:=.of (vals:=[.int .i64 0,.int .i64 0,.string ByteArray.empty,.string ByteArray.empty,.int .i64 0,.int .i64 0,.int .i64 0,.int .i64 0]) (by kernel_rfl) (by kernel_rfl) rfl
instance:FldT Tryd.prog 30 0 0:=.of (by kernel_rfl)
instance:FldT Tryd.prog 30 1 1:=.of (by kernel_rfl)
instance:FldT Tryd.prog 30 2 2:=.of (by kernel_rfl)
instance:FldT Tryd.prog 30 3 3:=.of (by kernel_rfl)
instance:FldT Tryd.prog 30 4 4:=.of (by kernel_rfl)
instance:FldT Tryd.prog 30 5 7:=.of (by kernel_rfl)
instance:SlT Tryd.prog 38 9:=⟨by kernel_rfl⟩
instance:SlT Tryd.prog 50 5:=⟨by kernel_rfl⟩
instance:Dec Tryd.prog 9 fW okS:=.str (by kernel_rfl)
instance:FnC Tryd.prog 6:=⟨_,Tryd.func6,by kernel_rfl,by kernel_rfl⟩
instance:FnC Tryd.prog 8:=⟨_,Tryd.func8,by kernel_rfl,by kernel_rfl⟩
instance:FnC Tryd.prog 9:=⟨_,Tryd.func9,by kernel_rfl,by kernel_rfl⟩
instance:FnC Tryd.prog 10:=⟨_,Tryd.func10,by kernel_rfl,by kernel_rfl⟩
instance:FnC Tryd.prog 11:=⟨_,Tryd.func11,by kernel_rfl,by kernel_rfl⟩
instance:FnC Tryd.prog 12:=⟨_,Tryd.func12,by kernel_rfl,by kernel_rfl⟩
instance:FnC Tryd.prog 13:=⟨_,Tryd.func13,by kernel_rfl,by kernel_rfl⟩
instance:FnC Tryd.prog 14:=⟨_,Tryd.func14,by kernel_rfl,by kernel_rfl⟩
instance:FnC Tryd.prog 16:=⟨_,Tryd.func16,by kernel_rfl,by kernel_rfl⟩
instance:FnC Tryd.prog 17:=⟨_,Tryd.func17,by kernel_rfl,by kernel_rfl⟩
instance:FnC Tryd.prog 18:=⟨_,Tryd.func18,by kernel_rfl,by kernel_rfl⟩
instance:FnC Tryd.prog 19:=⟨_,Tryd.func19,by kernel_rfl,by kernel_rfl⟩
instance:FnC Tryd.prog 20:=⟨_,Tryd.func20,by kernel_rfl,by kernel_rfl⟩
instance:FnC Tryd.prog 21:=⟨_,Tryd.func21,by kernel_rfl,by kernel_rfl⟩
instance:FnC Tryd.prog 22:=⟨_,Tryd.func22,by kernel_rfl,by kernel_rfl⟩
instance:FnC Tryd.prog 23:=⟨_,Tryd.func23,by kernel_rfl,by kernel_rfl⟩
instance:FnC Tryd.prog 24:=⟨_,Tryd.func24,by kernel_rfl,by kernel_rfl⟩
instance:FnC Tryd.prog 25:=⟨_,Tryd.func25,by kernel_rfl,by kernel_rfl⟩
instance:FnC Tryd.prog 26:=⟨_,Tryd.func26,by kernel_rfl,by kernel_rfl⟩
instance:FnC Tryd.prog 27:=⟨_,Tryd.func27,by kernel_rfl,by kernel_rfl⟩
instance:FnC Tryd.prog 28:=⟨_,Tryd.func28,by kernel_rfl,by kernel_rfl⟩
instance:FnC Tryd.prog 29:=⟨_,Tryd.func29,by kernel_rfl,by kernel_rfl⟩
instance:FnC Tryd.prog 30:=⟨_,Tryd.func30,by kernel_rfl,by kernel_rfl⟩
instance:FnC Tryd.prog 31:=⟨_,Tryd.func31,by kernel_rfl,by kernel_rfl⟩
instance:FnC Tryd.prog 32:=⟨_,Tryd.func32,by kernel_rfl,by kernel_rfl⟩
instance:FnC Tryd.prog 33:=⟨_,Tryd.func33,by kernel_rfl,by kernel_rfl⟩
instance:FnC Tryd.prog 35:=⟨_,Tryd.func35,by kernel_rfl,by kernel_rfl⟩
instance:FnC Tryd.prog 36:=⟨_,Tryd.func36,by kernel_rfl,by kernel_rfl⟩
instance:FnC Tryd.prog 38:=⟨_,Tryd.func38,by kernel_rfl,by kernel_rfl⟩
instance:FnC Tryd.prog 39:=⟨_,Tryd.func39,by kernel_rfl,by kernel_rfl⟩
instance:FnC Tryd.prog 40:=⟨_,Tryd.func40,by kernel_rfl,by kernel_rfl⟩
end
end Go.Ev
