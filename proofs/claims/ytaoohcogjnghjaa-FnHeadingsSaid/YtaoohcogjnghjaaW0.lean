/- Parts W0. -/
import Derived.Test.YtaoohcogjnghjaaProg
import Derived.KernelRfl
import Derived.Test.YtaoohcogjnghjaaE5
set_option linter.all false
/- The typed data of this seat and the engine's instances, printed by program (inst.py). -/
namespace Go.Ev
noncomputable section
open Go.Proofs
theorem PPm:Try.prog.follows .mixedOrders=true:=by kernel_rfl
structure Pose where
  fTurn:Int
  fX:Int
  fY:Int
  deriving DecidableEq,Inhabited
def aD (y:Pose):List PV:=[.sc (.int .i64 y.fTurn),.sc (.int .i64 y.fX),.sc (.int .i64 y.fY)]
structure Factor where
  fId:Int
  fKind:Int
  fFrom:ByteArray
  fTo:ByteArray
  fPose:Pose
  fWeight:Int
  deriving DecidableEq,Inhabited
def aA (y:Factor):List PV:=[.sc (.int .i64 y.fId),.sc (.int .i64 y.fKind),.sc (.string y.fFrom),.sc (.string y.fTo),.sc (.int .i64 y.fPose.fTurn),.sc (.int .i64 y.fPose.fX),.sc (.int .i64 y.fPose.fY),.sc (.int .i64 y.fWeight)]
structure l01Cur where
  fb:(List Int)
  fi:Int
  fh:Int
  deriving DecidableEq,Inhabited
instance:TI Try.prog 3 1 false 8:=.of (by kernel_rfl)
instance:ZT Try.prog 3 [.sc (.int .i64 0)]:=.of (vals:=[.int .i64 0]) (by kernel_rfl) (by kernel_rfl) rfl
instance:UT Try.prog 3 (.int .i64):=⟨by kernel_rfl⟩
instance:TI Try.prog 4 1 false 1:=.of (by kernel_rfl)
instance:ZT Try.prog 4 [.sc (.bool false)]:=.of (vals:=[.bool false]) (by kernel_rfl) (by kernel_rfl) rfl
instance:UT Try.prog 4 .bool:=⟨by kernel_rfl⟩
instance:TI Try.prog 5 1 false 1:=.of (by kernel_rfl)
instance:ZT Try.prog 5 [.sc (.int .u8 0)]:=.of (vals:=[.int .u8 0]) (by kernel_rfl) (by kernel_rfl) rfl
instance:UT Try.prog 5 (.int .u8):=⟨by kernel_rfl⟩
instance:TI Try.prog 9 1 false 16:=.of (by kernel_rfl)
instance:ZT Try.prog 9 [.sc (.string ByteArray.empty)]:=.of (vals:=[.string ByteArray.empty]) (by kernel_rfl) (by kernel_rfl) rfl
instance:UT Try.prog 9 .string:=⟨by kernel_rfl⟩
instance:SlT Try.prog 24 3:=⟨by kernel_rfl⟩
instance:SlT Try.prog 26 59:=⟨by kernel_rfl⟩
instance:TI Try.prog 37 1 false 24:=.of (by kernel_rfl)
instance:SlT Try.prog 37 5:=⟨by kernel_rfl⟩
instance:SlT Try.prog 40 47:=⟨by kernel_rfl⟩
instance:SlT Try.prog 41 4:=⟨by kernel_rfl⟩
instance:SlT Try.prog 44 9:=⟨by kernel_rfl⟩
instance:TI Try.prog 47 3 true 24:=.of (by kernel_rfl)
instance:ZT Try.prog 47 [.sc (.int .i64 0),.sc (.int .i64 0),.sc (.int .i64 0)]:=.of (vals:=[.int .i64 0,.int .i64 0,.int .i64 0]) (by kernel_rfl) (by kernel_rfl) rfl
instance:FldT Try.prog 47 0 0:=.of (by kernel_rfl)
instance:FldT Try.prog 47 1 1:=.of (by kernel_rfl)
instance:FldT Try.prog 47 2 2:=.of (by kernel_rfl)
instance:TI Try.prog 59 8 true 80:=.of (by kernel_rfl)
instance:ZT Try.prog 59 [.sc (.int .i64 0),.sc (.int .i64 0),.sc (.string ByteArray.empty),.sc (.string ByteArray.empty),.sc (.int .i64 0),.sc (.int .i64 0),.sc (.int .i64 0),.sc (.int .i64 0)]:=.of (vals:=[.int .i64 0,.int .i64 0,.string ByteArray.empty,.string ByteArray.empty,.int .i64 0,.int .i64 0,.int .i64 0,.int .i64 0]) (by kernel_rfl) (by kernel_rfl) rfl
instance:FldT Try.prog 59 0 0:=.of (by kernel_rfl)
instance:FldT Try.prog 59 1 1:=.of (by kernel_rfl)
instance:FldT Try.prog 59 2 2:=.of (by kernel_rfl)
instance:FldT Try.prog 59 3 3:=.of (by kernel_rfl)
instance:FldT Try.prog 59 4 4:=.of (by kernel_rfl)
instance:FldT Try.prog 59 5 7:=.of (by kernel_rfl)
instance:ZT Try.prog 84 [.sc (.slice none 0 0),.sc (.int .i64 0),.sc (.int .i64 0)]:=.of (vals:=[.slice none 0 0,.int .i64 0,.int .i64 0]) (by kernel_rfl) (by kernel_rfl) rfl
instance:PlT Try.prog 84 [(0,1),(1,1),(2,1)]:=.of (by kernel_rfl)
instance:FldT Try.prog 84 0 0:=.of (by kernel_rfl)
instance:FldT Try.prog 84 1 1:=.of (by kernel_rfl)
instance:FldT Try.prog 84 2 2:=.of (by kernel_rfl)
instance:Dec Try.prog 5 (bB .u8) (okI .u8):=.int (by kernel_rfl)
instance:Dec Try.prog 37 (vH (bB .u8)) (okL (okI .u8)):=.slice (e:=5) (by kernel_rfl) 1 (by kernel_rfl) (by decide) (fun _=>rfl)
instance:FnC Try.prog 13:=⟨_,Try.func13,by kernel_rfl,by kernel_rfl⟩
instance:FnC Try.prog 20:=⟨_,Try.func20,by kernel_rfl,by kernel_rfl⟩
instance:FnC Try.prog 22:=⟨_,Try.func22,by kernel_rfl,by kernel_rfl⟩
instance:FnC Try.prog 23:=⟨_,Try.func23,by kernel_rfl,by kernel_rfl⟩
instance:FnC Try.prog 24:=⟨_,Try.func24,by kernel_rfl,by kernel_rfl⟩
instance:FnC Try.prog 25:=⟨_,Try.func25,by kernel_rfl,by kernel_rfl⟩
instance:FnC Try.prog 26:=⟨_,Try.func26,by kernel_rfl,by kernel_rfl⟩
instance:FnC Try.prog 27:=⟨_,Try.func27,by kernel_rfl,by kernel_rfl⟩
instance:FnC Try.prog 28:=⟨_,Try.func28,by kernel_rfl,by kernel_rfl⟩
instance:FnC Try.prog 44:=⟨_,Try.func44,by kernel_rfl,by kernel_rfl⟩
instance:FnC Try.prog 45:=⟨_,Try.func45,by kernel_rfl,by kernel_rfl⟩
instance:FnC Try.prog 48:=⟨_,Try.func48,by kernel_rfl,by kernel_rfl⟩
instance:FnC Try.prog 49:=⟨_,Try.func49,by kernel_rfl,by kernel_rfl⟩
instance:FnC Try.prog 50:=⟨_,Try.func50,by kernel_rfl,by kernel_rfl⟩
instance:FnC Try.prog 51:=⟨_,Try.func51,by kernel_rfl,by kernel_rfl⟩
instance:FnC Try.prog 52:=⟨_,Try.func52,by kernel_rfl,by kernel_rfl⟩
instance:FnC Try.prog 53:=⟨_,Try.func53,by kernel_rfl,by kernel_rfl⟩
instance:FnC Try.prog 59:=⟨_,Try.func59,by kernel_rfl,by kernel_rfl⟩
instance:FnC Try.prog 61:=⟨_,Try.func61,by kernel_rfl,by kernel_rfl⟩
instance:FnC Try.prog 62:=⟨_,Try.func62,by kernel_rfl,by kernel_rfl⟩
instance:FnC Try.prog 63:=⟨_,Try.func63,by kernel_rfl,by kernel_rfl⟩
instance:FnC Try.prog 64:=⟨_,Try.func64,by kernel_rfl,by kernel_rfl⟩
instance:FnC Try.prog 65:=⟨_,Try.func65,by kernel_rfl,by kernel_rfl⟩
instance:FnC Try.prog 66:=⟨_,Try.func66,by kernel_rfl,by kernel_rfl⟩
instance:FnC Try.prog 67:=⟨_,Try.func67,by kernel_rfl,by kernel_rfl⟩
instance:FnC Try.prog 68:=⟨_,Try.func68,by kernel_rfl,by kernel_rfl⟩
instance:FnC Try.prog 69:=⟨_,Try.func69,by kernel_rfl,by kernel_rfl⟩
instance:FnC Try.prog 70:=⟨_,Try.func70,by kernel_rfl,by kernel_rfl⟩
instance:FnC Try.prog 71:=⟨_,Try.func71,by kernel_rfl,by kernel_rfl⟩
instance:FnC Try.prog 72:=⟨_,Try.func72,by kernel_rfl,by kernel_rfl⟩
instance:FnC Try.prog 75:=⟨_,Try.func75,by kernel_rfl,by kernel_rfl⟩
instance:FnC Try.prog 76:=⟨_,Try.func76,by kernel_rfl,by kernel_rfl⟩
instance:FnC Try.prog 77:=⟨_,Try.func77,by kernel_rfl,by kernel_rfl⟩
instance:FnC Try.prog 78:=⟨_,Try.func78,by kernel_rfl,by kernel_rfl⟩
instance:FnC Try.prog 79:=⟨_,Try.func79,by kernel_rfl,by kernel_rfl⟩
instance:FnC Try.prog 80:=⟨_,Try.func80,by kernel_rfl,by kernel_rfl⟩
instance:FnC Try.prog 82:=⟨_,Try.func82,by kernel_rfl,by kernel_rfl⟩
instance:FnC Try.prog 83:=⟨_,Try.func83,by kernel_rfl,by kernel_rfl⟩
end
end Go.Ev
