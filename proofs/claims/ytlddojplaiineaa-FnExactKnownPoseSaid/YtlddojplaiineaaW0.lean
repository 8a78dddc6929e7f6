/- The typed data of this seat and the engine's instances, printed by program (inst.py). -/
import Derived.Test.YtlddojplaiineaaProg
import Derived.KernelRfl
import Derived.Test.YtlddojplaiineaaEvX
set_option linter.all false
namespace Go.Ev
open Go.Proofs
theorem PPm : Try.prog.follows .mixedOrders = true := by kernel_rfl
theorem w64 {n : Int} (h : -9223372036854775808 ≤ n ∧ n ≤ 9223372036854775807) : IntKind.i64.wrap n = n := by
  rw [IntKind.wrap_i64]; omega
structure Pose where
  fTurn : Int
  fX : Int
  fY : Int
  deriving DecidableEq, Inhabited
def encPose (y : Pose) : List PV := [.sc (.int .i64 y.fTurn), .sc (.int .i64 y.fX), .sc (.int .i64 y.fY)]
def okPose (y : Pose) : Prop := (okI .i64) y.fTurn ∧ (okI .i64) y.fX ∧ (okI .i64) y.fY ∧ True
structure Factor where
  fId : Int
  fKind : Int
  fFrom : ByteArray
  fTo : ByteArray
  fPose : Pose
  fWeight : Int
  deriving DecidableEq, Inhabited
def encFactor (y : Factor) : List PV := [.sc (.int .i64 y.fId), .sc (.int .i64 y.fKind), .sc (.string y.fFrom), .sc (.string y.fTo), .sc (.int .i64 y.fPose.fTurn), .sc (.int .i64 y.fPose.fX), .sc (.int .i64 y.fPose.fY), .sc (.int .i64 y.fWeight)]
def okFactor (y : Factor) : Prop := (okI .i64) y.fId ∧ (okI .i64) y.fKind ∧ okS y.fFrom ∧ okS y.fTo ∧ okPose y.fPose ∧ (okI .i64) y.fWeight ∧ True
structure l01Cur where
  fb : (List Int)
  fi : Int
  fh : Int
  deriving DecidableEq, Inhabited
def encl01Cur (y : l01Cur) : List PV := [.sl y.fb.length (y.fb.flatMap (encI .u8)), .sc (.int .i64 y.fi), .sc (.int .i64 y.fh)]
def okl01Cur (y : l01Cur) : Prop := (okL (okI .u8)) y.fb ∧ (okI .i64) y.fi ∧ (okI .i64) y.fh ∧ True
instance : TI Try.prog 3 1 false 8 := .of (by kernel_rfl)
instance : ZT Try.prog 3 [.sc (.int .i64 0)] := .of (vals := [.int .i64 0]) (by kernel_rfl) (by kernel_rfl) rfl
instance : UT Try.prog 3 (.int .i64) := ⟨by kernel_rfl⟩
instance : TI Try.prog 4 1 false 1 := .of (by kernel_rfl)
instance : ZT Try.prog 4 [.sc (.bool false)] := .of (vals := [.bool false]) (by kernel_rfl) (by kernel_rfl) rfl
instance : UT Try.prog 4 .bool := ⟨by kernel_rfl⟩
instance : TI Try.prog 5 1 false 1 := .of (by kernel_rfl)
instance : ZT Try.prog 5 [.sc (.int .u8 0)] := .of (vals := [.int .u8 0]) (by kernel_rfl) (by kernel_rfl) rfl
instance : UT Try.prog 5 (.int .u8) := ⟨by kernel_rfl⟩
instance : TI Try.prog 9 1 false 16 := .of (by kernel_rfl)
instance : ZT Try.prog 9 [.sc (.string ByteArray.empty)] := .of (vals := [.string ByteArray.empty]) (by kernel_rfl) (by kernel_rfl) rfl
instance : UT Try.prog 9 .string := ⟨by kernel_rfl⟩
instance : TI Try.prog 22 1 false 24 := .of (by kernel_rfl)
instance : ZT Try.prog 22 [.sc (.slice none 0 0)] := .of (vals := [.slice none 0 0]) (by kernel_rfl) (by kernel_rfl) rfl
instance : SlT Try.prog 22 47 := ⟨by kernel_rfl⟩
instance : TI Try.prog 24 1 false 24 := .of (by kernel_rfl)
instance : ZT Try.prog 24 [.sc (.slice none 0 0)] := .of (vals := [.slice none 0 0]) (by kernel_rfl) (by kernel_rfl) rfl
instance : SlT Try.prog 24 3 := ⟨by kernel_rfl⟩
instance : TI Try.prog 26 1 false 24 := .of (by kernel_rfl)
instance : ZT Try.prog 26 [.sc (.slice none 0 0)] := .of (vals := [.slice none 0 0]) (by kernel_rfl) (by kernel_rfl) rfl
instance : SlT Try.prog 26 52 := ⟨by kernel_rfl⟩
instance : TI Try.prog 33 1 false 24 := .of (by kernel_rfl)
instance : ZT Try.prog 33 [.sc (.slice none 0 0)] := .of (vals := [.slice none 0 0]) (by kernel_rfl) (by kernel_rfl) rfl
instance : SlT Try.prog 33 9 := ⟨by kernel_rfl⟩
instance : TI Try.prog 45 3 true 24 := .of (by kernel_rfl)
instance : ZT Try.prog 45 [.sc (.int .i64 0), .sc (.int .i64 0), .sc (.int .i64 0)] := .of (vals := [.int .i64 0, .int .i64 0, .int .i64 0]) (by kernel_rfl) (by kernel_rfl) rfl
instance : FldT Try.prog 45 0 0 := .of (by kernel_rfl)
instance : FldT Try.prog 45 1 1 := .of (by kernel_rfl)
instance : FldT Try.prog 45 2 2 := .of (by kernel_rfl)
instance : TI Try.prog 47 8 true 80 := .of (by kernel_rfl)
instance : ZT Try.prog 47 [.sc (.int .i64 0), .sc (.int .i64 0), .sc (.string ByteArray.empty), .sc (.string ByteArray.empty), .sc (.int .i64 0), .sc (.int .i64 0), .sc (.int .i64 0), .sc (.int .i64 0)] := .of (vals := [.int .i64 0, .int .i64 0, .string ByteArray.empty, .string ByteArray.empty, .int .i64 0, .int .i64 0, .int .i64 0, .int .i64 0]) (by kernel_rfl) (by kernel_rfl) rfl
instance : FldT Try.prog 47 0 0 := .of (by kernel_rfl)
instance : FldT Try.prog 47 1 1 := .of (by kernel_rfl)
instance : FldT Try.prog 47 2 2 := .of (by kernel_rfl)
instance : FldT Try.prog 47 3 3 := .of (by kernel_rfl)
instance : FldT Try.prog 47 4 4 := .of (by kernel_rfl)
instance : FldT Try.prog 47 5 7 := .of (by kernel_rfl)
instance : TI Try.prog 50 3 true 24 := .of (by kernel_rfl)
instance : ZT Try.prog 50 [.sc (.int .i64 0), .sc (.int .i64 0), .sc (.int .i64 0)] := .of (vals := [.int .i64 0, .int .i64 0, .int .i64 0]) (by kernel_rfl) (by kernel_rfl) rfl
instance : FldT Try.prog 50 0 0 := .of (by kernel_rfl)
instance : FldT Try.prog 50 1 1 := .of (by kernel_rfl)
instance : FldT Try.prog 50 2 2 := .of (by kernel_rfl)
instance : TI Try.prog 52 8 true 80 := .of (by kernel_rfl)
instance : ZT Try.prog 52 [.sc (.int .i64 0), .sc (.int .i64 0), .sc (.string ByteArray.empty), .sc (.string ByteArray.empty), .sc (.int .i64 0), .sc (.int .i64 0), .sc (.int .i64 0), .sc (.int .i64 0)] := .of (vals := [.int .i64 0, .int .i64 0, .string ByteArray.empty, .string ByteArray.empty, .int .i64 0, .int .i64 0, .int .i64 0, .int .i64 0]) (by kernel_rfl) (by kernel_rfl) rfl
instance : FldT Try.prog 52 0 0 := .of (by kernel_rfl)
instance : FldT Try.prog 52 1 1 := .of (by kernel_rfl)
instance : FldT Try.prog 52 2 2 := .of (by kernel_rfl)
instance : FldT Try.prog 52 3 3 := .of (by kernel_rfl)
instance : FldT Try.prog 52 4 4 := .of (by kernel_rfl)
instance : FldT Try.prog 52 5 7 := .of (by kernel_rfl)
instance : TI Try.prog 55 1 false 24 := .of (by kernel_rfl)
instance : ZT Try.prog 55 [.sc (.slice none 0 0)] := .of (vals := [.slice none 0 0]) (by kernel_rfl) (by kernel_rfl) rfl
instance : SlT Try.prog 55 5 := ⟨by kernel_rfl⟩
instance : TI Try.prog 58 1 false 24 := .of (by kernel_rfl)
instance : ZT Try.prog 58 [.sc (.slice none 0 0)] := .of (vals := [.slice none 0 0]) (by kernel_rfl) (by kernel_rfl) rfl
instance : SlT Try.prog 58 50 := ⟨by kernel_rfl⟩
instance : TI Try.prog 59 1 false 24 := .of (by kernel_rfl)
instance : ZT Try.prog 59 [.sc (.slice none 0 0)] := .of (vals := [.slice none 0 0]) (by kernel_rfl) (by kernel_rfl) rfl
instance : SlT Try.prog 59 4 := ⟨by kernel_rfl⟩
instance : TI Try.prog 76 1 false 8 := .of (by kernel_rfl)
instance : ZT Try.prog 76 [.sc (.pointer none)] := .of (vals := [.pointer none]) (by kernel_rfl) (by kernel_rfl) rfl
instance : TI Try.prog 90 3 true 40 := .of (by kernel_rfl)
instance : ZT Try.prog 90 [.sc (.slice none 0 0), .sc (.int .i64 0), .sc (.int .i64 0)] := .of (vals := [.slice none 0 0, .int .i64 0, .int .i64 0]) (by kernel_rfl) (by kernel_rfl) rfl
instance : FldT Try.prog 90 0 0 := .of (by kernel_rfl)
instance : FldT Try.prog 90 1 1 := .of (by kernel_rfl)
instance : FldT Try.prog 90 2 2 := .of (by kernel_rfl)
instance : TI Try.prog 98 1 false 8 := .of (by kernel_rfl)
instance : ZT Try.prog 98 [.sc (.int .u64 0)] := .of (vals := [.int .u64 0]) (by kernel_rfl) (by kernel_rfl) rfl
instance : UT Try.prog 98 (.int .u64) := ⟨by kernel_rfl⟩
instance : Dec Try.prog 3 (encI .i64) (okI .i64) := .int (by kernel_rfl)
instance : Dec Try.prog 9 encS okS := .str (by kernel_rfl)
instance : Dec Try.prog 45 encPose okPose := .struct (n := 3) Try.underlying45 (by kernel_rfl) (DecF.cons (n := 1) rfl (by kernel_rfl) (fun _ => rfl) (DecF.cons (n := 1) rfl (by kernel_rfl) (fun _ => rfl) (DecF.cons (n := 1) rfl (by kernel_rfl) (fun _ => rfl) DecF.nil))) (fun y => ⟨y.1, y.2.1, y.2.2.1⟩) (fun _ => rfl) (fun _ h => h) (fun _ => rfl)
instance : Dec Try.prog 47 encFactor okFactor := .struct (n := 8) Try.underlying47 (by kernel_rfl) (DecF.cons (n := 1) rfl (by kernel_rfl) (fun _ => rfl) (DecF.cons (n := 1) rfl (by kernel_rfl) (fun _ => rfl) (DecF.cons (n := 1) rfl (by kernel_rfl) (fun _ => rfl) (DecF.cons (n := 1) rfl (by kernel_rfl) (fun _ => rfl) (DecF.cons (n := 3) rfl (by kernel_rfl) (fun _ => rfl) (DecF.cons (n := 1) rfl (by kernel_rfl) (fun _ => rfl) DecF.nil)))))) (fun y => ⟨y.1, y.2.1, y.2.2.1, y.2.2.2.1, y.2.2.2.2.1, y.2.2.2.2.2.1⟩) (fun _ => rfl) (fun _ h => h) (fun _ => rfl)
instance : Dec Try.prog 22 (encL encFactor) (okL okFactor) := .slice (e := 47) (by kernel_rfl) 8 (by kernel_rfl) (by decide) (fun _ => rfl)
instance : Dec Try.prog 5 (encI .u8) (okI .u8) := .int (by kernel_rfl)
instance : Dec Try.prog 55 (encL (encI .u8)) (okL (okI .u8)) := .slice (e := 5) (by kernel_rfl) 1 (by kernel_rfl) (by decide) (fun _ => rfl)
instance : FnC Try.prog 3 := ⟨_, Try.func3, by kernel_rfl, by kernel_rfl⟩
instance : FnC Try.prog 4 := ⟨_, Try.func4, by kernel_rfl, by kernel_rfl⟩
instance : FnC Try.prog 5 := ⟨_, Try.func5, by kernel_rfl, by kernel_rfl⟩
instance : FnC Try.prog 6 := ⟨_, Try.func6, by kernel_rfl, by kernel_rfl⟩
instance : FnC Try.prog 7 := ⟨_, Try.func7, by kernel_rfl, by kernel_rfl⟩
instance : FnC Try.prog 8 := ⟨_, Try.func8, by kernel_rfl, by kernel_rfl⟩
instance : FnC Try.prog 9 := ⟨_, Try.func9, by kernel_rfl, by kernel_rfl⟩
instance : FnC Try.prog 10 := ⟨_, Try.func10, by kernel_rfl, by kernel_rfl⟩
instance : FnC Try.prog 11 := ⟨_, Try.func11, by kernel_rfl, by kernel_rfl⟩
instance : FnC Try.prog 12 := ⟨_, Try.func12, by kernel_rfl, by kernel_rfl⟩
instance : FnC Try.prog 13 := ⟨_, Try.func13, by kernel_rfl, by kernel_rfl⟩
instance : FnC Try.prog 14 := ⟨_, Try.func14, by kernel_rfl, by kernel_rfl⟩
instance : FnC Try.prog 15 := ⟨_, Try.func15, by kernel_rfl, by kernel_rfl⟩
instance : FnC Try.prog 16 := ⟨_, Try.func16, by kernel_rfl, by kernel_rfl⟩
instance : FnC Try.prog 17 := ⟨_, Try.func17, by kernel_rfl, by kernel_rfl⟩
instance : FnC Try.prog 18 := ⟨_, Try.func18, by kernel_rfl, by kernel_rfl⟩
instance : FnC Try.prog 19 := ⟨_, Try.func19, by kernel_rfl, by kernel_rfl⟩
instance : FnC Try.prog 20 := ⟨_, Try.func20, by kernel_rfl, by kernel_rfl⟩
instance : FnC Try.prog 21 := ⟨_, Try.func21, by kernel_rfl, by kernel_rfl⟩
instance : FnC Try.prog 22 := ⟨_, Try.func22, by kernel_rfl, by kernel_rfl⟩
instance : FnC Try.prog 23 := ⟨_, Try.func23, by kernel_rfl, by kernel_rfl⟩
instance : FnC Try.prog 24 := ⟨_, Try.func24, by kernel_rfl, by kernel_rfl⟩
instance : FnC Try.prog 25 := ⟨_, Try.func25, by kernel_rfl, by kernel_rfl⟩
instance : FnC Try.prog 26 := ⟨_, Try.func26, by kernel_rfl, by kernel_rfl⟩
instance : FnC Try.prog 27 := ⟨_, Try.func27, by kernel_rfl, by kernel_rfl⟩
instance : FnC Try.prog 28 := ⟨_, Try.func28, by kernel_rfl, by kernel_rfl⟩
instance : FnC Try.prog 29 := ⟨_, Try.func29, by kernel_rfl, by kernel_rfl⟩
instance : FnC Try.prog 30 := ⟨_, Try.func30, by kernel_rfl, by kernel_rfl⟩
instance : FnC Try.prog 31 := ⟨_, Try.func31, by kernel_rfl, by kernel_rfl⟩
instance : FnC Try.prog 32 := ⟨_, Try.func32, by kernel_rfl, by kernel_rfl⟩
instance : FnC Try.prog 33 := ⟨_, Try.func33, by kernel_rfl, by kernel_rfl⟩
instance : FnC Try.prog 34 := ⟨_, Try.func34, by kernel_rfl, by kernel_rfl⟩
instance : FnC Try.prog 35 := ⟨_, Try.func35, by kernel_rfl, by kernel_rfl⟩
instance : FnC Try.prog 36 := ⟨_, Try.func36, by kernel_rfl, by kernel_rfl⟩
instance : FnC Try.prog 37 := ⟨_, Try.func37, by kernel_rfl, by kernel_rfl⟩
instance : FnC Try.prog 38 := ⟨_, Try.func38, by kernel_rfl, by kernel_rfl⟩
instance : FnC Try.prog 39 := ⟨_, Try.func39, by kernel_rfl, by kernel_rfl⟩
instance : FnC Try.prog 40 := ⟨_, Try.func40, by kernel_rfl, by kernel_rfl⟩
instance : FnC Try.prog 41 := ⟨_, Try.func41, by kernel_rfl, by kernel_rfl⟩
instance : FnC Try.prog 42 := ⟨_, Try.func42, by kernel_rfl, by kernel_rfl⟩
instance : FnC Try.prog 43 := ⟨_, Try.func43, by kernel_rfl, by kernel_rfl⟩
instance : FnC Try.prog 44 := ⟨_, Try.func44, by kernel_rfl, by kernel_rfl⟩
instance : FnC Try.prog 45 := ⟨_, Try.func45, by kernel_rfl, by kernel_rfl⟩
instance : FnC Try.prog 46 := ⟨_, Try.func46, by kernel_rfl, by kernel_rfl⟩
instance : FnC Try.prog 47 := ⟨_, Try.func47, by kernel_rfl, by kernel_rfl⟩
instance : FnC Try.prog 48 := ⟨_, Try.func48, by kernel_rfl, by kernel_rfl⟩
instance : FnC Try.prog 49 := ⟨_, Try.func49, by kernel_rfl, by kernel_rfl⟩
instance : FnC Try.prog 50 := ⟨_, Try.func50, by kernel_rfl, by kernel_rfl⟩
instance : FnC Try.prog 51 := ⟨_, Try.func51, by kernel_rfl, by kernel_rfl⟩
instance : FnC Try.prog 52 := ⟨_, Try.func52, by kernel_rfl, by kernel_rfl⟩
instance : FnC Try.prog 53 := ⟨_, Try.func53, by kernel_rfl, by kernel_rfl⟩
instance : FnC Try.prog 54 := ⟨_, Try.func54, by kernel_rfl, by kernel_rfl⟩
instance : FnC Try.prog 55 := ⟨_, Try.func55, by kernel_rfl, by kernel_rfl⟩
instance : FnC Try.prog 56 := ⟨_, Try.func56, by kernel_rfl, by kernel_rfl⟩
instance : FnC Try.prog 57 := ⟨_, Try.func57, by kernel_rfl, by kernel_rfl⟩
instance : FnC Try.prog 58 := ⟨_, Try.func58, by kernel_rfl, by kernel_rfl⟩
instance : FnC Try.prog 59 := ⟨_, Try.func59, by kernel_rfl, by kernel_rfl⟩
instance : FnC Try.prog 60 := ⟨_, Try.func60, by kernel_rfl, by kernel_rfl⟩
instance : FnC Try.prog 61 := ⟨_, Try.func61, by kernel_rfl, by kernel_rfl⟩
instance : FnC Try.prog 62 := ⟨_, Try.func62, by kernel_rfl, by kernel_rfl⟩
instance : FnC Try.prog 63 := ⟨_, Try.func63, by kernel_rfl, by kernel_rfl⟩
instance : FnC Try.prog 64 := ⟨_, Try.func64, by kernel_rfl, by kernel_rfl⟩
instance : FnC Try.prog 65 := ⟨_, Try.func65, by kernel_rfl, by kernel_rfl⟩
instance : FnC Try.prog 66 := ⟨_, Try.func66, by kernel_rfl, by kernel_rfl⟩
instance : FnC Try.prog 67 := ⟨_, Try.func67, by kernel_rfl, by kernel_rfl⟩
instance : FnC Try.prog 68 := ⟨_, Try.func68, by kernel_rfl, by kernel_rfl⟩
instance : FnC Try.prog 69 := ⟨_, Try.func69, by kernel_rfl, by kernel_rfl⟩
instance : FnC Try.prog 70 := ⟨_, Try.func70, by kernel_rfl, by kernel_rfl⟩
instance : FnC Try.prog 71 := ⟨_, Try.func71, by kernel_rfl, by kernel_rfl⟩
instance : FnC Try.prog 72 := ⟨_, Try.func72, by kernel_rfl, by kernel_rfl⟩
instance : FnC Try.prog 73 := ⟨_, Try.func73, by kernel_rfl, by kernel_rfl⟩
instance : FnC Try.prog 74 := ⟨_, Try.func74, by kernel_rfl, by kernel_rfl⟩
instance : FnC Try.prog 75 := ⟨_, Try.func75, by kernel_rfl, by kernel_rfl⟩
instance : FnC Try.prog 76 := ⟨_, Try.func76, by kernel_rfl, by kernel_rfl⟩
instance : FnC Try.prog 77 := ⟨_, Try.func77, by kernel_rfl, by kernel_rfl⟩
instance : FnC Try.prog 78 := ⟨_, Try.func78, by kernel_rfl, by kernel_rfl⟩
instance : FnC Try.prog 79 := ⟨_, Try.func79, by kernel_rfl, by kernel_rfl⟩
instance : FnC Try.prog 80 := ⟨_, Try.func80, by kernel_rfl, by kernel_rfl⟩
instance : FnC Try.prog 81 := ⟨_, Try.func81, by kernel_rfl, by kernel_rfl⟩
instance : FnC Try.prog 82 := ⟨_, Try.func82, by kernel_rfl, by kernel_rfl⟩
instance : FnC Try.prog 83 := ⟨_, Try.func83, by kernel_rfl, by kernel_rfl⟩
instance : FnC Try.prog 84 := ⟨_, Try.func84, by kernel_rfl, by kernel_rfl⟩
instance : FnC Try.prog 85 := ⟨_, Try.func85, by kernel_rfl, by kernel_rfl⟩
instance : FnC Try.prog 86 := ⟨_, Try.func86, by kernel_rfl, by kernel_rfl⟩
instance : FnC Try.prog 87 := ⟨_, Try.func87, by kernel_rfl, by kernel_rfl⟩
instance : FnC Try.prog 88 := ⟨_, Try.func88, by kernel_rfl, by kernel_rfl⟩
instance : FnC Try.prog 89 := ⟨_, Try.func89, by kernel_rfl, by kernel_rfl⟩
instance : FnC Try.prog 90 := ⟨_, Try.func90, by kernel_rfl, by kernel_rfl⟩
instance : FnC Try.prog 91 := ⟨_, Try.func91, by kernel_rfl, by kernel_rfl⟩
instance : FnC Try.prog 92 := ⟨_, Try.func92, by kernel_rfl, by kernel_rfl⟩
instance : FnC Try.prog 93 := ⟨_, Try.func93, by kernel_rfl, by kernel_rfl⟩
instance : FnC Try.prog 94 := ⟨_, Try.func94, by kernel_rfl, by kernel_rfl⟩
end Go.Ev
