/- The typed data of this seat and the engine's instances, printed by program (inst.py). -/
import Derived.Test.YtjldbhookjengaaProg
import Derived.KernelRfl
import Derived.Test.YtjldbhookjengaaEvP
set_option linter.all false
namespace Go.Ev
open Go.Proofs
theorem PPm : Try.prog.follows .mixedOrders = true := by kernel_rfl
theorem w64 {n : Int} (h : -9223372036854775808 ≤ n ∧ n ≤ 9223372036854775807) : IntKind.i64.wrap n = n := by
  rw [IntKind.wrap_i64]; omega
theorem io1 {P : Program} {N : Nat} {Γ : Ctx P N} (h : Γ.io = fun _ => none) (l : Nat) : Γ.io l = none := by rw [h]
structure Pose where
  fTurn : Int
  fX : Int
  fY : Int
  deriving DecidableEq, Inhabited
def encPose (y : Pose) : List PV := [.sc (.int .i64 y.fTurn), .sc (.int .i64 y.fX), .sc (.int .i64 y.fY)]
def okPose (y : Pose) : Prop := (okI .i64) y.fTurn ∧ (okI .i64) y.fX ∧ (okI .i64) y.fY ∧ True
structure Factor where
  fId : Int
  fKind : Int
  fFrom : ByteArray
  fTo : ByteArray
  fPose : Pose
  fWeight : Int
  deriving DecidableEq, Inhabited
def encFactor (y : Factor) : List PV := [.sc (.int .i64 y.fId), .sc (.int .i64 y.fKind), .sc (.string y.fFrom), .sc (.string y.fTo), .sc (.int .i64 y.fPose.fTurn), .sc (.int .i64 y.fPose.fX), .sc (.int .i64 y.fPose.fY), .sc (.int .i64 y.fWeight)]
def okFactor (y : Factor) : Prop := (okI .i64) y.fId ∧ (okI .i64) y.fKind ∧ okS y.fFrom ∧ okS y.fTo ∧ okPose y.fPose ∧ (okI .i64) y.fWeight ∧ True
structure Clique where
  fFrontal : (List Int)
  fSeparator : (List Int)
  fUp : Int
  deriving DecidableEq, Inhabited
def encClique (y : Clique) : List PV := [.sl y.fFrontal.length (y.fFrontal.flatMap (encI .i64)), .sl y.fSeparator.length (y.fSeparator.flatMap (encI .i64)), .sc (.int .i64 y.fUp)]
def okClique (y : Clique) : Prop := (okL (okI .i64)) y.fFrontal ∧ (okL (okI .i64)) y.fSeparator ∧ (okI .i64) y.fUp ∧ True
instance : TI Try.prog 3 1 false 8 := .of (by kernel_rfl)
instance : ZT Try.prog 3 [.sc (.int .i64 0)] := .of (vals := [.int .i64 0]) (by kernel_rfl) (by kernel_rfl) rfl
instance : UT Try.prog 3 (.int .i64) := ⟨by kernel_rfl⟩
instance : TI Try.prog 4 1 false 1 := .of (by kernel_rfl)
instance : ZT Try.prog 4 [.sc (.bool false)] := .of (vals := [.bool false]) (by kernel_rfl) (by kernel_rfl) rfl
instance : UT Try.prog 4 .bool := ⟨by kernel_rfl⟩
instance : TI Try.prog 5 1 false 1 := .of (by kernel_rfl)
instance : ZT Try.prog 5 [.sc (.int .u8 0)] := .of (vals := [.int .u8 0]) (by kernel_rfl) (by kernel_rfl) rfl
instance : UT Try.prog 5 (.int .u8) := ⟨by kernel_rfl⟩
instance : TI Try.prog 9 1 false 16 := .of (by kernel_rfl)
instance : ZT Try.prog 9 [.sc (.string ByteArray.empty)] := .of (vals := [.string ByteArray.empty]) (by kernel_rfl) (by kernel_rfl) rfl
instance : UT Try.prog 9 .string := ⟨by kernel_rfl⟩
instance : TI Try.prog 24 3 true 24 := .of (by kernel_rfl)
instance : ZT Try.prog 24 [.sc (.int .i64 0), .sc (.int .i64 0), .sc (.int .i64 0)] := .of (vals := [.int .i64 0, .int .i64 0, .int .i64 0]) (by kernel_rfl) (by kernel_rfl) rfl
instance : FldT Try.prog 24 0 0 := .of (by kernel_rfl)
instance : FldT Try.prog 24 1 1 := .of (by kernel_rfl)
instance : FldT Try.prog 24 2 2 := .of (by kernel_rfl)
instance : TI Try.prog 26 8 true 80 := .of (by kernel_rfl)
instance : ZT Try.prog 26 [.sc (.int .i64 0), .sc (.int .i64 0), .sc (.string ByteArray.empty), .sc (.string ByteArray.empty), .sc (.int .i64 0), .sc (.int .i64 0), .sc (.int .i64 0), .sc (.int .i64 0)] := .of (vals := [.int .i64 0, .int .i64 0, .string ByteArray.empty, .string ByteArray.empty, .int .i64 0, .int .i64 0, .int .i64 0, .int .i64 0]) (by kernel_rfl) (by kernel_rfl) rfl
instance : FldT Try.prog 26 0 0 := .of (by kernel_rfl)
instance : FldT Try.prog 26 1 1 := .of (by kernel_rfl)
instance : FldT Try.prog 26 2 2 := .of (by kernel_rfl)
instance : FldT Try.prog 26 3 3 := .of (by kernel_rfl)
instance : FldT Try.prog 26 4 4 := .of (by kernel_rfl)
instance : FldT Try.prog 26 5 7 := .of (by kernel_rfl)
instance : TI Try.prog 29 3 true 24 := .of (by kernel_rfl)
instance : ZT Try.prog 29 [.sc (.int .i64 0), .sc (.int .i64 0), .sc (.int .i64 0)] := .of (vals := [.int .i64 0, .int .i64 0, .int .i64 0]) (by kernel_rfl) (by kernel_rfl) rfl
instance : FldT Try.prog 29 0 0 := .of (by kernel_rfl)
instance : FldT Try.prog 29 1 1 := .of (by kernel_rfl)
instance : FldT Try.prog 29 2 2 := .of (by kernel_rfl)
instance : TI Try.prog 31 8 true 80 := .of (by kernel_rfl)
instance : ZT Try.prog 31 [.sc (.int .i64 0), .sc (.int .i64 0), .sc (.string ByteArray.empty), .sc (.string ByteArray.empty), .sc (.int .i64 0), .sc (.int .i64 0), .sc (.int .i64 0), .sc (.int .i64 0)] := .of (vals := [.int .i64 0, .int .i64 0, .string ByteArray.empty, .string ByteArray.empty, .int .i64 0, .int .i64 0, .int .i64 0, .int .i64 0]) (by kernel_rfl) (by kernel_rfl) rfl
instance : FldT Try.prog 31 0 0 := .of (by kernel_rfl)
instance : FldT Try.prog 31 1 1 := .of (by kernel_rfl)
instance : FldT Try.prog 31 2 2 := .of (by kernel_rfl)
instance : FldT Try.prog 31 3 3 := .of (by kernel_rfl)
instance : FldT Try.prog 31 4 4 := .of (by kernel_rfl)
instance : FldT Try.prog 31 5 7 := .of (by kernel_rfl)
instance : TI Try.prog 34 1 false 24 := .of (by kernel_rfl)
instance : ZT Try.prog 34 [.sc (.slice none 0 0)] := .of (vals := [.slice none 0 0]) (by kernel_rfl) (by kernel_rfl) rfl
instance : SlT Try.prog 34 62 := ⟨by kernel_rfl⟩
instance : TI Try.prog 37 1 false 24 := .of (by kernel_rfl)
instance : ZT Try.prog 37 [.sc (.slice none 0 0)] := .of (vals := [.slice none 0 0]) (by kernel_rfl) (by kernel_rfl) rfl
instance : SlT Try.prog 37 63 := ⟨by kernel_rfl⟩
instance : TI Try.prog 41 1 false 24 := .of (by kernel_rfl)
instance : ZT Try.prog 41 [.sc (.slice none 0 0)] := .of (vals := [.slice none 0 0]) (by kernel_rfl) (by kernel_rfl) rfl
instance : SlT Try.prog 41 26 := ⟨by kernel_rfl⟩
instance : TI Try.prog 43 1 false 24 := .of (by kernel_rfl)
instance : ZT Try.prog 43 [.sc (.slice none 0 0)] := .of (vals := [.slice none 0 0]) (by kernel_rfl) (by kernel_rfl) rfl
instance : SlT Try.prog 43 3 := ⟨by kernel_rfl⟩
instance : TI Try.prog 45 1 false 24 := .of (by kernel_rfl)
instance : ZT Try.prog 45 [.sc (.slice none 0 0)] := .of (vals := [.slice none 0 0]) (by kernel_rfl) (by kernel_rfl) rfl
instance : SlT Try.prog 45 31 := ⟨by kernel_rfl⟩
instance : TI Try.prog 52 1 false 24 := .of (by kernel_rfl)
instance : ZT Try.prog 52 [.sc (.slice none 0 0)] := .of (vals := [.slice none 0 0]) (by kernel_rfl) (by kernel_rfl) rfl
instance : SlT Try.prog 52 9 := ⟨by kernel_rfl⟩
instance : TI Try.prog 62 3 true 56 := .of (by kernel_rfl)
instance : ZT Try.prog 62 [.sc (.slice none 0 0), .sc (.slice none 0 0), .sc (.int .i64 0)] := .of (vals := [.slice none 0 0, .slice none 0 0, .int .i64 0]) (by kernel_rfl) (by kernel_rfl) rfl
instance : FldT Try.prog 62 0 0 := .of (by kernel_rfl)
instance : FldT Try.prog 62 1 1 := .of (by kernel_rfl)
instance : FldT Try.prog 62 2 2 := .of (by kernel_rfl)
instance : TI Try.prog 63 3 true 56 := .of (by kernel_rfl)
instance : ZT Try.prog 63 [.sc (.slice none 0 0), .sc (.slice none 0 0), .sc (.int .i64 0)] := .of (vals := [.slice none 0 0, .slice none 0 0, .int .i64 0]) (by kernel_rfl) (by kernel_rfl) rfl
instance : FldT Try.prog 63 0 0 := .of (by kernel_rfl)
instance : FldT Try.prog 63 1 1 := .of (by kernel_rfl)
instance : FldT Try.prog 63 2 2 := .of (by kernel_rfl)
instance : TI Try.prog 73 1 false 24 := .of (by kernel_rfl)
instance : ZT Try.prog 73 [.sc (.slice none 0 0)] := .of (vals := [.slice none 0 0]) (by kernel_rfl) (by kernel_rfl) rfl
instance : SlT Try.prog 73 5 := ⟨by kernel_rfl⟩
instance : Dec Try.prog 9 encS okS := .str (by kernel_rfl)
instance : Dec Try.prog 3 (encI .i64) (okI .i64) := .int (by kernel_rfl)
instance : Dec Try.prog 24 encPose okPose := .struct (n := 3) Try.underlying24 (by kernel_rfl) (DecF.cons (n := 1) rfl (by kernel_rfl) (fun _ => rfl) (DecF.cons (n := 1) rfl (by kernel_rfl) (fun _ => rfl) (DecF.cons (n := 1) rfl (by kernel_rfl) (fun _ => rfl) DecF.nil))) (fun y => ⟨y.1, y.2.1, y.2.2.1⟩) (fun _ => rfl) (fun _ h => h) (fun _ => rfl)
instance : Dec Try.prog 26 encFactor okFactor := .struct (n := 8) Try.underlying26 (by kernel_rfl) (DecF.cons (n := 1) rfl (by kernel_rfl) (fun _ => rfl) (DecF.cons (n := 1) rfl (by kernel_rfl) (fun _ => rfl) (DecF.cons (n := 1) rfl (by kernel_rfl) (fun _ => rfl) (DecF.cons (n := 1) rfl (by kernel_rfl) (fun _ => rfl) (DecF.cons (n := 3) rfl (by kernel_rfl) (fun _ => rfl) (DecF.cons (n := 1) rfl (by kernel_rfl) (fun _ => rfl) DecF.nil)))))) (fun y => ⟨y.1, y.2.1, y.2.2.1, y.2.2.2.1, y.2.2.2.2.1, y.2.2.2.2.2.1⟩) (fun _ => rfl) (fun _ h => h) (fun _ => rfl)
instance : Dec Try.prog 43 (encL (encI .i64)) (okL (okI .i64)) := .slice (e := 3) (by kernel_rfl) 1 (by kernel_rfl) (by decide) (fun _ => rfl)
instance : Dec Try.prog 62 encClique okClique := .struct (n := 3) Try.underlying62 (by kernel_rfl) (DecF.cons (n := 1) rfl (by kernel_rfl) (fun _ => rfl) (DecF.cons (n := 1) rfl (by kernel_rfl) (fun _ => rfl) (DecF.cons (n := 1) rfl (by kernel_rfl) (fun _ => rfl) DecF.nil))) (fun y => ⟨y.1, y.2.1, y.2.2.1⟩) (fun _ => rfl) (fun _ h => h) (fun _ => rfl)
instance : Dec Try.prog 34 (encL encClique) (okL okClique) := .slice (e := 62) (by kernel_rfl) 3 (by kernel_rfl) (by decide) (fun _ => rfl)
instance : Dec Try.prog 41 (encL encFactor) (okL okFactor) := .slice (e := 26) (by kernel_rfl) 8 (by kernel_rfl) (by decide) (fun _ => rfl)
instance : FnC Try.prog 3 := ⟨_, Try.func3, by kernel_rfl, by kernel_rfl⟩
instance : FnC Try.prog 4 := ⟨_, Try.func4, by kernel_rfl, by kernel_rfl⟩
instance : FnC Try.prog 5 := ⟨_, Try.func5, by kernel_rfl, by kernel_rfl⟩
instance : FnC Try.prog 6 := ⟨_, Try.func6, by kernel_rfl, by kernel_rfl⟩
instance : FnC Try.prog 7 := ⟨_, Try.func7, by kernel_rfl, by kernel_rfl⟩
instance : FnC Try.prog 8 := ⟨_, Try.func8, by kernel_rfl, by kernel_rfl⟩
instance : FnC Try.prog 9 := ⟨_, Try.func9, by kernel_rfl, by kernel_rfl⟩
instance : FnC Try.prog 10 := ⟨_, Try.func10, by kernel_rfl, by kernel_rfl⟩
instance : FnC Try.prog 11 := ⟨_, Try.func11, by kernel_rfl, by kernel_rfl⟩
instance : FnC Try.prog 12 := ⟨_, Try.func12, by kernel_rfl, by kernel_rfl⟩
instance : FnC Try.prog 13 := ⟨_, Try.func13, by kernel_rfl, by kernel_rfl⟩
instance : FnC Try.prog 14 := ⟨_, Try.func14, by kernel_rfl, by kernel_rfl⟩
instance : FnC Try.prog 15 := ⟨_, Try.func15, by kernel_rfl, by kernel_rfl⟩
instance : FnC Try.prog 16 := ⟨_, Try.func16, by kernel_rfl, by kernel_rfl⟩
instance : FnC Try.prog 17 := ⟨_, Try.func17, by kernel_rfl, by kernel_rfl⟩
instance : FnC Try.prog 18 := ⟨_, Try.func18, by kernel_rfl, by kernel_rfl⟩
instance : FnC Try.prog 19 := ⟨_, Try.func19, by kernel_rfl, by kernel_rfl⟩
instance : FnC Try.prog 20 := ⟨_, Try.func20, by kernel_rfl, by kernel_rfl⟩
instance : FnC Try.prog 21 := ⟨_, Try.func21, by kernel_rfl, by kernel_rfl⟩
instance : FnC Try.prog 22 := ⟨_, Try.func22, by kernel_rfl, by kernel_rfl⟩
instance : FnC Try.prog 23 := ⟨_, Try.func23, by kernel_rfl, by kernel_rfl⟩
instance : FnC Try.prog 24 := ⟨_, Try.func24, by kernel_rfl, by kernel_rfl⟩
instance : FnC Try.prog 25 := ⟨_, Try.func25, by kernel_rfl, by kernel_rfl⟩
instance : FnC Try.prog 26 := ⟨_, Try.func26, by kernel_rfl, by kernel_rfl⟩
instance : FnC Try.prog 27 := ⟨_, Try.func27, by kernel_rfl, by kernel_rfl⟩
instance : FnC Try.prog 28 := ⟨_, Try.func28, by kernel_rfl, by kernel_rfl⟩
instance : FnC Try.prog 29 := ⟨_, Try.func29, by kernel_rfl, by kernel_rfl⟩
instance : FnC Try.prog 30 := ⟨_, Try.func30, by kernel_rfl, by kernel_rfl⟩
instance : FnC Try.prog 31 := ⟨_, Try.func31, by kernel_rfl, by kernel_rfl⟩
instance : FnC Try.prog 32 := ⟨_, Try.func32, by kernel_rfl, by kernel_rfl⟩
instance : FnC Try.prog 33 := ⟨_, Try.func33, by kernel_rfl, by kernel_rfl⟩
instance : FnC Try.prog 34 := ⟨_, Try.func34, by kernel_rfl, by kernel_rfl⟩
instance : FnC Try.prog 35 := ⟨_, Try.func35, by kernel_rfl, by kernel_rfl⟩
instance : FnC Try.prog 36 := ⟨_, Try.func36, by kernel_rfl, by kernel_rfl⟩
instance : FnC Try.prog 37 := ⟨_, Try.func37, by kernel_rfl, by kernel_rfl⟩
instance : FnC Try.prog 38 := ⟨_, Try.func38, by kernel_rfl, by kernel_rfl⟩
instance : FnC Try.prog 39 := ⟨_, Try.func39, by kernel_rfl, by kernel_rfl⟩
instance : FnC Try.prog 40 := ⟨_, Try.func40, by kernel_rfl, by kernel_rfl⟩
instance : FnC Try.prog 41 := ⟨_, Try.func41, by kernel_rfl, by kernel_rfl⟩
instance : FnC Try.prog 42 := ⟨_, Try.func42, by kernel_rfl, by kernel_rfl⟩
instance : FnC Try.prog 43 := ⟨_, Try.func43, by kernel_rfl, by kernel_rfl⟩
instance : FnC Try.prog 44 := ⟨_, Try.func44, by kernel_rfl, by kernel_rfl⟩
instance : FnC Try.prog 45 := ⟨_, Try.func45, by kernel_rfl, by kernel_rfl⟩
instance : FnC Try.prog 46 := ⟨_, Try.func46, by kernel_rfl, by kernel_rfl⟩
instance : FnC Try.prog 47 := ⟨_, Try.func47, by kernel_rfl, by kernel_rfl⟩
instance : FnC Try.prog 48 := ⟨_, Try.func48, by kernel_rfl, by kernel_rfl⟩
instance : FnC Try.prog 49 := ⟨_, Try.func49, by kernel_rfl, by kernel_rfl⟩
instance : FnC Try.prog 50 := ⟨_, Try.func50, by kernel_rfl, by kernel_rfl⟩
instance : FnC Try.prog 51 := ⟨_, Try.func51, by kernel_rfl, by kernel_rfl⟩
instance : FnC Try.prog 52 := ⟨_, Try.func52, by kernel_rfl, by kernel_rfl⟩
instance : FnC Try.prog 53 := ⟨_, Try.func53, by kernel_rfl, by kernel_rfl⟩
instance : FnC Try.prog 54 := ⟨_, Try.func54, by kernel_rfl, by kernel_rfl⟩
end Go.Ev
