/- Parts W0. -/
import Derived.Test.YtpeojhbicpjnfaaGreatProg
import Derived.KernelRfl
import Derived.Test.YtpeojhbicpjnfaaGreatE6
set_option linter.all false
/- The typed data of this seat and the engine's instances, printed by program (inst.py). -/
namespace Go.Ev
noncomputable section
open Go.Proofs
theorem PPm:Tryz.prog.follows .mixedOrders=true:=by kernel_rfl
theorem w64 {n:Int} (h:-9223372036854775808≤n∧n≤9223372036854775807):IntKind.i64.wrap n=n:=by
  rw [IntKind.wrap_i64];omega
structure BigInt where
  fNeg:Bool
  fMag:(List Int)
  deriving DecidableEq,Inhabited
def cA (y:BigInt):List PV:=[.sc (.bool y.fNeg),.sl y.fMag.length (y.fMag.flatMap (aG .i64))]
def bZ (y:BigInt):List PV:=[.sc (.bool y.fNeg),.rw 1 y.fMag.length (y.fMag.flatMap (aG .i64))]
theorem fD (y:BigInt):SoftL (bZ y) (cA y):=(SoftL.cons (Soft.refl _) (SoftL.cons (Soft.rw (SoftL.refl _)) SoftL.nil))
def aCy (y:BigInt):Prop:=(fun _=>True) y.fNeg∧(okL (okI .i64)) y.fMag∧True
structure Rat where
  fNum:BigInt
  fDen:(List Int)
  deriving DecidableEq,Inhabited
def aP (y:Rat):List PV:=[.sc (.bool y.fNum.fNeg),.sl y.fNum.fMag.length (y.fNum.fMag.flatMap (aG .i64)),.sl y.fDen.length (y.fDen.flatMap (aG .i64))]
def aJ (y:Rat):List PV:=[.sc (.bool y.fNum.fNeg),.rw 1 y.fNum.fMag.length (y.fNum.fMag.flatMap (aG .i64)),.rw 1 y.fDen.length (y.fDen.flatMap (aG .i64))]
theorem cM (y:Rat):SoftL (aJ y) (aP y):=(SoftL.cons (Soft.refl _) (SoftL.cons (Soft.rw (SoftL.refl _)) (SoftL.cons (Soft.rw (SoftL.refl _)) SoftL.nil)))
def zB (y:Rat):Prop:=aCy y.fNum∧(okL (okI .i64)) y.fDen∧True
structure Link where
  fA:Int
  fB:Int
  fWeight:Rat
  fDX:Rat
  fDY:Rat
  deriving DecidableEq,Inhabited
def kB (y:Link):List PV:=[.sc (.int .i64 y.fA),.sc (.int .i64 y.fB),.sc (.bool y.fWeight.fNum.fNeg),.sl y.fWeight.fNum.fMag.length (y.fWeight.fNum.fMag.flatMap (aG .i64)),.sl y.fWeight.fDen.length (y.fWeight.fDen.flatMap (aG .i64)),.sc (.bool y.fDX.fNum.fNeg),.sl y.fDX.fNum.fMag.length (y.fDX.fNum.fMag.flatMap (aG .i64)),.sl y.fDX.fDen.length (y.fDX.fDen.flatMap (aG .i64)),.sc (.bool y.fDY.fNum.fNeg),.sl y.fDY.fNum.fMag.length (y.fDY.fNum.fMag.flatMap (aG .i64)),.sl y.fDY.fDen.length (y.fDY.fDen.flatMap (aG .i64))]
def dF (y:Link):List PV:=[.sc (.int .i64 y.fA),.sc (.int .i64 y.fB),.sc (.bool y.fWeight.fNum.fNeg),.rw 1 y.fWeight.fNum.fMag.length (y.fWeight.fNum.fMag.flatMap (aG .i64)),.rw 1 y.fWeight.fDen.length (y.fWeight.fDen.flatMap (aG .i64)),.sc (.bool y.fDX.fNum.fNeg),.rw 1 y.fDX.fNum.fMag.length (y.fDX.fNum.fMag.flatMap (aG .i64)),.rw 1 y.fDX.fDen.length (y.fDX.fDen.flatMap (aG .i64)),.sc (.bool y.fDY.fNum.fNeg),.rw 1 y.fDY.fNum.fMag.length (y.fDY.fNum.fMag.flatMap (aG .i64)),.rw 1 y.fDY.fDen.length (y.fDY.fDen.flatMap (aG .i64))]
theorem aER (y:Link):SoftL (dF y) (kB y):=(SoftL.cons (Soft.refl _) (SoftL.cons (Soft.refl _) (SoftL.cons (Soft.refl _) (SoftL.cons (Soft.rw (SoftL.refl _)) (SoftL.cons (Soft.rw (SoftL.refl _)) (SoftL.cons (Soft.refl _) (SoftL.cons (Soft.rw (SoftL.refl _)) (SoftL.cons (Soft.rw (SoftL.refl _)) (SoftL.cons (Soft.refl _) (SoftL.cons (Soft.rw (SoftL.refl _)) (SoftL.cons (Soft.rw (SoftL.refl _)) SoftL.nil)))))))))))
def aA5 (y:Link):Prop:=(okI .i64) y.fA∧(okI .i64) y.fB∧zB y.fWeight∧zB y.fDX∧zB y.fDY∧True
structure Parent where
  fNode:Int
  fShare:Rat
  fDX:Rat
  fDY:Rat
  deriving DecidableEq,Inhabited
def bA (y:Parent):List PV:=[.sc (.int .i64 y.fNode),.sc (.bool y.fShare.fNum.fNeg),.sl y.fShare.fNum.fMag.length (y.fShare.fNum.fMag.flatMap (aG .i64)),.sl y.fShare.fDen.length (y.fShare.fDen.flatMap (aG .i64)),.sc (.bool y.fDX.fNum.fNeg),.sl y.fDX.fNum.fMag.length (y.fDX.fNum.fMag.flatMap (aG .i64)),.sl y.fDX.fDen.length (y.fDX.fDen.flatMap (aG .i64)),.sc (.bool y.fDY.fNum.fNeg),.sl y.fDY.fNum.fMag.length (y.fDY.fNum.fMag.flatMap (aG .i64)),.sl y.fDY.fDen.length (y.fDY.fDen.flatMap (aG .i64))]
def bV (y:Parent):List PV:=[.sc (.int .i64 y.fNode),.sc (.bool y.fShare.fNum.fNeg),.rw 1 y.fShare.fNum.fMag.length (y.fShare.fNum.fMag.flatMap (aG .i64)),.rw 1 y.fShare.fDen.length (y.fShare.fDen.flatMap (aG .i64)),.sc (.bool y.fDX.fNum.fNeg),.rw 1 y.fDX.fNum.fMag.length (y.fDX.fNum.fMag.flatMap (aG .i64)),.rw 1 y.fDX.fDen.length (y.fDX.fDen.flatMap (aG .i64)),.sc (.bool y.fDY.fNum.fNeg),.rw 1 y.fDY.fNum.fMag.length (y.fDY.fNum.fMag.flatMap (aG .i64)),.rw 1 y.fDY.fDen.length (y.fDY.fDen.flatMap (aG .i64))]
theorem aCj (y:Parent):SoftL (bV y) (bA y):=(SoftL.cons (Soft.refl _) (SoftL.cons (Soft.refl _) (SoftL.cons (Soft.rw (SoftL.refl _)) (SoftL.cons (Soft.rw (SoftL.refl _)) (SoftL.cons (Soft.refl _) (SoftL.cons (Soft.rw (SoftL.refl _)) (SoftL.cons (Soft.rw (SoftL.refl _)) (SoftL.cons (Soft.refl _) (SoftL.cons (Soft.rw (SoftL.refl _)) (SoftL.cons (Soft.rw (SoftL.refl _)) SoftL.nil))))))))))
def xB (y:Parent):Prop:=(okI .i64) y.fNode∧zB y.fShare∧zB y.fDX∧zB y.fDY∧True
structure Conditional where
  fNode:Int
  fTotal:Rat
  fParents:(List Parent)
  deriving DecidableEq,Inhabited
def aF (y:Conditional):List PV:=[.sc (.int .i64 y.fNode),.sc (.bool y.fTotal.fNum.fNeg),.sl y.fTotal.fNum.fMag.length (y.fTotal.fNum.fMag.flatMap (aG .i64)),.sl y.fTotal.fDen.length (y.fTotal.fDen.flatMap (aG .i64)),.sl y.fParents.length (y.fParents.flatMap bA)]
def cY (y:Conditional):List PV:=[.sc (.int .i64 y.fNode),.sc (.bool y.fTotal.fNum.fNeg),.rw 1 y.fTotal.fNum.fMag.length (y.fTotal.fNum.fMag.flatMap (aG .i64)),.rw 1 y.fTotal.fDen.length (y.fTotal.fDen.flatMap (aG .i64)),.rw 10 y.fParents.length (y.fParents.flatMap bV)]
theorem wE (y:Conditional):SoftL (cY y) (aF y):=(SoftL.cons (Soft.refl _) (SoftL.cons (Soft.refl _) (SoftL.cons (Soft.rw (SoftL.refl _)) (SoftL.cons (Soft.rw (SoftL.refl _)) (SoftL.cons (Soft.rw (SoftL.flat aCj _)) SoftL.nil)))))
def uL (y:Conditional):Prop:=(okI .i64) y.fNode∧zB y.fTotal∧(okL xB) y.fParents∧True
structure TreeNode where
  fNode:Int
  fUp:Int
  fOwn:(List Link)
  fCond:Conditional
  fMessages:(List Link)
  fEnergy:Rat
  deriving DecidableEq,Inhabited
def bX (y:TreeNode):List PV:=[.sc (.int .i64 y.fNode),.sc (.int .i64 y.fUp),.sl y.fOwn.length (y.fOwn.flatMap kB),.sc (.int .i64 y.fCond.fNode),.sc (.bool y.fCond.fTotal.fNum.fNeg),.sl y.fCond.fTotal.fNum.fMag.length (y.fCond.fTotal.fNum.fMag.flatMap (aG .i64)),.sl y.fCond.fTotal.fDen.length (y.fCond.fTotal.fDen.flatMap (aG .i64)),.sl y.fCond.fParents.length (y.fCond.fParents.flatMap bA),.sl y.fMessages.length (y.fMessages.flatMap kB),.sc (.bool y.fEnergy.fNum.fNeg),.sl y.fEnergy.fNum.fMag.length (y.fEnergy.fNum.fMag.flatMap (aG .i64)),.sl y.fEnergy.fDen.length (y.fEnergy.fDen.flatMap (aG .i64))]
def cD (y:TreeNode):List PV:=[.sc (.int .i64 y.fNode),.sc (.int .i64 y.fUp),.rw 11 y.fOwn.length (y.fOwn.flatMap dF),.sc (.int .i64 y.fCond.fNode),.sc (.bool y.fCond.fTotal.fNum.fNeg),.rw 1 y.fCond.fTotal.fNum.fMag.length (y.fCond.fTotal.fNum.fMag.flatMap (aG .i64)),.rw 1 y.fCond.fTotal.fDen.length (y.fCond.fTotal.fDen.flatMap (aG .i64)),.rw 10 y.fCond.fParents.length (y.fCond.fParents.flatMap bV),.rw 11 y.fMessages.length (y.fMessages.flatMap dF),.sc (.bool y.fEnergy.fNum.fNeg),.rw 1 y.fEnergy.fNum.fMag.length (y.fEnergy.fNum.fMag.flatMap (aG .i64)),.rw 1 y.fEnergy.fDen.length (y.fEnergy.fDen.flatMap (aG .i64))]
theorem aD4 (y:TreeNode):SoftL (cD y) (bX y):=(SoftL.cons (Soft.refl _) (SoftL.cons (Soft.refl _) (SoftL.cons (Soft.rw (SoftL.flat aER _)) (SoftL.cons (Soft.refl _) (SoftL.cons (Soft.refl _) (SoftL.cons (Soft.rw (SoftL.refl _)) (SoftL.cons (Soft.rw (SoftL.refl _)) (SoftL.cons (Soft.rw (SoftL.flat aCj _)) (SoftL.cons (Soft.rw (SoftL.flat aER _)) (SoftL.cons (Soft.refl _) (SoftL.cons (Soft.rw (SoftL.refl _)) (SoftL.cons (Soft.rw (SoftL.refl _)) SoftL.nil))))))))))))
def tK (y:TreeNode):Prop:=(okI .i64) y.fNode∧(okI .i64) y.fUp∧(okL aA5) y.fOwn∧uL y.fCond∧(okL aA5) y.fMessages∧zB y.fEnergy∧True
structure Tree where
  fNodes:(List TreeNode)
  deriving DecidableEq,Inhabited
def cS (y:Tree):List PV:=[.sl y.fNodes.length (y.fNodes.flatMap bX)]
def nY (y:Tree):List PV:=[.rw 12 y.fNodes.length (y.fNodes.flatMap cD)]
theorem kW (y:Tree):SoftL (nY y) (cS y):=(SoftL.cons (Soft.rw (SoftL.flat aD4 _)) SoftL.nil)
def xA (y:Tree):Prop:=(okL tK) y.fNodes∧True
structure Point where
  fX:Rat
  fY:Rat
  deriving DecidableEq,Inhabited
instance:TI Tryz.prog 3 1 false 8:=.of (by kernel_rfl)
instance:ZT Tryz.prog 3 [.sc (.int .i64 0)]:=.of (vals:=[.int .i64 0]) (by kernel_rfl) (by kernel_rfl) rfl
instance:UT Tryz.prog 3 (.int .i64):=⟨by kernel_rfl⟩
instance:TI Tryz.prog 4 1 false 1:=.of (by kernel_rfl)
instance:UT Tryz.prog 4 .bool:=⟨by kernel_rfl⟩
instance:TI Tryz.prog 24 1 false 24:=.of (by kernel_rfl)
instance:SlT Tryz.prog 24 3:=⟨by kernel_rfl⟩
instance:TI Tryz.prog 26 2 true 32:=.of (by kernel_rfl)
instance:ZT Tryz.prog 26 [.sc (.bool false),.sc (.slice none 0 0)]:=.of (vals:=[.bool false,.slice none 0 0]) (by kernel_rfl) (by kernel_rfl) rfl
instance:PlT Tryz.prog 26 [(0,1),(1,1)]:=.of (by kernel_rfl)
instance:FldT Tryz.prog 26 0 0:=.of (by kernel_rfl)
instance:FldT Tryz.prog 26 1 1:=.of (by kernel_rfl)
instance:TI Tryz.prog 28 3 true 56:=.of (by kernel_rfl)
instance:ZT Tryz.prog 28 [.sc (.bool false),.sc (.slice none 0 0),.sc (.slice none 0 0)]:=.of (vals:=[.bool false,.slice none 0 0,.slice none 0 0]) (by kernel_rfl) (by kernel_rfl) rfl
instance:PlT Tryz.prog 28 [(0,2),(2,1)]:=.of (by kernel_rfl)
instance:FldT Tryz.prog 28 0 0:=.of (by kernel_rfl)
instance:FldT Tryz.prog 28 1 2:=.of (by kernel_rfl)
instance:SlT Tryz.prog 30 72:=⟨by kernel_rfl⟩
instance:TI Tryz.prog 37 1 false 24:=.of (by kernel_rfl)
instance:SlT Tryz.prog 37 119:=⟨by kernel_rfl⟩
instance:TI Tryz.prog 39 1 true 24:=.of (by kernel_rfl)
instance:FldT Tryz.prog 39 0 0:=.of (by kernel_rfl)
instance:TI Tryz.prog 42 1 false 24:=.of (by kernel_rfl)
instance:SlT Tryz.prog 42 99:=⟨by kernel_rfl⟩
instance:TI Tryz.prog 44 1 true 24:=.of (by kernel_rfl)
instance:ZT Tryz.prog 44 [.sc (.slice none 0 0)]:=.of (vals:=[.slice none 0 0]) (by kernel_rfl) (by kernel_rfl) rfl
instance:FldT Tryz.prog 44 0 0:=.of (by kernel_rfl)
instance:TI Tryz.prog 58 1 false 24:=.of (by kernel_rfl)
instance:ZT Tryz.prog 58 [.sc (.slice none 0 0)]:=.of (vals:=[.slice none 0 0]) (by kernel_rfl) (by kernel_rfl) rfl
instance:SlT Tryz.prog 58 28:=⟨by kernel_rfl⟩
instance:TI Tryz.prog 63 2 true 32:=.of (by kernel_rfl)
instance:FldT Tryz.prog 63 0 0:=.of (by kernel_rfl)
instance:FldT Tryz.prog 63 1 1:=.of (by kernel_rfl)
instance:TI Tryz.prog 65 3 true 56:=.of (by kernel_rfl)
instance:FldT Tryz.prog 65 0 0:=.of (by kernel_rfl)
instance:FldT Tryz.prog 65 1 2:=.of (by kernel_rfl)
instance:TI Tryz.prog 66 1 false 24:=.of (by kernel_rfl)
instance:SlT Tryz.prog 66 133:=⟨by kernel_rfl⟩
instance:TI Tryz.prog 68 5 true 88:=.of (by kernel_rfl)
instance:FldT Tryz.prog 68 0 0:=.of (by kernel_rfl)
instance:FldT Tryz.prog 68 1 1:=.of (by kernel_rfl)
instance:FldT Tryz.prog 68 2 4:=.of (by kernel_rfl)
instance:TI Tryz.prog 70 1 false 24:=.of (by kernel_rfl)
instance:SlT Tryz.prog 70 79:=⟨by kernel_rfl⟩
instance:TI Tryz.prog 72 5 true 88:=.of (by kernel_rfl)
instance:ZT Tryz.prog 72 [.sc (.int .i64 0),.sc (.bool false),.sc (.slice none 0 0),.sc (.slice none 0 0),.sc (.slice none 0 0)]:=.of (vals:=[.int .i64 0,.bool false,.slice none 0 0,.slice none 0 0,.slice none 0 0]) (by kernel_rfl) (by kernel_rfl) rfl
instance:PlT Tryz.prog 72 [(0,1),(1,3),(4,1)]:=.of (by kernel_rfl)
instance:FldT Tryz.prog 72 0 0:=.of (by kernel_rfl)
instance:FldT Tryz.prog 72 1 1:=.of (by kernel_rfl)
instance:FldT Tryz.prog 72 2 4:=.of (by kernel_rfl)
instance:TI Tryz.prog 75 30 true 560:=.of (by kernel_rfl)
instance:ArT Tryz.prog 75 10 28:=⟨by kernel_rfl⟩
instance:ZT Tryz.prog 76 (((List.replicate 100 [.bool false,.slice none 0 0,.slice none 0 0]).flatten).map .sc):=.of (vals:=(List.replicate 100 [.bool false,.slice none 0 0,.slice none 0 0]).flatten) (by kernel_rfl) (by kernel_rfl) rfl
instance:ArT Tryz.prog 76 10 75:=⟨by kernel_rfl⟩
instance:TI Tryz.prog 79 10 true 176:=.of (by kernel_rfl)
instance:ZT Tryz.prog 79 [.sc (.int .i64 0),.sc (.bool false),.sc (.slice none 0 0),.sc (.slice none 0 0),.sc (.bool false),.sc (.slice none 0 0),.sc (.slice none 0 0),.sc (.bool false),.sc (.slice none 0 0),.sc (.slice none 0 0)]:=.of (vals:=[.int .i64 0,.bool false,.slice none 0 0,.slice none 0 0,.bool false,.slice none 0 0,.slice none 0 0,.bool false,.slice none 0 0,.slice none 0 0]) (by kernel_rfl) (by kernel_rfl) rfl
instance:PlT Tryz.prog 79 [(0,1),(1,3),(4,3),(7,3)]:=.of (by kernel_rfl)
instance:FldT Tryz.prog 79 0 0:=.of (by kernel_rfl)
instance:FldT Tryz.prog 79 1 1:=.of (by kernel_rfl)
instance:FldT Tryz.prog 79 2 4:=.of (by kernel_rfl)
instance:FldT Tryz.prog 79 3 7:=.of (by kernel_rfl)
instance:TI Tryz.prog 97 1 false 24:=.of (by kernel_rfl)
instance:SlT Tryz.prog 97 154:=⟨by kernel_rfl⟩
instance:TI Tryz.prog 99 12 true 208:=.of (by kernel_rfl)
instance:ZT Tryz.prog 99 [.sc (.int .i64 0),.sc (.int .i64 0),.sc (.slice none 0 0),.sc (.int .i64 0),.sc (.bool false),.sc (.slice none 0 0),.sc (.slice none 0 0),.sc (.slice none 0 0),.sc (.slice none 0 0),.sc (.bool false),.sc (.slice none 0 0),.sc (.slice none 0 0)]:=.of (vals:=[.int .i64 0,.int .i64 0,.slice none 0 0,.int .i64 0,.bool false,.slice none 0 0,.slice none 0 0,.slice none 0 0,.slice none 0 0,.bool false,.slice none 0 0,.slice none 0 0]) (by kernel_rfl) (by kernel_rfl) rfl
instance:FldT Tryz.prog 99 0 0:=.of (by kernel_rfl)
instance:FldT Tryz.prog 99 1 1:=.of (by kernel_rfl)
instance:FldT Tryz.prog 99 2 2:=.of (by kernel_rfl)
instance:FldT Tryz.prog 99 3 3:=.of (by kernel_rfl)
instance:FldT Tryz.prog 99 4 8:=.of (by kernel_rfl)
instance:FldT Tryz.prog 99 5 9:=.of (by kernel_rfl)
instance:SlT Tryz.prog 103 58:=⟨by kernel_rfl⟩
instance:TI Tryz.prog 117 1 false 24:=.of (by kernel_rfl)
instance:SlT Tryz.prog 117 161:=⟨by kernel_rfl⟩
instance:TI Tryz.prog 119 12 true 208:=.of (by kernel_rfl)
instance:FldT Tryz.prog 119 0 0:=.of (by kernel_rfl)
instance:FldT Tryz.prog 119 1 1:=.of (by kernel_rfl)
instance:FldT Tryz.prog 119 2 2:=.of (by kernel_rfl)
instance:FldT Tryz.prog 119 3 3:=.of (by kernel_rfl)
instance:FldT Tryz.prog 119 4 8:=.of (by kernel_rfl)
instance:FldT Tryz.prog 119 5 9:=.of (by kernel_rfl)
instance:TI Tryz.prog 133 10 true 176:=.of (by kernel_rfl)
instance:FldT Tryz.prog 133 0 0:=.of (by kernel_rfl)
instance:FldT Tryz.prog 133 1 1:=.of (by kernel_rfl)
instance:FldT Tryz.prog 133 2 4:=.of (by kernel_rfl)
instance:FldT Tryz.prog 133 3 7:=.of (by kernel_rfl)
instance:UT Tryz.prog 141 (.int .u64):=⟨by kernel_rfl⟩
instance:TI Tryz.prog 154 11 true 184:=.of (by kernel_rfl)
instance:ZT Tryz.prog 154 [.sc (.int .i64 0),.sc (.int .i64 0),.sc (.bool false),.sc (.slice none 0 0),.sc (.slice none 0 0),.sc (.bool false),.sc (.slice none 0 0),.sc (.slice none 0 0),.sc (.bool false),.sc (.slice none 0 0),.sc (.slice none 0 0)]:=.of (vals:=[.int .i64 0,.int .i64 0,.bool false,.slice none 0 0,.slice none 0 0,.bool false,.slice none 0 0,.slice none 0 0,.bool false,.slice none 0 0,.slice none 0 0]) (by kernel_rfl) (by kernel_rfl) rfl
instance:FldT Tryz.prog 154 0 0:=.of (by kernel_rfl)
instance:FldT Tryz.prog 154 1 1:=.of (by kernel_rfl)
instance:FldT Tryz.prog 154 2 2:=.of (by kernel_rfl)
instance:FldT Tryz.prog 154 3 5:=.of (by kernel_rfl)
instance:FldT Tryz.prog 154 4 8:=.of (by kernel_rfl)
instance:TI Tryz.prog 161 11 true 184:=.of (by kernel_rfl)
instance:FldT Tryz.prog 161 0 0:=.of (by kernel_rfl)
instance:FldT Tryz.prog 161 1 1:=.of (by kernel_rfl)
instance:FldT Tryz.prog 161 2 2:=.of (by kernel_rfl)
instance:FldT Tryz.prog 161 3 5:=.of (by kernel_rfl)
instance:FldT Tryz.prog 161 4 8:=.of (by kernel_rfl)
instance:Dec Tryz.prog 3 (aG .i64) (okI .i64):=.int (by kernel_rfl)
instance:Dec Tryz.prog 4 aJG (fun _=>True):=.bool (by kernel_rfl)
instance:Dec Tryz.prog 24 (aBR (aG .i64)) (okL (okI .i64)):=.slice (e:=3) (by kernel_rfl) 1 (by kernel_rfl) (by decide) (fun _=>rfl)
instance:Dec Tryz.prog 63 cA aCy:=.struct (n:=2) Tryz.underlying63 (by kernel_rfl) (DecF.cons (n:=1) rfl (by kernel_rfl) (fun _=>rfl) (DecF.cons (n:=1) rfl (by kernel_rfl) (fun _=>rfl) DecF.nil)) (fun y=>⟨y.1,y.2.1⟩) (fun _=>rfl) (fun _ h=>h) (fun _=>rfl)
instance:Dec Tryz.prog 65 aP zB:=.struct (n:=3) Tryz.underlying65 (by kernel_rfl) (DecF.cons (n:=2) rfl (by kernel_rfl) (fun _=>rfl) (DecF.cons (n:=1) rfl (by kernel_rfl) (fun _=>rfl) DecF.nil)) (fun y=>⟨y.1,y.2.1⟩) (fun _=>rfl) (fun _ h=>h) (fun _=>rfl)
instance:Dec Tryz.prog 133 bA xB:=.struct (n:=10) Tryz.underlying133 (by kernel_rfl) (DecF.cons (n:=1) rfl (by kernel_rfl) (fun _=>rfl) (DecF.cons (n:=3) rfl (by kernel_rfl) (fun _=>rfl) (DecF.cons (n:=3) rfl (by kernel_rfl) (fun _=>rfl) (DecF.cons (n:=3) rfl (by kernel_rfl) (fun _=>rfl) DecF.nil)))) (fun y=>⟨y.1,y.2.1,y.2.2.1,y.2.2.2.1⟩) (fun _=>rfl) (fun _ h=>h) (fun _=>rfl)
instance:Dec Tryz.prog 66 (aBR bA) (okL xB):=.slice (e:=133) (by kernel_rfl) 10 (by kernel_rfl) (by decide) (fun _=>rfl)
instance:Dec Tryz.prog 68 aF uL:=.struct (n:=5) Tryz.underlying68 (by kernel_rfl) (DecF.cons (n:=1) rfl (by kernel_rfl) (fun _=>rfl) (DecF.cons (n:=3) rfl (by kernel_rfl) (fun _=>rfl) (DecF.cons (n:=1) rfl (by kernel_rfl) (fun _=>rfl) DecF.nil))) (fun y=>⟨y.1,y.2.1,y.2.2.1⟩) (fun _=>rfl) (fun _ h=>h) (fun _=>rfl)
instance:Dec Tryz.prog 161 kB aA5:=.struct (n:=11) Tryz.underlying161 (by kernel_rfl) (DecF.cons (n:=1) rfl (by kernel_rfl) (fun _=>rfl) (DecF.cons (n:=1) rfl (by kernel_rfl) (fun _=>rfl) (DecF.cons (n:=3) rfl (by kernel_rfl) (fun _=>rfl) (DecF.cons (n:=3) rfl (by kernel_rfl) (fun _=>rfl) (DecF.cons (n:=3) rfl (by kernel_rfl) (fun _=>rfl) DecF.nil))))) (fun y=>⟨y.1,y.2.1,y.2.2.1,y.2.2.2.1,y.2.2.2.2.1⟩) (fun _=>rfl) (fun _ h=>h) (fun _=>rfl)
instance:Dec Tryz.prog 117 (aBR kB) (okL aA5):=.slice (e:=161) (by kernel_rfl) 11 (by kernel_rfl) (by decide) (fun _=>rfl)
instance:Dec Tryz.prog 119 bX tK:=.struct (n:=12) Tryz.underlying119 (by kernel_rfl) (DecF.cons (n:=1) rfl (by kernel_rfl) (fun _=>rfl) (DecF.cons (n:=1) rfl (by kernel_rfl) (fun _=>rfl) (DecF.cons (n:=1) rfl (by kernel_rfl) (fun _=>rfl) (DecF.cons (n:=5) rfl (by kernel_rfl) (fun _=>rfl) (DecF.cons (n:=1) rfl (by kernel_rfl) (fun _=>rfl) (DecF.cons (n:=3) rfl (by kernel_rfl) (fun _=>rfl) DecF.nil)))))) (fun y=>⟨y.1,y.2.1,y.2.2.1,y.2.2.2.1,y.2.2.2.2.1,y.2.2.2.2.2.1⟩) (fun _=>rfl) (fun _ h=>h) (fun _=>rfl)
instance:Dec Tryz.prog 37 (aBR bX) (okL tK):=.slice (e:=119) (by kernel_rfl) 12 (by kernel_rfl) (by decide) (fun _=>rfl)
instance:Dec Tryz.prog 39 cS xA:=.struct (n:=1) Tryz.underlying39 (by kernel_rfl) (DecF.cons (n:=1) rfl (by kernel_rfl) (fun _=>rfl) DecF.nil) (fun y=>⟨y.1⟩) (fun _=>rfl) (fun _ h=>h) (fun _=>rfl)
instance:FnC Tryz.prog 12:=⟨_,Tryz.func12,by kernel_rfl,by kernel_rfl⟩
instance:FnC Tryz.prog 14:=⟨_,Tryz.func14,by kernel_rfl,by kernel_rfl⟩
instance:FnC Tryz.prog 15:=⟨_,Tryz.func15,by kernel_rfl,by kernel_rfl⟩
instance:FnC Tryz.prog 20:=⟨_,Tryz.func20,by kernel_rfl,by kernel_rfl⟩
instance:FnC Tryz.prog 21:=⟨_,Tryz.func21,by kernel_rfl,by kernel_rfl⟩
instance:FnC Tryz.prog 22:=⟨_,Tryz.func22,by kernel_rfl,by kernel_rfl⟩
instance:FnC Tryz.prog 23:=⟨_,Tryz.func23,by kernel_rfl,by kernel_rfl⟩
instance:FnC Tryz.prog 24:=⟨_,Tryz.func24,by kernel_rfl,by kernel_rfl⟩
instance:FnC Tryz.prog 25:=⟨_,Tryz.func25,by kernel_rfl,by kernel_rfl⟩
instance:FnC Tryz.prog 26:=⟨_,Tryz.func26,by kernel_rfl,by kernel_rfl⟩
instance:FnC Tryz.prog 27:=⟨_,Tryz.func27,by kernel_rfl,by kernel_rfl⟩
instance:FnC Tryz.prog 28:=⟨_,Tryz.func28,by kernel_rfl,by kernel_rfl⟩
instance:FnC Tryz.prog 29:=⟨_,Tryz.func29,by kernel_rfl,by kernel_rfl⟩
instance:FnC Tryz.prog 30:=⟨_,Tryz.func30,by kernel_rfl,by kernel_rfl⟩
instance:FnC Tryz.prog 31:=⟨_,Tryz.func31,by kernel_rfl,by kernel_rfl⟩
instance:FnC Tryz.prog 39:=⟨_,Tryz.func39,by kernel_rfl,by kernel_rfl⟩
instance:FnC Tryz.prog 40:=⟨_,Tryz.func40,by kernel_rfl,by kernel_rfl⟩
instance:FnC Tryz.prog 41:=⟨_,Tryz.func41,by kernel_rfl,by kernel_rfl⟩
instance:FnC Tryz.prog 42:=⟨_,Tryz.func42,by kernel_rfl,by kernel_rfl⟩
instance:FnC Tryz.prog 43:=⟨_,Tryz.func43,by kernel_rfl,by kernel_rfl⟩
instance:FnC Tryz.prog 44:=⟨_,Tryz.func44,by kernel_rfl,by kernel_rfl⟩
instance:FnC Tryz.prog 45:=⟨_,Tryz.func45,by kernel_rfl,by kernel_rfl⟩
instance:FnC Tryz.prog 46:=⟨_,Tryz.func46,by kernel_rfl,by kernel_rfl⟩
instance:FnC Tryz.prog 47:=⟨_,Tryz.func47,by kernel_rfl,by kernel_rfl⟩
instance:FnC Tryz.prog 48:=⟨_,Tryz.func48,by kernel_rfl,by kernel_rfl⟩
instance:FnC Tryz.prog 49:=⟨_,Tryz.func49,by kernel_rfl,by kernel_rfl⟩
instance:FnC Tryz.prog 50:=⟨_,Tryz.func50,by kernel_rfl,by kernel_rfl⟩
instance:FnC Tryz.prog 51:=⟨_,Tryz.func51,by kernel_rfl,by kernel_rfl⟩
instance:FnC Tryz.prog 52:=⟨_,Tryz.func52,by kernel_rfl,by kernel_rfl⟩
instance:FnC Tryz.prog 53:=⟨_,Tryz.func53,by kernel_rfl,by kernel_rfl⟩
instance:FnC Tryz.prog 54:=⟨_,Tryz.func54,by kernel_rfl,by kernel_rfl⟩
instance:FnC Tryz.prog 55:=⟨_,Tryz.func55,by kernel_rfl,by kernel_rfl⟩
instance:FnC Tryz.prog 56:=⟨_,Tryz.func56,by kernel_rfl,by kernel_rfl⟩
instance:FnC Tryz.prog 57:=⟨_,Tryz.func57,by kernel_rfl,by kernel_rfl⟩
instance:FnC Tryz.prog 58:=⟨_,Tryz.func58,by kernel_rfl,by kernel_rfl⟩
instance:FnC Tryz.prog 59:=⟨_,Tryz.func59,by kernel_rfl,by kernel_rfl⟩
instance:FnC Tryz.prog 62:=⟨_,Tryz.func62,by kernel_rfl,by kernel_rfl⟩
instance:FnC Tryz.prog 63:=⟨_,Tryz.func63,by kernel_rfl,by kernel_rfl⟩
instance:FnC Tryz.prog 64:=⟨_,Tryz.func64,by kernel_rfl,by kernel_rfl⟩
instance:FnC Tryz.prog 65:=⟨_,Tryz.func65,by kernel_rfl,by kernel_rfl⟩
instance:FnC Tryz.prog 66:=⟨_,Tryz.func66,by kernel_rfl,by kernel_rfl⟩
instance:FnC Tryz.prog 67:=⟨_,Tryz.func67,by kernel_rfl,by kernel_rfl⟩
instance:FnC Tryz.prog 68:=⟨_,Tryz.func68,by kernel_rfl,by kernel_rfl⟩
instance:FnC Tryz.prog 69:=⟨_,Tryz.func69,by kernel_rfl,by kernel_rfl⟩
instance:FnC Tryz.prog 70:=⟨_,Tryz.func70,by kernel_rfl,by kernel_rfl⟩
instance:FnC Tryz.prog 71:=⟨_,Tryz.func71,by kernel_rfl,by kernel_rfl⟩
instance:FnC Tryz.prog 72:=⟨_,Tryz.func72,by kernel_rfl,by kernel_rfl⟩
instance:FnC Tryz.prog 74:=⟨_,Tryz.func74,by kernel_rfl,by kernel_rfl⟩
instance:FnC Tryz.prog 79:=⟨_,Tryz.func79,by kernel_rfl,by kernel_rfl⟩
instance:FnC Tryz.prog 80:=⟨_,Tryz.func80,by kernel_rfl,by kernel_rfl⟩
instance:FnC Tryz.prog 81:=⟨_,Tryz.func81,by kernel_rfl,by kernel_rfl⟩
instance:FnC Tryz.prog 82:=⟨_,Tryz.func82,by kernel_rfl,by kernel_rfl⟩
instance:FnC Tryz.prog 83:=⟨_,Tryz.func83,by kernel_rfl,by kernel_rfl⟩
instance:FnC Tryz.prog 84:=⟨_,Tryz.func84,by kernel_rfl,by kernel_rfl⟩
instance:FnC Tryz.prog 85:=⟨_,Tryz.func85,by kernel_rfl,by kernel_rfl⟩
instance:FnC Tryz.prog 86:=⟨_,Tryz.func86,by kernel_rfl,by kernel_rfl⟩
instance:FnC Tryz.prog 87:=⟨_,Tryz.func87,by kernel_rfl,by kernel_rfl⟩
instance:FnC Tryz.prog 88:=⟨_,Tryz.func88,by kernel_rfl,by kernel_rfl⟩
instance:FnC Tryz.prog 89:=⟨_,Tryz.func89,by kernel_rfl,by kernel_rfl⟩
instance:FnC Tryz.prog 90:=⟨_,Tryz.func90,by kernel_rfl,by kernel_rfl⟩
instance:FnC Tryz.prog 91:=⟨_,Tryz.func91,by kernel_rfl,by kernel_rfl⟩
instance:FnC Tryz.prog 92:=⟨_,Tryz.func92,by kernel_rfl,by kernel_rfl⟩
instance:FnC Tryz.prog 93:=⟨_,Tryz.func93,by kernel_rfl,by kernel_rfl⟩
instance:FnC Tryz.prog 94:=⟨_,Tryz.func94,by kernel_rfl,by kernel_rfl⟩
instance:FnC Tryz.prog 95:=⟨_,Tryz.func95,by kernel_rfl,by kernel_rfl⟩
instance:FnC Tryz.prog 96:=⟨_,Tryz.func96,by kernel_rfl,by kernel_rfl⟩
instance:FnC Tryz.prog 97:=⟨_,Tryz.func97,by kernel_rfl,by kernel_rfl⟩
instance:FnC Tryz.prog 98:=⟨_,Tryz.func98,by kernel_rfl,by kernel_rfl⟩
instance:FnC Tryz.prog 99:=⟨_,Tryz.func99,by kernel_rfl,by kernel_rfl⟩
instance:FnC Tryz.prog 100:=⟨_,Tryz.func100,by kernel_rfl,by kernel_rfl⟩
instance:FnC Tryz.prog 101:=⟨_,Tryz.func101,by kernel_rfl,by kernel_rfl⟩
instance:FnC Tryz.prog 102:=⟨_,Tryz.func102,by kernel_rfl,by kernel_rfl⟩
instance:FnC Tryz.prog 103:=⟨_,Tryz.func103,by kernel_rfl,by kernel_rfl⟩
instance:FnC Tryz.prog 104:=⟨_,Tryz.func104,by kernel_rfl,by kernel_rfl⟩
instance:FnC Tryz.prog 105:=⟨_,Tryz.func105,by kernel_rfl,by kernel_rfl⟩
instance:FnC Tryz.prog 106:=⟨_,Tryz.func106,by kernel_rfl,by kernel_rfl⟩
instance:FnC Tryz.prog 107:=⟨_,Tryz.func107,by kernel_rfl,by kernel_rfl⟩
instance:FnC Tryz.prog 108:=⟨_,Tryz.func108,by kernel_rfl,by kernel_rfl⟩
instance:FnC Tryz.prog 109:=⟨_,Tryz.func109,by kernel_rfl,by kernel_rfl⟩
instance:FnC Tryz.prog 116:=⟨_,Tryz.func116,by kernel_rfl,by kernel_rfl⟩
instance:FnC Tryz.prog 117:=⟨_,Tryz.func117,by kernel_rfl,by kernel_rfl⟩
instance:FnC Tryz.prog 118:=⟨_,Tryz.func118,by kernel_rfl,by kernel_rfl⟩
instance:FnC Tryz.prog 119:=⟨_,Tryz.func119,by kernel_rfl,by kernel_rfl⟩
instance:FnC Tryz.prog 120:=⟨_,Tryz.func120,by kernel_rfl,by kernel_rfl⟩
instance:FnC Tryz.prog 121:=⟨_,Tryz.func121,by kernel_rfl,by kernel_rfl⟩
instance:FnC Tryz.prog 122:=⟨_,Tryz.func122,by kernel_rfl,by kernel_rfl⟩
instance:FnC Tryz.prog 123:=⟨_,Tryz.func123,by kernel_rfl,by kernel_rfl⟩
instance:FnC Tryz.prog 124:=⟨_,Tryz.func124,by kernel_rfl,by kernel_rfl⟩
instance:FnC Tryz.prog 125:=⟨_,Tryz.func125,by kernel_rfl,by kernel_rfl⟩
instance:FnC Tryz.prog 126:=⟨_,Tryz.func126,by kernel_rfl,by kernel_rfl⟩
instance:FnC Tryz.prog 127:=⟨_,Tryz.func127,by kernel_rfl,by kernel_rfl⟩
instance:FnC Tryz.prog 128:=⟨_,Tryz.func128,by kernel_rfl,by kernel_rfl⟩
instance:FnC Tryz.prog 129:=⟨_,Tryz.func129,by kernel_rfl,by kernel_rfl⟩
instance:FnC Tryz.prog 130:=⟨_,Tryz.func130,by kernel_rfl,by kernel_rfl⟩
instance:FnC Tryz.prog 131:=⟨_,Tryz.func131,by kernel_rfl,by kernel_rfl⟩
instance:FnC Tryz.prog 132:=⟨_,Tryz.func132,by kernel_rfl,by kernel_rfl⟩
instance:FnC Tryz.prog 133:=⟨_,Tryz.func133,by kernel_rfl,by kernel_rfl⟩
instance:FnC Tryz.prog 134:=⟨_,Tryz.func134,by kernel_rfl,by kernel_rfl⟩
instance:FnC Tryz.prog 135:=⟨_,Tryz.func135,by kernel_rfl,by kernel_rfl⟩
instance:FnC Tryz.prog 136:=⟨_,Tryz.func136,by kernel_rfl,by kernel_rfl⟩
instance:FnC Tryz.prog 137:=⟨_,Tryz.func137,by kernel_rfl,by kernel_rfl⟩
instance:FnC Tryz.prog 138:=⟨_,Tryz.func138,by kernel_rfl,by kernel_rfl⟩
instance:FnC Tryz.prog 139:=⟨_,Tryz.func139,by kernel_rfl,by kernel_rfl⟩
instance:FnC Tryz.prog 140:=⟨_,Tryz.func140,by kernel_rfl,by kernel_rfl⟩
instance:FnC Tryz.prog 141:=⟨_,Tryz.func141,by kernel_rfl,by kernel_rfl⟩
instance:FnC Tryz.prog 142:=⟨_,Tryz.func142,by kernel_rfl,by kernel_rfl⟩
instance:FnC Tryz.prog 143:=⟨_,Tryz.func143,by kernel_rfl,by kernel_rfl⟩
instance:FnC Tryz.prog 144:=⟨_,Tryz.func144,by kernel_rfl,by kernel_rfl⟩
instance:FnC Tryz.prog 145:=⟨_,Tryz.func145,by kernel_rfl,by kernel_rfl⟩
instance:FnC Tryz.prog 146:=⟨_,Tryz.func146,by kernel_rfl,by kernel_rfl⟩
instance:FnC Tryz.prog 147:=⟨_,Tryz.func147,by kernel_rfl,by kernel_rfl⟩
instance:FnC Tryz.prog 148:=⟨_,Tryz.func148,by kernel_rfl,by kernel_rfl⟩
instance:FnC Tryz.prog 149:=⟨_,Tryz.func149,by kernel_rfl,by kernel_rfl⟩
instance:FnC Tryz.prog 150:=⟨_,Tryz.func150,by kernel_rfl,by kernel_rfl⟩
instance:FnC Tryz.prog 151:=⟨_,Tryz.func151,by kernel_rfl,by kernel_rfl⟩
instance:FnC Tryz.prog 152:=⟨_,Tryz.func152,by kernel_rfl,by kernel_rfl⟩
instance:FnC Tryz.prog 153:=⟨_,Tryz.func153,by kernel_rfl,by kernel_rfl⟩
instance:FnC Tryz.prog 156:=⟨_,Tryz.func156,by kernel_rfl,by kernel_rfl⟩
instance:FnC Tryz.prog 157:=⟨_,Tryz.func157,by kernel_rfl,by kernel_rfl⟩
instance:FnC Tryz.prog 158:=⟨_,Tryz.func158,by kernel_rfl,by kernel_rfl⟩
instance:FnC Tryz.prog 159:=⟨_,Tryz.func159,by kernel_rfl,by kernel_rfl⟩
instance:FnC Tryz.prog 160:=⟨_,Tryz.func160,by kernel_rfl,by kernel_rfl⟩
instance:FnC Tryz.prog 161:=⟨_,Tryz.func161,by kernel_rfl,by kernel_rfl⟩
instance:FnC Tryz.prog 162:=⟨_,Tryz.func162,by kernel_rfl,by kernel_rfl⟩
instance:FnC Tryz.prog 163:=⟨_,Tryz.func163,by kernel_rfl,by kernel_rfl⟩
instance:FnC Tryz.prog 164:=⟨_,Tryz.func164,by kernel_rfl,by kernel_rfl⟩
instance:FnC Tryz.prog 165:=⟨_,Tryz.func165,by kernel_rfl,by kernel_rfl⟩
instance:FnC Tryz.prog 166:=⟨_,Tryz.func166,by kernel_rfl,by kernel_rfl⟩
instance:FnC Tryz.prog 167:=⟨_,Tryz.func167,by kernel_rfl,by kernel_rfl⟩
instance:FnC Tryz.prog 168:=⟨_,Tryz.func168,by kernel_rfl,by kernel_rfl⟩
instance:FnC Tryz.prog 169:=⟨_,Tryz.func169,by kernel_rfl,by kernel_rfl⟩
instance:FnC Tryz.prog 170:=⟨_,Tryz.func170,by kernel_rfl,by kernel_rfl⟩
instance:FnC Tryz.prog 171:=⟨_,Tryz.func171,by kernel_rfl,by kernel_rfl⟩
instance:FnC Tryz.prog 172:=⟨_,Tryz.func172,by kernel_rfl,by kernel_rfl⟩
instance:FnC Tryz.prog 173:=⟨_,Tryz.func173,by kernel_rfl,by kernel_rfl⟩
instance:FnC Tryz.prog 174:=⟨_,Tryz.func174,by kernel_rfl,by kernel_rfl⟩
instance:FnC Tryz.prog 175:=⟨_,Tryz.func175,by kernel_rfl,by kernel_rfl⟩
instance:FnC Tryz.prog 176:=⟨_,Tryz.func176,by kernel_rfl,by kernel_rfl⟩
instance:FnC Tryz.prog 177:=⟨_,Tryz.func177,by kernel_rfl,by kernel_rfl⟩
end
end Go.Ev
