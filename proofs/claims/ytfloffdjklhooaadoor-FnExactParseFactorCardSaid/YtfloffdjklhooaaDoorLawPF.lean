/- 'FnExactParseFactor': the law returns true for all arguments, and they read afterwards as they read before, where the library's tables lie as laid; and its card. -/
import Derived.Test.YtfloffdjklhooaaDoorPb1
import Derived.Test.YtfloffdjklhooaaDoorL4
import Derived.Test.YtfloffdjklhooaaDoorCards
import Derived.Test.YtfloffdjklhooaaDoorTie
import Derived.Deep.DeepHandedRow
import Derived.Lib.LaidTab
import Derived.Stop.LaidErr
import Derived.LaidLaws
set_option linter.all false
namespace Go.Proofs.YtfloffdjklhooaaDoor
open Go.ChangeShapes Go.WideShapes Go.ChangeAt Go.RowKit Go.Ev
theorem iR (y0 : ByteArray) (o0 : okS y0) : MeetsT Tryd.prog TW 4 [.sc (.string y0)] (.sc (.bool true)) true := Ev.nE y0 true (Ev.sG y0 o0)
theorem hU : ownKnob Tryd.prog.godebug = none := by kernel_rfl
theorem gS : laidOutB Tryd.prog = true := by kernel_rfl
theorem vS : Tryd.prog.globalNamed "internal/strconv.uint64pow10" = some 2 := by kernel_rfl
theorem vF : (Tryd.prog.globals[2]?).map (·.type) = some 80 := by kernel_rfl
theorem vQ : Tryd.prog.globalNamed "strconv.ErrSyntax" = some 0 := by kernel_rfl
theorem vD : (Tryd.prog.globals[0]?).map (·.type) = some 53 := by kernel_rfl
theorem vR : Tryd.prog.globalNamed "strconv.ErrRange" = some 1 := by kernel_rfl
theorem vE : (Tryd.prog.globals[1]?).map (·.type) = some 53 := by kernel_rfl
theorem qU : "*" ++ "errors.errorString" = "*errors.errorString" := by decide
theorem sM (u : TypeId) (h : Tryd.prog.typeName? 3 u = some "*errors.errorString") : u = 86 :=
  typeName_ptr_named (nm := "errors.errorString") (by rw [qU]; kernel_rfl) (by kernel_rfl) (by decide) u (by rw [qU]; exact h)
theorem hP {W : World} (h : laidMetH Tryd.prog Rows.fnExactParseFactorRow.laid W) : TW W := by
  have h : laidMet Tryd.prog Rows.fnExactParseFactorRow.laid W := h
  obtain ⟨a0, s0, v0, -, -, -⟩ := laid_sentinel h.tail.tail.tail vR vE Tryd.underlying53 sM Tryd.underlying86 Tryd.underlying88 rfl rfl Tryd.underlying9 (by kernel_rfl) (by kernel_rfl)
  obtain ⟨a1, s1, v1, -, -, -⟩ := laid_sentinel h.tail.tail.tail.tail vQ vD Tryd.underlying53 sM Tryd.underlying86 Tryd.underlying88 rfl rfl Tryd.underlying9 (by kernel_rfl) (by kernel_rfl)
  exact ⟨Lib.tabIs_of_head (rest := _) vS vF Tryd.underlying80 Tryd.underlying66 (by kernel_rfl) (by kernel_rfl) h.tail.tail, ⟨_, _, v1⟩, ⟨_, _, v0⟩⟩
theorem fR (H : Type) (enc : TypeId × Value → H) (W : World) (base : Nat) (args : Array Value) (ds gs : List (DataW H)) (before : List MemPlace)
    (hval0 : ∀ (j : Nat) t v, Tryd.f4.params[j]? = some t → args[j]? = some v → Value.okWide Tryd.prog W .any base t v)
    (hW : DataW.Whole enc Tryd.prog Tryd.f4.params.toList Rows.fnExactParseFactorSpec.vars false W args.toList ds gs before) (hL : laidMetH Tryd.prog Rows.fnExactParseFactorRow.laid W) :
    Calls Tryd.prog 4 args W fun e W' => ∃ v, e = .returned v ∧ Rows.fnExactParseFactorSpec.post enc Tryd.prog Tryd.f4 false true false false W args v W' := by
  have hval : ∀ (j : Nat) t v, Tryd.f4.params[j]? = some t → args[j]? = some v → Value.okWide Tryd.prog W .any base t v := hval0
  have hW' := hW
  obtain ⟨p, q, hA0, hV, rfl, hfz, hnd⟩ := hW
  have hA : DataW.TrodAll enc Tryd.prog W 0 (fun _ => true) true Tryd.f4.params.toList args.toList ds p := hA0
  rw [Tryd.params4] at hA hval
  obtain ⟨v0, vs0, d0, ds0, p0, q0, hargs, rfl, rfl, h0, r0⟩ := trodAll_cons hA
  obtain ⟨rfl, rfl, rfl⟩ := trodAll_nil r0
  obtain rfl : args = #[v0] := by cases args; simp_all
  obtain ⟨rfl, rfl⟩ := trodVars_none hV
  obtain ⟨y0, o0, hr0⟩ := tG Tryd.underlying9 rfl (hval 0 9 v0 rfl rfl) h0 (fun _ => rfl)
  obtain ⟨B0, hr0⟩ := hr0 _ rfl
  refine (iR y0 o0 W #[v0] (fun _ => True) (hP hL) ⟨⟨B0, hr0, fun _ _ => trivial⟩, trivial⟩).mono fun e W' ⟨c, B', he, hb, hc, _⟩ => ?_
  simp only [RelV] at hc
  obtain ⟨rfl, _⟩ := hc
  exact ⟨_, he, qI hW' hb gS (by kernel_rfl) (by kernel_rfl) Tryd.underlying4 rfl ⟨rfl, rfl, rfl⟩⟩
def iM (cs : Array Value) : Obj → Obj
  | .cells _ t f => .cells cs t f
  | o => o
/-- A world for the witness: the tables hold what their initialisers lay. -/
def vH : Input := ⟨#[.cells #[.string ⟨#[105, 110, 118, 97, 108, 105, 100, 32, 115, 121, 110, 116, 97, 120]⟩] 88, .cells #[.string ⟨#[118, 97, 108, 117, 101, 32, 111, 117, 116, 32, 111, 102, 32, 114, 97, 110, 103, 101]⟩] 88], #[], []⟩
noncomputable def vB : Nat := (World.holding Tryd.prog default ⟨#[], #[], []⟩).heap.size
noncomputable def cP (os : Os) : World :=
  { World.holding Tryd.prog os vH with heap := (((((World.holding Tryd.prog os vH).heap.modify 2 (iM #[.int .u64 1, .int .u64 10, .int .u64 100, .int .u64 1000, .int .u64 10000, .int .u64 100000, .int .u64 1000000, .int .u64 10000000, .int .u64 100000000, .int .u64 1000000000, .int .u64 10000000000, .int .u64 100000000000, .int .u64 1000000000000, .int .u64 10000000000000, .int .u64 100000000000000, .int .u64 1000000000000000, .int .u64 10000000000000000, .int .u64 100000000000000000, .int .u64 1000000000000000000, .int .u64 10000000000000000000])).modify 3 (iM #[.int .u8 0, .int .u8 1, .int .u8 28, .int .u8 2, .int .u8 29, .int .u8 14, .int .u8 24, .int .u8 3, .int .u8 30, .int .u8 22, .int .u8 20, .int .u8 15, .int .u8 25, .int .u8 17, .int .u8 4, .int .u8 8, .int .u8 31, .int .u8 27, .int .u8 13, .int .u8 23, .int .u8 21, .int .u8 19, .int .u8 16, .int .u8 7, .int .u8 26, .int .u8 12, .int .u8 18, .int .u8 6, .int .u8 11, .int .u8 5, .int .u8 10, .int .u8 9])).modify 4 (iM #[.int .u8 0, .int .u8 1, .int .u8 56, .int .u8 2, .int .u8 57, .int .u8 49, .int .u8 28, .int .u8 3, .int .u8 61, .int .u8 58, .int .u8 42, .int .u8 50, .int .u8 38, .int .u8 29, .int .u8 17, .int .u8 4, .int .u8 62, .int .u8 47, .int .u8 59, .int .u8 36, .int .u8 45, .int .u8 43, .int .u8 51, .int .u8 22, .int .u8 53, .int .u8 39, .int .u8 33, .int .u8 30, .int .u8 24, .int .u8 18, .int .u8 12, .int .u8 5, .int .u8 63, .int .u8 55, .int .u8 48, .int .u8 27, .int .u8 60, .int .u8 41, .int .u8 37, .int .u8 16, .int .u8 46, .int .u8 35, .int .u8 44, .int .u8 21, .int .u8 52, .int .u8 32, .int .u8 23, .int .u8 11, .int .u8 54, .int .u8 26, .int .u8 40, .int .u8 15, .int .u8 34, .int .u8 20, .int .u8 31, .int .u8 10, .int .u8 25, .int .u8 14, .int .u8 19, .int .u8 9, .int .u8 13, .int .u8 8, .int .u8 7, .int .u8 6])).modify 0 (iM #[.iface 86 (.pointer (some ⟨vB, 0, none⟩))])).modify 1 (iM #[.iface 86 (.pointer (some ⟨vB + 1, 0, none⟩))]) }
theorem hY (os : Os) : laidMet Tryd.prog Rows.fnExactParseFactorRow.laid ((cP os).forCall (fun _ _ => 0) ⟨#[], #[.string ByteArray.empty], []⟩).memory :=
  laidMet_of_run' 8 (by kernel_rfl) (by kernel_rfl)
theorem gH (os : Os) {H : Type} (enc : TypeId × Value → H) : ∃ places, DataW.whole enc Tryd.prog ((cP os).forCall (fun _ _ => 0) ⟨#[], #[.string ByteArray.empty], []⟩).memory Tryd.f4.params.toList Rows.fnExactParseFactorSpec.vars false #[.string ByteArray.empty].toList 8 = some ([.lit (.string [])], [], places) :=
  ⟨[], by kernel_rfl⟩
set_option maxRecDepth 100000 in
theorem gE (os : Os) (started : os.Started) (H : Type) (enc : TypeId × Value → H) (F : Stop.Interp) :
    ReturnsInHanded {} Tryd.checked os 4 .any ((OpenSpec.ofChange Rows.fnExactParseFactorSpec).preRow enc Tryd.prog Tryd.f4 Rows.fnExactParseFactorRow.domain false Rows.fnExactParseFactorRow.laid) (((OpenSpec.ofChange Rows.fnExactParseFactorSpec).at F).post enc Tryd.prog Tryd.f4 false true false false) := by
  obtain ⟨places, hx⟩ := gH os enc
  refine returnsInHanded_of_row (C := Tryd.checked) (s := OpenSpec.ofChange Rows.fnExactParseFactorSpec) hU started (by kernel_rfl) Tryd.func4
    (witness_row_at (enc := enc) (C := Tryd.checked) false (cP os) #[.string ByteArray.empty] rfl (by kernel_rfl) (by kernel_rfl) (by kernel_rfl)
      (OpenSpec.preRow_of_cond 8 hx (by kernel_rfl) (fun k hk => by cases hk) (by kernel_rfl) (hY os))) ?_
  intro W base args ds gs before hval hW _ _ _ hL _ _
  exact fR H enc W base args ds gs before hval hW hL
set_option maxHeartbeats 4000000 in
theorem gP : Rows.FnExactParseFactorSaid :=
  OpenClaim.holds_of_cond 4 Tryd.f4 rfl rfl rfl rfl rfl rfl rfl ⟨rfl, rfl, rfl, rfl, rfl⟩ rfl rfl rfl rfl rfl (by kernel_rfl) Tryd.func4 (by kernel_rfl)
    (of_decide_eq_true (by kernel_rfl)) (by unfold Func.isWrapper; first | (rw [if_pos (by decide +kernel)]; kernel_rfl) | (rw [if_neg (by decide +kernel)]; exact ⟨rfl, rfl⟩))
    (fun os started H enc _ F => by rw [OpenClaim.pre_eq_preRow]; exact gE os started H enc F)
theorem gI (f : FuncId) (fn : Func) (hf : Tryd.pinned.checked.prog.funcNamed "loop.example/g00810/laws.FnExactParseFactor" = some f) (hfn : Tryd.pinned.checked.prog.funcs[f]? = some fn) :
    true = Tryd.pinned.checked.prog.looks [] ∧ ∀ (j : Nat) t, fn.params[j]? = some t → Tryd.pinned.checked.prog.wantsStandIn t = false := by
  obtain rfl : f = 4 := Option.some.inj ((show Tryd.prog.funcNamed "loop.example/g00810/laws.FnExactParseFactor" = some 4 by kernel_rfl).symm.trans hf) |>.symm
  obtain rfl : fn = Tryd.f4 := (Option.some.inj (Tryd.func4.symm.trans hfn)).symm
  refine ⟨by kernel_rfl, fun j t ht => ?_⟩
  rw [Tryd.params4] at ht
  obtain rfl : t = 9 := by simpa using Array.mem_of_getElem? ht
  exact (show Tryd.prog.wantsStandIn 9 = false by kernel_rfl)
theorem FnExactParseFactorCardProved : Rows.FnExactParseFactorCardSaid :=
  Claim7.holds_tied_plain_at .later [] _ _ _ _ gP (fun _ h => by cases h) (by kernel_rfl) (fun _ h => by cases h) fnExactParseFactor_row_tie rfl ⟨rfl, rfl⟩ (by kernel_rfl) rfl gI (by kernel_rfl)
end Go.Proofs.YtfloffdjklhooaaDoor
