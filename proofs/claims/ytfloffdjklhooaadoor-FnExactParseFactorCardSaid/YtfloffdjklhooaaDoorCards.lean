/-
  DERIVED. GIVEN WITH THE SEED: THE CARDS: each row of YtfloffdjklhooaaDoorRows.lean that lists a variable, with what it lists TIED to the program's text (the seventh form; the later family's looks); each row that meets fmt, with fmt's text TOLD by the authors' own Lean function (tested against real Go, not proved from fmt's source: count such statements apart). THE CARD IS WHAT COUNTS. Prove the row's statement (the work); the ties are given (YtfloffdjklhooaaDoorTie.lean); close each card by the builder's one call (the guide's Derived/Test/ToyasCard.lean, 'card_holds'). Laid BY PROGRAM, IN A SANDBOX (cutbox-door.mjs). By AI agents, Wed Nov 11 2026. No macro, syntax, notation, axiom, sorry.
-/
import Derived.Test.YtfloffdjklhooaaDoorRows
import GoSem.ClaimSeven
namespace Go.Proofs.YtfloffdjklhooaaDoor
namespace Rows

/-- THE TIED CARD OF 'laws.FnExactFormatFactor'. -/
def fnExactFormatFactorCard : Claim7 := { stood := { row := fnExactFormatFactorRow, standIns := [], harness := (true, "6d99ea3cbf5d2faf90d628b41558f6baf56433df65a80cf684fee83e078b0266"), looks := true }, kinds := [], alts := [], laidByText := true, laidKinds := [.data, .data, .data], laidTests := true, laidLooks := .later }
def FnExactFormatFactorCardSaid : Prop := Claim7.holds Tryd.pinned (.plain (OpenSpec.ofChange fnExactFormatFactorSpec)) fnExactFormatFactorCard

/-- THE TIED CARD OF 'laws.FnExactParseFactor'. -/
def fnExactParseFactorCard : Claim7 := { stood := { row := fnExactParseFactorRow, standIns := [], harness := (true, "6d99ea3cbf5d2faf90d628b41558f6baf56433df65a80cf684fee83e078b0266"), looks := true }, kinds := [], alts := [], laidByText := true, laidKinds := [.data, .data, .data, .sentinel, .sentinel], laidTests := true, laidLooks := .later }
def FnExactParseFactorCardSaid : Prop := Claim7.holds Tryd.pinned (.plain (OpenSpec.ofChange fnExactParseFactorSpec)) fnExactParseFactorCard

/-- THE SECOND FORM's CARD OF 'laws.FnExactFormatFactor'. -/
def fnExactFormatFactorUptoCard : Claim7 := { stood := { row := fnExactFormatFactorUptoRow, standIns := [], harness := (true, "6d99ea3cbf5d2faf90d628b41558f6baf56433df65a80cf684fee83e078b0266"), looks := true }, kinds := [], alts := [], laidByText := true, laidKinds := [.data, .data, .data], laidTests := true, laidLooks := .later }
def FnExactFormatFactorUptoCardSaid : Prop := Claim7.holds Tryd.pinned (.plain (OpenSpec.upto fnExactFormatFactorSpec)) fnExactFormatFactorUptoCard

/-- THE SECOND FORM's CARD OF 'laws.FnExactParseFactor'. -/
def fnExactParseFactorUptoCard : Claim7 := { stood := { row := fnExactParseFactorUptoRow, standIns := [], harness := (true, "6d99ea3cbf5d2faf90d628b41558f6baf56433df65a80cf684fee83e078b0266"), looks := true }, kinds := [], alts := [], laidByText := true, laidKinds := [.data, .data, .data, .sentinel, .sentinel], laidTests := true, laidLooks := .later }
def FnExactParseFactorUptoCardSaid : Prop := Claim7.holds Tryd.pinned (.plain (OpenSpec.upto fnExactParseFactorSpec)) fnExactParseFactorUptoCard
end Rows
end Go.Proofs.YtfloffdjklhooaaDoor
