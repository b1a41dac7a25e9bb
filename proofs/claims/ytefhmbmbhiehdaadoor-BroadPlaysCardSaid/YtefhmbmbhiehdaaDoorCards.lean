/-
  DERIVED. GIVEN WITH THE SEED: THE CARDS: each row of YtefhmbmbhiehdaaDoorRows.lean that lists a variable, with what it lists TIED to the program's text (the seventh form; the later family's looks); each row that meets fmt, with fmt's text TOLD by the authors' own Lean function (tested against real Go, not proved from fmt's source: count such statements apart). THE CARD IS WHAT COUNTS. Prove the row's statement (the work); the ties are given (YtefhmbmbhiehdaaDoorTie.lean); close each card by the builder's one call (the guide's Derived/Test/ToyasCard.lean, 'card_holds'). Laid BY PROGRAM, IN A SANDBOX (cutbox-door.mjs). By AI agents, Wed Nov 11 2026. No macro, syntax, notation, axiom, sorry.
-/
import Derived.Test.YtefhmbmbhiehdaaDoorRows
import GoSem.ClaimSeven
namespace Go.Proofs.YtefhmbmbhiehdaaDoor
namespace Rows

/-- THE TIED CARD OF 'gyrelaw.BroadPlays'. -/
def broadPlaysCard : Claim7 := { stood := { row := broadPlaysRow, standIns := [], harness := (true, "9a98867c32b64cf9f6dcc1e9124a5b3440a11c4d5c3c954e435584db48ffd58e"), looks := true }, kinds := [], alts := [], laidByText := true, laidKinds := [.handle], laidTests := true, laidLooks := .later }
def BroadPlaysCardSaid : Prop := Claim7.holds Tryd.pinned (.plain (OpenSpec.ofChange broadPlaysSpec)) broadPlaysCard

/-- THE SECOND FORM's CARD OF 'gyrelaw.BroadPlays'. -/
def broadPlaysUptoCard : Claim7 := { stood := { row := broadPlaysUptoRow, standIns := [], harness := (true, "9a98867c32b64cf9f6dcc1e9124a5b3440a11c4d5c3c954e435584db48ffd58e"), looks := true }, kinds := [], alts := [], laidByText := true, laidKinds := [.handle], laidTests := true, laidLooks := .later }
def BroadPlaysUptoCardSaid : Prop := Claim7.holds Tryd.pinned (.plain (OpenSpec.upto broadPlaysSpec)) broadPlaysUptoCard
end Rows
end Go.Proofs.YtefhmbmbhiehdaaDoor
