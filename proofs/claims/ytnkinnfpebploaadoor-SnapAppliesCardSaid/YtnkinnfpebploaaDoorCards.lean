/-
  DERIVED. GIVEN WITH THE SEED: THE CARDS: each row of YtnkinnfpebploaaDoorRows.lean that lists a variable, with what it lists TIED to the program's text (the seventh form; the later family's looks); each row that meets fmt, with fmt's text TOLD by the authors' own Lean function (tested against real Go, not proved from fmt's source: count such statements apart). THE CARD IS WHAT COUNTS. Prove the row's statement (the work); the ties are given (YtnkinnfpebploaaDoorTie.lean); close each card by the builder's one call (the guide's Derived/Test/ToyasCard.lean, 'card_holds'). Laid BY PROGRAM, IN A SANDBOX (cutbox-door.mjs). By AI agents, Wed Nov 11 2026. No macro, syntax, notation, axiom, sorry.
-/
import Derived.Test.YtnkinnfpebploaaDoorRows
import GoSem.ClaimSeven
namespace Go.Proofs.YtnkinnfpebploaaDoor
namespace Rows

/-- THE TIED CARD OF 'gyrelaw.WireCuts'. -/
def wireCutsCard : Claim7 := { stood := { row := wireCutsRow, standIns := [], harness := (true, "cf061d42bb62608157d2e3e51a0a7f5209b4b52d586ffb4fd8f2cab889c16f70"), looks := true }, kinds := [], alts := [], laidByText := true, laidKinds := [.handle], laidTests := true, laidLooks := .later }
def WireCutsCardSaid : Prop := Claim7.holds Tryd.pinned (.plain (OpenSpec.ofChange wireCutsSpec)) wireCutsCard

/-- THE TIED CARD OF 'gyrekeep.SessionOnce'. -/
def sessionOnceCard : Claim7 := { stood := { row := sessionOnceRow, standIns := [], harness := (true, "cf061d42bb62608157d2e3e51a0a7f5209b4b52d586ffb4fd8f2cab889c16f70"), looks := true }, kinds := [], alts := [], laidByText := true, laidKinds := [.handle], laidTests := true, laidLooks := .later }
def SessionOnceCardSaid : Prop := Claim7.holds Tryd.pinned (.plain (OpenSpec.ofChange sessionOnceSpec)) sessionOnceCard

/-- THE TIED CARD OF 'gyrelaw.SessionPlays'. -/
def sessionPlaysCard : Claim7 := { stood := { row := sessionPlaysRow, standIns := [], harness := (true, "cf061d42bb62608157d2e3e51a0a7f5209b4b52d586ffb4fd8f2cab889c16f70"), looks := true }, kinds := [], alts := [], laidByText := true, laidKinds := [.handle], laidTests := true, laidLooks := .later }
def SessionPlaysCardSaid : Prop := Claim7.holds Tryd.pinned (.plain (OpenSpec.ofChange sessionPlaysSpec)) sessionPlaysCard

/-- THE TIED CARD OF 'gyrelaw.BitsWrite'. -/
def bitsWriteCard : Claim7 := { stood := { row := bitsWriteRow, standIns := [], harness := (true, "cf061d42bb62608157d2e3e51a0a7f5209b4b52d586ffb4fd8f2cab889c16f70"), looks := true }, kinds := [], alts := [], laidByText := true, laidKinds := [.handle], laidTests := true, laidLooks := .later }
def BitsWriteCardSaid : Prop := Claim7.holds Tryd.pinned (.plain (OpenSpec.ofChange bitsWriteSpec)) bitsWriteCard

/-- THE TIED CARD OF 'gyrelaw.BitsRead'. -/
def bitsReadCard : Claim7 := { stood := { row := bitsReadRow, standIns := [], harness := (true, "cf061d42bb62608157d2e3e51a0a7f5209b4b52d586ffb4fd8f2cab889c16f70"), looks := true }, kinds := [], alts := [], laidByText := true, laidKinds := [.handle], laidTests := true, laidLooks := .later }
def BitsReadCardSaid : Prop := Claim7.holds Tryd.pinned (.plain (OpenSpec.ofChange bitsReadSpec)) bitsReadCard

/-- THE TIED CARD OF 'gyrelaw.WireTells'. -/
def wireTellsCard : Claim7 := { stood := { row := wireTellsRow, standIns := [], harness := (true, "cf061d42bb62608157d2e3e51a0a7f5209b4b52d586ffb4fd8f2cab889c16f70"), looks := true }, kinds := [], alts := [], laidByText := true, laidKinds := [.handle], laidTests := true, laidLooks := .later }
def WireTellsCardSaid : Prop := Claim7.holds Tryd.pinned (.plain (OpenSpec.ofChange wireTellsSpec)) wireTellsCard

/-- THE TIED CARD OF 'gyrelaw.WireAsks'. -/
def wireAsksCard : Claim7 := { stood := { row := wireAsksRow, standIns := [], harness := (true, "cf061d42bb62608157d2e3e51a0a7f5209b4b52d586ffb4fd8f2cab889c16f70"), looks := true }, kinds := [], alts := [], laidByText := true, laidKinds := [.handle], laidTests := true, laidLooks := .later }
def WireAsksCardSaid : Prop := Claim7.holds Tryd.pinned (.plain (OpenSpec.ofChange wireAsksSpec)) wireAsksCard

/-- THE TIED CARD OF 'gyrelaw.SnapDeltas'. -/
def snapDeltasCard : Claim7 := { stood := { row := snapDeltasRow, standIns := [], harness := (true, "cf061d42bb62608157d2e3e51a0a7f5209b4b52d586ffb4fd8f2cab889c16f70"), looks := true }, kinds := [], alts := [], laidByText := true, laidKinds := [.handle], laidTests := true, laidLooks := .later }
def SnapDeltasCardSaid : Prop := Claim7.holds Tryd.pinned (.plain (OpenSpec.ofChange snapDeltasSpec)) snapDeltasCard

/-- THE TIED CARD OF 'gyrelaw.WireReads'. -/
def wireReadsCard : Claim7 := { stood := { row := wireReadsRow, standIns := [], harness := (true, "cf061d42bb62608157d2e3e51a0a7f5209b4b52d586ffb4fd8f2cab889c16f70"), looks := true }, kinds := [], alts := [], laidByText := true, laidKinds := [.handle], laidTests := true, laidLooks := .later }
def WireReadsCardSaid : Prop := Claim7.holds Tryd.pinned (.plain (OpenSpec.ofChange wireReadsSpec)) wireReadsCard

/-- THE TIED CARD OF 'gyrekeep.SnapBack'. -/
def snapBackCard : Claim7 := { stood := { row := snapBackRow, standIns := [], harness := (true, "cf061d42bb62608157d2e3e51a0a7f5209b4b52d586ffb4fd8f2cab889c16f70"), looks := true }, kinds := [], alts := [], laidByText := true, laidKinds := [.handle], laidTests := true, laidLooks := .later }
def SnapBackCardSaid : Prop := Claim7.holds Tryd.pinned (.plain (OpenSpec.ofChange snapBackSpec)) snapBackCard

/-- THE TIED CARD OF 'gyrelaw.SnapApplies'. -/
def snapAppliesCard : Claim7 := { stood := { row := snapAppliesRow, standIns := [], harness := (true, "cf061d42bb62608157d2e3e51a0a7f5209b4b52d586ffb4fd8f2cab889c16f70"), looks := true }, kinds := [], alts := [], laidByText := true, laidKinds := [.handle], laidTests := true, laidLooks := .later }
def SnapAppliesCardSaid : Prop := Claim7.holds Tryd.pinned (.plain (OpenSpec.ofChange snapAppliesSpec)) snapAppliesCard

/-- THE SECOND FORM's CARD OF 'gyrelaw.WireCuts'. -/
def wireCutsUptoCard : Claim7 := { stood := { row := wireCutsUptoRow, standIns := [], harness := (true, "cf061d42bb62608157d2e3e51a0a7f5209b4b52d586ffb4fd8f2cab889c16f70"), looks := true }, kinds := [], alts := [], laidByText := true, laidKinds := [.handle], laidTests := true, laidLooks := .later }
def WireCutsUptoCardSaid : Prop := Claim7.holds Tryd.pinned (.plain (OpenSpec.upto wireCutsSpec)) wireCutsUptoCard

/-- THE SECOND FORM's CARD OF 'gyrekeep.SessionOnce'. -/
def sessionOnceUptoCard : Claim7 := { stood := { row := sessionOnceUptoRow, standIns := [], harness := (true, "cf061d42bb62608157d2e3e51a0a7f5209b4b52d586ffb4fd8f2cab889c16f70"), looks := true }, kinds := [], alts := [], laidByText := true, laidKinds := [.handle], laidTests := true, laidLooks := .later }
def SessionOnceUptoCardSaid : Prop := Claim7.holds Tryd.pinned (.plain (OpenSpec.upto sessionOnceSpec)) sessionOnceUptoCard

/-- THE SECOND FORM's CARD OF 'gyrelaw.SessionPlays'. -/
def sessionPlaysUptoCard : Claim7 := { stood := { row := sessionPlaysUptoRow, standIns := [], harness := (true, "cf061d42bb62608157d2e3e51a0a7f5209b4b52d586ffb4fd8f2cab889c16f70"), looks := true }, kinds := [], alts := [], laidByText := true, laidKinds := [.handle], laidTests := true, laidLooks := .later }
def SessionPlaysUptoCardSaid : Prop := Claim7.holds Tryd.pinned (.plain (OpenSpec.upto sessionPlaysSpec)) sessionPlaysUptoCard

/-- THE SECOND FORM's CARD OF 'gyrelaw.BitsWrite'. -/
def bitsWriteUptoCard : Claim7 := { stood := { row := bitsWriteUptoRow, standIns := [], harness := (true, "cf061d42bb62608157d2e3e51a0a7f5209b4b52d586ffb4fd8f2cab889c16f70"), looks := true }, kinds := [], alts := [], laidByText := true, laidKinds := [.handle], laidTests := true, laidLooks := .later }
def BitsWriteUptoCardSaid : Prop := Claim7.holds Tryd.pinned (.plain (OpenSpec.upto bitsWriteSpec)) bitsWriteUptoCard

/-- THE SECOND FORM's CARD OF 'gyrelaw.BitsRead'. -/
def bitsReadUptoCard : Claim7 := { stood := { row := bitsReadUptoRow, standIns := [], harness := (true, "cf061d42bb62608157d2e3e51a0a7f5209b4b52d586ffb4fd8f2cab889c16f70"), looks := true }, kinds := [], alts := [], laidByText := true, laidKinds := [.handle], laidTests := true, laidLooks := .later }
def BitsReadUptoCardSaid : Prop := Claim7.holds Tryd.pinned (.plain (OpenSpec.upto bitsReadSpec)) bitsReadUptoCard

/-- THE SECOND FORM's CARD OF 'gyrelaw.WireTells'. -/
def wireTellsUptoCard : Claim7 := { stood := { row := wireTellsUptoRow, standIns := [], harness := (true, "cf061d42bb62608157d2e3e51a0a7f5209b4b52d586ffb4fd8f2cab889c16f70"), looks := true }, kinds := [], alts := [], laidByText := true, laidKinds := [.handle], laidTests := true, laidLooks := .later }
def WireTellsUptoCardSaid : Prop := Claim7.holds Tryd.pinned (.plain (OpenSpec.upto wireTellsSpec)) wireTellsUptoCard

/-- THE SECOND FORM's CARD OF 'gyrelaw.WireAsks'. -/
def wireAsksUptoCard : Claim7 := { stood := { row := wireAsksUptoRow, standIns := [], harness := (true, "cf061d42bb62608157d2e3e51a0a7f5209b4b52d586ffb4fd8f2cab889c16f70"), looks := true }, kinds := [], alts := [], laidByText := true, laidKinds := [.handle], laidTests := true, laidLooks := .later }
def WireAsksUptoCardSaid : Prop := Claim7.holds Tryd.pinned (.plain (OpenSpec.upto wireAsksSpec)) wireAsksUptoCard

/-- THE SECOND FORM's CARD OF 'gyrelaw.SnapDeltas'. -/
def snapDeltasUptoCard : Claim7 := { stood := { row := snapDeltasUptoRow, standIns := [], harness := (true, "cf061d42bb62608157d2e3e51a0a7f5209b4b52d586ffb4fd8f2cab889c16f70"), looks := true }, kinds := [], alts := [], laidByText := true, laidKinds := [.handle], laidTests := true, laidLooks := .later }
def SnapDeltasUptoCardSaid : Prop := Claim7.holds Tryd.pinned (.plain (OpenSpec.upto snapDeltasSpec)) snapDeltasUptoCard

/-- THE SECOND FORM's CARD OF 'gyrelaw.WireReads'. -/
def wireReadsUptoCard : Claim7 := { stood := { row := wireReadsUptoRow, standIns := [], harness := (true, "cf061d42bb62608157d2e3e51a0a7f5209b4b52d586ffb4fd8f2cab889c16f70"), looks := true }, kinds := [], alts := [], laidByText := true, laidKinds := [.handle], laidTests := true, laidLooks := .later }
def WireReadsUptoCardSaid : Prop := Claim7.holds Tryd.pinned (.plain (OpenSpec.upto wireReadsSpec)) wireReadsUptoCard

/-- THE SECOND FORM's CARD OF 'gyrekeep.SnapBack'. -/
def snapBackUptoCard : Claim7 := { stood := { row := snapBackUptoRow, standIns := [], harness := (true, "cf061d42bb62608157d2e3e51a0a7f5209b4b52d586ffb4fd8f2cab889c16f70"), looks := true }, kinds := [], alts := [], laidByText := true, laidKinds := [.handle], laidTests := true, laidLooks := .later }
def SnapBackUptoCardSaid : Prop := Claim7.holds Tryd.pinned (.plain (OpenSpec.upto snapBackSpec)) snapBackUptoCard

/-- THE SECOND FORM's CARD OF 'gyrelaw.SnapApplies'. -/
def snapAppliesUptoCard : Claim7 := { stood := { row := snapAppliesUptoRow, standIns := [], harness := (true, "cf061d42bb62608157d2e3e51a0a7f5209b4b52d586ffb4fd8f2cab889c16f70"), looks := true }, kinds := [], alts := [], laidByText := true, laidKinds := [.handle], laidTests := true, laidLooks := .later }
def SnapAppliesUptoCardSaid : Prop := Claim7.holds Tryd.pinned (.plain (OpenSpec.upto snapAppliesSpec)) snapAppliesUptoCard
end Rows
end Go.Proofs.YtnkinnfpebploaaDoor
