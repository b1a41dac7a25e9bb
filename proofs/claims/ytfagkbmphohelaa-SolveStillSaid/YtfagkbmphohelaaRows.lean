/-
  No cell of these rows narrows 'for every input' (looked for: loops, veiled, ifaces, maps, wideKeys, modest, calm, conditions, laid).
  DERIVED. THE GIVEN ROWS OF THIS SEAT. 12 by the template 'for every input the law returns true; each argument reads behind the call as it read before'; 0 by the template 'total and deterministic' (their statements: YtfagkbmphohelaaTotals.lean).
  GIVEN WITH THE SEED: the statements are not yours to turn. If you find one false, say at which input.
  Laid BY PROGRAM, IN A SANDBOX (cutbox-rows.mjs): the forced cells as the released guide's own fill.sh prints them over the translation 13687422cf053c3f… (all of the seat's roots in one cut). By AI agents, Wed Nov 11 2026. No macro, syntax, notation, axiom, sorry.
-/
import Derived.Test.YtfagkbmphohelaaChecked
import GoSem.Claim
import GoSem.ClaimJoined
import GoSem.ClaimMapViews
import Derived.JoinedTies
import Derived.KernelRfl
namespace Go.Proofs.Ytfagkbmphohelaa
/- THE CELL 'sum', in the pinned program and in every row, IS THE sha256 OF THE DUMP (.gsa) THAT YtfagkbmphohelaaProg.lean LOADS. Nothing in Lean hashes anything: it is a label: what it is worth is what the hold of that sum in a sandbox is worth. -/
noncomputable def Try.pinned : Pinned := { name := "ytfagkbmphohelaa", sum := "13687422cf053c3fa3fd466a05eb078263859830d328957c5ead5fb92a1a1dc8", checked := Try.checked }
namespace Rows
def none {H : Type} : Left H := { results := [], args := [] }

/-- 'gyrelaw.SnapLooks': WHATEVER THE INPUT: true; the input reads as it did. -/
def snapLooksSpec : ChangeSpec := { name := "snapLooks", fn := fun _ => fun
  | [d] => { results := [.lit (.bool true)], args := [d] }
  | _ => none }
def snapLooksRow : OpenClaim := { program := "ytfagkbmphohelaa", sum := "13687422cf053c3fa3fd466a05eb078263859830d328957c5ead5fb92a1a1dc8", func := "gyre/gyrelaw.SnapLooks", spec := "snapLooks", unfollowed := true, recurses := true, apart := false }
def SnapLooksSaid : Prop := snapLooksRow.holds Try.pinned (OpenSpec.ofChange snapLooksSpec)

/-- ITS FALSE NEIGHBOUR: 'it returns false'. Refute it at one input. -/
def snapLooksWrong : ChangeSpec := { name := "snapLooks", fn := fun _ => fun
  | [d] => { results := [.lit (.bool false)], args := [d] }
  | _ => none }
def SnapLooksWrongFalsely : Prop := snapLooksRow.holds Try.pinned (OpenSpec.ofChange snapLooksWrong)

/-- 'gyrelaw.GeomBoxes': WHATEVER THE INPUT: true; the input reads as it did. -/
def geomBoxesSpec : ChangeSpec := { name := "geomBoxes", fn := fun _ => fun
  | [d1, d2, d3, d4] => { results := [.lit (.bool true)], args := [d1, d2, d3, d4] }
  | _ => none }
def geomBoxesRow : OpenClaim := { program := "ytfagkbmphohelaa", sum := "13687422cf053c3fa3fd466a05eb078263859830d328957c5ead5fb92a1a1dc8", func := "gyre/gyrelaw.GeomBoxes", spec := "geomBoxes", unfollowed := true, recurses := true, apart := false }
def GeomBoxesSaid : Prop := geomBoxesRow.holds Try.pinned (OpenSpec.ofChange geomBoxesSpec)

/-- ITS FALSE NEIGHBOUR: 'it returns false'. Refute it at one input. -/
def geomBoxesWrong : ChangeSpec := { name := "geomBoxes", fn := fun _ => fun
  | [d1, d2, d3, d4] => { results := [.lit (.bool false)], args := [d1, d2, d3, d4] }
  | _ => none }
def GeomBoxesWrongFalsely : Prop := geomBoxesRow.holds Try.pinned (OpenSpec.ofChange geomBoxesWrong)

/-- 'gyrelaw.GeomShapes': WHATEVER THE INPUT: true; the input reads as it did. -/
def geomShapesSpec : ChangeSpec := { name := "geomShapes", fn := fun _ => fun
  | [d1, d2] => { results := [.lit (.bool true)], args := [d1, d2] }
  | _ => none }
def geomShapesRow : OpenClaim := { program := "ytfagkbmphohelaa", sum := "13687422cf053c3fa3fd466a05eb078263859830d328957c5ead5fb92a1a1dc8", func := "gyre/gyrelaw.GeomShapes", spec := "geomShapes", unfollowed := true, recurses := true, apart := false }
def GeomShapesSaid : Prop := geomShapesRow.holds Try.pinned (OpenSpec.ofChange geomShapesSpec)

/-- ITS FALSE NEIGHBOUR: 'it returns false'. Refute it at one input. -/
def geomShapesWrong : ChangeSpec := { name := "geomShapes", fn := fun _ => fun
  | [d1, d2] => { results := [.lit (.bool false)], args := [d1, d2] }
  | _ => none }
def GeomShapesWrongFalsely : Prop := geomShapesRow.holds Try.pinned (OpenSpec.ofChange geomShapesWrong)

/-- 'gyrekeep.BitsBack': WHATEVER THE INPUT: true; the input reads as it did. -/
def bitsBackSpec : ChangeSpec := { name := "bitsBack", fn := fun _ => fun
  | [d] => { results := [.lit (.bool true)], args := [d] }
  | _ => none }
def bitsBackRow : OpenClaim := { program := "ytfagkbmphohelaa", sum := "13687422cf053c3fa3fd466a05eb078263859830d328957c5ead5fb92a1a1dc8", func := "gyre/gyrekeep.BitsBack", spec := "bitsBack", apart := false }
def BitsBackSaid : Prop := bitsBackRow.holds Try.pinned (OpenSpec.ofChange bitsBackSpec)

/-- ITS FALSE NEIGHBOUR: 'it returns false'. Refute it at one input. -/
def bitsBackWrong : ChangeSpec := { name := "bitsBack", fn := fun _ => fun
  | [d] => { results := [.lit (.bool false)], args := [d] }
  | _ => none }
def BitsBackWrongFalsely : Prop := bitsBackRow.holds Try.pinned (OpenSpec.ofChange bitsBackWrong)

/-- 'gyrekeep.FxRoots': WHATEVER THE INPUT: true; the input reads as it did. -/
def fxRootsSpec : ChangeSpec := { name := "fxRoots", fn := fun _ => fun
  | [d1, d2] => { results := [.lit (.bool true)], args := [d1, d2] }
  | _ => none }
def fxRootsRow : OpenClaim := { program := "ytfagkbmphohelaa", sum := "13687422cf053c3fa3fd466a05eb078263859830d328957c5ead5fb92a1a1dc8", func := "gyre/gyrekeep.FxRoots", spec := "fxRoots", named := ["math/bits.divideError", "math/bits.overflowError"], apart := false }
def FxRootsSaid : Prop := fxRootsRow.holds Try.pinned (OpenSpec.ofChange fxRootsSpec)

/-- ITS FALSE NEIGHBOUR: 'it returns false'. Refute it at one input. -/
def fxRootsWrong : ChangeSpec := { name := "fxRoots", fn := fun _ => fun
  | [d1, d2] => { results := [.lit (.bool false)], args := [d1, d2] }
  | _ => none }
def FxRootsWrongFalsely : Prop := fxRootsRow.holds Try.pinned (OpenSpec.ofChange fxRootsWrong)

/-- 'gyrelaw.FxNumbers': WHATEVER THE INPUT: true; the input reads as it did. -/
def fxNumbersSpec : ChangeSpec := { name := "fxNumbers", fn := fun _ => fun
  | [d1, d2] => { results := [.lit (.bool true)], args := [d1, d2] }
  | _ => none }
def fxNumbersRow : OpenClaim := { program := "ytfagkbmphohelaa", sum := "13687422cf053c3fa3fd466a05eb078263859830d328957c5ead5fb92a1a1dc8", func := "gyre/gyrelaw.FxNumbers", spec := "fxNumbers", named := ["math/bits.divideError", "math/bits.overflowError"], apart := false }
def FxNumbersSaid : Prop := fxNumbersRow.holds Try.pinned (OpenSpec.ofChange fxNumbersSpec)

/-- ITS FALSE NEIGHBOUR: 'it returns false'. Refute it at one input. -/
def fxNumbersWrong : ChangeSpec := { name := "fxNumbers", fn := fun _ => fun
  | [d1, d2] => { results := [.lit (.bool false)], args := [d1, d2] }
  | _ => none }
def FxNumbersWrongFalsely : Prop := fxNumbersRow.holds Try.pinned (OpenSpec.ofChange fxNumbersWrong)

/-- 'gyrelaw.FxVectors': WHATEVER THE INPUT: true; the input reads as it did. -/
def fxVectorsSpec : ChangeSpec := { name := "fxVectors", fn := fun _ => fun
  | [d1, d2, d3] => { results := [.lit (.bool true)], args := [d1, d2, d3] }
  | _ => none }
def fxVectorsRow : OpenClaim := { program := "ytfagkbmphohelaa", sum := "13687422cf053c3fa3fd466a05eb078263859830d328957c5ead5fb92a1a1dc8", func := "gyre/gyrelaw.FxVectors", spec := "fxVectors", unfollowed := true, recurses := true, named := ["math/bits.divideError", "math/bits.overflowError"], apart := false }
def FxVectorsSaid : Prop := fxVectorsRow.holds Try.pinned (OpenSpec.ofChange fxVectorsSpec)

/-- ITS FALSE NEIGHBOUR: 'it returns false'. Refute it at one input. -/
def fxVectorsWrong : ChangeSpec := { name := "fxVectors", fn := fun _ => fun
  | [d1, d2, d3] => { results := [.lit (.bool false)], args := [d1, d2, d3] }
  | _ => none }
def FxVectorsWrongFalsely : Prop := fxVectorsRow.holds Try.pinned (OpenSpec.ofChange fxVectorsWrong)

/-- 'gyrelaw.SolvePlaces': WHATEVER THE INPUT: true; the input reads as it did. -/
def solvePlacesSpec : ChangeSpec := { name := "solvePlaces", fn := fun _ => fun
  | [d1, d2] => { results := [.lit (.bool true)], args := [d1, d2] }
  | _ => none }
def solvePlacesRow : OpenClaim := { program := "ytfagkbmphohelaa", sum := "13687422cf053c3fa3fd466a05eb078263859830d328957c5ead5fb92a1a1dc8", func := "gyre/gyrelaw.SolvePlaces", spec := "solvePlaces", unfollowed := true, recurses := true, named := ["math/bits.divideError", "math/bits.overflowError"], apart := false }
def SolvePlacesSaid : Prop := solvePlacesRow.holds Try.pinned (OpenSpec.ofChange solvePlacesSpec)

/-- ITS FALSE NEIGHBOUR: 'it returns false'. Refute it at one input. -/
def solvePlacesWrong : ChangeSpec := { name := "solvePlaces", fn := fun _ => fun
  | [d1, d2] => { results := [.lit (.bool false)], args := [d1, d2] }
  | _ => none }
def SolvePlacesWrongFalsely : Prop := solvePlacesRow.holds Try.pinned (OpenSpec.ofChange solvePlacesWrong)

/-- 'gyrelaw.GeomTouches': WHATEVER THE INPUT: true; the input reads as it did. -/
def geomTouchesSpec : ChangeSpec := { name := "geomTouches", fn := fun _ => fun
  | [d1, d2, d3, d4] => { results := [.lit (.bool true)], args := [d1, d2, d3, d4] }
  | _ => none }
def geomTouchesRow : OpenClaim := { program := "ytfagkbmphohelaa", sum := "13687422cf053c3fa3fd466a05eb078263859830d328957c5ead5fb92a1a1dc8", func := "gyre/gyrelaw.GeomTouches", spec := "geomTouches", unfollowed := true, recurses := true, named := ["math/bits.divideError", "math/bits.overflowError"], apart := false }
def GeomTouchesSaid : Prop := geomTouchesRow.holds Try.pinned (OpenSpec.ofChange geomTouchesSpec)

/-- ITS FALSE NEIGHBOUR: 'it returns false'. Refute it at one input. -/
def geomTouchesWrong : ChangeSpec := { name := "geomTouches", fn := fun _ => fun
  | [d1, d2, d3, d4] => { results := [.lit (.bool false)], args := [d1, d2, d3, d4] }
  | _ => none }
def GeomTouchesWrongFalsely : Prop := geomTouchesRow.holds Try.pinned (OpenSpec.ofChange geomTouchesWrong)

/-- 'gyrelaw.SolveSpeeds': WHATEVER THE INPUT: true; the input reads as it did. -/
def solveSpeedsSpec : ChangeSpec := { name := "solveSpeeds", fn := fun _ => fun
  | [d1, d2, d3] => { results := [.lit (.bool true)], args := [d1, d2, d3] }
  | _ => none }
def solveSpeedsRow : OpenClaim := { program := "ytfagkbmphohelaa", sum := "13687422cf053c3fa3fd466a05eb078263859830d328957c5ead5fb92a1a1dc8", func := "gyre/gyrelaw.SolveSpeeds", spec := "solveSpeeds", unfollowed := true, recurses := true, named := ["math/bits.divideError", "math/bits.overflowError"], apart := false }
def SolveSpeedsSaid : Prop := solveSpeedsRow.holds Try.pinned (OpenSpec.ofChange solveSpeedsSpec)

/-- ITS FALSE NEIGHBOUR: 'it returns false'. Refute it at one input. -/
def solveSpeedsWrong : ChangeSpec := { name := "solveSpeeds", fn := fun _ => fun
  | [d1, d2, d3] => { results := [.lit (.bool false)], args := [d1, d2, d3] }
  | _ => none }
def SolveSpeedsWrongFalsely : Prop := solveSpeedsRow.holds Try.pinned (OpenSpec.ofChange solveSpeedsWrong)

/-- 'gyrekeep.GeomTurned': WHATEVER THE INPUT: true; the input reads as it did. -/
def geomTurnedSpec : ChangeSpec := { name := "geomTurned", fn := fun _ => fun
  | [d1, d2, d3, d4] => { results := [.lit (.bool true)], args := [d1, d2, d3, d4] }
  | _ => none }
def geomTurnedRow : OpenClaim := { program := "ytfagkbmphohelaa", sum := "13687422cf053c3fa3fd466a05eb078263859830d328957c5ead5fb92a1a1dc8", func := "gyre/gyrekeep.GeomTurned", spec := "geomTurned", unfollowed := true, recurses := true, named := ["math/bits.divideError", "math/bits.overflowError"], apart := false }
def GeomTurnedSaid : Prop := geomTurnedRow.holds Try.pinned (OpenSpec.ofChange geomTurnedSpec)

/-- ITS FALSE NEIGHBOUR: 'it returns false'. Refute it at one input. -/
def geomTurnedWrong : ChangeSpec := { name := "geomTurned", fn := fun _ => fun
  | [d1, d2, d3, d4] => { results := [.lit (.bool false)], args := [d1, d2, d3, d4] }
  | _ => none }
def GeomTurnedWrongFalsely : Prop := geomTurnedRow.holds Try.pinned (OpenSpec.ofChange geomTurnedWrong)

/-- 'gyrekeep.SolveStill': WHATEVER THE INPUT: true; the input reads as it did. -/
def solveStillSpec : ChangeSpec := { name := "solveStill", fn := fun _ => fun
  | [d1, d2, d3, d4, d5] => { results := [.lit (.bool true)], args := [d1, d2, d3, d4, d5] }
  | _ => none }
def solveStillRow : OpenClaim := { program := "ytfagkbmphohelaa", sum := "13687422cf053c3fa3fd466a05eb078263859830d328957c5ead5fb92a1a1dc8", func := "gyre/gyrekeep.SolveStill", spec := "solveStill", unfollowed := true, recurses := true, named := ["math/bits.divideError", "math/bits.overflowError"], apart := false }
def SolveStillSaid : Prop := solveStillRow.holds Try.pinned (OpenSpec.ofChange solveStillSpec)

/-- ITS FALSE NEIGHBOUR: 'it returns false'. Refute it at one input. -/
def solveStillWrong : ChangeSpec := { name := "solveStill", fn := fun _ => fun
  | [d1, d2, d3, d4, d5] => { results := [.lit (.bool false)], args := [d1, d2, d3, d4, d5] }
  | _ => none }
def SolveStillWrongFalsely : Prop := solveStillRow.holds Try.pinned (OpenSpec.ofChange solveStillWrong)

/- THE SECOND FORM. 'bulk': how many values and letters a reading holds, each counted each time it is reached (what is shared counts as often as it is met; a slice's spare places count too). A statement '..UptoSaid' is the law's where the arguments, and the package variables that the reading takes, are together of bulk at most 1048576: NARROWER than '..Said'. Prove '..Said' where nothing that the law and all that it calls make is longer than what came in: it says more and counts as full. Else prove '..UptoSaid'. A law counts once. -/
mutual
def uptoBulk {H : Type} : DataW H → Nat
  | .lit (.string bytes) => bytes.length + 1
  | .lit _ => 1
  | .nil => 1
  | .ptr d => uptoBulk d + 1
  | .slice elems spare => uptoBulkAll elems + uptoBulkAll spare + 1
  | .agg parts => uptoBulkAll parts + 1
  | .iface _ d => uptoBulk d + 1
  | .map entries => uptoBulkEntries entries + 1
  | .held _ => 1
def uptoBulkAll {H : Type} : List (DataW H) → Nat
  | [] => 0
  | d :: r => uptoBulk d + uptoBulkAll r
def uptoBulkEntries {H : Type} : List (Lit × DataW H) → Nat
  | [] => 0
  | x :: r => uptoBulkEntry x + uptoBulkEntries r
def uptoBulkEntry {H : Type} : Lit × DataW H → Nat
  | (.string bytes, d) => bytes.length + uptoBulk d + 1
  | (_, d) => uptoBulk d + 1
 end
def uptoSmall : (H : Type) → List (DataW H) → Bool := fun _ ds => decide (uptoBulkAll ds ≤ 1048576)
def OpenSpec.upto (s : _root_.Go.ChangeSpec) : _root_.Go.OpenSpec := { _root_.Go.OpenSpec.ofChange s with cond := some uptoSmall }

/-- 'gyrelaw.SnapLooks', WHERE WHAT IT READS IS OF BULK AT MOST 1048576: true; the input reads as it did. -/
def snapLooksUptoRow : OpenClaim := { program := "ytfagkbmphohelaa", sum := "13687422cf053c3fa3fd466a05eb078263859830d328957c5ead5fb92a1a1dc8", func := "gyre/gyrelaw.SnapLooks", spec := "snapLooks", unfollowed := true, recurses := true, apart := false, narrowed := true }
def SnapLooksUptoSaid : Prop := snapLooksUptoRow.holds Try.pinned (OpenSpec.upto snapLooksSpec)

/-- 'gyrelaw.GeomBoxes', WHERE WHAT IT READS IS OF BULK AT MOST 1048576: true; the input reads as it did. -/
def geomBoxesUptoRow : OpenClaim := { program := "ytfagkbmphohelaa", sum := "13687422cf053c3fa3fd466a05eb078263859830d328957c5ead5fb92a1a1dc8", func := "gyre/gyrelaw.GeomBoxes", spec := "geomBoxes", unfollowed := true, recurses := true, apart := false, narrowed := true }
def GeomBoxesUptoSaid : Prop := geomBoxesUptoRow.holds Try.pinned (OpenSpec.upto geomBoxesSpec)

/-- 'gyrelaw.GeomShapes', WHERE WHAT IT READS IS OF BULK AT MOST 1048576: true; the input reads as it did. -/
def geomShapesUptoRow : OpenClaim := { program := "ytfagkbmphohelaa", sum := "13687422cf053c3fa3fd466a05eb078263859830d328957c5ead5fb92a1a1dc8", func := "gyre/gyrelaw.GeomShapes", spec := "geomShapes", unfollowed := true, recurses := true, apart := false, narrowed := true }
def GeomShapesUptoSaid : Prop := geomShapesUptoRow.holds Try.pinned (OpenSpec.upto geomShapesSpec)

/-- 'gyrekeep.BitsBack', WHERE WHAT IT READS IS OF BULK AT MOST 1048576: true; the input reads as it did. -/
def bitsBackUptoRow : OpenClaim := { program := "ytfagkbmphohelaa", sum := "13687422cf053c3fa3fd466a05eb078263859830d328957c5ead5fb92a1a1dc8", func := "gyre/gyrekeep.BitsBack", spec := "bitsBack", apart := false, narrowed := true }
def BitsBackUptoSaid : Prop := bitsBackUptoRow.holds Try.pinned (OpenSpec.upto bitsBackSpec)

/-- 'gyrekeep.FxRoots', WHERE WHAT IT READS IS OF BULK AT MOST 1048576: true; the input reads as it did. -/
def fxRootsUptoRow : OpenClaim := { program := "ytfagkbmphohelaa", sum := "13687422cf053c3fa3fd466a05eb078263859830d328957c5ead5fb92a1a1dc8", func := "gyre/gyrekeep.FxRoots", spec := "fxRoots", named := ["math/bits.divideError", "math/bits.overflowError"], apart := false, narrowed := true }
def FxRootsUptoSaid : Prop := fxRootsUptoRow.holds Try.pinned (OpenSpec.upto fxRootsSpec)

/-- 'gyrelaw.FxNumbers', WHERE WHAT IT READS IS OF BULK AT MOST 1048576: true; the input reads as it did. -/
def fxNumbersUptoRow : OpenClaim := { program := "ytfagkbmphohelaa", sum := "13687422cf053c3fa3fd466a05eb078263859830d328957c5ead5fb92a1a1dc8", func := "gyre/gyrelaw.FxNumbers", spec := "fxNumbers", named := ["math/bits.divideError", "math/bits.overflowError"], apart := false, narrowed := true }
def FxNumbersUptoSaid : Prop := fxNumbersUptoRow.holds Try.pinned (OpenSpec.upto fxNumbersSpec)

/-- 'gyrelaw.FxVectors', WHERE WHAT IT READS IS OF BULK AT MOST 1048576: true; the input reads as it did. -/
def fxVectorsUptoRow : OpenClaim := { program := "ytfagkbmphohelaa", sum := "13687422cf053c3fa3fd466a05eb078263859830d328957c5ead5fb92a1a1dc8", func := "gyre/gyrelaw.FxVectors", spec := "fxVectors", unfollowed := true, recurses := true, named := ["math/bits.divideError", "math/bits.overflowError"], apart := false, narrowed := true }
def FxVectorsUptoSaid : Prop := fxVectorsUptoRow.holds Try.pinned (OpenSpec.upto fxVectorsSpec)

/-- 'gyrelaw.SolvePlaces', WHERE WHAT IT READS IS OF BULK AT MOST 1048576: true; the input reads as it did. -/
def solvePlacesUptoRow : OpenClaim := { program := "ytfagkbmphohelaa", sum := "13687422cf053c3fa3fd466a05eb078263859830d328957c5ead5fb92a1a1dc8", func := "gyre/gyrelaw.SolvePlaces", spec := "solvePlaces", unfollowed := true, recurses := true, named := ["math/bits.divideError", "math/bits.overflowError"], apart := false, narrowed := true }
def SolvePlacesUptoSaid : Prop := solvePlacesUptoRow.holds Try.pinned (OpenSpec.upto solvePlacesSpec)

/-- 'gyrelaw.GeomTouches', WHERE WHAT IT READS IS OF BULK AT MOST 1048576: true; the input reads as it did. -/
def geomTouchesUptoRow : OpenClaim := { program := "ytfagkbmphohelaa", sum := "13687422cf053c3fa3fd466a05eb078263859830d328957c5ead5fb92a1a1dc8", func := "gyre/gyrelaw.GeomTouches", spec := "geomTouches", unfollowed := true, recurses := true, named := ["math/bits.divideError", "math/bits.overflowError"], apart := false, narrowed := true }
def GeomTouchesUptoSaid : Prop := geomTouchesUptoRow.holds Try.pinned (OpenSpec.upto geomTouchesSpec)

/-- 'gyrelaw.SolveSpeeds', WHERE WHAT IT READS IS OF BULK AT MOST 1048576: true; the input reads as it did. -/
def solveSpeedsUptoRow : OpenClaim := { program := "ytfagkbmphohelaa", sum := "13687422cf053c3fa3fd466a05eb078263859830d328957c5ead5fb92a1a1dc8", func := "gyre/gyrelaw.SolveSpeeds", spec := "solveSpeeds", unfollowed := true, recurses := true, named := ["math/bits.divideError", "math/bits.overflowError"], apart := false, narrowed := true }
def SolveSpeedsUptoSaid : Prop := solveSpeedsUptoRow.holds Try.pinned (OpenSpec.upto solveSpeedsSpec)

/-- 'gyrekeep.GeomTurned', WHERE WHAT IT READS IS OF BULK AT MOST 1048576: true; the input reads as it did. -/
def geomTurnedUptoRow : OpenClaim := { program := "ytfagkbmphohelaa", sum := "13687422cf053c3fa3fd466a05eb078263859830d328957c5ead5fb92a1a1dc8", func := "gyre/gyrekeep.GeomTurned", spec := "geomTurned", unfollowed := true, recurses := true, named := ["math/bits.divideError", "math/bits.overflowError"], apart := false, narrowed := true }
def GeomTurnedUptoSaid : Prop := geomTurnedUptoRow.holds Try.pinned (OpenSpec.upto geomTurnedSpec)

/-- 'gyrekeep.SolveStill', WHERE WHAT IT READS IS OF BULK AT MOST 1048576: true; the input reads as it did. -/
def solveStillUptoRow : OpenClaim := { program := "ytfagkbmphohelaa", sum := "13687422cf053c3fa3fd466a05eb078263859830d328957c5ead5fb92a1a1dc8", func := "gyre/gyrekeep.SolveStill", spec := "solveStill", unfollowed := true, recurses := true, named := ["math/bits.divideError", "math/bits.overflowError"], apart := false, narrowed := true }
def SolveStillUptoSaid : Prop := solveStillUptoRow.holds Try.pinned (OpenSpec.upto solveStillSpec)

end Rows
end Go.Proofs.Ytfagkbmphohelaa
