/-
  DERIVED. GIVEN WITH THE SEED: THE CARDS: each row of YtcefaofknaeaeaaDoorRows.lean that lists a variable, with what it lists TIED to the program's text (the seventh form; the later family's looks); each row that meets fmt, with fmt's text TOLD by the authors' own Lean function (tested against real Go, not proved from fmt's source: count such statements apart). THE CARD IS WHAT COUNTS. Prove the row's statement (the work); the ties are given (YtcefaofknaeaeaaDoorTie.lean); close each card by the builder's one call (the guide's Derived/Test/ToyasCard.lean, 'card_holds'). Laid BY PROGRAM, IN A SANDBOX (cutbox-door.mjs). By AI agents, Wed Nov 11 2026. No macro, syntax, notation, axiom, sorry.
-/
import Derived.Test.YtcefaofknaeaeaaDoorRows
import GoSem.ClaimSeven
namespace Go.Proofs.YtcefaofknaeaeaaDoor
namespace Rows

/-- THE TIED CARD OF 'demoticlaw19.AffineApplies'. -/
def affineAppliesCard : Claim7 := { stood := { row := affineAppliesRow, standIns := [], harness := (true, "fad32d3316d0507cea6015e0a015ccb4fe8eea8a9dc847ccb06e048cfb9d89fb"), looks := true }, kinds := [], alts := [], laidByText := true, laidKinds := [.data, .data, .data, .data, .sentinel, .sentinel, .pinned], laidTests := true, laidLooks := .later }
def AffineAppliesCardSaid : Prop := Claim7.holds Tryd.pinned (.plain (OpenSpec.ofChange affineAppliesSpec)) affineAppliesCard

/-- THE TIED CARD OF 'demoticlaw19.AffineAgain'. -/
def affineAgainCard : Claim7 := { stood := { row := affineAgainRow, standIns := [], harness := (true, "fad32d3316d0507cea6015e0a015ccb4fe8eea8a9dc847ccb06e048cfb9d89fb"), looks := true }, kinds := [], alts := [], laidByText := true, laidKinds := [.data, .data, .data, .data, .sentinel, .sentinel, .pinned], laidTests := true, laidLooks := .later }
def AffineAgainCardSaid : Prop := Claim7.holds Tryd.pinned (.plain (OpenSpec.ofChange affineAgainSpec)) affineAgainCard

/-- THE SECOND FORM's CARD OF 'demoticlaw19.AffineApplies'. -/
def affineAppliesUptoCard : Claim7 := { stood := { row := affineAppliesUptoRow, standIns := [], harness := (true, "fad32d3316d0507cea6015e0a015ccb4fe8eea8a9dc847ccb06e048cfb9d89fb"), looks := true }, kinds := [], alts := [], laidByText := true, laidKinds := [.data, .data, .data, .data, .sentinel, .sentinel, .pinned], laidTests := true, laidLooks := .later }
def AffineAppliesUptoCardSaid : Prop := Claim7.holds Tryd.pinned (.plain (OpenSpec.upto affineAppliesSpec)) affineAppliesUptoCard

/-- THE SECOND FORM's CARD OF 'demoticlaw19.AffineAgain'. -/
def affineAgainUptoCard : Claim7 := { stood := { row := affineAgainUptoRow, standIns := [], harness := (true, "fad32d3316d0507cea6015e0a015ccb4fe8eea8a9dc847ccb06e048cfb9d89fb"), looks := true }, kinds := [], alts := [], laidByText := true, laidKinds := [.data, .data, .data, .data, .sentinel, .sentinel, .pinned], laidTests := true, laidLooks := .later }
def AffineAgainUptoCardSaid : Prop := Claim7.holds Tryd.pinned (.plain (OpenSpec.upto affineAgainSpec)) affineAgainUptoCard
end Rows
end Go.Proofs.YtcefaofknaeaeaaDoor
