/-
  DERIVED. GIVEN WITH THE SEED: THE CARDS: each row of YtcefaofknaeaeaaGreatDoorRows.lean that lists a variable, with what it lists TIED to the program's text (the seventh form; the later family's looks); each row that meets fmt, with fmt's text TOLD by the authors' own Lean function (tested against real Go, not proved from fmt's source: count such statements apart). THE CARD IS WHAT COUNTS. Prove the row's statement (the work); the ties are given (YtcefaofknaeaeaaGreatDoorTie.lean); close each card by the builder's one call (the guide's Derived/Test/ToyasCard.lean, 'card_holds'). Laid BY PROGRAM, IN A SANDBOX (cutbox-door.mjs). By AI agents, Wed Nov 11 2026. No macro, syntax, notation, axiom, sorry.
-/
import Derived.Test.YtcefaofknaeaeaaGreatDoorRows
import GoSem.ClaimSeven
namespace Go.Proofs.YtcefaofknaeaeaaGreatDoor
namespace Rows

/-- THE TIED CARD OF 'demoticlaw19.AffineComposes'. -/
def affineComposesCard : Claim7 := { stood := { row := affineComposesRow, standIns := [], harness := (true, "70dcd65dccd703df3eebb1daaf5fa7a390f66d1709e93fbb5890bbcb1e0706cd"), looks := true }, kinds := [], alts := [], laidByText := true, laidKinds := [.data, .data, .data, .data, .sentinel, .sentinel, .pinned], laidTests := true, laidLooks := .later }
def AffineComposesCardSaid : Prop := Claim7.holds Tryz.pinned (.plain (OpenSpec.ofChange affineComposesSpec)) affineComposesCard

/-- THE TIED CARD OF 'demoticlaw19.AffineInverts'. -/
def affineInvertsCard : Claim7 := { stood := { row := affineInvertsRow, standIns := [], harness := (true, "70dcd65dccd703df3eebb1daaf5fa7a390f66d1709e93fbb5890bbcb1e0706cd"), looks := true }, kinds := [], alts := [], laidByText := true, laidKinds := [.data, .data, .data, .data, .sentinel, .sentinel, .pinned], laidTests := true, laidLooks := .later }
def AffineInvertsCardSaid : Prop := Claim7.holds Tryz.pinned (.plain (OpenSpec.ofChange affineInvertsSpec)) affineInvertsCard

/-- THE TIED CARD OF 'demoticlaw19.AffineMaps'. -/
def affineMapsCard : Claim7 := { stood := { row := affineMapsRow, standIns := [], harness := (true, "70dcd65dccd703df3eebb1daaf5fa7a390f66d1709e93fbb5890bbcb1e0706cd"), looks := true }, kinds := [], alts := [], laidByText := true, laidKinds := [.data, .data, .data, .data, .sentinel, .sentinel, .pinned], laidTests := true, laidLooks := .later }
def AffineMapsCardSaid : Prop := Claim7.holds Tryz.pinned (.plain (OpenSpec.ofChange affineMapsSpec)) affineMapsCard

/-- THE TIED CARD OF 'demoticlaw19.AffineParses'. -/
def affineParsesCard : Claim7 := { stood := { row := affineParsesRow, standIns := [], harness := (true, "70dcd65dccd703df3eebb1daaf5fa7a390f66d1709e93fbb5890bbcb1e0706cd"), looks := true }, kinds := [], alts := [], laidByText := true, laidKinds := [.data, .data, .data, .data, .sentinel, .sentinel, .pinned], laidTests := true, laidLooks := .later }
def AffineParsesCardSaid : Prop := Claim7.holds Tryz.pinned (.plain (OpenSpec.ofChange affineParsesSpec)) affineParsesCard

/-- THE SECOND FORM's CARD OF 'demoticlaw19.AffineComposes'. -/
def affineComposesUptoCard : Claim7 := { stood := { row := affineComposesUptoRow, standIns := [], harness := (true, "70dcd65dccd703df3eebb1daaf5fa7a390f66d1709e93fbb5890bbcb1e0706cd"), looks := true }, kinds := [], alts := [], laidByText := true, laidKinds := [.data, .data, .data, .data, .sentinel, .sentinel, .pinned], laidTests := true, laidLooks := .later }
def AffineComposesUptoCardSaid : Prop := Claim7.holds Tryz.pinned (.plain (OpenSpec.upto affineComposesSpec)) affineComposesUptoCard

/-- THE SECOND FORM's CARD OF 'demoticlaw19.AffineInverts'. -/
def affineInvertsUptoCard : Claim7 := { stood := { row := affineInvertsUptoRow, standIns := [], harness := (true, "70dcd65dccd703df3eebb1daaf5fa7a390f66d1709e93fbb5890bbcb1e0706cd"), looks := true }, kinds := [], alts := [], laidByText := true, laidKinds := [.data, .data, .data, .data, .sentinel, .sentinel, .pinned], laidTests := true, laidLooks := .later }
def AffineInvertsUptoCardSaid : Prop := Claim7.holds Tryz.pinned (.plain (OpenSpec.upto affineInvertsSpec)) affineInvertsUptoCard

/-- THE SECOND FORM's CARD OF 'demoticlaw19.AffineMaps'. -/
def affineMapsUptoCard : Claim7 := { stood := { row := affineMapsUptoRow, standIns := [], harness := (true, "70dcd65dccd703df3eebb1daaf5fa7a390f66d1709e93fbb5890bbcb1e0706cd"), looks := true }, kinds := [], alts := [], laidByText := true, laidKinds := [.data, .data, .data, .data, .sentinel, .sentinel, .pinned], laidTests := true, laidLooks := .later }
def AffineMapsUptoCardSaid : Prop := Claim7.holds Tryz.pinned (.plain (OpenSpec.upto affineMapsSpec)) affineMapsUptoCard

/-- THE SECOND FORM's CARD OF 'demoticlaw19.AffineParses'. -/
def affineParsesUptoCard : Claim7 := { stood := { row := affineParsesUptoRow, standIns := [], harness := (true, "70dcd65dccd703df3eebb1daaf5fa7a390f66d1709e93fbb5890bbcb1e0706cd"), looks := true }, kinds := [], alts := [], laidByText := true, laidKinds := [.data, .data, .data, .data, .sentinel, .sentinel, .pinned], laidTests := true, laidLooks := .later }
def AffineParsesUptoCardSaid : Prop := Claim7.holds Tryz.pinned (.plain (OpenSpec.upto affineParsesSpec)) affineParsesUptoCard
end Rows
end Go.Proofs.YtcefaofknaeaeaaGreatDoor
