/-
  DERIVED. GIVEN WITH THE SEED: THE CARDS: each row of YtnpneidkoljgaaaGreatDoorRows.lean that lists a variable, with what it lists TIED to the program's text (the seventh form; the later family's looks); each row that meets fmt, with fmt's text TOLD by the authors' own Lean function (tested against real Go, not proved from fmt's source: count such statements apart). THE CARD IS WHAT COUNTS. Prove the row's statement (the work); the ties are given (YtnpneidkoljgaaaGreatDoorTie.lean); close each card by the builder's one call (the guide's Derived/Test/ToyasCard.lean, 'card_holds'). Laid BY PROGRAM, IN A SANDBOX (cutbox-door.mjs). By AI agents, Wed Nov 11 2026. No macro, syntax, notation, axiom, sorry.
-/
import Derived.Test.YtnpneidkoljgaaaGreatDoorRows
import GoSem.ClaimSeven
namespace Go.Proofs.YtnpneidkoljgaaaGreatDoor
namespace Rows

/-- THE TIED CARD OF 'lariatlaw23.EditKnown'. -/
def editKnownCard : Claim7 := { stood := { row := editKnownRow, standIns := [], harness := (true, "3f558016d5453bc35244e18210c226b31724a0cfec27f8d9d3868ff8fda79896"), looks := true }, kinds := [], alts := [], laidByText := true, laidKinds := [.data, .data, .data, .data, .sentinel, .sentinel, .pinned], laidTests := true, laidLooks := .later }
def EditKnownCardSaid : Prop := Claim7.holds Tryz.pinned (.plain (OpenSpec.ofChange editKnownSpec)) editKnownCard

/-- THE TIED CARD OF 'lariatlaw25.ImageKnown'. -/
def imageKnownCard : Claim7 := { stood := { row := imageKnownRow, standIns := [], harness := (true, "3f558016d5453bc35244e18210c226b31724a0cfec27f8d9d3868ff8fda79896"), looks := true }, kinds := [], alts := [], laidByText := true, laidKinds := [.data, .data, .data, .data, .sentinel, .sentinel, .pinned], laidTests := true, laidLooks := .later }
def ImageKnownCardSaid : Prop := Claim7.holds Tryz.pinned (.plain (OpenSpec.ofChange imageKnownSpec)) imageKnownCard

/-- THE SECOND FORM's CARD OF 'lariatlaw23.EditKnown'. -/
def editKnownUptoCard : Claim7 := { stood := { row := editKnownUptoRow, standIns := [], harness := (true, "3f558016d5453bc35244e18210c226b31724a0cfec27f8d9d3868ff8fda79896"), looks := true }, kinds := [], alts := [], laidByText := true, laidKinds := [.data, .data, .data, .data, .sentinel, .sentinel, .pinned], laidTests := true, laidLooks := .later }
def EditKnownUptoCardSaid : Prop := Claim7.holds Tryz.pinned (.plain (OpenSpec.upto editKnownSpec)) editKnownUptoCard

/-- THE SECOND FORM's CARD OF 'lariatlaw25.ImageKnown'. -/
def imageKnownUptoCard : Claim7 := { stood := { row := imageKnownUptoRow, standIns := [], harness := (true, "3f558016d5453bc35244e18210c226b31724a0cfec27f8d9d3868ff8fda79896"), looks := true }, kinds := [], alts := [], laidByText := true, laidKinds := [.data, .data, .data, .data, .sentinel, .sentinel, .pinned], laidTests := true, laidLooks := .later }
def ImageKnownUptoCardSaid : Prop := Claim7.holds Tryz.pinned (.plain (OpenSpec.upto imageKnownSpec)) imageKnownUptoCard
end Rows
end Go.Proofs.YtnpneidkoljgaaaGreatDoor
