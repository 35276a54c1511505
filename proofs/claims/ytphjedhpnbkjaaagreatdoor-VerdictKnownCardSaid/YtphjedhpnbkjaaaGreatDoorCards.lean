/-
  DERIVED. GIVEN WITH THE SEED: THE CARDS: each row of YtphjedhpnbkjaaaGreatDoorRows.lean that lists a variable, with what it lists TIED to the program's text (the seventh form; the later family's looks); each row that meets fmt, with fmt's text TOLD by the authors' own Lean function (tested against real Go, not proved from fmt's source: count such statements apart). THE CARD IS WHAT COUNTS. Prove the row's statement (the work); the ties are given (YtphjedhpnbkjaaaGreatDoorTie.lean); close each card by the builder's one call (the guide's Derived/Test/ToyasCard.lean, 'card_holds'). Laid BY PROGRAM, IN A SANDBOX (cutbox-door.mjs). By AI agents, Wed Nov 11 2026. No macro, syntax, notation, axiom, sorry.
-/
import Derived.Test.YtphjedhpnbkjaaaGreatDoorRows
import GoSem.ClaimSeven
namespace Go.Proofs.YtphjedhpnbkjaaaGreatDoor
namespace Rows

/-- THE TIED CARD OF 'lariatlaw22.VerdictKnown'. -/
def verdictKnownCard : Claim7 := { stood := { row := verdictKnownRow, standIns := [], harness := (true, "4f317996146d04470958bdc97f0493e3f3f600c288967dbea8531a4fc5d9973a"), looks := false }, kinds := [], alts := [], laidByText := true, laidKinds := [.data, .data, .data], laidTests := true, laidLooks := .later }
def VerdictKnownCardSaid : Prop := Claim7.holds Tryz.pinned (.plain (OpenSpec.ofChange verdictKnownSpec)) verdictKnownCard

/-- THE SECOND FORM's CARD OF 'lariatlaw22.VerdictKnown'. -/
def verdictKnownUptoCard : Claim7 := { stood := { row := verdictKnownUptoRow, standIns := [], harness := (true, "4f317996146d04470958bdc97f0493e3f3f600c288967dbea8531a4fc5d9973a"), looks := false }, kinds := [], alts := [], laidByText := true, laidKinds := [.data, .data, .data], laidTests := true, laidLooks := .later }
def VerdictKnownUptoCardSaid : Prop := Claim7.holds Tryz.pinned (.plain (OpenSpec.upto verdictKnownSpec)) verdictKnownUptoCard
end Rows
end Go.Proofs.YtphjedhpnbkjaaaGreatDoor
