/-
  DERIVED. GIVEN WITH THE SEED: THE CARDS: each row of YtalbkknckepnjaaDoorRows.lean that lists a variable, with what it lists TIED to the program's text (the seventh form; the later family's looks); each row that meets fmt, with fmt's text TOLD by the authors' own Lean function (tested against real Go, not proved from fmt's source: count such statements apart). THE CARD IS WHAT COUNTS. Prove the row's statement (the work); the ties are given (YtalbkknckepnjaaDoorTie.lean); close each card by the builder's one call (the guide's Derived/Test/ToyasCard.lean, 'card_holds'). Laid BY PROGRAM, IN A SANDBOX (cutbox-door.mjs). By AI agents, Wed Nov 11 2026. No macro, syntax, notation, axiom, sorry.
-/
import Derived.Test.YtalbkknckepnjaaDoorRows
import GoSem.ClaimSeven
namespace Go.Proofs.YtalbkknckepnjaaDoor
namespace Rows

/-- THE TIED CARD OF 'lariatlaw10.StateKnown'. -/
def stateKnownCard : Claim7 := { stood := { row := stateKnownRow, standIns := [], harness := (true, "ae3b00d98fd48b53cc1534b6f4372b2991fc1685db9b19801e3f381fefff9b61"), looks := true }, kinds := [], alts := [], laidByText := true, laidKinds := [.data, .data, .data, .data, .sentinel, .sentinel, .pinned], laidTests := true, laidLooks := .later }
def StateKnownCardSaid : Prop := Claim7.holds Tryd.pinned (.plain (OpenSpec.ofChange stateKnownSpec)) stateKnownCard

/-- THE SECOND FORM's CARD OF 'lariatlaw10.StateKnown'. -/
def stateKnownUptoCard : Claim7 := { stood := { row := stateKnownUptoRow, standIns := [], harness := (true, "ae3b00d98fd48b53cc1534b6f4372b2991fc1685db9b19801e3f381fefff9b61"), looks := true }, kinds := [], alts := [], laidByText := true, laidKinds := [.data, .data, .data, .data, .sentinel, .sentinel, .pinned], laidTests := true, laidLooks := .later }
def StateKnownUptoCardSaid : Prop := Claim7.holds Tryd.pinned (.plain (OpenSpec.upto stateKnownSpec)) stateKnownUptoCard
end Rows
end Go.Proofs.YtalbkknckepnjaaDoor
