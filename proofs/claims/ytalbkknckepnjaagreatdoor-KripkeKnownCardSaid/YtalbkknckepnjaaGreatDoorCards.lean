/-
  DERIVED. GIVEN WITH THE SEED: THE CARDS: each row of YtalbkknckepnjaaGreatDoorRows.lean that lists a variable, with what it lists TIED to the program's text (the seventh form; the later family's looks); each row that meets fmt, with fmt's text TOLD by the authors' own Lean function (tested against real Go, not proved from fmt's source: count such statements apart). THE CARD IS WHAT COUNTS. Prove the row's statement (the work); the ties are given (YtalbkknckepnjaaGreatDoorTie.lean); close each card by the builder's one call (the guide's Derived/Test/ToyasCard.lean, 'card_holds'). Laid BY PROGRAM, IN A SANDBOX (cutbox-door.mjs). By AI agents, Wed Nov 11 2026. No macro, syntax, notation, axiom, sorry.
-/
import Derived.Test.YtalbkknckepnjaaGreatDoorRows
import GoSem.ClaimSeven
namespace Go.Proofs.YtalbkknckepnjaaGreatDoor
namespace Rows

/-- THE TIED CARD OF 'lariatlaw19.ProductKnown'. -/
def productKnownCard : Claim7 := { stood := { row := productKnownRow, standIns := [], harness := (true, "43cb8842b2d1e7bc8cd400d5b6475cde5efc1c2edf16898aef97d32ba9c1e62c"), looks := true }, kinds := [], alts := [], laidByText := true, laidKinds := [.data, .data, .data], laidTests := true, laidLooks := .later }
def ProductKnownCardSaid : Prop := Claim7.holds Tryz.pinned (.plain (OpenSpec.ofChange productKnownSpec)) productKnownCard

/-- THE TIED CARD OF 'lariatlaw24.DeltaKnown'. -/
def deltaKnownCard : Claim7 := { stood := { row := deltaKnownRow, standIns := [], harness := (true, "43cb8842b2d1e7bc8cd400d5b6475cde5efc1c2edf16898aef97d32ba9c1e62c"), looks := true }, kinds := [], alts := [], laidByText := true, laidKinds := [.data, .data, .data], laidTests := true, laidLooks := .later }
def DeltaKnownCardSaid : Prop := Claim7.holds Tryz.pinned (.plain (OpenSpec.ofChange deltaKnownSpec)) deltaKnownCard

/-- THE TIED CARD OF 'lariatlaw12.KripkeKnown'. -/
def kripkeKnownCard : Claim7 := { stood := { row := kripkeKnownRow, standIns := [], harness := (true, "43cb8842b2d1e7bc8cd400d5b6475cde5efc1c2edf16898aef97d32ba9c1e62c"), looks := true }, kinds := [], alts := [], laidByText := true, laidKinds := [.data, .data, .data, .data, .sentinel, .sentinel, .pinned], laidTests := true, laidLooks := .later }
def KripkeKnownCardSaid : Prop := Claim7.holds Tryz.pinned (.plain (OpenSpec.ofChange kripkeKnownSpec)) kripkeKnownCard

/-- THE TIED CARD OF 'lariatlaw21.LassoKnown'. -/
def lassoKnownCard : Claim7 := { stood := { row := lassoKnownRow, standIns := [], harness := (true, "43cb8842b2d1e7bc8cd400d5b6475cde5efc1c2edf16898aef97d32ba9c1e62c"), looks := true }, kinds := [], alts := [], laidByText := true, laidKinds := [.data, .data, .data], laidTests := true, laidLooks := .later }
def LassoKnownCardSaid : Prop := Claim7.holds Tryz.pinned (.plain (OpenSpec.ofChange lassoKnownSpec)) lassoKnownCard

/-- THE SECOND FORM's CARD OF 'lariatlaw19.ProductKnown'. -/
def productKnownUptoCard : Claim7 := { stood := { row := productKnownUptoRow, standIns := [], harness := (true, "43cb8842b2d1e7bc8cd400d5b6475cde5efc1c2edf16898aef97d32ba9c1e62c"), looks := true }, kinds := [], alts := [], laidByText := true, laidKinds := [.data, .data, .data], laidTests := true, laidLooks := .later }
def ProductKnownUptoCardSaid : Prop := Claim7.holds Tryz.pinned (.plain (OpenSpec.upto productKnownSpec)) productKnownUptoCard

/-- THE SECOND FORM's CARD OF 'lariatlaw24.DeltaKnown'. -/
def deltaKnownUptoCard : Claim7 := { stood := { row := deltaKnownUptoRow, standIns := [], harness := (true, "43cb8842b2d1e7bc8cd400d5b6475cde5efc1c2edf16898aef97d32ba9c1e62c"), looks := true }, kinds := [], alts := [], laidByText := true, laidKinds := [.data, .data, .data], laidTests := true, laidLooks := .later }
def DeltaKnownUptoCardSaid : Prop := Claim7.holds Tryz.pinned (.plain (OpenSpec.upto deltaKnownSpec)) deltaKnownUptoCard

/-- THE SECOND FORM's CARD OF 'lariatlaw12.KripkeKnown'. -/
def kripkeKnownUptoCard : Claim7 := { stood := { row := kripkeKnownUptoRow, standIns := [], harness := (true, "43cb8842b2d1e7bc8cd400d5b6475cde5efc1c2edf16898aef97d32ba9c1e62c"), looks := true }, kinds := [], alts := [], laidByText := true, laidKinds := [.data, .data, .data, .data, .sentinel, .sentinel, .pinned], laidTests := true, laidLooks := .later }
def KripkeKnownUptoCardSaid : Prop := Claim7.holds Tryz.pinned (.plain (OpenSpec.upto kripkeKnownSpec)) kripkeKnownUptoCard

/-- THE SECOND FORM's CARD OF 'lariatlaw21.LassoKnown'. -/
def lassoKnownUptoCard : Claim7 := { stood := { row := lassoKnownUptoRow, standIns := [], harness := (true, "43cb8842b2d1e7bc8cd400d5b6475cde5efc1c2edf16898aef97d32ba9c1e62c"), looks := true }, kinds := [], alts := [], laidByText := true, laidKinds := [.data, .data, .data], laidTests := true, laidLooks := .later }
def LassoKnownUptoCardSaid : Prop := Claim7.holds Tryz.pinned (.plain (OpenSpec.upto lassoKnownSpec)) lassoKnownUptoCard
end Rows
end Go.Proofs.YtalbkknckepnjaaGreatDoor
