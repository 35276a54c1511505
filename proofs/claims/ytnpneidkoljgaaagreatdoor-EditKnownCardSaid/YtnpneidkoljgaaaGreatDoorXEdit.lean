/-
  'lariatlaw23.EditKnown' returns true, whatever the start of the run; nothing that was there is changed. The condition: the row's own, that the listed tables read as listed.
-/
import Derived.Test.YtnpneidkoljgaaaGreatDoorXKE
import Derived.Test.YtnpneidkoljgaaaGreatDoorSSG
import Derived.Test.YtnpneidkoljgaaaGreatDoorTie
import Derived.Test.YtnpneidkoljgaaaGreatDoorCards
import Derived.ProofKit
import Derived.OpenShut
import Derived.LaidMore
import Derived.Lay
import Derived.SevenTiedAt
import Derived.Stop.Joined
namespace Go.Proofs.YtnpneidkoljgaaaGreatDoor
open Go Go.ChangeShapes Go.WideShapes Go.ChangeAt Go.RowKit

theorem known_card : Rows.EditKnownCardSaid :=
  Claim7.holds_tied_plain_at .later [] [.data, .data, .data, .data, .sentinel, .sentinel, .pinned] true (true, "3f558016d5453bc35244e18210c226b31724a0cfec27f8d9d3868ff8fda79896") true known_holds (fun _ h => by cases h) (by kernel_rfl) (fun _ h => by cases h) editKnown_row_tie rfl ⟨rfl, rfl⟩ (by kernel_rfl) rfl
    (fun f fn hf hfn => by
      obtain rfl : f = 3 := Option.some.inj (isNamed.symm.trans hf) |>.symm
      obtain rfl : fn = Tryz.f3 := (Option.some.inj (Tryz.func3.symm.trans hfn)).symm
      exact ⟨by kernel_rfl, fun j t ht => by
        rw [Tryz.params3] at ht
        simp at ht⟩)
    goesNot
#print axioms known_card

end Go.Proofs.YtnpneidkoljgaaaGreatDoor
