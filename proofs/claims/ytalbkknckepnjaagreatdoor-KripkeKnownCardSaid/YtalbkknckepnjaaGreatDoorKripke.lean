/-
  'lariatlaw12.KripkeKnown' returns true, whatever the start of the run; nothing that was there is changed. The condition: the row's own, that the listed tables read as listed.
-/
import Derived.Test.YtalbkknckepnjaaGreatDoorXKE
import Derived.Test.YtalbkknckepnjaaGreatDoorSSG
import Derived.Test.YtalbkknckepnjaaGreatDoorTie
import Derived.Test.YtalbkknckepnjaaGreatDoorCards
import Derived.ProofKit
import Derived.OpenShut
import Derived.LaidMore
import Derived.Lay
import Derived.SevenTiedAt
import Derived.Stop.Joined
namespace Go.Proofs.YtalbkknckepnjaaGreatDoor
open Go Go.ChangeShapes Go.WideShapes Go.ChangeAt Go.RowKit

theorem known_card : Rows.KripkeKnownCardSaid :=
  Claim7.holds_tied_plain_at .later [] [.data, .data, .data, .data, .sentinel, .sentinel, .pinned] true (true, "43cb8842b2d1e7bc8cd400d5b6475cde5efc1c2edf16898aef97d32ba9c1e62c") true known_holds (fun _ h => by cases h) (by kernel_rfl) (fun _ h => by cases h) kripkeKnown_row_tie rfl ⟨rfl, rfl⟩ (by kernel_rfl) rfl
    (fun f fn hf hfn => by
      obtain rfl : f = 5 := Option.some.inj (isNamed.symm.trans hf) |>.symm
      obtain rfl : fn = Tryz.f5 := (Option.some.inj (Tryz.func5.symm.trans hfn)).symm
      exact ⟨by kernel_rfl, fun j t ht => by
        rw [Tryz.params5] at ht
        simp at ht⟩)
    goesNot
#print axioms known_card

end Go.Proofs.YtalbkknckepnjaaGreatDoor
