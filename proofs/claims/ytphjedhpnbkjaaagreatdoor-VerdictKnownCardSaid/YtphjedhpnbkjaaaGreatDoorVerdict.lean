/-
  'lariatlaw22.VerdictKnown' returns true, whatever the start of the run; nothing that was there is changed. The condition: the row's own, that the listed tables read as listed.
-/
import Derived.Test.YtphjedhpnbkjaaaGreatDoorXKE
import Derived.Test.YtphjedhpnbkjaaaGreatDoorSSG
import Derived.Test.YtphjedhpnbkjaaaGreatDoorTie
import Derived.Test.YtphjedhpnbkjaaaGreatDoorCards
import Derived.ProofKit
import Derived.OpenShut
import Derived.LaidMore
import Derived.Lay
import Derived.SevenTiedAt
import Derived.Stop.Joined
namespace Go.Proofs.YtphjedhpnbkjaaaGreatDoor
open Go Go.ChangeShapes Go.WideShapes Go.ChangeAt Go.RowKit

theorem known_card : Rows.VerdictKnownCardSaid :=
  Claim7.holds_tied_plain_at .later [] [.data, .data, .data] true (true, "4f317996146d04470958bdc97f0493e3f3f600c288967dbea8531a4fc5d9973a") false known_holds (fun _ h => by cases h) (by kernel_rfl) (fun _ h => by cases h) verdictKnown_row_tie rfl ⟨rfl, rfl⟩ (by kernel_rfl) rfl
    (fun f fn hf hfn => by
      obtain rfl : f = 3 := Option.some.inj (isNamed.symm.trans hf) |>.symm
      obtain rfl : fn = Tryz.f3 := (Option.some.inj (Tryz.func3.symm.trans hfn)).symm
      exact ⟨by kernel_rfl, fun j t ht => by
        rw [Tryz.params3] at ht
        simp at ht⟩)
    goesNot
#print axioms known_card

end Go.Proofs.YtphjedhpnbkjaaaGreatDoor
