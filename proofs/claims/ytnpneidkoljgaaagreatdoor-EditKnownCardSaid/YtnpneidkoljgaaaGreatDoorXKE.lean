/-
  The row's statement. The condition: the row's own, that the listed tables read as listed.
-/
import Derived.Test.YtnpneidkoljgaaaGreatDoorXKD
import Derived.Test.YtnpneidkoljgaaaGreatDoorXKF
import Derived.Test.YtnpneidkoljgaaaGreatDoorSSG
import Derived.Test.YtnpneidkoljgaaaGreatDoorTie
import Derived.Test.YtnpneidkoljgaaaGreatDoorCards
import Derived.ProofKit
import Derived.OpenShut
import Derived.LaidMore
import Derived.Lay
import Derived.SevenTiedAt
import Derived.Stop.Joined
namespace Go.Proofs.YtnpneidkoljgaaaGreatDoor
open Go Go.ChangeShapes Go.WideShapes Go.ChangeAt Go.RowKit

theorem known_holds : Rows.EditKnownSaid :=
  OpenClaim.holds_of_wide 3 Tryz.f3 rfl rfl rfl rfl rfl rfl rfl ⟨rfl, rfl, rfl, rfl, rfl⟩ rfl rfl rfl rfl rfl isNamed Tryz.func3 facts
    (of_decide_eq_true (by kernel_rfl)) (by unfold Func.isWrapper; first | (rw [if_pos (by decide +kernel)]; kernel_rfl) | (rw [if_neg (by decide +kernel)]; exact ⟨rfl, rfl⟩))
    (fun os started H enc _ => known_lifted os started H enc)


end Go.Proofs.YtnpneidkoljgaaaGreatDoor
