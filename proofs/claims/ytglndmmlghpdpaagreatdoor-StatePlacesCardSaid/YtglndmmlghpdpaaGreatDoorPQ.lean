/-
  part 17 of the proof; no condition.
-/
import Derived.Test.YtglndmmlghpdpaaGreatDoorPP
import Derived.Test.YtglndmmlghpdpaaGreatDoorTie
import Derived.Test.YtglndmmlghpdpaaGreatDoorCards
import Derived.ProofKit
import Derived.OpenShut
import Derived.LaidMore
import Derived.Lay
import Derived.SevenTiedAt
import Derived.Stop.Joined
namespace Go.Proofs.YtglndmmlghpdpaaGreatDoor
open Go Go.ChangeShapes Go.WideShapes Go.ChangeAt Go.RowKit
theorem mA:Rows.StatePlacesSaid :=
 OpenClaim.holds_of_wide 3 Tryz.f3 rfl rfl rfl rfl rfl rfl rfl ⟨rfl,rfl,rfl,rfl,rfl⟩ rfl rfl rfl rfl rfl O5 Tryz.func3 Zg
  (of_decide_eq_true (by kernel_rfl)) (by unfold Func.isWrapper;first | (rw [if_pos (by decide +kernel)];kernel_rfl) | (rw [if_neg (by decide +kernel)];exact ⟨rfl,rfl⟩))
  (fun os started H enc _=>mC os started H enc)
end Go.Proofs.YtglndmmlghpdpaaGreatDoor
