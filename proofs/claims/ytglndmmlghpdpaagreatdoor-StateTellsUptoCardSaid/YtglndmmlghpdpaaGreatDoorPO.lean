/-
  part 15 of the proof; no condition.
-/
import Derived.Test.YtglndmmlghpdpaaGreatDoorPN
import Derived.Test.YtglndmmlghpdpaaGreatDoorTie
import Derived.Test.YtglndmmlghpdpaaGreatDoorCards
import Derived.ProofKit
import Derived.OpenShut
import Derived.LaidMore
import Derived.Lay
import Derived.JoinedCond
import Derived.SevenTiedAt
import Derived.Stop.Joined
namespace Go.Proofs.YtglndmmlghpdpaaGreatDoor
open Go Go.ChangeShapes Go.WideShapes Go.ChangeAt Go.RowKit
theorem vH:Rows.StateTellsUptoSaid :=
 OpenClaim.holds_of_cond 4 Tryz.f4 rfl rfl rfl rfl rfl rfl rfl ⟨rfl,rfl,rfl,rfl,rfl⟩ rfl rfl rfl rfl rfl PQ Tryz.func4 aR
  (of_decide_eq_true (by kernel_rfl)) (by unfold Func.isWrapper;first | (rw [if_pos (by decide +kernel)];kernel_rfl) | (rw [if_neg (by decide +kernel)];exact ⟨rfl,rfl⟩))
  (λos started H enc _ F=>vJ os started H enc F)
end Go.Proofs.YtglndmmlghpdpaaGreatDoor
