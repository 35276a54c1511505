/-
  The run of the sentence, by the kernel. No condition.
-/
import Derived.Test.YtalbkknckepnjaaGreatDoorXM
import Derived.Test.YtalbkknckepnjaaGreatDoorSSG
namespace Go.Proofs.YtalbkknckepnjaaGreatDoor
open Go Go.ChangeShapes Go.WideShapes Go.ChangeAt Go.RowKit

set_option maxRecDepth 1000000 in
theorem run5 : SS.isT (SS.callT env tab 1000000 5 [] .empty) = true := by kernel_rfl


end Go.Proofs.YtalbkknckepnjaaGreatDoor
