/-
  The run of the sentence, by the kernel. No condition.
-/
import Derived.Test.YtnpneidkoljgaaaGreatDoorXM
import Derived.Test.YtnpneidkoljgaaaGreatDoorSSG
namespace Go.Proofs.YtnpneidkoljgaaaGreatDoor
open Go Go.ChangeShapes Go.WideShapes Go.ChangeAt Go.RowKit

set_option maxRecDepth 1000000 in
theorem run3 : SS.isT (SS.callT env tab 1000000 3 [] .empty) = true := by kernel_rfl


end Go.Proofs.YtnpneidkoljgaaaGreatDoor
