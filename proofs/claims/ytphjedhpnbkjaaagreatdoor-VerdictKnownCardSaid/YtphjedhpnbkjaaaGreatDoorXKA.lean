/-
  The run of the sentence, by the kernel. No condition.
-/
import Derived.Test.YtphjedhpnbkjaaaGreatDoorXND
import Derived.KernelRfl
namespace Go.Proofs.YtphjedhpnbkjaaaGreatDoor
open Go Go.ChangeShapes Go.WideShapes Go.ChangeAt Go.RowKit

set_option maxRecDepth 1000000 in
theorem run3 : SS.isT (SS.callM env tab memo1 1000000 3 [] .empty) = true := by kernel_rfl


end Go.Proofs.YtphjedhpnbkjaaaGreatDoor
