/-
  What single calls tell, by the kernel. No condition.
-/
import Derived.Test.YtphjedhpnbkjaaaGreatDoorXND
import Derived.KernelRfl
namespace Go.Proofs.YtphjedhpnbkjaaaGreatDoor
open Go SS
set_option maxRecDepth 1000000
theorem m9 : ∀ σ, callM env tab memo0 1000000 9 q9.1 σ = some (q9.2, σ) := fun σ => by kernel_rfl
theorem m10 : ∀ σ, callM env tab memo0 1000000 9 q10.1 σ = some (q10.2, σ) := fun σ => by kernel_rfl
end Go.Proofs.YtphjedhpnbkjaaaGreatDoor
