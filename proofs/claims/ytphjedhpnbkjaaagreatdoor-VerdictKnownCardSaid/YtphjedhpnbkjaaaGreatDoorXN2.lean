/-
  What single calls tell, by the kernel. No condition.
-/
import Derived.Test.YtphjedhpnbkjaaaGreatDoorXND
import Derived.KernelRfl
namespace Go.Proofs.YtphjedhpnbkjaaaGreatDoor
open Go SS
set_option maxRecDepth 1000000
theorem m6 : ∀ σ, callM env tab memo0 1000000 9 q6.1 σ = some (q6.2, σ) := fun σ => by kernel_rfl
theorem m7 : ∀ σ, callM env tab memo0 1000000 9 q7.1 σ = some (q7.2, σ) := fun σ => by kernel_rfl
theorem m8 : ∀ σ, callM env tab memo0 1000000 9 q8.1 σ = some (q8.2, σ) := fun σ => by kernel_rfl
end Go.Proofs.YtphjedhpnbkjaaaGreatDoor
