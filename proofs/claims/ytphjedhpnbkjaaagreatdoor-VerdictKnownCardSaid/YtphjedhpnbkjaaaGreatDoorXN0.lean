/-
  What single calls tell, by the kernel. No condition.
-/
import Derived.Test.YtphjedhpnbkjaaaGreatDoorXND
import Derived.KernelRfl
namespace Go.Proofs.YtphjedhpnbkjaaaGreatDoor
open Go SS
set_option maxRecDepth 1000000
theorem m0 : ∀ σ, callM env tab memo0 1000000 9 q0.1 σ = some (q0.2, σ) := fun σ => by kernel_rfl
theorem m1 : ∀ σ, callM env tab memo0 1000000 9 q1.1 σ = some (q1.2, σ) := fun σ => by kernel_rfl
theorem m2 : ∀ σ, callM env tab memo0 1000000 9 q2.1 σ = some (q2.2, σ) := fun σ => by kernel_rfl
end Go.Proofs.YtphjedhpnbkjaaaGreatDoor
