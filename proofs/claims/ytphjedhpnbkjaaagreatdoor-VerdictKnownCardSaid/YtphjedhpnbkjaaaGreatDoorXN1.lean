/-
  What single calls tell, by the kernel. No condition.
-/
import Derived.Test.YtphjedhpnbkjaaaGreatDoorXND
import Derived.KernelRfl
namespace Go.Proofs.YtphjedhpnbkjaaaGreatDoor
open Go SS
set_option maxRecDepth 1000000
theorem m3 : ∀ σ, callM env tab memo0 1000000 9 q3.1 σ = some (q3.2, σ) := fun σ => by kernel_rfl
theorem m4 : ∀ σ, callM env tab memo0 1000000 9 q4.1 σ = some (q4.2, σ) := fun σ => by kernel_rfl
theorem m5 : ∀ σ, callM env tab memo0 1000000 9 q5.1 σ = some (q5.2, σ) := fun σ => by kernel_rfl
end Go.Proofs.YtphjedhpnbkjaaaGreatDoor
