/-
  The surroundings are as asked. No condition.
-/
import Derived.Test.YtphjedhpnbkjaaaGreatDoorXM
import Derived.Test.YtphjedhpnbkjaaaGreatDoorSSG
import Derived.OpenShut
namespace Go.Proofs.YtphjedhpnbkjaaaGreatDoor
open Go Go.ChangeShapes Go.WideShapes Go.ChangeAt Go.RowKit

theorem own : ownKnob Tryz.prog.godebug = none := by kernel_rfl

theorem ext_mem {f : Nat} {e : SS.Ext} (he : env.extn f = some e) : (f, e) ∈ [(234, SS.Ext.same), (235, .makeNoZero 5)] := SS.PT.ofL_mem _ he
theorem idx {W : World} (hsh : W.ShapedOpen Tryz.prog) (f g : Nat) (h : env.extn f = some (.indexStr g)) : Nat.beq g 0 = true ∧ ∃ cs' t fr m, W.heap[g]? = some (.cells cs' t fr) ∧ cs'[0]? = some (.int .i64 m) := by
  have hm := ext_mem h
  simp at hm

theorem env_ok : SS.EnvOk env where
  code := SS.code_of2 (by kernel_rfl)
  ext := by
    intro f e he
    have hm := ext_mem he
    simp only [List.mem_cons, List.not_mem_nil, or_false, Prod.mk.injEq] at hm
    rcases hm with ⟨rfl, rfl⟩ | ⟨rfl, rfl⟩
    · exact ⟨fun _ h => (by cases h), fun _ _ => ⟨Tryz.f234, _, Tryz.func234, by kernel_rfl, by kernel_rfl, by kernel_rfl, (show Extern.find Tryz.f234 = some Extern.AbiNoEscape.same by kernel_rfl), fun _ _ _ => rfl⟩⟩
    · exact ⟨fun _ h => (by cases h), fun _ _ => ⟨Tryz.f235, Extern.BytealgMakeNoZero.makeNoZero #[3] #[231], Tryz.func235, by kernel_rfl, by kernel_rfl, by kernel_rfl, by kernel_rfl, #[3], 231, by kernel_rfl, by kernel_rfl, rfl⟩⟩


end Go.Proofs.YtphjedhpnbkjaaaGreatDoor
