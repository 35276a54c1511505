/-
  The surroundings are as asked. No condition.
-/
import Derived.Test.YtalbkknckepnjaaGreatDoorXM
import Derived.Test.YtalbkknckepnjaaGreatDoorSSG
import Derived.OpenShut
namespace Go.Proofs.YtalbkknckepnjaaGreatDoor
open Go Go.ChangeShapes Go.WideShapes Go.ChangeAt Go.RowKit

theorem own : ownKnob Tryz.prog.godebug = none := by kernel_rfl

theorem ext_mem {f : Nat} {e : SS.Ext} (he : env.extn f = some e) : (f, e) ∈ [(220, SS.Ext.store), (225, .load .i64), (235, .same), (293, .countStr), (346, .makeNoZero 5), (347, .cas .i64), (377, .indexByteStr)] := SS.PT.ofL_mem _ he
theorem idx {W : World} (hsh : W.ShapedOpen Tryz.prog) (f g : Nat) (h : env.extn f = some (.indexStr g)) : Nat.beq g 0 = true ∧ ∃ cs' t fr m, W.heap[g]? = some (.cells cs' t fr) ∧ cs'[0]? = some (.int .i64 m) := by
  have hm := ext_mem h
  simp at hm

theorem env_ok : SS.EnvOk env where
  code := SS.code_of2 (by kernel_rfl)
  ext := by
    intro f e he
    have hm := ext_mem he
    simp only [List.mem_cons, List.not_mem_nil, or_false, Prod.mk.injEq] at hm
    rcases hm with ⟨rfl, rfl⟩ | ⟨rfl, rfl⟩ | ⟨rfl, rfl⟩ | ⟨rfl, rfl⟩ | ⟨rfl, rfl⟩ | ⟨rfl, rfl⟩ | ⟨rfl, rfl⟩
    · exact ⟨fun _ h => (by cases h), fun _ _ => ⟨Tryz.f220, _, Tryz.func220, by kernel_rfl, by kernel_rfl, by kernel_rfl, by kernel_rfl, rfl⟩⟩
    · exact ⟨fun _ h => (by cases h), fun _ _ => ⟨Tryz.f225, _, Tryz.func225, by kernel_rfl, by kernel_rfl, by kernel_rfl, by kernel_rfl, rfl⟩⟩
    · exact ⟨fun _ h => (by cases h), fun _ _ => ⟨Tryz.f235, _, Tryz.func235, by kernel_rfl, by kernel_rfl, by kernel_rfl, (show Extern.find Tryz.f235 = some Extern.AbiNoEscape.same by kernel_rfl), fun _ _ _ => rfl⟩⟩
    · exact ⟨fun _ h => (by cases h), fun _ _ => ⟨Tryz.f293, _, Tryz.func293, by kernel_rfl, by kernel_rfl, by kernel_rfl, by kernel_rfl, rfl⟩⟩
    · exact ⟨fun _ h => (by cases h), fun _ _ => ⟨Tryz.f346, Extern.BytealgMakeNoZero.makeNoZero #[3] #[146], Tryz.func346, by kernel_rfl, by kernel_rfl, by kernel_rfl, by kernel_rfl, #[3], 146, by kernel_rfl, by kernel_rfl, rfl⟩⟩
    · exact ⟨fun _ h => (by cases h), fun _ _ => ⟨Tryz.f347, _, Tryz.func347, by kernel_rfl, by kernel_rfl, by kernel_rfl, by kernel_rfl, rfl⟩⟩
    · exact ⟨fun _ h => (by cases h), fun _ _ => ⟨Tryz.f377, _, Tryz.func377, by kernel_rfl, by kernel_rfl, by kernel_rfl, by kernel_rfl, rfl⟩⟩


end Go.Proofs.YtalbkknckepnjaaGreatDoor
