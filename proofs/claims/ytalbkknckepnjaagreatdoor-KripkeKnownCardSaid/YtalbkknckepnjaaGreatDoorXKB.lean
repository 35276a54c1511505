/-
  The surroundings are as asked. No condition.
-/
import Derived.Test.YtalbkknckepnjaaGreatDoorXM
import Derived.Test.YtalbkknckepnjaaGreatDoorSSG
import Derived.Test.YtalbkknckepnjaaGreatDoorXKI
import Derived.OpenShut
namespace Go.Proofs.YtalbkknckepnjaaGreatDoor
open Go Go.ChangeShapes Go.WideShapes Go.ChangeAt Go.RowKit

theorem own : ownKnob Tryz.prog.godebug = none := by kernel_rfl

theorem ext_mem {f : Nat} {e : SS.Ext} (he : env.extn f = some e) : (f, e) ∈ [(220, SS.Ext.store), (225, .load .i64), (235, .same), (293, .countStr), (346, .makeNoZero 5), (347, .cas .i64), (377, .indexByteStr), (294, .indexStr 0)] := SS.PT.ofL_mem _ he
theorem idx {W : World} (hsh : W.ShapedOpen Tryz.prog) (f g : Nat) (h : env.extn f = some (.indexStr g)) : Nat.beq g 0 = true ∧ ∃ cs' t fr m, W.heap[g]? = some (.cells cs' t fr) ∧ cs'[0]? = some (.int .i64 m) := by
  have hm := ext_mem h
  simp at hm
  obtain ⟨_, rfl⟩ := hm
  obtain ⟨m, hm⟩ := cell_of_shapedOpen_int (P := Tryz.prog) (g := 0) (t := 3) (zero := #[.int .i64 0]) hsh (of_decide_eq_true (by kernel_rfl)) (by kernel_rfl) rfl (by kernel_rfl) (by kernel_rfl) (by kernel_rfl)
  obtain ⟨cs, t, fr, h1, h2⟩ := SS.cell_inv hm
  exact ⟨rfl, cs, t, fr, m, h1, h2⟩

theorem env_ok : SS.EnvOk env where
  code := SS.code_of2 (by kernel_rfl)
  ext := by
    intro f e he
    have hm := ext_mem he
    simp only [List.mem_cons, List.not_mem_nil, or_false, Prod.mk.injEq] at hm
    rcases hm with ⟨rfl, rfl⟩ | ⟨rfl, rfl⟩ | ⟨rfl, rfl⟩ | ⟨rfl, rfl⟩ | ⟨rfl, rfl⟩ | ⟨rfl, rfl⟩ | ⟨rfl, rfl⟩ | ⟨rfl, rfl⟩
    · exact ⟨fun _ h => (by cases h), fun _ _ => ⟨Tryz.f220, _, Tryz.func220, by kernel_rfl, by kernel_rfl, by kernel_rfl, by kernel_rfl, rfl⟩⟩
    · exact ⟨fun _ h => (by cases h), fun _ _ => ⟨Tryz.f225, _, Tryz.func225, by kernel_rfl, by kernel_rfl, by kernel_rfl, by kernel_rfl, rfl⟩⟩
    · exact ⟨fun _ h => (by cases h), fun _ _ => ⟨Tryz.f235, _, Tryz.func235, by kernel_rfl, by kernel_rfl, by kernel_rfl, (show Extern.find Tryz.f235 = some Extern.AbiNoEscape.same by kernel_rfl), fun _ _ _ => rfl⟩⟩
    · exact ⟨fun _ h => (by cases h), fun _ _ => ⟨Tryz.f293, _, Tryz.func293, by kernel_rfl, by kernel_rfl, by kernel_rfl, by kernel_rfl, rfl⟩⟩
    · exact ⟨fun _ h => (by cases h), fun _ _ => ⟨Tryz.f346, Extern.BytealgMakeNoZero.makeNoZero #[3] #[146], Tryz.func346, by kernel_rfl, by kernel_rfl, by kernel_rfl, by kernel_rfl, #[3], 146, by kernel_rfl, by kernel_rfl, rfl⟩⟩
    · exact ⟨fun _ h => (by cases h), fun _ _ => ⟨Tryz.f347, _, Tryz.func347, by kernel_rfl, by kernel_rfl, by kernel_rfl, by kernel_rfl, rfl⟩⟩
    · exact ⟨fun _ h => (by cases h), fun _ _ => ⟨Tryz.f377, _, Tryz.func377, by kernel_rfl, by kernel_rfl, by kernel_rfl, by kernel_rfl, rfl⟩⟩
    · exact ⟨fun g h => (by cases h; exact index_ok), fun _ h => absurd rfl (h _)⟩


end Go.Proofs.YtalbkknckepnjaaGreatDoor
