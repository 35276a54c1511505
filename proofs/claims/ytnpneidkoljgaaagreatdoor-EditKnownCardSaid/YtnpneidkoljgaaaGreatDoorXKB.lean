/-
  The surroundings are as asked. No condition.
-/
import Derived.Test.YtnpneidkoljgaaaGreatDoorXM
import Derived.Test.YtnpneidkoljgaaaGreatDoorSSG
import Derived.Test.YtnpneidkoljgaaaGreatDoorXKI
import Derived.Test.YtnpneidkoljgaaaGreatDoorXKJ
import Derived.OpenShut
namespace Go.Proofs.YtnpneidkoljgaaaGreatDoor
open Go Go.ChangeShapes Go.WideShapes Go.ChangeAt Go.RowKit

theorem own : ownKnob Tryz.prog.godebug = none := by kernel_rfl

theorem ext_mem {f : Nat} {e : SS.Ext} (he : env.extn f = some e) : (f, e) ∈ [(90, SS.Ext.insert 40 7), (214, .indexStr 2), (39, .out), (216, .same), (276, .out), (333, .makeNoZero 5), (351, .indexByteStr), (364, .store), (378, .countStr), (404, .cas .u32), (410, .load .i64), (411, .cas .i64), (418, .load .u32)] := SS.PT.ofL_mem _ he
theorem idx {W : World} (hsh : W.ShapedOpen Tryz.prog) (f g : Nat) (h : env.extn f = some (.indexStr g)) : Nat.beq g 2 = true ∧ ∃ cs' t fr m, W.heap[g]? = some (.cells cs' t fr) ∧ cs'[0]? = some (.int .i64 m) := by
  have hm := ext_mem h
  simp at hm
  obtain ⟨_, rfl⟩ := hm
  obtain ⟨m, hm⟩ := cell_of_shapedOpen_int (P := Tryz.prog) (g := 2) (t := 3) (zero := #[.int .i64 0]) hsh (of_decide_eq_true (by kernel_rfl)) (by kernel_rfl) rfl (by kernel_rfl) (by kernel_rfl) (by kernel_rfl)
  obtain ⟨cs, t, fr, h1, h2⟩ := SS.cell_inv hm
  exact ⟨rfl, cs, t, fr, m, h1, h2⟩

theorem env_ok : SS.EnvOk env where
  code := SS.code_of2 (by kernel_rfl)
  ext := by
    intro f e he
    have hm := ext_mem he
    simp only [List.mem_cons, List.not_mem_nil, or_false, Prod.mk.injEq] at hm
    rcases hm with ⟨rfl, rfl⟩ | ⟨rfl, rfl⟩ | ⟨rfl, rfl⟩ | ⟨rfl, rfl⟩ | ⟨rfl, rfl⟩ | ⟨rfl, rfl⟩ | ⟨rfl, rfl⟩ | ⟨rfl, rfl⟩ | ⟨rfl, rfl⟩ | ⟨rfl, rfl⟩ | ⟨rfl, rfl⟩ | ⟨rfl, rfl⟩ | ⟨rfl, rfl⟩
    · exact ⟨fun _ h => (by cases h), fun _ _ h => (by cases h; exact ⟨_, _, insert_ok⟩), fun _ _ h => absurd rfl (h _ _)⟩
    · exact ⟨fun g h => (by cases h; exact index_ok), fun _ _ h => (by cases h), fun _ h _ => absurd rfl (h _)⟩
    · exact ⟨fun _ h => (by cases h), fun _ _ h => (by cases h), fun h _ _ => absurd rfl h⟩
    · exact ⟨fun _ h => (by cases h), fun _ _ h => (by cases h), fun _ _ _ => ⟨Tryz.f216, _, Tryz.func216, by kernel_rfl, by kernel_rfl, by kernel_rfl, (show Extern.find Tryz.f216 = some Extern.AbiNoEscape.same by kernel_rfl), fun _ _ _ => rfl⟩⟩
    · exact ⟨fun _ h => (by cases h), fun _ _ h => (by cases h), fun h _ _ => absurd rfl h⟩
    · exact ⟨fun _ h => (by cases h), fun _ _ h => (by cases h), fun _ _ _ => ⟨Tryz.f333, Extern.BytealgMakeNoZero.makeNoZero #[3] #[57], Tryz.func333, by kernel_rfl, by kernel_rfl, by kernel_rfl, by kernel_rfl, #[3], 57, by kernel_rfl, by kernel_rfl, rfl⟩⟩
    · exact ⟨fun _ h => (by cases h), fun _ _ h => (by cases h), fun _ _ _ => ⟨Tryz.f351, _, Tryz.func351, by kernel_rfl, by kernel_rfl, by kernel_rfl, by kernel_rfl, rfl⟩⟩
    · exact ⟨fun _ h => (by cases h), fun _ _ h => (by cases h), fun _ _ _ => ⟨Tryz.f364, _, Tryz.func364, by kernel_rfl, by kernel_rfl, by kernel_rfl, by kernel_rfl, rfl⟩⟩
    · exact ⟨fun _ h => (by cases h), fun _ _ h => (by cases h), fun _ _ _ => ⟨Tryz.f378, _, Tryz.func378, by kernel_rfl, by kernel_rfl, by kernel_rfl, by kernel_rfl, rfl⟩⟩
    · exact ⟨fun _ h => (by cases h), fun _ _ h => (by cases h), fun _ _ _ => ⟨Tryz.f404, _, Tryz.func404, by kernel_rfl, by kernel_rfl, by kernel_rfl, by kernel_rfl, rfl⟩⟩
    · exact ⟨fun _ h => (by cases h), fun _ _ h => (by cases h), fun _ _ _ => ⟨Tryz.f410, _, Tryz.func410, by kernel_rfl, by kernel_rfl, by kernel_rfl, by kernel_rfl, rfl⟩⟩
    · exact ⟨fun _ h => (by cases h), fun _ _ h => (by cases h), fun _ _ _ => ⟨Tryz.f411, _, Tryz.func411, by kernel_rfl, by kernel_rfl, by kernel_rfl, by kernel_rfl, rfl⟩⟩
    · exact ⟨fun _ h => (by cases h), fun _ _ h => (by cases h), fun _ _ _ => ⟨Tryz.f418, _, Tryz.func418, by kernel_rfl, by kernel_rfl, by kernel_rfl, by kernel_rfl, rfl⟩⟩
  back := back_ok


end Go.Proofs.YtnpneidkoljgaaaGreatDoor
