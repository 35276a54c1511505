/-
  What the row tells of the program's text, computed. No condition.
-/
import Derived.Test.YtnpneidkoljgaaaGreatDoorXE
import Derived.ProofKit
import Derived.OpenShut
import Derived.JoinedOf
import Derived.SevenTiedAt
import Derived.Test.YtnpneidkoljgaaaGreatDoorCards
namespace Go.Proofs.YtnpneidkoljgaaaGreatDoor
open Go

theorem clo : Tryz.pinned.checked.prog.closure 3 = [3, 5, 22, 52, 115, 214, 287, 351, 288, 289, 290, 352, 64, 127, 234, 312, 313, 314, 374, 315, 375, 399, 376, 400, 416, 417, 128, 131, 215, 129, 235, 316, 377, 317, 378, 318, 66, 132, 236, 319, 237, 320, 251, 321, 250, 252, 322, 133, 238, 239, 323, 325, 379, 401, 360, 387, 324, 254, 255, 130, 28, 75, 149, 136, 151, 246, 144, 58, 119, 217, 291, 292, 164, 353, 354, 293, 294, 355, 356, 385, 386, 77, 152, 153, 76, 150, 118, 216, 253, 333, 57, 59, 65, 44, 110, 209, 284, 349, 350, 111, 210, 285, 211, 212, 286, 213, 67, 68, 24, 70, 137, 138, 23, 7, 32, 81, 82, 83, 171, 265, 85, 84, 172, 175, 268, 173, 266, 336, 267, 337, 380, 402, 403, 381, 328, 174, 135, 241, 242, 327, 243, 240, 326, 244, 329, 245, 86, 176, 177, 178, 269, 270, 271, 272, 8, 25, 71, 139, 141, 140, 87, 142, 247, 330, 248, 332, 331, 249, 143, 72, 145, 146, 34, 92, 93, 94, 95, 74, 147, 148, 33, 88, 89, 179, 180, 90, 181, 182, 273, 338, 91, 69, 134, 6, 26, 73, 27, 29, 79, 163, 78, 154, 160, 261, 155, 256, 156, 257, 258, 157, 259, 260, 334, 158, 159, 161, 162, 30, 31, 80, 165, 166, 167, 168, 169, 170, 262, 263, 264, 335, 9, 10] := by kernel_rfl
theorem atPlace : Tryz.pinned.checked.prog.inPlace 3 = Rows.editKnownRow.inPlace := by unfold Program.inPlace; rewrite [clo]; kernel_rfl
theorem unf : Tryz.pinned.checked.prog.unfollowed 3 = true := by unfold Program.unfollowed; rewrite [clo]; kernel_rfl
theorem recs : Tryz.pinned.checked.prog.recurses 3 = true := by unfold Program.recurses; rw [unf]; rfl
theorem nams : Tryz.pinned.checked.prog.varsNamed 3 = Rows.editKnownRow.named := by unfold Program.varsNamed; rewrite [clo]; kernel_rfl
theorem isNamed : Tryz.pinned.checked.prog.funcNamed "lariat/lariatlaw23.EditKnown" = some 3 := by kernel_rfl
theorem noGo : Tryz.pinned.checked.prog.funcs.toList.any Func.goes = false := by kernel_rfl
theorem goesNot : false = Rows.editKnownRow.goesBy Tryz.pinned.checked.prog := by
  have h : ∀ (g : Nat), (Tryz.pinned.checked.prog.funcs[g]?).any Func.goes = false := fun g => by
    cases hg : Tryz.pinned.checked.prog.funcs[g]? with
    | none => rfl
    | some fn =>
      have hm : fn ∈ Tryz.pinned.checked.prog.funcs.toList := by
        have := Array.mem_of_getElem? hg
        simpa using this
      have := List.any_eq_false.1 noGo fn hm
      simpa using this
  have hall : Tryz.pinned.checked.prog.funcs.any Func.goes = false := by rw [← Array.any_toList]; exact noGo
  have hp : Tryz.pinned.checked.prog.goes 3 = false := by
    unfold Program.goes
    rw [hall, Bool.and_false, Bool.or_false, List.any_eq_false]
    intro g _
    rw [h g]; simp
  unfold OpenClaim.goesBy Program.goesAt Program.goesFrom
  rewrite [show Rows.editKnownRow.func = "lariat/lariatlaw23.EditKnown" from rfl, show Rows.editKnownRow.start = .entering from rfl, isNamed, Option.any_some, hp]
  rfl
set_option maxRecDepth 1000000 in
theorem facts : joinedFacts Tryz.pinned.checked.prog 3 Tryz.f3 Rows.editKnownSpec Rows.editKnownRow = true := by
  delta joinedFacts
  rewrite [atPlace]
  rewrite [unf]
  rewrite [recs]
  rewrite [nams]
  kernel_rfl
end Go.Proofs.YtnpneidkoljgaaaGreatDoor
