/-
  What the row tells of the program's text, computed. No condition.
-/
import Derived.Test.YtalbkknckepnjaaGreatDoorXE
import Derived.ProofKit
import Derived.OpenShut
import Derived.JoinedOf
import Derived.SevenTiedAt
import Derived.Test.YtalbkknckepnjaaGreatDoorCards
namespace Go.Proofs.YtalbkknckepnjaaGreatDoor
open Go

theorem clo : Tryz.pinned.checked.prog.closure 5 = [5, 18, 19, 35, 98, 99, 100, 175, 196, 102, 101, 176, 178, 197, 124, 118, 198, 201, 272, 329, 369, 370, 330, 274, 125, 177, 258, 204, 273, 206, 182, 259, 205, 275, 207, 103, 179, 180, 181, 254, 256, 250, 253, 20, 54, 128, 210, 212, 211, 260, 110, 188, 261, 189, 263, 262, 142, 190, 264, 265, 276, 331, 332, 333, 371, 213, 214, 129, 215, 216, 56, 131, 132, 220, 59, 64, 139, 227, 287, 228, 288, 348, 300, 301, 316, 358, 359, 302, 303, 360, 361, 381, 382, 134, 223, 222, 136, 225, 283, 347, 65, 140, 62, 167, 247, 290, 349, 191, 266, 267, 268, 248, 229, 69, 71, 289, 168, 22, 70, 23, 37, 57, 73, 145, 236, 133, 221, 144, 235, 282, 346, 72, 74, 107, 185, 154, 186, 21, 66, 141, 230, 291, 292, 350, 231, 293, 232, 294, 351, 377, 352, 353, 354, 378, 67, 143, 233, 295, 355, 379, 380, 234, 296, 356, 297, 298, 357, 299, 68, 24, 75, 76, 77, 78, 48, 79, 80] := by kernel_rfl
theorem atPlace : Tryz.pinned.checked.prog.inPlace 5 = Rows.kripkeKnownRow.inPlace := by unfold Program.inPlace; rewrite [clo]; kernel_rfl
theorem unf : Tryz.pinned.checked.prog.unfollowed 5 = true := by unfold Program.unfollowed; rewrite [clo]; kernel_rfl
theorem recs : Tryz.pinned.checked.prog.recurses 5 = true := by unfold Program.recurses; rw [unf]; rfl
theorem nams : Tryz.pinned.checked.prog.varsNamed 5 = Rows.kripkeKnownRow.named := by unfold Program.varsNamed; rewrite [clo]; kernel_rfl
theorem isNamed : Tryz.pinned.checked.prog.funcNamed "lariat/lariatlaw12.KripkeKnown" = some 5 := by kernel_rfl
theorem noGo : Tryz.pinned.checked.prog.funcs.toList.any Func.goes = false := by kernel_rfl
theorem goesNot : false = Rows.kripkeKnownRow.goesBy Tryz.pinned.checked.prog := by
  have h : ∀ (g : Nat), (Tryz.pinned.checked.prog.funcs[g]?).any Func.goes = false := fun g => by
    cases hg : Tryz.pinned.checked.prog.funcs[g]? with
    | none => rfl
    | some fn =>
      have hm : fn ∈ Tryz.pinned.checked.prog.funcs.toList := by
        have := Array.mem_of_getElem? hg
        simpa using this
      have := List.any_eq_false.1 noGo fn hm
      simpa using this
  have hall : Tryz.pinned.checked.prog.funcs.any Func.goes = false := by rw [← Array.any_toList]; exact noGo
  have hp : Tryz.pinned.checked.prog.goes 5 = false := by
    unfold Program.goes
    rw [hall, Bool.and_false, Bool.or_false, List.any_eq_false]
    intro g _
    rw [h g]; simp
  unfold OpenClaim.goesBy Program.goesAt Program.goesFrom
  rewrite [show Rows.kripkeKnownRow.func = "lariat/lariatlaw12.KripkeKnown" from rfl, show Rows.kripkeKnownRow.start = .entering from rfl, isNamed, Option.any_some, hp]
  rfl
set_option maxRecDepth 1000000 in
theorem facts : joinedFacts Tryz.pinned.checked.prog 5 Tryz.f5 Rows.kripkeKnownSpec Rows.kripkeKnownRow = true := by
  delta joinedFacts
  rewrite [atPlace]
  rewrite [unf]
  rewrite [recs]
  rewrite [nams]
  kernel_rfl
end Go.Proofs.YtalbkknckepnjaaGreatDoor
