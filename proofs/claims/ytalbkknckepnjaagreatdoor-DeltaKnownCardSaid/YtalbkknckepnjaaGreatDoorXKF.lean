/-
  What the row tells of the program's text, computed. No condition.
-/
import Derived.Test.YtalbkknckepnjaaGreatDoorXE
import Derived.ProofKit
import Derived.OpenShut
import Derived.JoinedOf
import Derived.SevenTiedAt
import Derived.Test.YtalbkknckepnjaaGreatDoorCards
namespace Go.Proofs.YtalbkknckepnjaaGreatDoor
open Go

theorem clo : Tryz.pinned.checked.prog.closure 4 = [4, 13, 14, 51, 35, 98, 99, 100, 175, 196, 102, 101, 176, 178, 197, 124, 118, 198, 201, 272, 329, 369, 370, 330, 274, 125, 177, 258, 204, 273, 206, 182, 259, 205, 275, 207, 103, 179, 180, 181, 254, 256, 250, 253, 36, 105, 104, 106, 183, 172, 252, 255, 257, 184, 16, 37, 54, 128, 210, 212, 211, 260, 110, 188, 261, 189, 263, 262, 142, 190, 264, 265, 276, 331, 332, 333, 371, 213, 214, 129, 215, 216, 57, 62, 73, 145, 236, 300, 301, 316, 358, 359, 302, 303, 360, 361, 381, 382, 133, 221, 144, 235, 282, 346, 72, 74, 107, 185, 154, 186, 55, 130, 217, 277, 137, 226, 285, 286, 218, 278, 279, 334, 335, 372, 373, 150, 240, 315, 239, 306, 312, 368, 307, 363, 308, 364, 365, 309, 366, 367, 383, 310, 311, 313, 314, 151, 219, 280, 336, 337, 338, 339, 281, 340, 341, 342, 343, 344, 345, 374, 375, 376, 384, 56, 131, 132, 220, 59, 58, 134, 223, 222, 136, 225, 283, 347, 60, 135, 63, 138, 224, 284, 140, 167, 247, 290, 349, 191, 266, 267, 268, 248, 229, 69, 71, 289, 168, 22, 70, 61, 50, 121, 11, 15, 52, 122, 123, 126, 202, 203, 208, 209, 53, 127, 17] := by kernel_rfl
theorem atPlace : Tryz.pinned.checked.prog.inPlace 4 = Rows.deltaKnownRow.inPlace := by unfold Program.inPlace; rewrite [clo]; kernel_rfl
theorem unf : Tryz.pinned.checked.prog.unfollowed 4 = true := by unfold Program.unfollowed; rewrite [clo]; kernel_rfl
theorem recs : Tryz.pinned.checked.prog.recurses 4 = true := by unfold Program.recurses; rw [unf]; rfl
theorem nams : Tryz.pinned.checked.prog.varsNamed 4 = Rows.deltaKnownRow.named := by unfold Program.varsNamed; rewrite [clo]; kernel_rfl
theorem isNamed : Tryz.pinned.checked.prog.funcNamed "lariat/lariatlaw24.DeltaKnown" = some 4 := by kernel_rfl
theorem noGo : Tryz.pinned.checked.prog.funcs.toList.any Func.goes = false := by kernel_rfl
theorem goesNot : false = Rows.deltaKnownRow.goesBy Tryz.pinned.checked.prog := by
  have h : ∀ (g : Nat), (Tryz.pinned.checked.prog.funcs[g]?).any Func.goes = false := fun g => by
    cases hg : Tryz.pinned.checked.prog.funcs[g]? with
    | none => rfl
    | some fn =>
      have hm : fn ∈ Tryz.pinned.checked.prog.funcs.toList := by
        have := Array.mem_of_getElem? hg
        simpa using this
      have := List.any_eq_false.1 noGo fn hm
      simpa using this
  have hall : Tryz.pinned.checked.prog.funcs.any Func.goes = false := by rw [← Array.any_toList]; exact noGo
  have hp : Tryz.pinned.checked.prog.goes 4 = false := by
    unfold Program.goes
    rw [hall, Bool.and_false, Bool.or_false, List.any_eq_false]
    intro g _
    rw [h g]; simp
  unfold OpenClaim.goesBy Program.goesAt Program.goesFrom
  rewrite [show Rows.deltaKnownRow.func = "lariat/lariatlaw24.DeltaKnown" from rfl, show Rows.deltaKnownRow.start = .entering from rfl, isNamed, Option.any_some, hp]
  rfl
set_option maxRecDepth 1000000 in
theorem facts : joinedFacts Tryz.pinned.checked.prog 4 Tryz.f4 Rows.deltaKnownSpec Rows.deltaKnownRow = true := by
  delta joinedFacts
  rewrite [atPlace]
  rewrite [unf]
  rewrite [recs]
  rewrite [nams]
  kernel_rfl
end Go.Proofs.YtalbkknckepnjaaGreatDoor
