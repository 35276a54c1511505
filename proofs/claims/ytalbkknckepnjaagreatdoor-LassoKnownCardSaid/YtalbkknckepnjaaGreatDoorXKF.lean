/-
  What the row tells of the program's text, computed. No condition.
-/
import Derived.Test.YtalbkknckepnjaaGreatDoorXE
import Derived.ProofKit
import Derived.OpenShut
import Derived.JoinedOf
import Derived.SevenTiedAt
import Derived.Test.YtalbkknckepnjaaGreatDoorCards
namespace Go.Proofs.YtalbkknckepnjaaGreatDoor
open Go

theorem clo : Tryz.pinned.checked.prog.closure 6 = [6, 25, 33, 93, 54, 128, 210, 212, 211, 260, 110, 188, 261, 189, 263, 262, 142, 190, 264, 265, 276, 331, 332, 333, 371, 213, 214, 129, 215, 216, 94, 166, 165, 62, 164, 246, 72, 144, 235, 57, 73, 145, 236, 300, 301, 316, 358, 359, 302, 303, 360, 361, 381, 382, 133, 221, 282, 346, 74, 31, 59, 80, 48, 95, 140, 167, 247, 290, 349, 191, 266, 267, 268, 248, 229, 69, 71, 289, 168, 35, 98, 99, 100, 175, 196, 102, 101, 176, 178, 197, 124, 118, 198, 201, 272, 329, 369, 370, 330, 274, 125, 177, 258, 204, 273, 206, 182, 259, 205, 275, 207, 103, 179, 180, 181, 254, 256, 250, 253, 36, 105, 104, 106, 183, 172, 252, 255, 257, 184, 30, 45, 119, 199, 270, 271, 120, 200, 29, 91, 157, 158, 243, 244, 159, 160, 161, 245, 162, 163, 92, 28, 81, 147, 146, 237, 82, 148, 152, 241, 88, 154, 238, 304, 305, 362, 83, 149, 150, 240, 315, 239, 306, 312, 368, 307, 363, 308, 364, 365, 309, 366, 367, 383, 310, 311, 313, 314, 151, 85, 86, 84, 153, 242, 87, 89, 90, 156, 155, 26, 27, 32, 39, 109, 108, 187, 111, 112, 96, 169, 41, 249, 317, 318, 319, 320, 321, 322, 323, 324, 325, 326, 327, 34, 97, 170, 171, 173, 251, 328, 174] := by kernel_rfl
theorem atPlace : Tryz.pinned.checked.prog.inPlace 6 = Rows.lassoKnownRow.inPlace := by unfold Program.inPlace; rewrite [clo]; kernel_rfl
theorem unf : Tryz.pinned.checked.prog.unfollowed 6 = true := by unfold Program.unfollowed; rewrite [clo]; kernel_rfl
theorem recs : Tryz.pinned.checked.prog.recurses 6 = true := by unfold Program.recurses; rw [unf]; rfl
theorem nams : Tryz.pinned.checked.prog.varsNamed 6 = Rows.lassoKnownRow.named := by unfold Program.varsNamed; rewrite [clo]; kernel_rfl
theorem isNamed : Tryz.pinned.checked.prog.funcNamed "lariat/lariatlaw21.LassoKnown" = some 6 := by kernel_rfl
theorem noGo : Tryz.pinned.checked.prog.funcs.toList.any Func.goes = false := by kernel_rfl
theorem goesNot : false = Rows.lassoKnownRow.goesBy Tryz.pinned.checked.prog := by
  have h : ∀ (g : Nat), (Tryz.pinned.checked.prog.funcs[g]?).any Func.goes = false := fun g => by
    cases hg : Tryz.pinned.checked.prog.funcs[g]? with
    | none => rfl
    | some fn =>
      have hm : fn ∈ Tryz.pinned.checked.prog.funcs.toList := by
        have := Array.mem_of_getElem? hg
        simpa using this
      have := List.any_eq_false.1 noGo fn hm
      simpa using this
  have hall : Tryz.pinned.checked.prog.funcs.any Func.goes = false := by rw [← Array.any_toList]; exact noGo
  have hp : Tryz.pinned.checked.prog.goes 6 = false := by
    unfold Program.goes
    rw [hall, Bool.and_false, Bool.or_false, List.any_eq_false]
    intro g _
    rw [h g]; simp
  unfold OpenClaim.goesBy Program.goesAt Program.goesFrom
  rewrite [show Rows.lassoKnownRow.func = "lariat/lariatlaw21.LassoKnown" from rfl, show Rows.lassoKnownRow.start = .entering from rfl, isNamed, Option.any_some, hp]
  rfl
set_option maxRecDepth 1000000 in
theorem facts : joinedFacts Tryz.pinned.checked.prog 6 Tryz.f6 Rows.lassoKnownSpec Rows.lassoKnownRow = true := by
  delta joinedFacts
  rewrite [atPlace]
  rewrite [unf]
  rewrite [recs]
  rewrite [nams]
  kernel_rfl
end Go.Proofs.YtalbkknckepnjaaGreatDoor
