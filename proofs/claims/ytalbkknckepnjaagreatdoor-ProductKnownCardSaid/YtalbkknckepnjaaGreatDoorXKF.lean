/-
  What the row tells of the program's text, computed. No condition.
-/
import Derived.Test.YtalbkknckepnjaaGreatDoorXE
import Derived.ProofKit
import Derived.OpenShut
import Derived.JoinedOf
import Derived.SevenTiedAt
import Derived.Test.YtalbkknckepnjaaGreatDoorCards
namespace Go.Proofs.YtalbkknckepnjaaGreatDoor
open Go

theorem clo : Tryz.pinned.checked.prog.closure 3 = [3, 7, 35, 98, 99, 100, 175, 196, 102, 101, 176, 178, 197, 124, 118, 198, 201, 272, 329, 369, 370, 330, 274, 125, 177, 258, 204, 273, 206, 182, 259, 205, 275, 207, 103, 179, 180, 181, 254, 256, 250, 253, 36, 105, 104, 106, 183, 172, 252, 255, 257, 184, 10, 45, 119, 199, 270, 271, 120, 200, 9, 37, 54, 128, 210, 212, 211, 260, 110, 188, 261, 189, 263, 262, 142, 190, 264, 265, 276, 331, 332, 333, 371, 213, 214, 129, 215, 216, 57, 62, 73, 145, 236, 300, 301, 316, 358, 359, 302, 303, 360, 361, 381, 382, 133, 221, 144, 235, 282, 346, 72, 74, 107, 185, 154, 186, 38, 41, 111, 112, 71, 39, 109, 108, 187, 40, 42, 113, 191, 266, 267, 268, 192, 43, 44, 115, 194, 114, 193, 116, 117, 195, 269, 11, 8, 12, 46, 47, 48, 49] := by kernel_rfl
theorem atPlace : Tryz.pinned.checked.prog.inPlace 3 = Rows.productKnownRow.inPlace := by unfold Program.inPlace; rewrite [clo]; kernel_rfl
theorem unf : Tryz.pinned.checked.prog.unfollowed 3 = true := by unfold Program.unfollowed; rewrite [clo]; kernel_rfl
theorem recs : Tryz.pinned.checked.prog.recurses 3 = true := by unfold Program.recurses; rw [unf]; rfl
theorem nams : Tryz.pinned.checked.prog.varsNamed 3 = Rows.productKnownRow.named := by unfold Program.varsNamed; rewrite [clo]; kernel_rfl
theorem isNamed : Tryz.pinned.checked.prog.funcNamed "lariat/lariatlaw19.ProductKnown" = some 3 := by kernel_rfl
theorem noGo : Tryz.pinned.checked.prog.funcs.toList.any Func.goes = false := by kernel_rfl
theorem goesNot : false = Rows.productKnownRow.goesBy Tryz.pinned.checked.prog := by
  have h : ∀ (g : Nat), (Tryz.pinned.checked.prog.funcs[g]?).any Func.goes = false := fun g => by
    cases hg : Tryz.pinned.checked.prog.funcs[g]? with
    | none => rfl
    | some fn =>
      have hm : fn ∈ Tryz.pinned.checked.prog.funcs.toList := by
        have := Array.mem_of_getElem? hg
        simpa using this
      have := List.any_eq_false.1 noGo fn hm
      simpa using this
  have hall : Tryz.pinned.checked.prog.funcs.any Func.goes = false := by rw [← Array.any_toList]; exact noGo
  have hp : Tryz.pinned.checked.prog.goes 3 = false := by
    unfold Program.goes
    rw [hall, Bool.and_false, Bool.or_false, List.any_eq_false]
    intro g _
    rw [h g]; simp
  unfold OpenClaim.goesBy Program.goesAt Program.goesFrom
  rewrite [show Rows.productKnownRow.func = "lariat/lariatlaw19.ProductKnown" from rfl, show Rows.productKnownRow.start = .entering from rfl, isNamed, Option.any_some, hp]
  rfl
set_option maxRecDepth 1000000 in
theorem facts : joinedFacts Tryz.pinned.checked.prog 3 Tryz.f3 Rows.productKnownSpec Rows.productKnownRow = true := by
  delta joinedFacts
  rewrite [atPlace]
  rewrite [unf]
  rewrite [recs]
  rewrite [nams]
  kernel_rfl
end Go.Proofs.YtalbkknckepnjaaGreatDoor
