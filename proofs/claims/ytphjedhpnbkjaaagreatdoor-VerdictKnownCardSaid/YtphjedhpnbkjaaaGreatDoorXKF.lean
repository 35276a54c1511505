/-
  What the row tells of the program's text, computed. No condition.
-/
import Derived.Test.YtphjedhpnbkjaaaGreatDoorXE
import Derived.ProofKit
import Derived.OpenShut
import Derived.JoinedOf
import Derived.SevenTiedAt
import Derived.Test.YtphjedhpnbkjaaaGreatDoorCards
namespace Go.Proofs.YtphjedhpnbkjaaaGreatDoor
open Go

theorem clo : Tryz.pinned.checked.prog.closure 3 = [3, 4, 9, 5, 10, 11, 12, 27, 74, 14, 13, 28, 32, 81, 29, 69, 123, 75, 132, 185, 225, 226, 186, 134, 30, 31, 76, 77, 133, 78, 36, 86, 79, 135, 80, 15, 33, 34, 35, 82, 83, 84, 85, 6, 17, 16, 18, 37, 87, 136, 137, 138, 38, 8, 25, 70, 124, 175, 176, 71, 125, 7, 19, 39, 88, 139, 141, 140, 150, 44, 96, 151, 97, 153, 152, 154, 98, 155, 156, 187, 227, 228, 229, 245, 142, 143, 89, 144, 145, 40, 90, 91, 146, 188, 230, 231, 209, 246, 247, 232, 233, 248, 249, 252, 253, 92, 147, 189, 234, 190, 235, 148, 149, 41, 93, 119, 94, 20, 43, 42, 95, 45, 99, 21, 46, 49, 66, 100, 157, 110, 158, 159, 191, 23, 47, 53, 55, 106, 165, 166, 167, 196, 56, 108, 168, 54, 107, 57, 109, 22, 48, 50, 101, 160, 192, 193, 194, 161, 51, 52, 103, 163, 102, 162, 104, 105, 164, 195, 24, 58, 112, 111, 169, 59, 113, 117, 173, 65, 170, 197, 198, 236, 60, 114, 115, 172, 208, 171, 199, 205, 242, 200, 237, 201, 238, 239, 202, 240, 241, 250, 203, 204, 206, 207, 116, 62, 63, 61, 118, 174, 64, 67, 68, 121, 120, 122, 26, 72, 126, 127, 179, 178, 177, 210, 129, 128, 180, 130, 181, 182, 212, 244, 251, 213, 211, 243, 183, 73, 131, 184, 214, 215, 216, 217, 218, 219, 220, 221, 222, 223, 224] := by kernel_rfl
theorem atPlace : Tryz.pinned.checked.prog.inPlace 3 = Rows.verdictKnownRow.inPlace := by unfold Program.inPlace; rewrite [clo]; kernel_rfl
theorem unf : Tryz.pinned.checked.prog.unfollowed 3 = true := by unfold Program.unfollowed; rewrite [clo]; kernel_rfl
theorem recs : Tryz.pinned.checked.prog.recurses 3 = true := by unfold Program.recurses; rw [unf]; rfl
theorem nams : Tryz.pinned.checked.prog.varsNamed 3 = Rows.verdictKnownRow.named := by unfold Program.varsNamed; rewrite [clo]; kernel_rfl
theorem isNamed : Tryz.pinned.checked.prog.funcNamed "lariat/lariatlaw22.VerdictKnown" = some 3 := by kernel_rfl
theorem noGo : Tryz.pinned.checked.prog.funcs.toList.any Func.goes = false := by kernel_rfl
theorem goesNot : false = Rows.verdictKnownRow.goesBy Tryz.pinned.checked.prog := by
  have h : ∀ (g : Nat), (Tryz.pinned.checked.prog.funcs[g]?).any Func.goes = false := fun g => by
    cases hg : Tryz.pinned.checked.prog.funcs[g]? with
    | none => rfl
    | some fn =>
      have hm : fn ∈ Tryz.pinned.checked.prog.funcs.toList := by
        have := Array.mem_of_getElem? hg
        simpa using this
      have := List.any_eq_false.1 noGo fn hm
      simpa using this
  have hall : Tryz.pinned.checked.prog.funcs.any Func.goes = false := by rw [← Array.any_toList]; exact noGo
  have hp : Tryz.pinned.checked.prog.goes 3 = false := by
    unfold Program.goes
    rw [hall, Bool.and_false, Bool.or_false, List.any_eq_false]
    intro g _
    rw [h g]; simp
  unfold OpenClaim.goesBy Program.goesAt Program.goesFrom
  rewrite [show Rows.verdictKnownRow.func = "lariat/lariatlaw22.VerdictKnown" from rfl, show Rows.verdictKnownRow.start = .entering from rfl, isNamed, Option.any_some, hp]
  rfl
set_option maxRecDepth 1000000 in
theorem facts : joinedFacts Tryz.pinned.checked.prog 3 Tryz.f3 Rows.verdictKnownSpec Rows.verdictKnownRow = true := by
  delta joinedFacts
  rewrite [atPlace]
  rewrite [unf]
  rewrite [recs]
  rewrite [nams]
  kernel_rfl
end Go.Proofs.YtphjedhpnbkjaaaGreatDoor
