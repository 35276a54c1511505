/-
  The tables that the run reads stand as the row lists them.
-/
import Derived.Test.YtnpneidkoljgaaaGreatDoorXKB
import Derived.Test.YtnpneidkoljgaaaGreatDoorSSG
import Derived.Test.YtnpneidkoljgaaaGreatDoorTie
import Derived.Test.YtnpneidkoljgaaaGreatDoorCards
import Derived.ProofKit
import Derived.OpenShut
import Derived.LaidMore
import Derived.Lay
import Derived.SevenTiedAt
import Derived.Stop.Joined
namespace Go.Proofs.YtnpneidkoljgaaaGreatDoor
open Go Go.ChangeShapes Go.WideShapes Go.ChangeAt Go.RowKit

noncomputable def tabZ0 : List Int := [1, 10, 100, 1000, 10000, 100000, 1000000, 10000000, 100000000, 1000000000, 10000000000, 100000000000, 1000000000000, 10000000000000, 100000000000000, 1000000000000000, 10000000000000000, 100000000000000000, 1000000000000000000, 10000000000000000000]
noncomputable def tabZ1 : List Int := [0, 1, 56, 2, 57, 49, 28, 3, 61, 58, 42, 50, 38, 29, 17, 4, 62, 47, 59, 36, 45, 43, 51, 22, 53, 39, 33, 30, 24, 18, 12, 5, 63, 55, 48, 27, 60, 41, 37, 16, 46, 35, 44, 21, 52, 32, 23, 11, 54, 26, 40, 15, 34, 20, 31, 10, 25, 14, 19, 9, 13, 8, 7, 6]
theorem env_tabs {W : World} (hL : laidMetH Tryz.prog Rows.editKnownRow.laid W) (g : Nat) (cs : List SS.V) (hg : env.G g = some cs) : (∃ kd zs, cs = zs.map (SS.V.int kd) ∧ SS.TabAt W g kd zs) ∨ (cs = [.opq] ∧ SS.OneAt W g) := by
  rw [MakeChecks.laidMetH_plain _ _ _ (by kernel_rfl)] at hL
  have hm := SS.PT.ofL_mem _ (show SS.PT.getF gT g = some cs from hg)
  simp only [List.mem_cons, List.not_mem_nil, or_false, Prod.mk.injEq] at hm
  rcases hm with ⟨rfl, rfl⟩ | ⟨rfl, rfl⟩ | ⟨rfl, rfl⟩ | ⟨rfl, rfl⟩
  · refine .inl ⟨.u64, tabZ0, rfl, SS.tabAt_of_reads (t := 443) (e := 265) (n := 20) (d := Rows.laid_internal_strconv_uint64pow10) (by kernel_rfl) (by kernel_rfl) (by kernel_rfl) (by kernel_rfl) (by kernel_rfl) (by kernel_rfl) rfl (Lib.laidMet.reads hL (.tail _ (.tail _ (.head _))))⟩
  · refine .inl ⟨.u8, tabZ1, rfl, SS.tabAt_of_reads (t := 484) (e := 5) (n := 64) (d := Rows.laid_math_bits_deBruijn64tab) (by kernel_rfl) (by kernel_rfl) (by kernel_rfl) (by kernel_rfl) (by kernel_rfl) (by kernel_rfl) rfl (Lib.laidMet.reads hL (.tail _ (.head _)))⟩
  · exact .inr ⟨rfl, SS.oneAt_of_reads (t := 105) (d := Rows.laid_strconv_ErrSyntax) (by kernel_rfl) (by kernel_rfl) (SS.iface_of (by kernel_rfl)) (Lib.laidMet.reads hL (.tail _ (.tail _ (.tail _ (.tail _ (.tail _ (.head _)))))))⟩
  · exact .inr ⟨rfl, SS.oneAt_of_reads (t := 105) (d := Rows.laid_strconv_ErrRange) (by kernel_rfl) (by kernel_rfl) (SS.iface_of (by kernel_rfl)) (Lib.laidMet.reads hL (.tail _ (.tail _ (.tail _ (.tail _ (.head _))))))⟩

end Go.Proofs.YtnpneidkoljgaaaGreatDoor
