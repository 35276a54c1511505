/-
  The row StateBack (chapter 10): it returns true of whatever it is asked; no condition but the row's own.
-/
import Derived.Test.YtglndmmlghpdpaaGreatDoorPO
import Derived.Test.YtglndmmlghpdpaaGreatDoorTie
import Derived.Test.YtglndmmlghpdpaaGreatDoorCards
import Derived.ProofKit
import Derived.OpenShut
import Derived.LaidMore
import Derived.Lay
import Derived.SevenTiedAt
import Derived.Stop.Joined
namespace Go.Proofs.YtglndmmlghpdpaaGreatDoor
open Go Go.ChangeShapes Go.WideShapes Go.ChangeAt Go.RowKit
theorem back_card:Rows.StateBackCardSaid :=
 Claim7.holds_tied_plain_at .later [] [.data,.data,.data,.data,.sentinel,.sentinel,.data,.data,.data,.pinned] true (true,"73b7cbfcb2f6211f9ccfe34e898861d43fd3070558ec679c16f133e59276f378") true Yu (fun _ h=>by cases h) (by kernel_rfl) (fun _ h=>by cases h) stateBack_row_tie rfl ⟨rfl,rfl⟩ (by kernel_rfl) rfl
  (fun f fn hf hfn=>by
    obtain rfl:f=5:=Option.some.inj (PN.symm.trans hf) |>.symm
    obtain rfl:fn=Tryz.f5:=(Option.some.inj (Tryz.func5.symm.trans hfn)).symm
    exact ⟨by kernel_rfl,fun j t ht=>by
     rw [Tryz.params5] at ht
     rcases j with _ | _ | _ | j
     ·cases ht;kernel_rfl
     ·cases ht;kernel_rfl
     ·cases ht;kernel_rfl
     ·simp at ht⟩)
  dG
#print axioms back_card
end Go.Proofs.YtglndmmlghpdpaaGreatDoor
