/-
  The row StateTells (chapter 10), the second form: it returns true of whatever it is asked that is of bulk at most 1048576; no condition but the row's own.
-/
import Derived.Test.YtglndmmlghpdpaaGreatDoorPO
import Derived.Test.YtglndmmlghpdpaaGreatDoorTie
import Derived.Test.YtglndmmlghpdpaaGreatDoorCards
import Derived.ProofKit
import Derived.OpenShut
import Derived.LaidMore
import Derived.Lay
import Derived.SevenTiedAt
import Derived.Stop.Joined
namespace Go.Proofs.YtglndmmlghpdpaaGreatDoor
open Go Go.ChangeShapes Go.WideShapes Go.ChangeAt Go.RowKit
theorem tells_card:Rows.StateTellsUptoCardSaid :=
 Claim7.holds_tied_plain_at .later [] [.data,.data,.data,.data,.sentinel,.sentinel,.data,.data,.data,.pinned] true (true,"73b7cbfcb2f6211f9ccfe34e898861d43fd3070558ec679c16f133e59276f378") true vH (λ_ h=>by cases h) (by kernel_rfl) (λ_ h=>by cases h) stateTellsUpto_row_tie rfl ⟨rfl,rfl⟩ (by kernel_rfl) rfl
  (λf fn hf hfn=>by
    obtain rfl:f=4:=Option.some.inj (PQ.symm.trans hf) |>.symm;obtain rfl:fn=Tryz.f4:=(Option.some.inj (Tryz.func4.symm.trans hfn)).symm;exact ⟨by kernel_rfl,λj t ht=>by
     rw [Tryz.params4] at ht;rcases j with _ | _ | _ | _ | _ | _ | _ | j
     ·cases ht;kernel_rfl
     ·cases ht;kernel_rfl
     ·cases ht;kernel_rfl
     ·cases ht;kernel_rfl
     ·cases ht;kernel_rfl
     ·cases ht;kernel_rfl
     ·cases ht;kernel_rfl
     ·simp at ht⟩)
  cZ
#print axioms tells_card
end Go.Proofs.YtglndmmlghpdpaaGreatDoor
