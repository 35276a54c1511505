/-
  part 14 of the proof; no condition.
-/
import Derived.Test.YtglndmmlghpdpaaGreatDoorPM
import Derived.ProofKit
import Derived.OpenShut
import Derived.JoinedOf
import Derived.SevenTiedAt
import Derived.Test.YtglndmmlghpdpaaGreatDoorCards
namespace Go.Proofs.YtglndmmlghpdpaaGreatDoor
open Go
theorem clo:Tryz.pinned.checked.prog.closure 4=[4,6,26,21,42,67,90,115,116,139,91,117,92,118,140,151,141,142,143,152,36,64,81,83,82,110,84,111,131,112,133,132,43,113,134,135,114,136,137,138,150,85,86,65,87,88,44,68,93,119,144,145,69,94,120,95,96,34,60,78,104,105,127,126,128,106,107,129,130,148,149,121,97,12,11,35,61,79,108,80,109,62,63,18,40,7,28,33,51,66,89,52,73,74,75,76,27,10,47,48,37,54,50,49,56,29,53,70,98,122,99,123,146,153,154,147,124,71,72,57,77,103,100,101,125,102,8,30,31,32,55,45,58,59,15,16,38,17,39,19,41,13,20,22,23,24]:=by kernel_rfl
theorem Yp:Tryz.pinned.checked.prog.inPlace 4=Rows.stateTellsUptoRow.inPlace:=by unfold Program.inPlace;rewrite [clo];kernel_rfl
theorem unf:Tryz.pinned.checked.prog.unfollowed 4=true:=by unfold Program.unfollowed;rewrite [clo];kernel_rfl
theorem qR:Tryz.pinned.checked.prog.recurses 4=true:=by unfold Program.recurses;rw [unf];rfl
theorem nR:Tryz.pinned.checked.prog.varsNamed 4=Rows.stateTellsUptoRow.named:=by unfold Program.varsNamed;rewrite [clo];kernel_rfl
theorem PQ:Tryz.pinned.checked.prog.funcNamed "lariat/lariatlaw10.StateTells" = some 4:=by kernel_rfl
theorem UX:Tryz.pinned.checked.prog.funcs.toList.any Func.goes=false:=by kernel_rfl
theorem cZ:false=Rows.stateTellsUptoRow.goesBy Tryz.pinned.checked.prog:=by
 have h: ∀ (g:Nat),(Tryz.pinned.checked.prog.funcs[g]?).any Func.goes=false:=λg=>by
  cases hg:Tryz.pinned.checked.prog.funcs[g]? with
  | none=>rfl
  | some fn =>
   have hm:fn∈Tryz.pinned.checked.prog.funcs.toList:=by
    have:=Array.mem_of_getElem? hg;simpa using this
   have:=List.any_eq_false.1 UX fn hm;simpa using this
 have hall:Tryz.pinned.checked.prog.funcs.any Func.goes=false:=by rw [<-Array.any_toList];exact UX
 have hp:Tryz.pinned.checked.prog.goes 4=false:=by
  unfold Program.goes;rw [hall,Bool.and_false,Bool.or_false,List.any_eq_false];intro g _;rw [h g];simp
 unfold OpenClaim.goesBy Program.goesAt Program.goesFrom;rewrite [show Rows.stateTellsUptoRow.func= "lariat/lariatlaw10.StateTells" from rfl,show Rows.stateTellsUptoRow.start=.entering from rfl,PQ,Option.any_some,hp];rfl
set_option maxRecDepth 1000000 in
theorem aR:joinedFacts Tryz.pinned.checked.prog 4 Tryz.f4 (Rows.OpenSpec.upto Rows.stateTellsSpec).bare Rows.stateTellsUptoRow=true:=by
 delta joinedFacts
 rewrite [Yp];rewrite [unf];rewrite [qR];rewrite [nR]
 kernel_rfl
end Go.Proofs.YtglndmmlghpdpaaGreatDoor
