/-
  The surroundings in which the texts run: functions without a body, tables. No condition.
-/
import Derived.Test.YtalbkknckepnjaaGreatDoorSSG
import Derived.KernelRfl
import Derived.Test.YtalbkknckepnjaaGreatDoorProg
namespace Go.Proofs.YtalbkknckepnjaaGreatDoor
open Go SS
noncomputable def extT : SS.PT SS.Ext := SS.PT.ofL [(220, .store), (225, .load .i64), (235, .same), (293, .countStr), (346, .makeNoZero 5), (347, .cas .i64), (377, .indexByteStr), (294, .indexStr 0)]
noncomputable def gT : SS.PT (List SS.V) := SS.PT.ofL [(7, [V.int .u8 0, V.int .u8 1, V.int .u8 56, V.int .u8 2, V.int .u8 57, V.int .u8 49, V.int .u8 28, V.int .u8 3, V.int .u8 61, V.int .u8 58, V.int .u8 42, V.int .u8 50, V.int .u8 38, V.int .u8 29, V.int .u8 17, V.int .u8 4, V.int .u8 62, V.int .u8 47, V.int .u8 59, V.int .u8 36, V.int .u8 45, V.int .u8 43, V.int .u8 51, V.int .u8 22, V.int .u8 53, V.int .u8 39, V.int .u8 33, V.int .u8 30, V.int .u8 24, V.int .u8 18, V.int .u8 12, V.int .u8 5, V.int .u8 63, V.int .u8 55, V.int .u8 48, V.int .u8 27, V.int .u8 60, V.int .u8 41, V.int .u8 37, V.int .u8 16, V.int .u8 46, V.int .u8 35, V.int .u8 44, V.int .u8 21, V.int .u8 52, V.int .u8 32, V.int .u8 23, V.int .u8 11, V.int .u8 54, V.int .u8 26, V.int .u8 40, V.int .u8 15, V.int .u8 34, V.int .u8 20, V.int .u8 31, V.int .u8 10, V.int .u8 25, V.int .u8 14, V.int .u8 19, V.int .u8 9, V.int .u8 13, V.int .u8 8, V.int .u8 7, V.int .u8 6]), (3, [V.int .u64 1, V.int .u64 10, V.int .u64 100, V.int .u64 1000, V.int .u64 10000, V.int .u64 100000, V.int .u64 1000000, V.int .u64 10000000, V.int .u64 100000000, V.int .u64 1000000000, V.int .u64 10000000000, V.int .u64 100000000000, V.int .u64 1000000000000, V.int .u64 10000000000000, V.int .u64 100000000000000, V.int .u64 1000000000000000, V.int .u64 10000000000000000, V.int .u64 100000000000000000, V.int .u64 1000000000000000000, V.int .u64 10000000000000000000])]
def late (o : Go.Oper) : Bool :=
  match o.op with
  | .box t _ => Nat.beq t 124
  | .build t _ => Nat.beq t 124
  | .makeSlice .. => (match o.dst with | some d => Nat.blt 8 d && Nat.blt d 17 | none => false) && o.pos == "scc.go:81"
  | .move _ => (match o.dst with | some d => Nat.blt 8 d && Nat.blt d 17 | none => false) && o.pos == "scc.go:81"
  | _ => false
noncomputable def env : SS.Env := ⟨Tryz.prog, fun g => SS.PT.getF gT g, fun _ => 0, fun f => SS.PT.getF extT f, fun t => Nat.beq t 386, fun _ => false, late⟩
def puL : List Nat := [5, 18, 19, 20, 21, 23, 24, 35, 37, 48, 54, 57, 59, 62, 66, 67, 68, 73, 76, 78, 80, 98, 99, 100, 101, 102, 103, 107, 110, 118, 124, 125, 128, 129, 131, 133, 139, 140, 141, 142, 145, 167, 168, 175, 176, 177, 178, 179, 180, 181, 182, 186, 188, 189, 190, 191, 196, 197, 198, 201, 204, 205, 206, 207, 210, 213, 214, 215, 216, 227, 229, 230, 231, 232, 236, 247, 248, 250, 253, 254, 256, 258, 259, 264, 265, 266, 267, 268, 273, 274, 275, 276, 290, 291, 292, 300, 301, 316, 330, 331, 333, 350, 356, 358, 359, 360, 361, 371, 379, 380, 381, 382]
def pu (f : Nat) : Bool := puL.any (Nat.beq f)
end Go.Proofs.YtalbkknckepnjaaGreatDoor
