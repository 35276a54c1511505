/-
  The surroundings in which the texts run: functions without a body, tables. No condition.
-/
import Derived.Test.YtphjedhpnbkjaaaGreatDoorSSG
import Derived.KernelRfl
import Derived.Test.YtphjedhpnbkjaaaGreatDoorProg
namespace Go.Proofs.YtphjedhpnbkjaaaGreatDoor
open Go SS
noncomputable def extT : SS.PT SS.Ext := SS.PT.ofL [(234, .same), (235, .makeNoZero 5)]
noncomputable def gT : SS.PT (List SS.V) := SS.PT.ofL [(3, [V.int .u8 0, V.int .u8 1, V.int .u8 56, V.int .u8 2, V.int .u8 57, V.int .u8 49, V.int .u8 28, V.int .u8 3, V.int .u8 61, V.int .u8 58, V.int .u8 42, V.int .u8 50, V.int .u8 38, V.int .u8 29, V.int .u8 17, V.int .u8 4, V.int .u8 62, V.int .u8 47, V.int .u8 59, V.int .u8 36, V.int .u8 45, V.int .u8 43, V.int .u8 51, V.int .u8 22, V.int .u8 53, V.int .u8 39, V.int .u8 33, V.int .u8 30, V.int .u8 24, V.int .u8 18, V.int .u8 12, V.int .u8 5, V.int .u8 63, V.int .u8 55, V.int .u8 48, V.int .u8 27, V.int .u8 60, V.int .u8 41, V.int .u8 37, V.int .u8 16, V.int .u8 46, V.int .u8 35, V.int .u8 44, V.int .u8 21, V.int .u8 52, V.int .u8 32, V.int .u8 23, V.int .u8 11, V.int .u8 54, V.int .u8 26, V.int .u8 40, V.int .u8 15, V.int .u8 34, V.int .u8 20, V.int .u8 31, V.int .u8 10, V.int .u8 25, V.int .u8 14, V.int .u8 19, V.int .u8 9, V.int .u8 13, V.int .u8 8, V.int .u8 7, V.int .u8 6]), (0, [V.int .u64 1, V.int .u64 10, V.int .u64 100, V.int .u64 1000, V.int .u64 10000, V.int .u64 100000, V.int .u64 1000000, V.int .u64 10000000, V.int .u64 100000000, V.int .u64 1000000000, V.int .u64 10000000000, V.int .u64 100000000000, V.int .u64 1000000000000, V.int .u64 10000000000000, V.int .u64 100000000000000, V.int .u64 1000000000000000, V.int .u64 10000000000000000, V.int .u64 100000000000000000, V.int .u64 1000000000000000000, V.int .u64 10000000000000000000])]
def late (o : Go.Oper) : Bool :=
  match o.op with
  | .makeSlice .. => (match o.dst with | some d => Nat.blt 8 d && Nat.blt d 17 | none => false) && o.pos == "scc.go:81"
  | .move _ => (match o.dst with | some d => Nat.blt 8 d && Nat.blt d 17 | none => false) && o.pos == "scc.go:81"
  | _ => false
noncomputable def env : SS.Env := ⟨Tryz.prog, fun g => SS.PT.getF gT g, fun _ => 0, fun f => SS.PT.getF extT f, fun t => Nat.beq t 282, fun _ => false, late⟩
def puL : List Nat := [3, 4, 5, 6, 7, 8, 9, 10, 11, 12, 13, 14, 15, 16, 17, 18, 19, 20, 21, 22, 23, 24, 25, 26, 27, 28, 29, 30, 31, 32, 33, 34, 35, 36, 37, 38, 39, 40, 41, 44, 45, 46, 47, 48, 49, 50, 53, 54, 55, 56, 57, 58, 59, 60, 62, 69, 72, 73, 74, 75, 76, 77, 78, 79, 80, 81, 82, 83, 84, 85, 86, 87, 88, 89, 90, 91, 92, 94, 96, 97, 98, 99, 101, 102, 104, 106, 107, 113, 114, 117, 123, 126, 128, 129, 130, 131, 133, 134, 135, 136, 137, 138, 139, 142, 143, 144, 145, 146, 154, 155, 156, 159, 160, 161, 162, 164, 166, 167, 172, 180, 181, 182, 183, 186, 187, 188, 191, 192, 193, 194, 195, 196, 205, 208, 209, 211, 212, 213, 215, 216, 223, 227, 229, 230, 231, 236, 242, 244, 245, 246, 247, 248, 249, 252, 253]
def pu (f : Nat) : Bool := puL.any (Nat.beq f)
end Go.Proofs.YtphjedhpnbkjaaaGreatDoor
