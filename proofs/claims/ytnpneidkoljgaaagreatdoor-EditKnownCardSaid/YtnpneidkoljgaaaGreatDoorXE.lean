/-
  The surroundings in which the texts run: functions without a body, tables. No condition.
-/
import Derived.Test.YtnpneidkoljgaaaGreatDoorSSG
import Derived.KernelRfl
import Derived.Test.YtnpneidkoljgaaaGreatDoorProg
namespace Go.Proofs.YtnpneidkoljgaaaGreatDoor
open Go SS
noncomputable def extT : SS.PT SS.Ext := SS.PT.ofL [(90, .insert 40 7), (214, .indexStr 2), (39, .out), (216, .same), (276, .out), (333, .makeNoZero 5), (351, .indexByteStr), (364, .store), (378, .countStr), (404, .cas .u32), (410, .load .i64), (411, .cas .i64), (418, .load .u32)]
noncomputable def gT : SS.PT (List SS.V) := SS.PT.ofL [(3, [V.int .u64 1, V.int .u64 10, V.int .u64 100, V.int .u64 1000, V.int .u64 10000, V.int .u64 100000, V.int .u64 1000000, V.int .u64 10000000, V.int .u64 100000000, V.int .u64 1000000000, V.int .u64 10000000000, V.int .u64 100000000000, V.int .u64 1000000000000, V.int .u64 10000000000000, V.int .u64 100000000000000, V.int .u64 1000000000000000, V.int .u64 10000000000000000, V.int .u64 100000000000000000, V.int .u64 1000000000000000000, V.int .u64 10000000000000000000]), (5, [V.int .u8 0, V.int .u8 1, V.int .u8 56, V.int .u8 2, V.int .u8 57, V.int .u8 49, V.int .u8 28, V.int .u8 3, V.int .u8 61, V.int .u8 58, V.int .u8 42, V.int .u8 50, V.int .u8 38, V.int .u8 29, V.int .u8 17, V.int .u8 4, V.int .u8 62, V.int .u8 47, V.int .u8 59, V.int .u8 36, V.int .u8 45, V.int .u8 43, V.int .u8 51, V.int .u8 22, V.int .u8 53, V.int .u8 39, V.int .u8 33, V.int .u8 30, V.int .u8 24, V.int .u8 18, V.int .u8 12, V.int .u8 5, V.int .u8 63, V.int .u8 55, V.int .u8 48, V.int .u8 27, V.int .u8 60, V.int .u8 41, V.int .u8 37, V.int .u8 16, V.int .u8 46, V.int .u8 35, V.int .u8 44, V.int .u8 21, V.int .u8 52, V.int .u8 32, V.int .u8 23, V.int .u8 11, V.int .u8 54, V.int .u8 26, V.int .u8 40, V.int .u8 15, V.int .u8 34, V.int .u8 20, V.int .u8 31, V.int .u8 10, V.int .u8 25, V.int .u8 14, V.int .u8 19, V.int .u8 9, V.int .u8 13, V.int .u8 8, V.int .u8 7, V.int .u8 6]), (0, [V.opq]), (1, [V.opq])]
def late (o : Go.Oper) : Bool :=
  match o.op with
  | _ => false
noncomputable def env : SS.Env := ⟨Tryz.prog, fun g => SS.PT.getF gT g, fun _ => 0, fun f => SS.PT.getF extT f, fun t => Nat.beq t 57, fun _ => false, late, fun f => Nat.beq f 387⟩
def puL : List Nat := [3, 5, 6, 7, 8, 9, 10, 22, 23, 24, 25, 26, 27, 28, 31, 32, 52, 58, 64, 65, 66, 67, 68, 69, 70, 71, 72, 74, 75, 76, 77, 79, 80, 81, 82, 83, 84, 85, 86, 89, 115, 119, 127, 128, 130, 131, 132, 133, 134, 135, 136, 137, 138, 139, 142, 143, 144, 145, 146, 149, 151, 152, 153, 160, 163, 164, 166, 167, 168, 170, 171, 172, 173, 174, 175, 176, 177, 178, 180, 215, 217, 234, 236, 237, 238, 240, 241, 242, 243, 244, 245, 246, 247, 248, 249, 250, 252, 254, 255, 261, 263, 264, 265, 266, 267, 268, 269, 270, 271, 272, 285, 287, 289, 291, 292, 312, 313, 315, 316, 317, 318, 319, 320, 321, 322, 324, 326, 327, 328, 329, 335, 336, 349, 350, 353, 354, 355, 356, 375, 376, 377, 381, 385, 386, 399, 400, 416, 417]
def pu (f : Nat) : Bool := puL.any (Nat.beq f)
end Go.Proofs.YtnpneidkoljgaaaGreatDoor
