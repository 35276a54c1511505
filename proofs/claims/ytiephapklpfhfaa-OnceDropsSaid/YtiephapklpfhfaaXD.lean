/-
  Texts of the functions, each shown to be its function; chapter 1's example; keys that ask one another. No condition.
-/
import Derived.Test.YtiephapklpfhfaaXC
namespace Go.Proofs.Ytiephapklpfhfaa
open Go SS
set_option maxRecDepth 100000
def pu (_ : Nat) : Bool := false
noncomputable def t3_0 (call : SS.Call) (k : Nat) : List V → St → Res := un6 (fun x15 x16 x17 x18 x19 x20 x21 => (ld1 env x20 0 x21 (fun x22 => (i64K x22 (fun x23 => (i64K x18 (fun x24 => (iteR (ltI x23 x24) (pK (call 9 [(V.fn 10 [x19, x20, x16])] x21) (fun x25 x26 => (ptK x25 (fun x27 => (iteR x27 (some (AEx.ret, ([(V.bool false)], x26))) (onK x25 (appK 25 1 1 [x25] x17 x26 (fun x28 x29 => (ld1 env x20 0 x29 (fun x30 => (St.newK x29 (AO.blk [(V.int IntKind.i64 (Int.ofNat 0))] 3 0 false) (fun x31 x32 => (st1 (V.ptr x31 0 0) 0 x30 x32 (fun x33 => (ld1 env (V.ptr x31 0 0) 0 x33 (fun x34 => (i64K x34 (fun x35 => (addI 9223372036854775807 IntKind.i64 x35 (Int.ofNat 1) (fun x36 => (st1 (V.ptr x31 0 0) 0 (V.int IntKind.i64 x36) x33 (fun x37 => (some (AEx.norm, ([x15, x16, x28, x18, x19, (V.ptr x31 0 0)], x37))))))))))))))))))))))))) (some ((AEx.exit 0), ([x15, x16, x17, x18, x19], x21)))))))))))
noncomputable def t3_1 (call : SS.Call) (k : Nat) : List V → St → Res := un7 (fun x47 x48 x49 x50 x51 x52 x53 x54 => (lnK x47 (fun x55 => (i64K x53 (fun x56 => (andK (ltI x56 x55) x54 (i64K x53 (fun x57 => (some ((ltI x57 (Int.ofNat 40)), x54)))) (fun x58 x59 => (andK x58 x59 (i64K x50 (fun x60 => (some ((ltI (Int.ofNat 0) x60), x59)))) (fun x61 x62 => (iteR x61 (aiK x53 (fun x63 => (ldE1 1 x47 x63 0 x62 (fun x64 => (pK (call 11 [x64, x50] x62) (fun x65 x66 => (bindR (aiK x65 (fun x67 => (oK (indexAt env 24 x49 (V.int IntKind.i64 x67)) (fun x68 => (ld1 env x68 0 x66 (fun x69 => (pK (call 12 [x69] x66) (fun x70 x71 => (aiK x65 (fun x72 => (oK (indexAt env 28 x52 (V.int IntKind.i64 x72)) (fun x73 => (ld1 env x73 0 x71 (fun x74 => (ld1 env x73 0 x66 (fun x75 => (gd (V.beq x74 x75) (boK x70 (fun x76 => (boK x74 (fun x77 => (ifB (ntB (eqB x76 x77)) (some (AEx.norm, ([x47, x48, x49, x50, x51, x52, x53, x65, (bK true (V.bool true) (V.tup []))], x71))) (aiK x65 (fun x78 => (oK (indexAt env 24 x49 (V.int IntKind.i64 x78)) (fun x79 => (ld1 env x79 0 x71 (fun x80 => (pK (call 13 [x80] x71) (fun x81 x82 => (ld1 env x48 0 x82 (fun x83 => (ld1 env x48 0 x71 (fun x84 => (gd (V.beq x83 x84) (aiK x65 (fun x85 => (oK (indexAt env 22 x83 (V.int IntKind.i64 x85)) (fun x86 => (ld1 env x86 0 x82 (fun x87 => (ld1 env x86 0 x71 (fun x88 => (gd (V.beq x87 x88) (i64K x81 (fun x89 => (i64K x87 (fun x90 => (some (AEx.norm, ([x47, x48, x49, x50, x51, x52, x53, x65, (V.bool (bK false true (ntB (eqI x89 x90))))], x82))))))))))))))))))))))))))))))))))))))))))))))))))) (un9 (fun x91 x92 x93 x94 x95 x96 x97 x98 x99 x100 => (boK x99 (fun x101 => (iteR x101 (some (AEx.ret, ([(V.bool false)], x100))) (aiK x98 (fun x102 => (stE1 1 x96 x102 0 (V.bool true) x100 (fun x103 => (i64K x97 (fun x104 => (addI 9223372036854775807 IntKind.i64 x104 (Int.ofNat 1) (fun x105 => (some (AEx.norm, ([x91, x92, x93, x94, x95, x96, (V.int IntKind.i64 x105)], x103))))))))))))))))))))))) (some ((AEx.exit 2), ([x49, x50, x51, x52], x62)))))))))))))
noncomputable def t3_2 (call : SS.Call) (k : Nat) : List V → St → Res := un5 (fun x111 x112 x113 x114 x115 x116 => (i64K x115 (fun x117 => (i64K x112 (fun x118 => (iteR (ltI x117 x118) (bindR (aiK x115 (fun x119 => (oK (indexAt env 28 x114 (V.int IntKind.i64 x119)) (fun x120 => (ld1 env x120 0 x116 (fun x121 => (ld1 env x113 0 x116 (fun x122 => (aiK x115 (fun x123 => (oK (indexAt env 22 x122 (V.int IntKind.i64 x123)) (fun x124 => (ld1 env x124 0 x116 (fun x125 => (i64K x125 (fun x126 => (boK x121 (fun x127 => (ifB (ntB (eqB x127 (eqI x126 (Int.ofNat 1)))) (boK (bK true (V.bool true) (V.tup [])) (fun x128 => (ifB x128 (some (AEx.norm, ([x111, x112, x113, x114, x115, (bK true (V.bool true) (V.tup []))], x116))) (aiK x115 (fun x129 => (oK (indexAt env 24 x111 (V.int IntKind.i64 x129)) (fun x130 => (ld1 env x130 0 x116 (fun x131 => (pK (call 12 [x131] x116) (fun x132 x133 => (aiK x115 (fun x134 => (oK (indexAt env 28 x114 (V.int IntKind.i64 x134)) (fun x135 => (ld1 env x135 0 x133 (fun x136 => (ld1 env x135 0 x116 (fun x137 => (gd (V.beq x136 x137) (boK x132 (fun x138 => (boK x136 (fun x139 => (some (AEx.norm, ([x111, x112, x113, x114, x115, (V.bool (bK false true (ntB (eqB x138 x139))))], x133))))))))))))))))))))))))))) (ld1 env x113 0 x116 (fun x140 => (aiK x115 (fun x141 => (oK (indexAt env 22 x140 (V.int IntKind.i64 x141)) (fun x142 => (ld1 env x142 0 x116 (fun x143 => (i64K x143 (fun x144 => (ifB (bK false true (ltI (Int.ofNat 1) x144)) (some (AEx.norm, ([x111, x112, x113, x114, x115, (bK true (V.bool true) (V.tup []))], x116))) (aiK x115 (fun x145 => (oK (indexAt env 24 x111 (V.int IntKind.i64 x145)) (fun x146 => (ld1 env x146 0 x116 (fun x147 => (pK (call 12 [x147] x116) (fun x148 x149 => (aiK x115 (fun x150 => (oK (indexAt env 28 x114 (V.int IntKind.i64 x150)) (fun x151 => (ld1 env x151 0 x149 (fun x152 => (ld1 env x151 0 x116 (fun x153 => (gd (V.beq x152 x153) (boK x148 (fun x154 => (boK x152 (fun x155 => (some (AEx.norm, ([x111, x112, x113, x114, x115, (V.bool (bK false true (ntB (eqB x154 x155))))], x149)))))))))))))))))))))))))))))))))))))))))))))))))))))) (un6 (fun x156 x157 x158 x159 x160 x161 x162 => (boK x161 (fun x163 => (iteR x163 (some (AEx.ret, ([(V.bool false)], x162))) (i64K x160 (fun x164 => (addI 9223372036854775807 IntKind.i64 x164 (Int.ofNat 1) (fun x165 => (some (AEx.norm, ([x156, x157, x158, x159, (V.int IntKind.i64 x165)], x162))))))))))))) (some ((AEx.exit 4), ([], x116)))))))))
noncomputable def t3 (call : SS.Call) (k : Nat) : List V → St → Option (V × St) := un2 fun a0 a1 s => (finT (St.newK s (AO.blk (V.cellsF a0) 22 0 false) (fun x0 x1 => (pK (call 8 [] x1) (fun x2 x3 => (boK x2 (fun x4 => (iteR (ntB x4) (some (AEx.ret, ([(V.bool false)], x3))) (ld1 env (V.ptr x0 0 0) 0 x3 (fun x5 => (lnK x5 (fun x6 => (pK (makeSliceV env 22 (V.int IntKind.i64 (bK (ltI (Int.ofNat 12) x6) (Int.ofNat 12) x6)) (V.int IntKind.i64 (bK (ltI (Int.ofNat 12) x6) (Int.ofNat 12) x6)) x3) (fun x7 x8 => (St.newK x8 (AO.blk [V.nilS] 22 0 false) (fun x9 x10 => (st1 (V.ptr x9 0 0) 0 x7 x10 (fun x11 => (St.newK x11 (AO.blk [(V.int IntKind.i64 (Int.ofNat 0))] 3 0 false) (fun x12 x13 => (st1 (V.ptr x12 0 0) 0 (V.int IntKind.i64 (Int.ofNat 0)) x13 (fun x14 => (blkR 0 (loopV (t3_0 call k) k [a1, (V.ptr x0 0 0), V.nilS, (V.int IntKind.i64 (bK (ltI (Int.ofNat 12) x6) (Int.ofNat 12) x6)), (V.ptr x9 0 0), (V.ptr x12 0 0)] x14) (un5 (fun x38 x39 x40 x41 x42 x43 => (i64K x41 (fun x44 => (pK (makeSliceV env 28 (V.int IntKind.i64 x44) (V.int IntKind.i64 x44) x43) (fun x45 x46 => (blkR 2 (loopV (t3_1 call k) k [x38, x39, x40, x41, x42, x45, (V.int IntKind.i64 (Int.ofNat 0))] x46) (un4 (fun x106 x107 x108 x109 x110 => (blkR 4 (loopV (t3_2 call k) k [x106, x107, x108, x109, (V.int IntKind.i64 (Int.ofNat 0))] x110) (un0 (fun x166 => (pK (call 8 [] x166) (fun x167 x168 => (some (AEx.ret, ([x167], x168))))))))))))))))))))))))))))))))))))))))
theorem t3_ok (call : SS.Call) (k : Nat) : t3 call k = unL 2 (kFun env call pu k Try.f3 (bodyOf Try.f3) (.seq (.reg [.one, .one]) (.seq (.seq (.reg [.one, .one]) (.cond (.seq (.reg [.one]) .ret) .skip)) (.seq (.reg [.one]) (.seq (.reg [.one, .one, .one, .one]) (.seq (.reg [.one, .one, .one, .one]) (.seq (.seq (.reg [.one, .one]) (.bblk (.loop [1, 2, 5, 6, 7, 8] (.seq (.seq (.reg [.one, .one, .one]) (.cond .skip .exit)) (.seq (.blk (.seq (.reg [.one, .one, .one]) (.seq (.seq (.reg [.one, .one]) (.cond (.seq (.reg [.one]) .ret) .skip)) (.reg [.one, .one, .app, .one])))) (.seq (.seq (.reg [.one]) (.reg [.one, .one])) (.reg [.one, .one, .one]))))))) (.seq (.reg [.one, .one, .one]) (.seq (.seq (.reg [.one]) (.bblk (.loop [1, 2, 5, 6, 7, 10, 11] (.seq (.seq (.reg [.one, .one, .one, .one, .one, .grp 2 [.one, .one], .one, .grp 2 [.one, .one]]) (.cond .skip .exit)) (.seq (.blk (.seq (.reg [.one, .one, .adr 1, .one, .one, .one]) (.seq (.bind [1, 2, 5, 6, 7, 10, 11, 12, 78] (.drc []) (.cond (.seq (.reg [.one]) .ret) .skip)) (.reg [.one, .one, .adr 1])))) (.reg [.one, .one, .one])))))) (.seq (.seq (.reg [.one]) (.bblk (.loop [5, 6, 7, 10, 13] (.seq (.seq (.reg [.one, .one, .one]) (.cond .skip .exit)) (.seq (.blk (.bind [5, 6, 7, 10, 13, 115] (.drc []) (.cond (.seq (.reg [.one]) .ret) .skip))) (.reg [.one, .one, .one])))))) (.seq (.reg [.one, .one]) .ret)))))))))) [(4, []), (2, [5, 6, 7, 10]), (0, [1, 2, 5, 6, 7])]) := by kernel_rfl
noncomputable def t4_0 (call : SS.Call) (k : Nat) : List V → St → Res := un5 (fun x62 x63 x64 x65 x66 x67 => (lnK x62 (fun x68 => (i64K x66 (fun x69 => (andK (ltI x69 x68) x67 (i64K x66 (fun x70 => (some ((ltI x70 (Int.ofNat 20)), x67)))) (fun x71 x72 => (iteR x71 (aiK x66 (fun x73 => (ldE1 1 x62 x73 0 x72 (fun x74 => (ld1 env x63 0 x72 (fun x75 => (pK (call 11 [x74, x75] x72) (fun x76 x77 => (bindR (ld1 env x65 0 x77 (fun x78 => (pK (callV call x78 [x76] x77) (fun x79 x80 => (ld1 env x63 0 x80 (fun x81 => (ld1 env x63 0 x77 (fun x82 => (gd (V.beq x81 x82) (i64K x81 (fun x83 => (i64K x76 (fun x84 => (subI 9223372036854775807 IntKind.i64 x83 x84 (fun x85 => (i64K x79 (fun x86 => (ifB (ntB (eqI x86 x85)) (some (AEx.norm, ([x62, x63, x64, x65, x66, (bK true (V.bool true) (V.tup []))], x80))) (ld1 env x64 0 x80 (fun x87 => (ld1 env x63 0 x80 (fun x88 => (i64K x87 (fun x89 => (i64K x88 (fun x90 => (some (AEx.norm, ([x62, x63, x64, x65, x66, (V.bool (bK false true (ntB (eqI x89 x90))))], x80))))))))))))))))))))))))))))) (un6 (fun x91 x92 x93 x94 x95 x96 x97 => (boK x96 (fun x98 => (iteR x98 (some (AEx.ret, ([(V.bool false)], x97))) (i64K x95 (fun x99 => (addI 9223372036854775807 IntKind.i64 x99 (Int.ofNat 1) (fun x100 => (some (AEx.norm, ([x91, x92, x93, x94, (V.int IntKind.i64 x100)], x97))))))))))))))))))))) (some ((AEx.exit 0), ([], x72)))))))))))
noncomputable def t4 (call : SS.Call) (k : Nat) : List V → St → Option (V × St) := un2 fun a0 a1 s => (finT (St.newK s (AO.blk (V.cellsF a0) 3 0 false) (fun x0 x1 => (pK (call 8 [] x1) (fun x2 x3 => (boK x2 (fun x4 => (iteR (ntB x4) (some (AEx.ret, ([(V.bool false)], x3))) (pK (call 14 [] x3) (fun x5 x6 => (St.newK x6 (AO.blk [V.ptr0] 31 0 false) (fun x7 x8 => (onK x5 (st1 (V.ptr x7 0 0) 0 x5 x8 (fun x9 => (ld1 env (V.ptr x0 0 0) 0 x9 (fun x10 => (pK (call 11 [x10, (V.int IntKind.i64 (Int.ofNat 25))] x9) (fun x11 x12 => (i64K x11 (fun x13 => (addI 9223372036854775807 IntKind.i64 (Int.ofNat 1) x13 (fun x14 => (st1 (V.ptr x0 0 0) 0 (V.int IntKind.i64 x14) x12 (fun x15 => (pK (call 8 [] x15) (fun x16 x17 => (boK x16 (fun x18 => (orK (ntB x18) x17 (ld1 env (V.ptr x7 0 0) 0 x17 (fun x19 => (ptK x19 (fun x20 => (some (x20, x17)))))) (fun x21 x22 => (iteR x21 (some (AEx.ret, ([(V.bool false)], x22))) (St.newK x22 (AO.blk [(V.int IntKind.i64 (Int.ofNat 0))] 3 0 false) (fun x23 x24 => (st1 (V.ptr x23 0 0) 0 (V.int IntKind.i64 (Int.ofNat 0)) x24 (fun x25 => (St.newK x25 (AO.blk [V.fn0] 33 0 false) (fun x26 x27 => (st1 (V.ptr x26 0 0) 0 (V.fn 15 [(V.ptr x7 0 0), (V.ptr x23 0 0), (V.ptr x0 0 0), (V.ptr x26 0 0)]) x27 (fun x28 => (bindR (ld1 env (V.ptr x26 0 0) 0 x28 (fun x29 => (pK (callV call x29 [(V.int IntKind.i64 (Int.ofNat 0))] x28) (fun x30 x31 => (ld1 env (V.ptr x0 0 0) 0 x31 (fun x32 => (ld1 env (V.ptr x0 0 0) 0 x28 (fun x33 => (gd (V.beq x32 x33) (i64K x30 (fun x34 => (i64K x32 (fun x35 => (ifB (ntB (eqI x34 x35)) (boK (bK true (V.bool true) (V.tup [])) (fun x36 => (ifB x36 (some (AEx.norm, ([a1, (V.ptr x0 0 0), (V.ptr x23 0 0), (V.ptr x26 0 0), (bK true (V.bool true) (V.tup []))], x31))) (ld1 env (V.ptr x7 0 0) 0 x31 (fun x37 => (pK (call 18 [x37] x31) (fun x38 x39 => (ld1 env (V.ptr x0 0 0) 0 x39 (fun x40 => (ld1 env (V.ptr x0 0 0) 0 x31 (fun x41 => (gd (V.beq x40 x41) (i64K x38 (fun x42 => (i64K x40 (fun x43 => (some (AEx.norm, ([a1, (V.ptr x0 0 0), (V.ptr x23 0 0), (V.ptr x26 0 0), (V.bool (bK false true (ntB (eqI x42 x43))))], x39))))))))))))))))))) (ld1 env (V.ptr x23 0 0) 0 x31 (fun x44 => (ld1 env (V.ptr x0 0 0) 0 x31 (fun x45 => (i64K x44 (fun x46 => (i64K x45 (fun x47 => (ifB (bK false true (ntB (eqI x46 x47))) (some (AEx.norm, ([a1, (V.ptr x0 0 0), (V.ptr x23 0 0), (V.ptr x26 0 0), (bK true (V.bool true) (V.tup []))], x31))) (ld1 env (V.ptr x7 0 0) 0 x31 (fun x48 => (pK (call 18 [x48] x31) (fun x49 x50 => (ld1 env (V.ptr x0 0 0) 0 x50 (fun x51 => (ld1 env (V.ptr x0 0 0) 0 x31 (fun x52 => (gd (V.beq x51 x52) (i64K x49 (fun x53 => (i64K x51 (fun x54 => (some (AEx.norm, ([a1, (V.ptr x0 0 0), (V.ptr x23 0 0), (V.ptr x26 0 0), (V.bool (bK false true (ntB (eqI x53 x54))))], x50))))))))))))))))))))))))))))))))))))))) (un5 (fun x55 x56 x57 x58 x59 x60 => (boK x59 (fun x61 => (iteR x61 (some (AEx.ret, ([(V.bool false)], x60))) (blkR 0 (loopV (t4_0 call k) k [x55, x56, x57, x58, (V.int IntKind.i64 (Int.ofNat 0))] x60) (un0 (fun x101 => (some (AEx.ret, ([(V.bool true)], x101))))))))))))))))))))))))))))))))))))))))))))))))))))
theorem t4_ok (call : SS.Call) (k : Nat) : t4 call k = unL 2 (kFun env call pu k Try.f4 (bodyOf Try.f4) (.seq (.reg [.one, .one]) (.seq (.seq (.reg [.one, .one]) (.cond (.seq (.reg [.one]) .ret) .skip)) (.seq (.reg [.one, .one, .one]) (.seq (.reg [.one, .one, .one, .one]) (.seq (.seq (.reg [.one, .one, .one, .grp 2 [.one, .one]]) (.cond (.seq (.reg [.one]) .ret) .skip)) (.seq (.reg [.one, .one]) (.seq (.reg [.one]) (.seq (.reg [.one, .one]) (.seq (.bind [1, 2, 6, 7, 37] (.drc []) (.cond (.seq (.reg [.one]) .ret) .skip)) (.seq (.seq (.reg [.one]) (.bblk (.loop [1, 2, 6, 7, 8] (.seq (.seq (.reg [.one, .one, .one, .one, .one, .grp 2 [.one, .one]]) (.cond .skip .exit)) (.seq (.blk (.seq (.drw [] [.one, .one, .adr 1, .one, .one, .one]) (.bind [1, 2, 6, 7, 8, 65] (.drc []) (.cond (.seq (.reg [.one]) .ret) .skip)))) (.reg [.one, .one, .one])))))) (.seq (.reg [.one]) .ret))))))))))) [(0, [])]) := by kernel_rfl
noncomputable def t6_0 (call : SS.Call) (k : Nat) : List V → St → Res := un7 (fun x155 x156 x157 x158 x159 x160 x161 x162 => (i64K x161 (fun x163 => (iteR (ltI x163 (Int.ofNat 6)) (i64K x161 (fun x164 => (addI 9223372036854775807 IntKind.i64 (Int.ofNat 97) x164 (fun x165 => (cvI 255 IntKind.u8 x165 (fun x166 => (pK (buildSliceV env 35 1 [(0, (V.int IntKind.u8 x166))] x162) (fun x167 x168 => (oK (convertV env 35 9 x167 x168) (fun x169 => (oK (lookupV env 40 x157 x169 true x168) (fun x170 => (tuK x170 0 (fun x171 => (tuK x170 1 (fun x172 => (ld1 env x156 0 x168 (fun x173 => (pK (call 23 [x173, x169] x168) (fun x174 x175 => (boK x174 (fun x176 => (boK x172 (fun x177 => (iteR (ntB (eqB x176 x177)) (some (AEx.ret, ([(V.bool false)], x175))) (i64K x161 (fun x178 => (addI 9223372036854775807 IntKind.i64 x178 (Int.ofNat 1) (fun x179 => (some (AEx.norm, ([x155, x156, x157, x158, x159, x160, (V.int IntKind.i64 x179)], x175)))))))))))))))))))))))))))))))) (some ((AEx.exit 2), ([x155, x156, x157, x158, x159, x160], x162)))))))
noncomputable def t6_1 (call : SS.Call) (k : Nat) : List V → St → Res := un6 (fun x20 x21 x22 x23 x24 x25 x26 => (lnK x20 (fun x27 => (i64K x25 (fun x28 => (andK (ltI x28 x27) x26 (i64K x25 (fun x29 => (some ((ltI x29 (Int.ofNat 50)), x26)))) (fun x30 x31 => (iteR x30 (blkR 1 (aiK x25 (fun x32 => (ldEN 4 4 x20 x32 0 x31 (fun x33 => (St.newK x31 (AO.blk [(V.int IntKind.i64 (Int.ofNat 0)), (V.int IntKind.i64 (Int.ofNat 0)), (V.int IntKind.i64 (Int.ofNat 0)), (V.int IntKind.i64 (Int.ofNat 0))] 42 0 false) (fun x34 x35 => (oK (storeAt env 42 (V.ptr x34 0 0) x33 x35) (fun x36 => (ld1 env (V.ptr x34 0 0) 1 x36 (fun x37 => (pK (call 11 [x37, (V.int IntKind.i64 (Int.ofNat 6))] x36) (fun x38 x39 => (i64K x38 (fun x40 => (addI 9223372036854775807 IntKind.i64 (Int.ofNat 97) x40 (fun x41 => (cvI 255 IntKind.u8 x41 (fun x42 => (pK (buildSliceV env 35 1 [(0, (V.int IntKind.u8 x42))] x39) (fun x43 x44 => (oK (convertV env 35 9 x43 x44) (fun x45 => (St.newK x44 (AO.blk [(V.str [])] 9 0 false) (fun x46 x47 => (st1 (V.ptr x46 0 0) 0 x45 x47 (fun x48 => (ld1 env (V.ptr x34 0 0) 0 x48 (fun x49 => (pK (call 11 [x49, (V.int IntKind.i64 (Int.ofNat 7))] x48) (fun x50 x51 => (i64K x50 (fun x52 => (iteR (eqI x52 (Int.ofNat 6)) (ld1 env x21 0 x51 (fun x53 => (ld1 env (V.ptr x46 0 0) 0 x51 (fun x54 => (pK (call 22 [x53, x54] x51) (fun x55 x56 => (ld1 env (V.ptr x46 0 0) 0 x56 (fun x57 => (pK (builtinV env Builtin.delete [40, 9] [x22, x57] x56) (fun x58 x59 => (some ((AEx.exit 1), ([x20, x21, x22, x23, x24, x25], x59))))))))))))) (ld1 env (V.ptr x34 0 0) 3 x51 (fun x60 => (pK (call 11 [x60, (V.int IntKind.i64 (Int.ofNat 6))] x51) (fun x61 x62 => (i64K x61 (fun x63 => (addI 9223372036854775807 IntKind.i64 (Int.ofNat 97) x63 (fun x64 => (cvI 255 IntKind.u8 x64 (fun x65 => (pK (buildSliceV env 35 1 [(0, (V.int IntKind.u8 x65))] x62) (fun x66 x67 => (oK (convertV env 35 9 x66 x67) (fun x68 => (St.newK x67 (AO.blk [(V.str [])] 9 0 false) (fun x69 x70 => (st1 (V.ptr x69 0 0) 0 x68 x70 (fun x71 => (ld1 env x21 0 x71 (fun x72 => (ld1 env (V.ptr x46 0 0) 0 x71 (fun x73 => (pK (call 16 [x72, x73, (V.fn 25 [x23, (V.ptr x69 0 0), (V.ptr x46 0 0), (V.ptr x34 0 0), x21])] x71) (fun x74 x75 => (bindR (ld1 env (V.ptr x46 0 0) 0 x75 (fun x76 => (oK (lookupV env 40 x22 x76 true x75) (fun x77 => (tuK x77 0 (fun x78 => (tuK x77 1 (fun x79 => (boK x79 (fun x80 => (iteR (ntB x80) (i64K x24 (fun x81 => (addI 9223372036854775807 IntKind.i64 x81 (Int.ofNat 1) (fun x82 => (ld1 env (V.ptr x34 0 0) 2 x75 (fun x83 => (bindR (ld1 env (V.ptr x69 0 0) 0 x75 (fun x84 => (ld1 env (V.ptr x46 0 0) 0 x75 (fun x85 => (stK x84 (fun x86 => (stK x85 (fun x87 => (iteR (ntB (eqS x86 x87)) (bindR (ld1 env (V.ptr x69 0 0) 0 x75 (fun x88 => (oK (lookupV env 40 x22 x88 true x75) (fun x89 => (tuK x89 0 (fun x90 => (tuK x89 1 (fun x91 => (boK x91 (fun x92 => (iteR (ntB x92) (addI 9223372036854775807 IntKind.i64 x82 (Int.ofNat 1) (fun x93 => (ld1 env (V.ptr x69 0 0) 0 x75 (fun x94 => (ld1 env (V.ptr x34 0 0) 3 x75 (fun x95 => (i64K x95 (fun x96 => (quoI 9223372036854775807 IntKind.i64 x96 (Int.ofNat 3) (fun x97 => (oK (mapUpdateV env 40 x22 x94 (V.int IntKind.i64 x97) x75) (fun x98 => (some (AEx.norm, ([x20, x21, x22, x23, (V.int IntKind.i64 x93), x25, (V.ptr x34 0 0), (V.ptr x46 0 0), (V.ptr x69 0 0), x74], x98))))))))))))))) (some (AEx.norm, ([x20, x21, x22, x23, (V.int IntKind.i64 x82), x25, (V.ptr x34 0 0), (V.ptr x46 0 0), (V.ptr x69 0 0), x74], x75)))))))))))))) (un10 (fun x99 x100 x101 x102 x103 x104 x105 x106 x107 x108 x109 => (ld1 env x105 2 x109 (fun x110 => (i64K x110 (fun x111 => (quoI 9223372036854775807 IntKind.i64 x111 (Int.ofNat 2) (fun x112 => (ld1 env x107 0 x109 (fun x113 => (oK (lookupV env 40 x101 x113 false x109) (fun x114 => (i64K x114 (fun x115 => (addI 9223372036854775807 IntKind.i64 x112 x115 (fun x116 => (some (AEx.norm, ([x99, x100, x101, x102, x103, x104, x106, x108, (V.int IntKind.i64 x116)], x109)))))))))))))))))))) (some (AEx.norm, ([x20, x21, x22, x23, (V.int IntKind.i64 x82), x25, (V.ptr x46 0 0), x74, x83], x75)))))))))))) (un9 (fun x117 x118 x119 x120 x121 x122 x123 x124 x125 x126 => (ld1 env x123 0 x126 (fun x127 => (oK (mapUpdateV env 40 x119 x127 x125 x126) (fun x128 => (some (AEx.norm, ([x117, x118, x119, x120, x121, x122, x123, x124], x128)))))))))))))))) (some (AEx.norm, ([x20, x21, x22, x23, x24, x25, (V.ptr x46 0 0), x74], x75)))))))))))))) (un8 (fun x129 x130 x131 x132 x133 x134 x135 x136 x137 => (ld1 env x135 0 x137 (fun x138 => (oK (lookupV env 40 x131 x138 false x137) (fun x139 => (i64K x136 (fun x140 => (i64K x139 (fun x141 => (orK (ntB (eqI x140 x141)) x137 (ld1 env x132 0 x137 (fun x142 => (i64K x142 (fun x143 => (i64K x133 (fun x144 => (some ((ntB (eqI x143 x144)), x137)))))))) (fun x145 x146 => (orK x145 x146 (ld1 env x130 0 x146 (fun x147 => (pK (call 18 [x147] x146) (fun x148 x149 => (oK (lenAt env 40 x131 x149) (fun x150 => (i64K x148 (fun x151 => (i64K x150 (fun x152 => (some ((ntB (eqI x151 x152)), x149)))))))))))) (fun x153 x154 => (iteR x153 (some (AEx.ret, ([(V.bool false)], x154))) (blkR 2 (loopV (t6_0 call k) k [x129, x130, x131, x132, x133, x134, (V.int IntKind.i64 (Int.ofNat 0))] x154) (un6 (fun x180 x181 x182 x183 x184 x185 x186 => (some (AEx.norm, ([x180, x181, x182, x183, x184, x185], x186))))))))))))))))))))))))))))))))))))))))))))))))))))))))))))))))))))))))))))))) (un6 (fun x187 x188 x189 x190 x191 x192 x193 => (i64K x192 (fun x194 => (addI 9223372036854775807 IntKind.i64 x194 (Int.ofNat 1) (fun x195 => (some (AEx.norm, ([x187, x188, x189, x190, x191, (V.int IntKind.i64 x195)], x193)))))))))) (some ((AEx.exit 0), ([], x31)))))))))))
noncomputable def t6 (call : SS.Call) (k : Nat) : List V → St → Option (V × St) := un1 fun a0 s => (finT (pK (call 8 [] s) (fun x0 x1 => (boK x0 (fun x2 => (iteR (ntB x2) (some (AEx.ret, ([(V.bool false)], x1))) (pK (call 14 [] x1) (fun x3 x4 => (St.newK x4 (AO.blk [V.ptr0] 31 0 false) (fun x5 x6 => (onK x3 (st1 (V.ptr x5 0 0) 0 x3 x6 (fun x7 => (pK (call 8 [] x7) (fun x8 x9 => (boK x8 (fun x10 => (orK (ntB x10) x9 (ld1 env (V.ptr x5 0 0) 0 x9 (fun x11 => (ptK x11 (fun x12 => (some (x12, x9)))))) (fun x13 x14 => (iteR x13 (some (AEx.ret, ([(V.bool false)], x14))) (St.newK x14 (AO.map [] 0) (fun x15 x16 => (St.newK x16 (AO.blk [(V.int IntKind.i64 (Int.ofNat 0))] 3 0 false) (fun x17 x18 => (st1 (V.ptr x17 0 0) 0 (V.int IntKind.i64 (Int.ofNat 0)) x18 (fun x19 => (blkR 0 (loopV (t6_1 call k) k [a0, (V.ptr x5 0 0), (V.map x15), (V.ptr x17 0 0), (V.int IntKind.i64 (Int.ofNat 0)), (V.int IntKind.i64 (Int.ofNat 0))] x19) (un0 (fun x196 => (some (AEx.ret, ([(V.bool true)], x196))))))))))))))))))))))))))))))))
theorem t6_ok (call : SS.Call) (k : Nat) : t6 call k = unL 1 (kFun env call pu k Try.f6 (bodyOf Try.f6) (.seq (.reg [.one]) (.seq (.seq (.reg [.one, .one]) (.cond (.seq (.reg [.one]) .ret) .skip)) (.seq (.reg [.one, .one, .one]) (.seq (.seq (.reg [.one, .one, .one, .grp 2 [.one, .one]]) (.cond (.seq (.reg [.one]) .ret) .skip)) (.seq (.reg [.one, .one]) (.seq (.reg [.one, .one]) (.seq (.reg [.one]) (.seq (.seq (.reg [.one]) (.bblk (.loop [0, 3, 4, 5, 6, 7] (.seq (.seq (.reg [.one, .one, .one, .one, .one, .grp 2 [.one, .one]]) (.cond .skip .exit)) (.seq (.bblk (.seq (.reg [.one, .one, .adr 1, .one, .one]) (.seq (.reg [.adr 1, .one, .one, .one, .one, .one, .one, .one]) (.seq (.seq (.reg [.adr 1, .one, .one]) (.cond (.seq (.reg [.one, .one, .one]) (.seq (.reg [.one, .one, .one]) .exit)) .skip)) (.seq (.reg [.adr 1, .one, .one, .one, .one, .one, .one, .one]) (.seq (.reg [.one, .one, .one, .one, .one]) (.bind [0, 3, 4, 5, 6, 7, 9, 11] (.seq (.reg [.one, .one, .one, .one, .one, .one, .one, .one]) (.seq (.reg [.one, .one]) (.cond (.seq (.reg [.one, .one, .one]) (.seq (.reg [.adr 1, .one]) (.bind [0, 3, 4, 5, 6, 7, 9, 11, 14] (.seq (.reg [.one, .one, .one]) (.cond (.bind [0, 3, 4, 5, 6, 7, 8, 9, 10, 11] (.seq (.reg [.one, .one, .one, .one, .one, .one, .one, .one]) (.seq (.reg [.one, .one]) (.cond (.seq (.reg [.one, .one, .one]) (.reg [.one, .one, .adr 1, .one, .one])) .skip))) (.reg [.adr 1, .one, .one, .one, .one, .one, .one])) .skip)) (.reg [.one, .one, .one, .one])))) .skip))) (.seq (.seq (.reg [.one, .one, .one, .one, .one, .one, .grp 3 [.one, .one, .one], .one, .grp 5 [.one, .one, .one, .one, .one]]) (.cond (.seq (.reg [.one]) .ret) .skip)) (.seq (.reg [.one]) (.bblk (.loop [0, 3, 4, 5, 6, 7, 17] (.seq (.seq (.reg [.one, .one]) (.cond .skip .exit)) (.seq (.blk (.seq (.reg [.one, .one, .one, .one, .one, .one]) (.seq (.reg [.one, .one, .one, .one, .one, .one, .one, .one]) (.seq (.reg [.one, .one, .one, .one, .one]) (.cond (.seq (.reg [.one]) .ret) .skip))))) (.reg [.one, .one, .one])))))))))))))) (.reg [.one, .one, .one])))))) (.seq (.reg [.one]) .ret))))))))) [(0, []), (1, [0, 3, 4, 5, 6, 7]), (2, [0, 3, 4, 5, 6, 7])]) := by kernel_rfl
noncomputable def t8 (call : SS.Call) (k : Nat) : List V → St → Option (V × St) := un0 fun  s => (finT (St.newK s (AO.blk [(V.int IntKind.i64 (Int.ofNat 0))] 3 0 false) (fun x0 x1 => (st1 (V.ptr x0 0 0) 0 (V.int IntKind.i64 (Int.ofNat 0)) x1 (fun x2 => (pK (call 9 [(V.fn 30 [(V.ptr x0 0 0)])] x2) (fun x3 x4 => (ptK x3 (fun x5 => (andK (ntB x5) x4 (pK (call 12 [x3] x4) (fun x6 x7 => (boK x6 (fun x8 => (some ((ntB x8), x7)))))) (fun x9 x10 => (andK x9 x10 (pK (call 13 [x3] x10) (fun x11 x12 => (i64K x11 (fun x13 => (some ((eqI x13 (Int.ofNat 7)), x12)))))) (fun x14 x15 => (andK x14 x15 (pK (call 13 [x3] x15) (fun x16 x17 => (i64K x16 (fun x18 => (some ((eqI x18 (Int.ofNat 7)), x17)))))) (fun x19 x20 => (andK x19 x20 (ld1 env (V.ptr x0 0 0) 0 x20 (fun x21 => (i64K x21 (fun x22 => (some ((eqI x22 (Int.ofNat 1)), x20)))))) (fun x23 x24 => (andK x23 x24 (pK (call 12 [x3] x24) (fun x25 x26 => (boK x25 (fun x27 => (some (x27, x26)))))) (fun x28 x29 => (some (AEx.ret, ([(V.bool x28)], x29))))))))))))))))))))))
theorem t8_ok (call : SS.Call) (k : Nat) : t8 call k = unL 0 (kFun env call pu k Try.f8 (bodyOf Try.f8) (.seq (.reg [.one]) (.seq (.reg [.one, .one]) (.seq (.reg [.one, .one, .one]) (.seq (.reg [.one, .one, .one, .grp 3 [.one, .one, .one], .one, .grp 3 [.one, .one, .one], .one, .grp 3 [.one, .one, .one], .one, .grp 2 [.one, .one], .one, .grp 2 [.one, .one], .one]) .ret)))) []) := by kernel_rfl
noncomputable def t10 (call : SS.Call) (k : Nat) : List V → St → Option (V × St) := un3 fun a0 a1 a2 s => (finT (ld1 env a0 0 s (fun x0 => (ld1 env a1 0 s (fun x1 => (aiK x1 (fun x2 => (ldE1 1 x0 x2 0 s (fun x3 => (i64K x3 (fun x4 => (addI 9223372036854775807 IntKind.i64 x4 (Int.ofNat 1) (fun x5 => (aiK x1 (fun x6 => (stE1 1 x0 x6 0 (V.int IntKind.i64 x5) s (fun x7 => (ld1 env a2 0 x7 (fun x8 => (ld1 env a1 0 x7 (fun x9 => (aiK x9 (fun x10 => (ldE1 1 x8 x10 0 x7 (fun x11 => (some (AEx.ret, ([x11], x7))))))))))))))))))))))))))))
theorem t10_ok (call : SS.Call) (k : Nat) : t10 call k = unL 3 (kFun env call pu k Try.f10 (bodyOf Try.f10) (.seq (.reg [.one]) (.seq (.reg [.one, .one, .adr 1, .one, .adr 1]) (.seq (.reg [.one, .one, .adr 1, .one]) .ret))) []) := by kernel_rfl
noncomputable def t15 (call : SS.Call) (k : Nat) : List V → St → Option (V × St) := un5 fun a0 a1 a2 a3 a4 s => (finT (St.newK s (AO.blk (V.cellsF a0) 3 0 false) (fun x0 x1 => (ld1 env a1 0 x1 (fun x2 => (ld1 env (V.ptr x0 0 0) 0 x1 (fun x3 => (i64K x3 (fun x4 => (addI 9223372036854775807 IntKind.i64 (Int.ofNat 97) x4 (fun x5 => (cvI 255 IntKind.u8 x5 (fun x6 => (pK (buildSliceV env 35 1 [(0, (V.int IntKind.u8 x6))] x1) (fun x7 x8 => (oK (convertV env 35 9 x7 x8) (fun x9 => (pK (call 16 [x2, x9, (V.fn 17 [a2, (V.ptr x0 0 0), a3, a4])] x8) (fun x10 x11 => (some (AEx.ret, ([x10], x11))))))))))))))))))))))
theorem t15_ok (call : SS.Call) (k : Nat) : t15 call k = unL 5 (kFun env call pu k Try.f15 (bodyOf Try.f15) (.seq (.reg [.one, .one]) (.seq (.reg [.one, .one, .one, .one, .one, .one, .one, .one, .one]) .ret)) []) := by kernel_rfl
noncomputable def t17 (call : SS.Call) (k : Nat) : List V → St → Option (V × St) := un4 fun a0 a1 a2 a3 s => (finT (ld1 env a0 0 s (fun x0 => (i64K x0 (fun x1 => (addI 9223372036854775807 IntKind.i64 x1 (Int.ofNat 1) (fun x2 => (st1 a0 0 (V.int IntKind.i64 x2) s (fun x3 => (ld1 env a1 0 x3 (fun x4 => (i64K x4 (fun x5 => (addI 9223372036854775807 IntKind.i64 x5 (Int.ofNat 1) (fun x6 => (ld1 env a2 0 x3 (fun x7 => (i64K x7 (fun x8 => (iteR (eqI x6 x8) (some (AEx.ret, ([(V.int IntKind.i64 (Int.ofNat 1))], x3))) (ld1 env a3 0 x3 (fun x9 => (ld1 env a1 0 x3 (fun x10 => (i64K x10 (fun x11 => (addI 9223372036854775807 IntKind.i64 x11 (Int.ofNat 1) (fun x12 => (pK (callV call x9 [(V.int IntKind.i64 x12)] x3) (fun x13 x14 => (i64K x13 (fun x15 => (addI 9223372036854775807 IntKind.i64 (Int.ofNat 1) x15 (fun x16 => (some (AEx.ret, ([(V.int IntKind.i64 x16)], x14)))))))))))))))))))))))))))))))))))))
theorem t17_ok (call : SS.Call) (k : Nat) : t17 call k = unL 4 (kFun env call pu k Try.f17 (bodyOf Try.f17) (.seq (.reg [.one]) (.seq (.reg [.one, .one, .one]) (.seq (.seq (.reg [.one, .one, .one, .one]) (.cond (.seq (.reg [.one]) .ret) .skip)) (.seq (.reg [.one, .one, .one, .one, .one, .one]) .ret)))) []) := by kernel_rfl
noncomputable def t25 (call : SS.Call) (k : Nat) : List V → St → Option (V × St) := un5 fun a0 a1 a2 a3 a4 s => (finT (ld1 env a0 0 s (fun x0 => (i64K x0 (fun x1 => (addI 9223372036854775807 IntKind.i64 x1 (Int.ofNat 1) (fun x2 => (st1 a0 0 (V.int IntKind.i64 x2) s (fun x3 => (ld1 env a1 0 x3 (fun x4 => (ld1 env a2 0 x3 (fun x5 => (stK x4 (fun x6 => (stK x5 (fun x7 => (iteR (eqS x6 x7) (ld1 env a3 2 x3 (fun x8 => (some (AEx.ret, ([x8], x3))))) (oK (fieldAt env 42 a3 2) (fun x9 => (ld1 env x9 0 x3 (fun x10 => (i64K x10 (fun x11 => (quoI 9223372036854775807 IntKind.i64 x11 (Int.ofNat 2) (fun x12 => (ld1 env a4 0 x3 (fun x13 => (ld1 env a1 0 x3 (fun x14 => (pK (call 16 [x13, x14, (V.fn 26 [a0, a3])] x3) (fun x15 x16 => (ld1 env x9 0 x16 (fun x17 => (gd (V.beq x10 x17) (i64K x15 (fun x18 => (addI 9223372036854775807 IntKind.i64 x12 x18 (fun x19 => (some (AEx.ret, ([(V.int IntKind.i64 x19)], x16))))))))))))))))))))))))))))))))))))))))))
theorem t25_ok (call : SS.Call) (k : Nat) : t25 call k = unL 5 (kFun env call pu k Try.f25 (bodyOf Try.f25) (.seq (.reg [.one]) (.seq (.reg [.one, .one, .one]) (.seq (.seq (.reg [.one, .one, .one]) (.cond (.seq (.reg [.adr 1, .one]) .ret) .skip)) (.seq (.drc []) .ret)))) []) := by kernel_rfl
noncomputable def t26 (call : SS.Call) (k : Nat) : List V → St → Option (V × St) := un2 fun a0 a1 s => (finT (ld1 env a0 0 s (fun x0 => (i64K x0 (fun x1 => (addI 9223372036854775807 IntKind.i64 x1 (Int.ofNat 1) (fun x2 => (st1 a0 0 (V.int IntKind.i64 x2) s (fun x3 => (ld1 env a1 3 x3 (fun x4 => (i64K x4 (fun x5 => (quoI 9223372036854775807 IntKind.i64 x5 (Int.ofNat 3) (fun x6 => (some (AEx.ret, ([(V.int IntKind.i64 x6)], x3))))))))))))))))))
theorem t26_ok (call : SS.Call) (k : Nat) : t26 call k = unL 2 (kFun env call pu k Try.f26 (bodyOf Try.f26) (.seq (.reg [.one]) (.seq (.reg [.one, .one, .one]) (.seq (.reg [.adr 1, .one, .one]) .ret))) []) := by kernel_rfl
noncomputable def t27 (call : SS.Call) (k : Nat) : List V → St → Option (V × St) := un2 fun a0 a1 s => (finT (ld1 env a0 0 s (fun x0 => (ld1 env a1 0 s (fun x1 => (aiK x1 (fun x2 => (ldE1 1 x0 x2 0 s (fun x3 => (some (AEx.ret, ([x3], s))))))))))))
theorem t27_ok (call : SS.Call) (k : Nat) : t27 call k = unL 2 (kFun env call pu k Try.f27 (bodyOf Try.f27) (.seq (.reg [.one]) (.seq (.reg [.one, .one, .adr 1, .one]) .ret)) []) := by kernel_rfl
noncomputable def t28 (call : SS.Call) (k : Nat) : List V → St → Option (V × St) := un2 fun a0 a1 s => (finT (ld1 env a0 0 s (fun x0 => (ld1 env a1 0 s (fun x1 => (aiK x1 (fun x2 => (ldE1 1 x0 x2 0 s (fun x3 => (i64K x3 (fun x4 => (addI 9223372036854775807 IntKind.i64 x4 (Int.ofNat 1) (fun x5 => (some (AEx.ret, ([(V.int IntKind.i64 x5)], s))))))))))))))))
theorem t28_ok (call : SS.Call) (k : Nat) : t28 call k = unL 2 (kFun env call pu k Try.f28 (bodyOf Try.f28) (.seq (.reg [.one]) (.seq (.reg [.one, .one, .adr 1, .one, .one]) .ret)) []) := by kernel_rfl
noncomputable def t29 (call : SS.Call) (k : Nat) : List V → St → Option (V × St) := un2 fun a0 a1 s => (finT (ld1 env a0 0 s (fun x0 => (ld1 env a1 0 s (fun x1 => (aiK x1 (fun x2 => (ldE1 1 x0 x2 0 s (fun x3 => (some (AEx.ret, ([x3], s))))))))))))
theorem t29_ok (call : SS.Call) (k : Nat) : t29 call k = unL 2 (kFun env call pu k Try.f29 (bodyOf Try.f29) (.seq (.reg [.one]) (.seq (.reg [.one, .one, .adr 1, .one]) .ret)) []) := by kernel_rfl
noncomputable def t30 (call : SS.Call) (k : Nat) : List V → St → Option (V × St) := un1 fun a0 s => (finT (ld1 env a0 0 s (fun x0 => (i64K x0 (fun x1 => (addI 9223372036854775807 IntKind.i64 x1 (Int.ofNat 1) (fun x2 => (st1 a0 0 (V.int IntKind.i64 x2) s (fun x3 => (some (AEx.ret, ([(V.int IntKind.i64 (Int.ofNat 7))], x3))))))))))))
theorem t30_ok (call : SS.Call) (k : Nat) : t30 call k = unL 1 (kFun env call pu k Try.f30 (bodyOf Try.f30) (.seq (.reg [.one]) (.seq (.reg [.one, .one, .one]) (.seq (.reg [.one]) .ret))) []) := by kernel_rfl

end Go.Proofs.Ytiephapklpfhfaa

namespace Go.Proofs.Ytiephapklpfhfaa
open Go SS

theorem pure_none (call : SS.Call) : Pure pu call := by
  intro f hf; cases hf

/-- A text's run, as the body's. -/
theorem run_txt {fn : Func} {t : SS.Call → Nat → List V → St → Option (V × St)} {h : CH} {O : List (Nat × List Nat)} {n : Nat} (ht : ∀ call k, t call k = unL n (kFun env call pu k fn (SS.bodyOf fn) h O)) {k : Nat} {vs : List V} {σ σ' : St} {v : V}
    (hr : t (aCall env k) k vs σ = some (v, σ')) : runBody env (aCall env k) (callD env (aCall env k) k) (aDraw env (aCall env k)) k fn (SS.bodyOf fn) vs σ = some (v, σ') := by
  rw [ht] at hr
  exact kFun_ok (pure_none _) (unL_some hr).2

/-- Nothing that was there is turned. -/
structure Keeps (σ σ' : St) : Prop where
  n : σ.n ≤ σ'.n
  get : ∀ b, b < σ.n → σ'.get b = σ.get b

theorem Keeps.trans {σ σ1 σ2 : St} (h : Keeps σ σ1) (k : Keeps σ1 σ2) : Keeps σ σ2 := ⟨Nat.le_trans h.n k.n, fun b hb => (k.get b (Nat.lt_of_lt_of_le hb h.n)).trans (h.get b hb)⟩
theorem keeps_new (σ : St) (o : AO) : Keeps σ (σ.new o) := ⟨Nat.le_succ _, fun b hb => by rw [St.get_new, if_neg (by omega)]⟩
theorem keeps_put {σ τ : St} (h : Keeps σ τ) {b : Nat} (hb : σ.n ≤ b) (o : AO) : Keeps σ (τ.put b o) := ⟨h.n, fun b' hb' => by rw [St.get_put, if_neg (by omega)]; exact h.get b' hb'⟩
theorem Same.keeps {σ σ' : St} {t : Nat} (h : Same σ σ' t) : Keeps σ σ' := ⟨Nat.le_of_eq h.n.symm, fun b _ => h.get b⟩

theorem callW_any {f : FuncId} {fn : Func} {c : Code} (he : env.extn f = none) (hf : env.P.funcs[f]? = some fn) (hb : fn.body = some c) {k : Nat} {vs : List V} {σ σ1 : St} {v : V}
    (h : runBody env (aCall env k) (callD env (aCall env k) k) (aDraw env (aCall env k)) k fn c vs { σ with tch := σ.n } = some (v, σ1)) (hk : Keeps { σ with tch := σ.n } σ1) :
    ∃ σ', aCall env (k + 1) f vs σ = some (v, σ') ∧ Keeps σ σ' := by
  rw [aCall_raw he hf hb]
  unfold rawCall
  rw [h]
  simp only
  split
  · exact ⟨σ, rfl, Nat.le_refl _, fun _ _ => rfl⟩
  · exact ⟨_, rfl, hk.n, hk.get⟩

theorem get_new_at (σ : St) (o : AO) : (σ.new o).get σ.n = some o := by rw [St.get_new, if_pos rfl]
theorem get_new_ne {σ : St} {o : AO} {b : Nat} (h : b ≠ σ.n) : (σ.new o).get b = σ.get b := by rw [St.get_new, if_neg h]
theorem get_put_at (σ : St) (b : Nat) (o : AO) : (σ.put b o).get b = some o := by rw [St.get_put, if_pos rfl]
theorem get_put_ne {σ : St} {o : AO} {b b' : Nat} (h : b' ≠ b) : (σ.put b o).get b' = σ.get b' := by rw [St.get_put, if_neg h]

/-! Chapter 1's example. -/
set_option maxRecDepth 100000 in
theorem maker30 (k : Nat) {σ : St} {p : Nat} {m : Int} (hp : σ.get p = some (.blk [.int .i64 m] 3 0 false)) (hlt : p < σ.n) (hm : 0 ≤ m ∧ m < 1000) :
    ∃ σ', aCall env (k + 1) 30 [.ptr p 0 0] σ = some (.int .i64 7, σ') ∧ Upd σ σ' p (.blk [.int .i64 (m + 1)] 3 0 false) := by
  refine callW_upd rfl Try.func30 rfl (run_txt t30_ok ?_) (upd_put _ p _) hlt
  have hp' : ({ σ with tch := σ.n } : St).get p = _ := hp
  generalize ({ σ with tch := σ.n } : St) = τ at hp' ⊢
  unfold t30
  rw [x_un1, x_ld1 hp' rfl rfl, x_i64K, x_addI _ (by simp; omega) (by simp; omega), x_st1 hp' (by simp)]
  rfl
end Go.Proofs.Ytiephapklpfhfaa

namespace Go.Proofs.Ytiephapklpfhfaa
open Go SS

theorem made_five {cs : List V} {v : Int} (h : cs.length = 6) : (made cs v)[5]? = some (.int .u32 1) := by
  unfold made
  rw [List.getElem?_set_ne (by omega), List.getElem?_set_ne (by omega)]
  simp [h]
theorem made_zero {cs : List V} {v : Int} (h : cs.length = 6) : (made cs v)[0]? = some (.int .u32 1) := by
  unfold made
  rw [List.getElem?_set_ne (by omega)]
  simp [h]

set_option maxRecDepth 100000 in
set_option maxHeartbeats 1000000 in
theorem known_call (k : Nat) (σ : St) : ∃ σ', aCall env (k + 7) 8 [] σ = some (.bool true, σ') ∧ Keeps σ σ' := by
  have key : ∃ σ1, t8 (aCall env (k + 6)) (k + 6) [] { σ with tch := σ.n } = some (.bool true, σ1) ∧ Keeps { σ with tch := σ.n } σ1 := by
    generalize ({ σ with tch := σ.n } : St) = τ
    -- calls
    have n0 : (τ.new (.blk [.int .i64 0] 3 0 false)).get τ.n = some (.blk [.int .i64 0] 3 0 false) := get_new_at _ _
    have g1 : (((τ.new (.blk [.int .i64 0] 3 0 false)).put τ.n (.blk [.int .i64 0] 3 0 false))).get τ.n = some (.blk [.int .i64 0] 3 0 false) := get_put_at _ _ _
    have k1 : Keeps τ ((τ.new (.blk [.int .i64 0] 3 0 false)).put τ.n (.blk [.int .i64 0] 3 0 false)) := keeps_put (keeps_new _ _) (Nat.le_refl _) _
    have e1 : ((τ.new (.blk [.int .i64 0] 3 0 false)).put τ.n (.blk [.int .i64 0] 3 0 false)).n = τ.n + 1 := rfl
    generalize h1 : (τ.new (.blk [.int .i64 0] 3 0 false)).put τ.n (.blk [.int .i64 0] 3 0 false) = τ1 at g1 k1 e1
    obtain ⟨τ2, c9, n2, b2, o2⟩ := new_call (k + 5) τ1 30 [.ptr τ.n 0 0]
    have hc12 := made_call (k + 3) (σ := τ2) (b := τ1.n) b2 (x := 0) rfl
    obtain ⟨τm, τ3, hq, c13, n3, t3, hd⟩ := get_new k (σ := τ2) (b := τ1.n) (v := 7) (Q := fun τ' => τ'.get τ.n = some (.blk [.int .i64 1] 3 0 false) ∧ (∀ b, b < τ.n → τ'.get b = τ2.get b)) b2 rfl rfl rfl rfl (by omega) (fun τ0 h2 h3 => by
      have hp : τ0.get τ.n = some (.blk [.int .i64 0] 3 0 false) := by rw [h3 τ.n (by omega) (by omega), o2 τ.n (by omega)]; exact g1
      obtain ⟨τ', m1, m2⟩ := maker30 (k + 1) hp (by omega) (by omega)
      exact ⟨τ', m1, Nat.le_of_eq m2.n.symm, m2.other _ (by omega), fun b' h4 _ => m2.other _ (by omega), m2.at_, fun b hb => (m2.other b (by omega)).trans (h3 b (by omega) (by omega))⟩)
    obtain ⟨hq1, hq2⟩ := hq
    have hcell := hd.cell
    have c13' := get_made (k + 2) (σ := τ3) (b := τ1.n) (by rw [hd.n]; omega) hcell (made_zero rfl) (made_four rfl)
    have g3 : τ3.get τ.n = some (.blk [.int .i64 1] 3 0 false) := (hd.other _ (by omega)).trans hq1
    have hc12' := made_call (k + 3) (σ := τ3) (b := τ1.n) hcell (made_five rfl)
    refine ⟨τ3, ?_, ⟨by rw [hd.n]; omega, fun b hb => ?_⟩⟩
    · unfold t8
      simp only [x_lit, x_un0, x_new]
      rw [x_stbox n0]
      simp only [h1, c9, x_pK, x_ptK, x_ntB, Bool.not_false, x_andT, hc12, x_boK, bne_self_eq_false, c13, x_i64K, eqI_eq, beq_self_eq_true, c13', x_ldbox g3 rfl, hc12']
      rfl
    · rw [hd.other b (by omega), hq2 b hb, o2 b (by omega)]; exact k1.get b hb
  obtain ⟨σ1, h1, h2⟩ := key
  exact callW_any rfl Try.func8 rfl (run_txt t8_ok h1) h2
end Go.Proofs.Ytiephapklpfhfaa

namespace Go.Proofs.Ytiephapklpfhfaa
open Go SS

/-- The key of a small number. -/
def key (n : Nat) : List UInt8 := [UInt8.ofNat (97 + n)]

theorem key_inj {a b : Nat} (ha : a < 100) (hb : b < 100) (h : key a = key b) : a = b := by
  unfold key at h
  have h : UInt8.ofNat (97 + a) = UInt8.ofNat (97 + b) := by simpa using h
  have := congrArg UInt8.toNat h
  simp only [UInt8.toNat_ofNat'] at this
  omega

theorem key_slice (x : Int) (σ : St) : buildSliceV env 35 1 [(0, .int .u8 x)] σ = some (.lst [.int .u8 x] true, σ) := by kernel_rfl
theorem key_conv (n : Nat) (σ : St) : convertV env 35 9 (.lst [.int .u8 (n : Int)] true) σ = some (.str [UInt8.ofNat n]) := by kernel_rfl

set_option maxRecDepth 100000 in
theorem new_table (k : Nat) (σ : St) : ∃ σ', aCall env (k + 1) 14 [] σ = some (.ptr (σ.n + 1) 0 0, σ') ∧ σ'.n = σ.n + 2 ∧ Tab σ' (σ.n + 1) σ.n [] 0 ∧ Keeps σ σ' := by
  have hbld (b : Nat) : buildV env 63 [(1, .map b)] = some (.agg [.int .i32 0, .int .u32 0, .map b]) := by kernel_rfl
  obtain ⟨σ', h1, h2, h3⟩ := callW_made (k := k) (vs := []) (σ := σ) (c := _) (v := .ptr (σ.n + 1) 0 0) (σ1 := (({ σ with tch := σ.n } : St).new (.map [] 0)).new (.blk [.int .i32 0, .int .u32 0, .map σ.n] 63 0 false)) rfl Try.func14 rfl (by
    have hn : ({ σ with tch := σ.n } : St).n = σ.n := rfl
    generalize ({ σ with tch := σ.n } : St) = τ at hn ⊢
    rw [← hn]
    have hn2 : (τ.new (.map [] 0)).n = τ.n + 1 := rfl
    generalize hτ : τ.new (.map [] 0) = τ2 at hn2 ⊢
    rw [← hn2]
    unfold runBody Try.f14
    simp [aCode, aOps, aStep, wants, aOper, aVal, Fr.ev, Fr.put, argsAt, PT.get_set, keep, ofConst, ofCell, resultsV, resultV, aDefers, evParts, hbld, V.cells, und61, optEv, hτ]) (by
    show Nat.blt (σ.n + 1) σ.n = false
    cases hx : Nat.blt (σ.n + 1) σ.n with
    | false => rfl
    | true => have := (Nat.blt_eq).mp hx; omega)
  refine ⟨σ', h1, h2, ⟨?_, ?_⟩, ⟨by rw [h2]; show σ.n ≤ σ.n + 1 + 1; omega, fun b hb => ?_⟩⟩
  · rw [h3]; exact get_new_at _ _
  · rw [h3, get_new_ne (by show σ.n ≠ σ.n + 1; omega)]; exact get_new_at _ _
  · rw [h3, get_new_ne (by show b ≠ σ.n + 1; omega), get_new_ne (by show b ≠ σ.n; omega)]; rfl

/-- The cell of a key. -/
def cellOf (k : List UInt8) : Ents → Option Nat
  | [] => none
  | (a, c, _) :: r => if a = k then some c else cellOf k r

theorem look_cell (k : List UInt8) : ∀ (es : Ents) (i : Nat), (look k es i).map (fun p => p.2.1) = cellOf k es
  | [], _ => rfl
  | (a, c, b) :: r, i => by
    unfold look cellOf
    by_cases h : a = k
    · subst h; rw [if_pos (bytesEq_self _), if_pos rfl]; rfl
    · rw [if_neg (fun e => h ((bytesEq_iff _ _).1 e).symm), if_neg h]; exact look_cell k r (i + 1)

theorem look_some {k : List UInt8} {es : Ents} {c : Nat} (h : cellOf k es = some c) : ∃ i b, look k es 0 = some (i, c, b) := by
  have := look_cell k es 0
  rw [h] at this
  cases hl : look k es 0 with
  | none => rw [hl] at this; cases this
  | some p => rw [hl] at this; obtain ⟨i, c', b⟩ := p; cases this; exact ⟨i, b, rfl⟩
theorem look_none {k : List UInt8} {es : Ents} (h : cellOf k es = none) : look k es 0 = none := by
  have := look_cell k es 0
  rw [h] at this
  cases hl : look k es 0 with
  | none => rfl
  | some p => rw [hl] at this; cases this
theorem cell_of_look {k : List UInt8} {es : Ents} {i c b : Nat} (h : look k es 0 = some (i, c, b)) : cellOf k es = some c := by
  rw [← look_cell k es 0, h]; rfl

theorem cellOf_append (k : List UInt8) : ∀ (a b : Ents), cellOf k (a ++ b) = (cellOf k a).or (cellOf k b)
  | [], b => rfl
  | (x, c, n) :: r, b => by
    simp only [List.cons_append, cellOf]
    split
    · rfl
    · exact cellOf_append k r b

theorem pick_nat (k : Nat) (n : Int) (m : Nat) (σ : St) (hm : 0 < m) (hm2 : m ≤ 4294967296) : ∃ j, j < m ∧ aCall env (k + 1) 11 [.int .i64 n, .int .i64 (m : Int)] σ = some (.int .i64 (j : Int), σ) := by
  obtain ⟨h1, h2⟩ := pickZ_range (n := n) (m := (m : Int)) (by omega)
  obtain ⟨j, hj⟩ := Int.eq_ofNat_of_zero_le h1
  refine ⟨j, by omega, ?_⟩
  rw [pick_call k n m σ (by omega) (by omega), hj]
end Go.Proofs.Ytiephapklpfhfaa

namespace Go.Proofs.Ytiephapklpfhfaa
open Go SS

/-- The variables of chapter 1's row of keys. -/
structure DEnv (σ : St) (tx cb nx gx tb mb N : Nat) : Prop where
  t : σ.get tx = some (.blk [.ptr tb 0 0] 31 0 false)
  n : σ.get nx = some (.blk [.int .i64 (N : Int)] 3 0 false)
  g : σ.get gx = some (.blk [.fn 15 [.ptr tx 0 0, .ptr cb 0 0, .ptr nx 0 0, .ptr gx 0 0]] 33 0 false)
  tn : tx ≠ cb ∧ nx ≠ cb ∧ gx ≠ cb ∧ tb ≠ cb ∧ mb ≠ cb
  mn : tx ≠ mb ∧ nx ≠ mb ∧ gx ≠ mb
  lt : tx < σ.n ∧ nx < σ.n ∧ gx < σ.n ∧ tb < σ.n ∧ mb < σ.n ∧ cb < σ.n

theorem DEnv.to {σ σ' : St} {tx cb nx gx tb mb N : Nat} (h : DEnv σ tx cb nx gx tb mb N) (hn : σ.n ≤ σ'.n) (hg : ∀ b, b < σ.n → b ≠ cb → b ≠ mb → σ'.get b = σ.get b) : DEnv σ' tx cb nx gx tb mb N := by
  obtain ⟨h1, h2, h3, h4, h5, h6⟩ := h
  exact ⟨(hg _ (by omega) (by omega) (by omega)).trans h1, (hg _ (by omega) (by omega) (by omega)).trans h2, (hg _ (by omega) (by omega) (by omega)).trans h3, h4, h5, by omega⟩

/-- What a row of keys is, once it is made: m of them, from k on. -/
structure Deep (σ σ' : St) (tb mb cb N k m : Nat) (es : Ents) (c : Nat) (L : Ents) (clock' : Nat) : Prop where
  n : σ.n ≤ σ'.n
  get : ∀ b, b < σ.n → b ≠ cb → b ≠ mb → σ'.get b = σ.get b
  calls : σ'.get cb = some (.blk [.int .i64 ((c + m : Nat) : Int)] 3 0 false)
  tab : Tab σ' tb mb (es ++ L) clock'
  len : L.length = m
  cell : ∀ j, k ≤ j → j < N → ∃ x, cellOf (key j) L = some x ∧ x < σ'.n ∧ σ.n ≤ x ∧ MadeCell σ' x ((N - j : Nat) : Int)

set_option maxRecDepth 100000 in
theorem maker17_last (f : Nat) {τ : St} {tx cb nx gx kx tb mb N k c : Nat} (he : DEnv τ tx cb nx gx tb mb N) (hc : τ.get cb = some (.blk [.int .i64 (c : Int)] 3 0 false)) (hk : τ.get kx = some (.blk [.int .i64 (k : Int)] 3 0 false)) (hkc : kx ≠ cb) (hN : k + 1 = N) (hb : N ≤ 25) (hcb : c ≤ 2000) :
    ∃ τ', aCall env (f + 1) 17 [.ptr cb 0 0, .ptr kx 0 0, .ptr nx 0 0, .ptr gx 0 0] τ = some (.int .i64 1, τ') ∧ Upd τ τ' cb (.blk [.int .i64 ((c + 1 : Nat) : Int)] 3 0 false) := by
  refine callW_upd rfl Try.func17 rfl (run_txt t17_ok ?_) (upd_put _ cb _) he.lt.2.2.2.2.2
  have hc' : ({ τ with tch := τ.n } : St).get cb = _ := hc
  have hk' : ({ τ with tch := τ.n } : St).get kx = _ := hk
  have hn' : ({ τ with tch := τ.n } : St).get nx = _ := he.n
  generalize ({ τ with tch := τ.n } : St) = σ at hc' hk' hn' ⊢
  have hk2 : (σ.put cb (.blk [.int .i64 ((c + 1 : Nat) : Int)] 3 0 false)).get kx = _ := (get_put_ne hkc).trans hk'
  have hn2 : (σ.put cb (.blk [.int .i64 ((c + 1 : Nat) : Int)] 3 0 false)).get nx = _ := (get_put_ne he.tn.2.1).trans hn'
  unfold t17
  simp only [x_lit, x_un4]
  rw [x_ldbox hc' rfl, x_i64K, x_addI _ (by omega) (by omega), x_stbox hc', show ((c : Int) + 1) = ((c + 1 : Nat) : Int) from by omega]
  rw [x_ldbox hk2 rfl, x_i64K, x_addI _ (by omega) (by omega), x_ldbox hn2 rfl, x_i64K, show ((k : Int) + 1) = (N : Int) from by omega]
  simp only [eqI_eq, beq_self_eq_true, x_iteR, if_true]
  rfl

set_option maxRecDepth 100000 in
theorem maker17_more (f : Nat) {τ τ2 : St} {tx cb nx gx kx tb mb N k c v : Nat} (he : DEnv τ tx cb nx gx tb mb N) (hc : τ.get cb = some (.blk [.int .i64 (c : Int)] 3 0 false)) (hk : τ.get kx = some (.blk [.int .i64 (k : Int)] 3 0 false)) (hkc : kx ≠ cb) (hN : k + 1 < N) (hb : N ≤ 25) (hcb : c ≤ 2000) (hv : v ≤ 100)
    (hr : aCall env f 15 [.int .i64 ((k + 1 : Nat) : Int), .ptr tx 0 0, .ptr cb 0 0, .ptr nx 0 0, .ptr gx 0 0] (({ τ with tch := τ.n } : St).put cb (.blk [.int .i64 ((c + 1 : Nat) : Int)] 3 0 false)) = some (.int .i64 (v : Int), τ2)) (ht : τ2.tch < τ.n) :
    ∃ τ', aCall env (f + 1) 17 [.ptr cb 0 0, .ptr kx 0 0, .ptr nx 0 0, .ptr gx 0 0] τ = some (.int .i64 ((v + 1 : Nat) : Int), τ') ∧ τ'.n = τ2.n ∧ ∀ b, τ'.get b = τ2.get b := by
  have key : t17 (aCall env f) f [.ptr cb 0 0, .ptr kx 0 0, .ptr nx 0 0, .ptr gx 0 0] { τ with tch := τ.n } = some (.int .i64 ((v + 1 : Nat) : Int), τ2) := by
    have hc' : ({ τ with tch := τ.n } : St).get cb = _ := hc
    have hk' : ({ τ with tch := τ.n } : St).get kx = _ := hk
    have hn' : ({ τ with tch := τ.n } : St).get nx = _ := he.n
    have hg' : ({ τ with tch := τ.n } : St).get gx = _ := he.g
    generalize ({ τ with tch := τ.n } : St) = σ at hc' hk' hn' hg' hr ⊢
    have hk2 : (σ.put cb (.blk [.int .i64 ((c + 1 : Nat) : Int)] 3 0 false)).get kx = _ := (get_put_ne hkc).trans hk'
    have hn2 : (σ.put cb (.blk [.int .i64 ((c + 1 : Nat) : Int)] 3 0 false)).get nx = _ := (get_put_ne he.tn.2.1).trans hn'
    have hg2 : (σ.put cb (.blk [.int .i64 ((c + 1 : Nat) : Int)] 3 0 false)).get gx = _ := (get_put_ne he.tn.2.2.1).trans hg'
    unfold t17
    simp only [x_lit, x_un4]
    rw [x_ldbox hc' rfl, x_i64K, x_addI _ (by omega) (by omega), x_stbox hc', show ((c : Int) + 1) = ((c + 1 : Nat) : Int) from by omega]
    rw [x_ldbox hk2 rfl, x_i64K, x_addI _ (by omega) (by omega), x_ldbox hn2 rfl, x_i64K, x_ldbox hg2 rfl, x_ldbox hk2 rfl, x_i64K, x_addI _ (by omega) (by omega)]
    have hne : eqI ((k : Int) + 1) (N : Int) = false := by rw [eqI_eq]; simpa using by omega
    rw [hne, x_iteR]
    simp only [Bool.false_eq_true, if_false, callV, List.cons_append, List.nil_append]
    rw [show ((k : Int) + 1) = ((k + 1 : Nat) : Int) from by omega, hr, x_pK, x_i64K, x_addI _ (by omega) (by omega), show (1 + (v : Int)) = ((v + 1 : Nat) : Int) from by omega]
    rfl
  obtain ⟨σ', h1, h2, _, h4⟩ := callW_gen rfl Try.func17 rfl (run_txt t17_ok key) ht
  exact ⟨σ', h1, h2, h4⟩

set_option maxRecDepth 100000 in
set_option maxHeartbeats 2000000 in
theorem deep_step {tx cb nx gx tb mb N : Nat} (hN : N ≤ 25) (f k m : Nat) {σ : St} {es : Ents} {clock c : Nat} (he : DEnv σ tx cb nx gx tb mb N) (hc : σ.get cb = some (.blk [.int .i64 (c : Int)] 3 0 false)) (ht : Tab σ tb mb es clock) (hk : k + m + 1 = N) (hno : cellOf (key k) es = none)
    (hm : ∀ τ1 : St, DEnv τ1 tx cb nx gx tb mb N → τ1.get cb = some (.blk [.int .i64 (c : Int)] 3 0 false) → ∀ kx, kx < τ1.n → kx ≠ cb → kx ≠ mb → τ1.get kx = some (.blk [.int .i64 (k : Int)] 3 0 false) → TMakes f τ1 tb mb es clock (key k) 17 [.ptr cb 0 0, .ptr kx 0 0, .ptr nx 0 0, .ptr gx 0 0] ((m + 1 : Nat) : Int) (fun nb τ' => ∃ L clock', Deep τ1 τ' tb mb cb N (k + 1) m (es ++ [(key k, nb, clock)]) (c + 1) L clock' ∧ nb < τ'.n ∧ ∀ j, k + 1 ≤ j → j < N → cellOf (key j) L ≠ some nb)) :
    ∃ σ' L clock', aCall env (f + 8) 15 [.int .i64 (k : Int), .ptr tx 0 0, .ptr cb 0 0, .ptr nx 0 0, .ptr gx 0 0] σ = some (.int .i64 ((m + 1 : Nat) : Int), σ') ∧ Deep σ σ' tb mb cb N k (m + 1) es c L clock' ∧ σ'.tch ≤ tb := by
  have key : ∃ σ1 L clock', t15 (aCall env (f + 7)) (f + 7) [.int .i64 (k : Int), .ptr tx 0 0, .ptr cb 0 0, .ptr nx 0 0, .ptr gx 0 0] { σ with tch := σ.n } = some (.int .i64 ((m + 1 : Nat) : Int), σ1) ∧ Deep { σ with tch := σ.n } σ1 tb mb cb N k (m + 1) es c L clock' ∧ σ1.tch ≤ tb := by
    have he' : DEnv ({ σ with tch := σ.n } : St) tx cb nx gx tb mb N := ⟨he.t, he.n, he.g, he.tn, he.mn, he.lt⟩
    have hc' : ({ σ with tch := σ.n } : St).get cb = _ := hc
    have ht' : Tab ({ σ with tch := σ.n } : St) tb mb es clock := ⟨ht.blk, ht.map⟩
    generalize ({ σ with tch := σ.n } : St) = τ at he' hc' ht' ⊢
    have k1 := keeps_new τ (.blk [.int .i64 (k : Int)] 3 0 false)
    have hx := get_new_at τ (.blk [.int .i64 (k : Int)] 3 0 false)
    have n1 : (τ.new (.blk [.int .i64 (k : Int)] 3 0 false)).n = τ.n + 1 := rfl
    generalize hτ1 : τ.new (.blk [.int .i64 (k : Int)] 3 0 false) = τ1 at k1 hx n1
    obtain ⟨l1, l2, l3, l4, l5, l6⟩ := he'.lt
    have htb1 : Tab τ1 tb mb es clock := ⟨(k1.get _ l4).trans ht'.blk, (k1.get _ l5).trans ht'.map⟩
    have he1 := he'.to k1.n (fun b hb _ _ => k1.get b hb)
    obtain ⟨nb, τm, τ2, ⟨L, clock', hd, _, hnb⟩, hcall, h1, h2, h3, hmade, h4, h6⟩ := tget_new f htb1 (by omega) (by omega) (key k) (look_none hno) (hm τ1 he1 ((k1.get cb l6).trans hc') τ.n (by omega) (by omega) (by omega) hx)
    refine ⟨τ2, (key k, nb, clock) :: L, clock', ?_, ⟨?_, fun b hb hb1 hb2 => ?_, ?_, ⟨?_, ?_⟩, by simp [hd.len], fun j hj1 hj2 => ?_⟩, h6⟩
    · unfold t15
      simp only [x_lit, x_un5, x_new]
      rw [show V.cellsF (.int .i64 (k : Int)) = [.int .i64 (k : Int)] from rfl, hτ1, x_ldbox ((k1.get _ l1).trans he'.t) rfl, x_ldbox hx rfl, x_i64K, x_addI _ (by omega) (by omega), x_cv8 _ (by omega) (by omega), key_slice, x_pK, show (97 + (k : Int)) = ((97 + k : Nat) : Int) from by omega, key_conv, x_oK]
      unfold key at hcall
      rw [hcall]
      rfl
    · have := hd.n; omega
    · rw [h4 b (by omega), hd.get b (by omega) hb1 hb2]; exact k1.get b hb
    · rw [h4 cb (by omega), hd.calls, show c + 1 + m = c + (m + 1) from by omega]
    · rw [h4 tb (by omega)]; exact hd.tab.blk
    · have := hd.tab.map; rw [h4 mb (by omega), this]; simp
    · by_cases hjk : j = k
      · subst hjk
        refine ⟨nb, by simp [cellOf], by omega, by omega, ?_⟩
        have : N - j = m + 1 := by omega
        rw [this]; exact hmade
      · obtain ⟨x, x1, x2, x3, x4⟩ := hd.cell j (by omega) hj2
        refine ⟨x, ?_, by omega, by omega, x4.to (h4 x (fun e => hnb j (by omega) hj2 (e ▸ x1)))⟩
        simp only [cellOf]
        rw [if_neg (fun e => by have := key_inj (by omega) (by omega) e; omega)]
        exact x1
  obtain ⟨σ1, L, clock', hr, hd, htc⟩ := key
  obtain ⟨l1, l2, l3, l4, l5, l6⟩ := he.lt
  obtain ⟨σ', e1, e2, e3, e4⟩ := callW_gen rfl Try.func15 rfl (run_txt t15_ok hr) (by omega)
  have hn : σ.n ≤ σ1.n := hd.n
  exact ⟨σ', L, clock', e1, ⟨by omega, fun b hb h1 h2 => (e4 b).trans (hd.get b hb h1 h2), (e4 _).trans hd.calls, ⟨(e4 _).trans hd.tab.blk, (e4 _).trans hd.tab.map⟩, hd.len, fun j h1 h2 => by
    obtain ⟨x, x1, x2, x3, x4⟩ := hd.cell j h1 h2
    exact ⟨x, x1, by omega, x3, x4.to (e4 x)⟩⟩, by omega⟩

theorem deep_new {tx cb nx gx tb mb N : Nat} (hN : N ≤ 25) : ∀ (d f k : Nat) {σ : St} {es : Ents} {clock c : Nat}, DEnv σ tx cb nx gx tb mb N → σ.get cb = some (.blk [.int .i64 (c : Int)] 3 0 false) → Tab σ tb mb es clock → k + d + 1 = N → c + d ≤ 1000 → (∀ j, k ≤ j → j < N → cellOf (key j) es = none) →
    ∃ σ' L clock', aCall env (f + 7 * d + 8) 15 [.int .i64 (k : Int), .ptr tx 0 0, .ptr cb 0 0, .ptr nx 0 0, .ptr gx 0 0] σ = some (.int .i64 ((d + 1 : Nat) : Int), σ') ∧ Deep σ σ' tb mb cb N k (d + 1) es c L clock' ∧ σ'.tch ≤ tb := by
  intro d
  induction d with
  | zero =>
    intro f k σ es clock c he hc ht hk hcd hno
    refine deep_step hN f k 0 he hc ht hk (hno k (Nat.le_refl _) (by omega)) (fun τ1 he1 hc1 kx hx1 hx2 hx3 hkx nb τ0 h1 h2 h3 h4 => ?_)
    obtain ⟨l1, l2, l3, l4, l5, l6⟩ := he1.lt
    have he0 : DEnv τ0 tx cb nx gx tb mb N := he1.to (by omega) (fun b hb _ hbm => h4 b hb hbm)
    have hc0 := (h4 cb l6 (fun e => he.tn.2.2.2.2 e.symm)).trans hc1
    have hk0 := (h4 kx hx1 hx3).trans hkx
    obtain ⟨τ', m1, m2⟩ := maker17_last (f + 1) he0 hc0 hk0 hx2 (by omega) hN (by omega)
    have hn := m2.n
    refine ⟨τ', m1, by omega, fun b hb1 hb2 => m2.other b (by omega), [], clock + 1, ⟨by omega, fun b hb hb1 hb2 => (m2.other b hb1).trans (h4 b hb hb2), m2.at_, ?_, rfl, fun j hj1 hj2 => by omega⟩, by omega, fun j hj1 hj2 => by omega⟩
    rw [List.append_nil]
    exact ⟨(m2.other _ he.tn.2.2.2.1).trans h3.blk, (m2.other _ he.tn.2.2.2.2).trans h3.map⟩
  | succ d ih =>
    intro f k σ es clock c he hc ht hk hcd hno
    have := deep_step hN (f + 7 * d + 7) k (d + 1) he hc ht hk (hno k (Nat.le_refl _) (by omega)) (fun τ1 he1 hc1 kx hx1 hx2 hx3 hkx nb τ0 h1 h2 h3 h4 => by
      obtain ⟨l1, l2, l3, l4, l5, l6⟩ := he1.lt
      have he0 : DEnv τ0 tx cb nx gx tb mb N := he1.to (by omega) (fun b hb _ hbm => h4 b hb hbm)
      have hc0 := (h4 cb l6 (fun e => he.tn.2.2.2.2 e.symm)).trans hc1
      have hk0 := (h4 kx hx1 hx3).trans hkx
      have hea : DEnv (({ τ0 with tch := τ0.n } : St).put cb (.blk [.int .i64 ((c + 1 : Nat) : Int)] 3 0 false)) tx cb nx gx tb mb N := he0.to (Nat.le_refl _) (fun b _ hb _ => get_put_ne hb)
      obtain ⟨τ2, L, clock', hr, hd, htc⟩ := ih f (k + 1) (σ := ({ τ0 with tch := τ0.n } : St).put cb (.blk [.int .i64 ((c + 1 : Nat) : Int)] 3 0 false)) (es := es ++ [(key k, nb, clock)]) (clock := clock + 1) (c := c + 1) hea (get_put_at _ _ _)
        ⟨(get_put_ne he.tn.2.2.2.1).trans h3.blk, (get_put_ne he.tn.2.2.2.2).trans h3.map⟩ (by omega) (by omega) (fun j hj1 hj2 => by
          rw [cellOf_append, hno j (by omega) hj2]
          simp only [Option.none_or, cellOf]
          rw [if_neg (fun e => by have := key_inj (by omega) (by omega) e; omega)])
      obtain ⟨τ', m1, m2, m3⟩ := maker17_more (f + 7 * d + 8) (v := d + 1) he0 hc0 hk0 hx2 (by omega) hN (by omega) (by omega) hr (by omega)
      have hdn : τ0.n ≤ τ2.n := hd.n
      refine ⟨τ', m1, by omega, fun b hb1 hb2 => ?_, L, clock', ⟨by omega, fun b hb hb1 hb2 => ?_, (m3 _).trans (hd.calls.trans (by rw [show c + 1 + (d + 1) = c + 1 + (d + 1) from rfl])), ⟨(m3 _).trans hd.tab.blk, (m3 _).trans hd.tab.map⟩, hd.len, fun j hj1 hj2 => ?_⟩, by omega, fun j hj1 hj2 hx => ?_⟩
      · rw [m3, hd.get b hb2 (by omega) (by omega)]; exact get_put_ne (by omega)
      · rw [m3, hd.get b (by show b < τ0.n; omega) hb1 hb2]; exact (get_put_ne hb1).trans (h4 b hb hb2)
      · obtain ⟨x, x1, x2, x3, x4⟩ := hd.cell j hj1 hj2
        exact ⟨x, x1, by omega, by have : τ0.n ≤ x := x3; omega, x4.to (m3 x)⟩
      · obtain ⟨x, x1, x2, x3, x4⟩ := hd.cell j hj1 hj2
        have : τ0.n ≤ x := x3
        rw [x1] at hx; cases hx; omega)
    rw [show f + 7 * (d + 1) + 8 = f + 7 * d + 7 + 8 from by omega]
    exact this
end Go.Proofs.Ytiephapklpfhfaa
