/-
  The run of the statement, whole. No condition.
-/
import Derived.Test.YtiephapklpfhfaaXG
namespace Go.Proofs.Ytiephapklpfhfaa
open Go SS
set_option maxRecDepth 100000
noncomputable def u6_0 (call : SS.Call) (k : Nat) : List V → St → Res := un10 (fun x99 x100 x101 x102 x103 x104 x105 x106 x107 x108 x109 => (ld1 env x105 2 x109 (fun x110 => (i64K x110 (fun x111 => (quoI 9223372036854775807 IntKind.i64 x111 (Int.ofNat 2) (fun x112 => (ld1 env x107 0 x109 (fun x113 => (oK (lookupV env 40 x101 x113 false x109) (fun x114 => (i64K x114 (fun x115 => (addI 9223372036854775807 IntKind.i64 x112 x115 (fun x116 => (some (AEx.norm, ([x99, x100, x101, x102, x103, x104, x106, x108, (V.int IntKind.i64 x116)], x109))))))))))))))))))
noncomputable def u6_1 (call : SS.Call) (k : Nat) : List V → St → Res := un9 (fun x117 x118 x119 x120 x121 x122 x123 x124 x125 x126 => (ld1 env x123 0 x126 (fun x127 => (oK (mapUpdateV env 40 x119 x127 x125 x126) (fun x128 => (some (AEx.norm, ([x117, x118, x119, x120, x121, x122, x123, x124], x128))))))))
noncomputable def u6_2 (call : SS.Call) (k : Nat) : List V → St → Res := un7 (fun x155 x156 x157 x158 x159 x160 x161 x162 => (i64K x161 (fun x163 => (iteR (ltI x163 (Int.ofNat 6)) (i64K x161 (fun x164 => (addI 9223372036854775807 IntKind.i64 (Int.ofNat 97) x164 (fun x165 => (cvI 255 IntKind.u8 x165 (fun x166 => (pK (buildSliceV env 35 1 [(0, (V.int IntKind.u8 x166))] x162) (fun x167 x168 => (oK (convertV env 35 9 x167 x168) (fun x169 => (oK (lookupV env 40 x157 x169 true x168) (fun x170 => (tuK x170 0 (fun x171 => (tuK x170 1 (fun x172 => (ld1 env x156 0 x168 (fun x173 => (pK (call 23 [x173, x169] x168) (fun x174 x175 => (boK x174 (fun x176 => (boK x172 (fun x177 => (iteR (ntB (eqB x176 x177)) (some (AEx.ret, ([(V.bool false)], x175))) (i64K x161 (fun x178 => (addI 9223372036854775807 IntKind.i64 x178 (Int.ofNat 1) (fun x179 => (some (AEx.norm, ([x155, x156, x157, x158, x159, x160, (V.int IntKind.i64 x179)], x175)))))))))))))))))))))))))))))))) (some ((AEx.exit 2), ([x155, x156, x157, x158, x159, x160], x162)))))))
noncomputable def u6_3 (call : SS.Call) (k : Nat) : List V → St → Res := un6 (fun x180 x181 x182 x183 x184 x185 x186 => (some (AEx.norm, ([x180, x181, x182, x183, x184, x185], x186))))
noncomputable def u6_4 (call : SS.Call) (k : Nat) : List V → St → Res := un8 (fun x129 x130 x131 x132 x133 x134 x135 x136 x137 => (ld1 env x135 0 x137 (fun x138 => (oK (lookupV env 40 x131 x138 false x137) (fun x139 => (i64K x136 (fun x140 => (i64K x139 (fun x141 => (orK (ntB (eqI x140 x141)) x137 (ld1 env x132 0 x137 (fun x142 => (i64K x142 (fun x143 => (i64K x133 (fun x144 => (some ((ntB (eqI x143 x144)), x137)))))))) (fun x145 x146 => (orK x145 x146 (ld1 env x130 0 x146 (fun x147 => (pK (call 18 [x147] x146) (fun x148 x149 => (oK (lenAt env 40 x131 x149) (fun x150 => (i64K x148 (fun x151 => (i64K x150 (fun x152 => (some ((ntB (eqI x151 x152)), x149)))))))))))) (fun x153 x154 => (iteR x153 (some (AEx.ret, ([(V.bool false)], x154))) (blkR 2 (loopV (u6_2 call k) k [x129, x130, x131, x132, x133, x134, (V.int IntKind.i64 (Int.ofNat 0))] x154) (u6_3 call k))))))))))))))))
noncomputable def u6_5 (call : SS.Call) (k : Nat) : List V → St → Res := un6 (fun x187 x188 x189 x190 x191 x192 x193 => (i64K x192 (fun x194 => (addI 9223372036854775807 IntKind.i64 x194 (Int.ofNat 1) (fun x195 => (some (AEx.norm, ([x187, x188, x189, x190, x191, (V.int IntKind.i64 x195)], x193))))))))
noncomputable def u6_6 (call : SS.Call) (k : Nat) : List V → St → Res := un6 (fun x20 x21 x22 x23 x24 x25 x26 => (lnK x20 (fun x27 => (i64K x25 (fun x28 => (andK (ltI x28 x27) x26 (i64K x25 (fun x29 => (some ((ltI x29 (Int.ofNat 50)), x26)))) (fun x30 x31 => (iteR x30 (blkR 1 (aiK x25 (fun x32 => (ldEN 4 4 x20 x32 0 x31 (fun x33 => (St.newK x31 (AO.blk [(V.int IntKind.i64 (Int.ofNat 0)), (V.int IntKind.i64 (Int.ofNat 0)), (V.int IntKind.i64 (Int.ofNat 0)), (V.int IntKind.i64 (Int.ofNat 0))] 42 0 false) (fun x34 x35 => (oK (storeAt env 42 (V.ptr x34 0 0) x33 x35) (fun x36 => (ld1 env (V.ptr x34 0 0) 1 x36 (fun x37 => (pK (call 11 [x37, (V.int IntKind.i64 (Int.ofNat 6))] x36) (fun x38 x39 => (i64K x38 (fun x40 => (addI 9223372036854775807 IntKind.i64 (Int.ofNat 97) x40 (fun x41 => (cvI 255 IntKind.u8 x41 (fun x42 => (pK (buildSliceV env 35 1 [(0, (V.int IntKind.u8 x42))] x39) (fun x43 x44 => (oK (convertV env 35 9 x43 x44) (fun x45 => (St.newK x44 (AO.blk [(V.str [])] 9 0 false) (fun x46 x47 => (st1 (V.ptr x46 0 0) 0 x45 x47 (fun x48 => (ld1 env (V.ptr x34 0 0) 0 x48 (fun x49 => (pK (call 11 [x49, (V.int IntKind.i64 (Int.ofNat 7))] x48) (fun x50 x51 => (i64K x50 (fun x52 => (iteR (eqI x52 (Int.ofNat 6)) (ld1 env x21 0 x51 (fun x53 => (ld1 env (V.ptr x46 0 0) 0 x51 (fun x54 => (pK (call 22 [x53, x54] x51) (fun x55 x56 => (ld1 env (V.ptr x46 0 0) 0 x56 (fun x57 => (pK (builtinV env Builtin.delete [40, 9] [x22, x57] x56) (fun x58 x59 => (some ((AEx.exit 1), ([x20, x21, x22, x23, x24, x25], x59))))))))))))) (ld1 env (V.ptr x34 0 0) 3 x51 (fun x60 => (pK (call 11 [x60, (V.int IntKind.i64 (Int.ofNat 6))] x51) (fun x61 x62 => (i64K x61 (fun x63 => (addI 9223372036854775807 IntKind.i64 (Int.ofNat 97) x63 (fun x64 => (cvI 255 IntKind.u8 x64 (fun x65 => (pK (buildSliceV env 35 1 [(0, (V.int IntKind.u8 x65))] x62) (fun x66 x67 => (oK (convertV env 35 9 x66 x67) (fun x68 => (St.newK x67 (AO.blk [(V.str [])] 9 0 false) (fun x69 x70 => (st1 (V.ptr x69 0 0) 0 x68 x70 (fun x71 => (ld1 env x21 0 x71 (fun x72 => (ld1 env (V.ptr x46 0 0) 0 x71 (fun x73 => (pK (call 16 [x72, x73, (V.fn 25 [x23, (V.ptr x69 0 0), (V.ptr x46 0 0), (V.ptr x34 0 0), x21])] x71) (fun x74 x75 => (bindR (ld1 env (V.ptr x46 0 0) 0 x75 (fun x76 => (oK (lookupV env 40 x22 x76 true x75) (fun x77 => (tuK x77 0 (fun x78 => (tuK x77 1 (fun x79 => (boK x79 (fun x80 => (iteR (ntB x80) (i64K x24 (fun x81 => (addI 9223372036854775807 IntKind.i64 x81 (Int.ofNat 1) (fun x82 => (ld1 env (V.ptr x34 0 0) 2 x75 (fun x83 => (bindR (ld1 env (V.ptr x69 0 0) 0 x75 (fun x84 => (ld1 env (V.ptr x46 0 0) 0 x75 (fun x85 => (stK x84 (fun x86 => (stK x85 (fun x87 => (iteR (ntB (eqS x86 x87)) (bindR (ld1 env (V.ptr x69 0 0) 0 x75 (fun x88 => (oK (lookupV env 40 x22 x88 true x75) (fun x89 => (tuK x89 0 (fun x90 => (tuK x89 1 (fun x91 => (boK x91 (fun x92 => (iteR (ntB x92) (addI 9223372036854775807 IntKind.i64 x82 (Int.ofNat 1) (fun x93 => (ld1 env (V.ptr x69 0 0) 0 x75 (fun x94 => (ld1 env (V.ptr x34 0 0) 3 x75 (fun x95 => (i64K x95 (fun x96 => (quoI 9223372036854775807 IntKind.i64 x96 (Int.ofNat 3) (fun x97 => (oK (mapUpdateV env 40 x22 x94 (V.int IntKind.i64 x97) x75) (fun x98 => (some (AEx.norm, ([x20, x21, x22, x23, (V.int IntKind.i64 x93), x25, (V.ptr x34 0 0), (V.ptr x46 0 0), (V.ptr x69 0 0), x74], x98))))))))))))))) (some (AEx.norm, ([x20, x21, x22, x23, (V.int IntKind.i64 x82), x25, (V.ptr x34 0 0), (V.ptr x46 0 0), (V.ptr x69 0 0), x74], x75)))))))))))))) (u6_0 call k)) (some (AEx.norm, ([x20, x21, x22, x23, (V.int IntKind.i64 x82), x25, (V.ptr x46 0 0), x74, x83], x75)))))))))))) (u6_1 call k)))))))) (some (AEx.norm, ([x20, x21, x22, x23, x24, x25, (V.ptr x46 0 0), x74], x75)))))))))))))) (u6_4 call k))))))))))))))))))))))))))))))))))))))))))))))))))))))))))) (u6_5 call k)) (some ((AEx.exit 0), ([], x31)))))))))))
noncomputable def u6_7 (call : SS.Call) (k : Nat) : List V → St → Res := un0 (fun x196 => (some (AEx.ret, ([(V.bool true)], x196))))
noncomputable def u6 (call : SS.Call) (k : Nat) : List V → St → Option (V × St) := un1 fun a0 s => (finT (pK (call 8 [] s) (fun x0 x1 => (boK x0 (fun x2 => (iteR (ntB x2) (some (AEx.ret, ([(V.bool false)], x1))) (pK (call 14 [] x1) (fun x3 x4 => (St.newK x4 (AO.blk [V.ptr0] 31 0 false) (fun x5 x6 => (onK x3 (st1 (V.ptr x5 0 0) 0 x3 x6 (fun x7 => (pK (call 8 [] x7) (fun x8 x9 => (boK x8 (fun x10 => (orK (ntB x10) x9 (ld1 env (V.ptr x5 0 0) 0 x9 (fun x11 => (ptK x11 (fun x12 => (some (x12, x9)))))) (fun x13 x14 => (iteR x13 (some (AEx.ret, ([(V.bool false)], x14))) (St.newK x14 (AO.map [] 0) (fun x15 x16 => (St.newK x16 (AO.blk [(V.int IntKind.i64 (Int.ofNat 0))] 3 0 false) (fun x17 x18 => (st1 (V.ptr x17 0 0) 0 (V.int IntKind.i64 (Int.ofNat 0)) x18 (fun x19 => (blkR 0 (loopV (u6_6 call k) k [a0, (V.ptr x5 0 0), (V.map x15), (V.ptr x17 0 0), (V.int IntKind.i64 (Int.ofNat 0)), (V.int IntKind.i64 (Int.ofNat 0))] x19) (u6_7 call k))))))))))))))))))))))))))))
theorem u6_ok (call : SS.Call) (k : Nat) : u6 call k = unL 1 (kFun env call pu k Try.f6 (bodyOf Try.f6) (.seq (.reg [.one]) (.seq (.seq (.reg [.one, .one]) (.cond (.seq (.reg [.one]) .ret) .skip)) (.seq (.reg [.one, .one, .one]) (.seq (.seq (.reg [.one, .one, .one, .grp 2 [.one, .one]]) (.cond (.seq (.reg [.one]) .ret) .skip)) (.seq (.reg [.one, .one]) (.seq (.reg [.one, .one]) (.seq (.reg [.one]) (.seq (.seq (.reg [.one]) (.bblk (.loop [0, 3, 4, 5, 6, 7] (.seq (.seq (.reg [.one, .one, .one, .one, .one, .grp 2 [.one, .one]]) (.cond .skip .exit)) (.seq (.bblk (.seq (.reg [.one, .one, .adr 1, .one, .one]) (.seq (.reg [.adr 1, .one, .one, .one, .one, .one, .one, .one]) (.seq (.seq (.reg [.adr 1, .one, .one]) (.cond (.seq (.reg [.one, .one, .one]) (.seq (.reg [.one, .one, .one]) .exit)) .skip)) (.seq (.reg [.adr 1, .one, .one, .one, .one, .one, .one, .one]) (.seq (.reg [.one, .one, .one, .one, .one]) (.bind [0, 3, 4, 5, 6, 7, 9, 11] (.seq (.reg [.one, .one, .one, .one, .one, .one, .one, .one]) (.seq (.reg [.one, .one]) (.cond (.seq (.reg [.one, .one, .one]) (.seq (.reg [.adr 1, .one]) (.bind [0, 3, 4, 5, 6, 7, 9, 11, 14] (.seq (.reg [.one, .one, .one]) (.cond (.bind [0, 3, 4, 5, 6, 7, 8, 9, 10, 11] (.seq (.reg [.one, .one, .one, .one, .one, .one, .one, .one]) (.seq (.reg [.one, .one]) (.cond (.seq (.reg [.one, .one, .one]) (.reg [.one, .one, .adr 1, .one, .one])) .skip))) (.reg [.adr 1, .one, .one, .one, .one, .one, .one])) .skip)) (.reg [.one, .one, .one, .one])))) .skip))) (.seq (.seq (.reg [.one, .one, .one, .one, .one, .one, .grp 3 [.one, .one, .one], .one, .grp 5 [.one, .one, .one, .one, .one]]) (.cond (.seq (.reg [.one]) .ret) .skip)) (.seq (.reg [.one]) (.bblk (.loop [0, 3, 4, 5, 6, 7, 17] (.seq (.seq (.reg [.one, .one]) (.cond .skip .exit)) (.seq (.blk (.seq (.reg [.one, .one, .one, .one, .one, .one]) (.seq (.reg [.one, .one, .one, .one, .one, .one, .one, .one]) (.seq (.reg [.one, .one, .one, .one, .one]) (.cond (.seq (.reg [.one]) .ret) .skip))))) (.reg [.one, .one, .one])))))))))))))) (.reg [.one, .one, .one])))))) (.seq (.reg [.one]) .ret))))))))) [(0, []), (1, [0, 3, 4, 5, 6, 7]), (2, [0, 3, 4, 5, 6, 7])]) := by kernel_rfl
end Go.Proofs.Ytiephapklpfhfaa

namespace Go.Proofs.Ytiephapklpfhfaa
open Go SS

/-- Between the rounds. -/
structure TInv (σ : St) (tx cb tb mb wb : Nat) (es : Ents) (clock : Nat) (W : Wants) (wc c : Nat) : Prop where
  t : σ.get tx = some (.blk [.ptr tb 0 0] 31 0 false)
  calls : σ.get cb = some (.blk [.int .i64 (c : Int)] 3 0 false)
  tab : Tab σ tb mb es clock
  want : σ.get wb = some (.map (W.map wantV) wc)
  rel : Rel σ es W
  lt : tx < σ.n ∧ cb < σ.n ∧ tb < σ.n ∧ mb < σ.n ∧ wb < σ.n
  ne : mb ≠ wb

theorem TInv.to {σ σ' : St} {tx cb tb mb wb clock wc c : Nat} {es : Ents} {W : Wants} (h : TInv σ tx cb tb mb wb es clock W wc c) (k : Keeps σ σ') : TInv σ' tx cb tb mb wb es clock W wc c := by
  obtain ⟨l1, l2, l3, l4, l5⟩ := h.lt
  have hn := k.n
  exact ⟨(k.get _ l1).trans h.t, (k.get _ l2).trans h.calls, ⟨(k.get _ l3).trans h.tab.blk, (k.get _ l4).trans h.tab.map⟩, (k.get _ l5).trans h.want, h.rel.to hn (fun x _ hx _ => k.get x hx), by omega, h.ne⟩

theorem TInv.cells {σ : St} {tx cb tb mb wb clock wc c : Nat} {es : Ents} {W : Wants} (h : TInv σ tx cb tb mb wb es clock W wc c) (k : List UInt8) : ∀ i x b, look k es 0 = some (i, x, b) → x < σ.n ∧ ∃ v, MadeCell σ x v := by
  intro i x b hl
  have h1 := cell_of_look hl
  cases hw : wantOf k W with
  | none => rw [(h.rel.no k).2 hw] at h1; cases h1
  | some v =>
    obtain ⟨y, y1, y2, y3⟩ := h.rel.val k v hw
    rw [h1] at y1; cases y1
    exact ⟨y2, v, y3⟩

set_option maxRecDepth 100000 in
theorem made_round (f k : Nat) {σ : St} {tx cb tb mb wb clock wc c : Nat} {es : Ents} {W : Wants} (h : TInv σ tx cb tb mb wb es clock W wc c) {a0 du ii : V} {j : Nat} (hj : j < 6) :
    ∃ σ', u6_2 (aCall env (f + 5)) k [a0, .ptr tx 0 0, .map wb, .ptr cb 0 0, du, ii, .int .i64 (j : Int)] σ = some (.norm, [a0, .ptr tx 0 0, .map wb, .ptr cb 0 0, du, ii, .int .i64 ((j + 1 : Nat) : Int)], σ') ∧ Keeps σ σ' := by
  obtain ⟨σ', e1, hs⟩ := tmade_call f h.tab h.lt.2.2.1 (key j) (h.cells (key j))
  rw [h.rel.is (key j)] at e1
  refine ⟨σ', ?_, hs.keeps⟩
  unfold u6_2
  simp only [x_lit, x_un7]
  have l1 : ltI (j : Int) 6 = true := by rw [ltI_eq]; simpa using by omega
  rw [x_i64K, l1, x_iteR, if_pos rfl, x_i64K, x_addI _ (by omega) (by omega), x_cv8 _ (by omega) (by omega), key_slice, x_pK, show (97 + (j : Int)) = ((97 + j : Nat) : Int) from by omega, key_conv, x_oK]
  have lk := lookup40 h.want (key j)
  unfold key at lk e1
  rw [lk, x_oK, x_tuK, x_tuK]
  simp only [List.getElem?_cons_zero, List.getElem?_cons_succ, x_oK]
  rw [x_ldbox h.t rfl, e1, x_pK, x_boK, x_boK, eqB_eq, beq_self_eq_true, x_ntB, x_iteR, if_neg (by decide), x_i64K, x_addI _ (by omega) (by omega)]
  rfl

set_option maxRecDepth 100000 in
theorem checks (f k : Nat) (hk : 6 < k) {σ : St} {tx cb tb mb wb clock wc c kx : Nat} {es : Ents} {W : Wants} (h : TInv σ tx cb tb mb wb es clock W wc c) {a0 ii : V} {key : List UInt8} {got : Int} (hkx : σ.get kx = some (.blk [.str key] 9 0 false)) (hw : wantOf key W = some got) :
    ∃ σ', u6_4 (aCall env (f + 5)) k [a0, .ptr tx 0 0, .map wb, .ptr cb 0 0, .int .i64 (c : Int), ii, .ptr kx 0 0, .int .i64 got] σ = some (.norm, [a0, .ptr tx 0 0, .map wb, .ptr cb 0 0, .int .i64 (c : Int), ii], σ') ∧ Keeps σ σ' := by
  obtain ⟨σ1, e1, hs⟩ := count_call (f + 1) h.tab h.lt.2.2.1
  have h1 := h.to hs.keeps
  obtain ⟨vs', σ', k', ⟨rfl, h2⟩, e2⟩ := loop_inv (P := u6_2 (aCall env (f + 5)) k) (Inv := fun j vs τ => vs = [a0, .ptr tx 0 0, .map wb, .ptr cb 0 0, .int .i64 (c : Int), ii, .int .i64 (j : Int)] ∧ Keeps σ1 τ) (n := 6)
    (fun j vs τ hj ⟨hvs, hkk⟩ => by
      subst hvs
      obtain ⟨τ', q1, q2⟩ := made_round f k (h1.to hkk) (a0 := a0) (du := .int .i64 (c : Int)) (ii := ii) hj
      exact ⟨_, τ', q1, rfl, hkk.trans q2⟩) 6 0 k _ σ1 (by omega) hk ⟨rfl, keeps_refl _⟩
  have e3 : u6_2 (aCall env (f + 5)) k [a0, .ptr tx 0 0, .map wb, .ptr cb 0 0, .int .i64 (c : Int), ii, .int .i64 ((6 : Nat) : Int)] σ' = some (.exit 2, [a0, .ptr tx 0 0, .map wb, .ptr cb 0 0, .int .i64 (c : Int), ii], σ') := rfl
  rw [e3, x_bindE] at e2
  refine ⟨σ', ?_, hs.keeps.trans h2⟩
  unfold u6_4
  simp only [x_un8]
  rw [x_ldbox hkx rfl, lookup40f h.want, x_oK, hw]
  simp only [Option.getD_some, x_i64K, eqI_eq, beq_self_eq_true, x_ntB, Bool.not_true, x_orF]
  rw [x_ldbox h.calls rfl]
  simp only [x_i64K, beq_self_eq_true, Bool.not_true, x_pK, x_orF]
  rw [x_ldbox h.t rfl, e1, x_pK, len40 h1.want, x_oK]
  simp only [x_i64K, h.rel.len, beq_self_eq_true, Bool.not_true, x_pK, x_iteR, Bool.false_eq_true, if_false, x_lit]
  erw [e2]
  rfl
end Go.Proofs.Ytiephapklpfhfaa

namespace Go.Proofs.Ytiephapklpfhfaa
open Go SS

theorem x_un9 {R : Type} (f : V → V → V → V → V → V → V → V → V → St → Option R) (a b c d e g h i j : V) (σ : St) : un9 f [a, b, c, d, e, g, h, i, j] σ = f a b c d e g h i j σ := rfl
theorem x_un10 {R : Type} (f : V → V → V → V → V → V → V → V → V → V → St → Option R) (a b c d e g h i j l : V) (σ : St) : un10 f [a, b, c, d, e, g, h, i, j, l] σ = f a b c d e g h i j l σ := rfl
abbrev AskT := Int × Int × Int × Int
def askV (a : AskT) : V := .agg [.int .i64 a.1, .int .i64 a.2.1, .int .i64 a.2.2.1, .int .i64 a.2.2.2]
def AsksV (v : V) (xs : List AskT) : Prop := (v = .nilS ∧ xs = []) ∨ ∃ f, v = .lst (xs.map askV) f

theorem asks_len {v : V} {xs : List AskT} (h : AsksV v xs) {R : Type} (K : Int → Option R) : lnK v K = K (xs.length : Int) := by
  rcases h with ⟨rfl, rfl⟩ | ⟨f, rfl⟩
  · exact x_lnK_nil K
  · rw [x_lnK_lst]; simp
theorem asks_get {v : V} {xs : List AskT} (h : AsksV v xs) {i : Nat} (hi : i < xs.length) {R : Type} (σ : St) (K : V → Option R) : ldEN 4 4 v (i : Int) 0 σ K = K (askV xs[i]) := by
  rcases h with ⟨rfl, rfl⟩ | ⟨f, rfl⟩
  · simp at hi
  · exact x_ldEN_lst (x := askV xs[i]) (by simp [hi]) rfl rfl K

theorem store42 {σ : St} {b : Nat} {z : List V} (hb : σ.get b = some (.blk z 42 0 false)) (hz : z.length = 4) (a : AskT) : storeAt env 42 (.ptr b 0 0) (askV a) σ = some (σ.put b (.blk (askV a).cells 42 0 false)) := by
  have h0 : (match env.P.info? 42 with | some i => Nat.beq i.size 4 | none => false) = true := by kernel_rfl
  cases hi : env.P.info? 42 with
  | none => rw [hi] at h0; cases h0
  | some i =>
    rw [hi] at h0
    have hs : i.size = 4 := Nat.eq_of_beq_eq_true h0
    obtain ⟨z0, z1, z2, z3, rfl⟩ : ∃ z0 z1 z2 z3, z = [z0, z1, z2, z3] := by
      rcases z with _ | ⟨z0, _ | ⟨z1, _ | ⟨z2, _ | ⟨z3, _ | ⟨z4, z⟩⟩⟩⟩⟩ <;> simp at hz
      exact ⟨_, _, _, _, rfl⟩
    simp [storeAt, hi, hb, hs, askV, V.cells, setRow, V.one]

theorem key_run (p : Nat) (hp : p < 6) (σ : St) (K : V → St → Res) : (addI 9223372036854775807 .i64 97 (p : Int) fun x41 => cvI 255 .u8 x41 fun x42 => pK (buildSliceV env 35 1 [(0, .int .u8 x42)] σ) fun x43 x44 => oK (convertV env 35 9 x43 x44) fun x45 => K x45 x44) = K (.str (key p)) σ := by
  rw [x_addI _ (by omega) (by omega), x_cv8 _ (by omega) (by omega), key_slice, x_pK, show (97 + (p : Int)) = ((97 + p : Nat) : Int) from by omega, key_conv, x_oK]
  rfl

theorem pre_want {σ : St} {tx cb tb mb wb clock wc wc' c : Nat} {es : Ents} {W' : Wants} (h1 : σ.get tx = some (.blk [.ptr tb 0 0] 31 0 false)) (h2 : σ.get cb = some (.blk [.int .i64 (c : Int)] 3 0 false)) (h3 : Tab σ tb mb es clock) {W : Wants} (h4 : σ.get wb = some (.map (W.map wantV) wc)) (h5 : Rel σ es W') (lt : tx < σ.n ∧ cb < σ.n ∧ tb < σ.n ∧ mb < σ.n ∧ wb < σ.n) (ne : mb ≠ wb) :
    TInv (σ.put wb (.map (W'.map wantV) wc')) tx cb tb mb wb es clock W' wc' c :=
  ⟨(get_put_ne (map_ne h1 h4)).trans h1, (get_put_ne (map_ne h2 h4)).trans h2, ⟨(get_put_ne (map_ne h3.blk h4)).trans h3.blk, (get_put_ne ne).trans h3.map⟩, get_put_at _ _ _, h5.to (Nat.le_refl _) (fun x cs _ hx => get_put_ne (map_ne hx h4)), lt, ne⟩

set_option maxRecDepth 100000 in
set_option maxHeartbeats 2000000 in
theorem ask_round (f : Nat) {σ : St} {tx cb tb mb wb clock wc c : Nat} {es : Ents} {W : Wants} (h : TInv σ tx cb tb mb wb es clock W wc c) {a0 : V} {xs : List AskT} (ha : AsksV a0 xs) {i : Nat} (hi : i < xs.length) (hi2 : i < 50) (hc : c ≤ 2 * i) :
    ∃ (σ' : St) (es' : Ents) (clock' : Nat) (W' : Wants) (wc' c' : Nat), u6_6 (aCall env (f + 20)) (f + 20) [a0, .ptr tx 0 0, .map wb, .ptr cb 0 0, .int .i64 (c : Int), .int .i64 (i : Int)] σ = some (.norm, [a0, .ptr tx 0 0, .map wb, .ptr cb 0 0, .int .i64 (c' : Int), .int .i64 ((i + 1 : Nat) : Int)], σ') ∧ TInv σ' tx cb tb mb wb es' clock' W' wc' c' ∧ c' ≤ 2 * (i + 1) := by
  obtain ⟨⟨wh, ky, va, ot⟩, hx⟩ : ∃ a : AskT, xs[i] = a := ⟨_, rfl⟩
  -- the ask's own box
  have b1 := get_new_at σ (.blk [.int .i64 0, .int .i64 0, .int .i64 0, .int .i64 0] 42 0 false)
  have k1 := keeps_new σ (.blk [.int .i64 0, .int .i64 0, .int .i64 0, .int .i64 0] 42 0 false)
  have n1 : (σ.new (.blk [.int .i64 0, .int .i64 0, .int .i64 0, .int .i64 0] 42 0 false)).n = σ.n + 1 := rfl
  generalize hσ1 : σ.new (.blk [.int .i64 0, .int .i64 0, .int .i64 0, .int .i64 0] 42 0 false) = σ1 at b1 k1 n1
  generalize hxx : σ.n = xx at b1 n1
  have st := store42 b1 rfl (wh, ky, va, ot)
  have b2 : (σ1.put xx (.blk (askV (wh, ky, va, ot)).cells 42 0 false)).get xx = some (.blk [.int .i64 wh, .int .i64 ky, .int .i64 va, .int .i64 ot] 42 0 false) := get_put_at _ _ _
  have k2 := keeps_put k1 (Nat.le_of_eq hxx) (.blk (askV (wh, ky, va, ot)).cells 42 0 false)
  have n2 : (σ1.put xx (.blk (askV (wh, ky, va, ot)).cells 42 0 false)).n = σ1.n := rfl
  generalize hσ2 : σ1.put xx (.blk (askV (wh, ky, va, ot)).cells 42 0 false) = σ2 at st b2 k2 n2
  obtain ⟨p, hp, c11⟩ := pick_nat (f + 19) ky 6 σ2 (by omega) (by omega)
  -- the key's box
  have b3 := get_new_at σ2 (.blk [.str []] 9 0 false)
  have k3 := keeps_new σ2 (.blk [.str []] 9 0 false)
  have n3 : (σ2.new (.blk [.str []] 9 0 false)).n = σ2.n + 1 := rfl
  generalize hσ3 : σ2.new (.blk [.str []] 9 0 false) = σ3 at b3 k3 n3
  generalize hkx : σ2.n = kx at b3 n3
  have b4 := get_put_at σ3 kx (.blk [.str (key p)] 9 0 false)
  have k4 := keeps_put k3 (Nat.le_of_eq hkx) (.blk [.str (key p)] 9 0 false)
  have n4 : (σ3.put kx (.blk [.str (key p)] 9 0 false)).n = σ3.n := rfl
  generalize hσ4 : σ3.put kx (.blk [.str (key p)] 9 0 false) = σ4 at b4 k4 n4
  have h4 := h.to (k2.trans k4)
  have x4 : σ4.get xx = some (.blk [.int .i64 wh, .int .i64 ky, .int .i64 va, .int .i64 ot] 42 0 false) := (k4.get xx (by omega)).trans b2
  obtain ⟨r, hr, c12⟩ := pick_nat (f + 19) wh 7 σ4 (by omega) (by omega)
  have l1 : ltI (i : Int) (xs.length : Int) = true := by rw [ltI_eq]; simpa using hi
  have l2 : ltI (i : Int) 50 = true := by rw [ltI_eq]; simpa using by omega
  have front : u6_6 (aCall env (f + 20)) (f + 20) [a0, .ptr tx 0 0, .map wb, .ptr cb 0 0, .int .i64 (c : Int), .int .i64 (i : Int)] σ = u6_6 (aCall env (f + 20)) (f + 20) [a0, .ptr tx 0 0, .map wb, .ptr cb 0 0, .int .i64 (c : Int), .int .i64 (i : Int)] σ := rfl
  unfold u6_6 at front ⊢
  simp only [x_lit, x_un6] at front ⊢
  have hlt := h.lt
  rw [asks_len ha, x_i64K, l1, x_andT, x_i64K, l2, x_pK, x_iteR, if_pos rfl, x_aiK, asks_get ha hi, hx, x_new, hσ1, hxx, st, x_oK, x_ld1 (o := 0) (off := 1) b2 rfl rfl, show (6 : Int) = ((6 : Nat) : Int) from rfl, c11, x_pK, x_i64K, key_run p hp, x_new, hσ3, hkx, x_stbox b3, hσ4, x_ld1 (o := 0) (off := 0) x4 rfl rfl, show (7 : Int) = ((7 : Nat) : Int) from rfl, c12, x_pK, x_i64K, x_iteR]
  by_cases hr6 : r = 6
  · -- a key goes
    subst hr6
    obtain ⟨σ5, c22, ht⟩ := drop_call (f + 16) h4.tab h4.lt.2.2.1 (key p)
    have hng : ∀ b, b ≠ mb → σ5.get b = σ4.get b := ht.get
    have hmk : ∀ x cs t v fz, σ4.get x = some (.blk cs t v fz) → x ≠ mb := fun x cs t v fz hx => map_ne hx h4.tab.map
    have hw5 : σ5.get wb = some (.map (W.map wantV) wc) := (hng wb (fun e => h.ne e.symm)).trans h4.want
    have dl := delete40 hw5 (key p)
    rw [wgone_filter _ _ h4.rel.nd] at dl
    have htab := ht.tab
    rw [gone_filter _ _ h4.rel.ndE] at htab
    have hn5 : σ5.n = σ4.n := ht.n
    have hrel : Rel σ5 (es.filter fun e => decide (e.1 ≠ key p)) (W.filter fun e => decide (e.1 ≠ key p)) := (h4.rel.drop (key p)).to (by omega) (fun x cs _ hx => hng x (hmk _ _ _ _ _ hx))
    have hk5 : σ5.get kx = some (.blk [.str (key p)] 9 0 false) := (hng kx (hmk _ _ _ _ _ b4)).trans b4
    have h6 := pre_want (wc' := wc) ((hng tx (hmk _ _ _ _ _ h4.t)).trans h4.t) ((hng cb (hmk _ _ _ _ _ h4.calls)).trans h4.calls) htab hw5 hrel (by have := h4.lt; omega) h.ne
    refine ⟨_, _, clock, _, wc, c, ?_, h6, by omega⟩
    have e6 : eqI ((6 : Nat) : Int) ((6 : Nat) : Int) = true := rfl
    rw [e6, if_pos rfl, x_ldbox h4.t rfl, x_ldbox b4 rfl, c22, x_pK, x_ldbox hk5 rfl, dl, x_pK, x_blkE]
    unfold u6_5
    rw [x_un6, x_i64K, x_lit, x_addI _ (by omega) (by omega)]
    rfl
  · -- a value is asked for
    have e6 : eqI (r : Int) ((6 : Nat) : Int) = false := by rw [eqI_eq]; simpa using by omega
    obtain ⟨q, hq, c13⟩ := pick_nat (f + 19) ot 6 σ4 (by omega) (by omega)
    have b5 := get_new_at σ4 (.blk [.str []] 9 0 false)
    have k5 := keeps_new σ4 (.blk [.str []] 9 0 false)
    have n5 : (σ4.new (.blk [.str []] 9 0 false)).n = σ4.n + 1 := rfl
    generalize hσ5 : σ4.new (.blk [.str []] 9 0 false) = σ5 at b5 k5 n5
    generalize hox : σ4.n = ox at b5 n5
    have b6 := get_put_at σ5 ox (.blk [.str (key q)] 9 0 false)
    have k6 := keeps_put k5 (Nat.le_of_eq hox) (.blk [.str (key q)] 9 0 false)
    have n6 : (σ5.put ox (.blk [.str (key q)] 9 0 false)).n = σ5.n := rfl
    generalize hσ6 : σ5.put ox (.blk [.str (key q)] 9 0 false) = σ6 at b6 k6 n6
    have h6 := h4.to k6
    have x6 := (k6.get xx (by omega)).trans x4
    have y6 := (k6.get kx (by omega)).trans b4
    have ha6 : AskAt σ6 cb xx c wh ky va ot := ⟨h6.calls, x6, by have := h6.lt; omega⟩
    have hb6 : Boxes σ6 tx kx ox tb (key p) (key q) := ⟨h6.t, y6, b6, by have := h6.lt; omega⟩
    obtain ⟨σ7, es', clock', c', got, W', c16, hout, hA⟩ := ask_get f (wc := wc) h6.tab h6.rel ha6 hb6 (by have := h6.lt; omega) (by omega)
    have hg7 : ∀ x cs t v fz, σ6.get x = some (.blk cs t v fz) → x ≠ cb → x < σ6.n → σ7.get x = some (.blk cs t v fz) := fun x cs t v fz hx hne hl => (hA.get x hl hne (map_ne hx h6.tab.map)).trans hx
    have hcx : ∀ x cs t v fz, σ6.get x = some (.blk cs t v fz) → t ≠ 3 → x ≠ cb := fun x cs t v fz hx ht => ty_ne hx h6.calls ht
    have t7 := hg7 tx _ _ _ _ h6.t (hcx _ _ _ _ _ h6.t (by decide)) h6.lt.1
    have x7 := hg7 xx _ _ _ _ x6 (hcx _ _ _ _ _ x6 (by decide)) (by omega)
    have y7 := hg7 kx _ _ _ _ y6 (hcx _ _ _ _ _ y6 (by decide)) (by omega)
    have o7 := hg7 ox _ _ _ _ b6 (hcx _ _ _ _ _ b6 (by decide)) (by omega)
    have w7 : σ7.get wb = some (.map (W.map wantV) wc) := (hA.get wb h6.lt.2.2.2.2 (fun e => map_ne h6.calls h6.want e.symm) (fun e => h.ne e.symm)).trans h6.want
    have lt7 : tx < σ7.n ∧ cb < σ7.n ∧ tb < σ7.n ∧ mb < σ7.n ∧ wb < σ7.n := by have := h6.lt; have := hA.n; omega
    rw [e6, if_neg (by decide), x_ld1 (o := 0) (off := 3) x4 rfl rfl, c13, x_pK, x_i64K, key_run q hq, x_new, hσ5, hox, x_stbox b5, hσ6, x_ldbox h6.t rfl, x_ldbox y6 rfl, c16, x_pK, x_ldbox y7 rfl, lookup40 w7, x_oK, x_tuK, x_tuK]
    simp only [List.getElem?_cons_zero, List.getElem?_cons_succ, x_oK, x_boK, x_i64K]
    -- what is wanted, then
    have tail : ∀ (σ8 : St) (wc' : Nat), TInv σ8 tx cb tb mb wb es' clock' W' wc' c' → σ8.get kx = some (.blk [.str (key p)] 9 0 false) → wantOf (key p) W' = some got → ∃ σ', blkR 1 (u6_4 (aCall env (f + 20)) (f + 20) [a0, .ptr tx 0 0, .map wb, .ptr cb 0 0, .int .i64 (c' : Int), .int .i64 (i : Int), .ptr kx 0 0, .int .i64 got] σ8) (u6_5 (aCall env (f + 20)) (f + 20)) = some (.norm, [a0, .ptr tx 0 0, .map wb, .ptr cb 0 0, .int .i64 (c' : Int), .int .i64 ((i + 1 : Nat) : Int)], σ') ∧ TInv σ' tx cb tb mb wb es' clock' W' wc' c' := by
      intro σ8 wc' h8 hk8 hw8
      obtain ⟨σ9, e9, k9⟩ := checks (f + 15) (f + 20) (by omega) h8 (a0 := a0) (ii := .int .i64 (i : Int)) hk8 hw8
      refine ⟨σ9, ?_, h8.to k9⟩
      rw [e9, x_blk]
      unfold u6_5
      rw [x_un6, x_i64K, x_lit, x_addI _ (by omega) (by omega)]
      rfl
    have hkn : ∀ {a b : Nat}, a < 6 → b < 6 → key a = key b → a = b := fun ha hb e => key_inj (by omega) (by omega) e
    rcases hout with ⟨e1, rfl, rfl⟩ | ⟨e1, e2, rfl, rfl, rfl⟩ | ⟨e1, e2, ⟨w, e3, rfl⟩, rfl, rfl⟩ | ⟨e1, e2, e3, rfl, rfl, rfl⟩
    · obtain ⟨σ', q1, q2⟩ := tail σ7 wc ⟨t7, hA.calls, hA.tab, w7, hA.rel, lt7, h.ne⟩ y7 e1
      refine ⟨σ', es', clock', W', wc, c', ?_, q2, by omega⟩
      rw [e1]
      simp only [Option.isSome_some, x_ntB, Bool.not_true, x_iteR, Bool.false_eq_true, if_false, x_bind]
      exact q1
    · have up := update40 w7 e1 got
      have h8 := pre_want (wc' := wc + 1) t7 hA.calls hA.tab w7 hA.rel lt7 h.ne
      obtain ⟨σ', q1, q2⟩ := tail _ _ h8 ((get_put_ne (map_ne y7 w7)).trans y7) (by rw [wantOf_append, e1]; simp [wantOf])
      refine ⟨σ', es', clock', _, wc + 1, c + 1, ?_, q2, by omega⟩
      rw [e1]
      simp only [Option.isSome_none, x_ntB, Bool.not_false, x_iteR, if_true, Option.getD_none]
      rw [x_addI _ (by omega) (by omega), x_ld1 (o := 0) (off := 2) x7 rfl rfl, x_ldbox o7 rfl, x_ldbox y7 rfl, x_stK, x_stK, e2, eqS_eq, bytesEq_self]
      simp only [Bool.not_true, Bool.false_eq_true, if_false, x_bind]
      unfold u6_1
      rw [x_un9, x_ldbox y7 rfl]
      have up' : mapUpdateV env 40 (.map wb) (.str (key p)) (.int .i64 got) σ7 = _ := up
      erw [up', x_oK, x_bind]
      rw [show ((c : Int) + 1) = ((c + 1 : Nat) : Int) from by omega]
      exact q1
    · have up := update40 w7 e1 (IntKind.i64.wrap (halfZ va + w))
      have h8 := pre_want (wc' := wc + 1) t7 hA.calls hA.tab w7 hA.rel lt7 h.ne
      obtain ⟨σ', q1, q2⟩ := tail _ _ h8 ((get_put_ne (map_ne y7 w7)).trans y7) (by rw [wantOf_append, e1]; simp [wantOf])
      refine ⟨σ', es', clock', _, wc + 1, c + 1, ?_, q2, by omega⟩
      have hbb : bytesEq (key q) (key p) = false := by
        cases hh : bytesEq (key q) (key p) with
        | false => rfl
        | true => exact absurd ((bytesEq_iff _ _).1 hh) e2
      rw [e1]
      simp only [Option.isSome_none, x_ntB, Bool.not_false, x_iteR, if_true, Option.getD_none]
      rw [x_addI _ (by omega) (by omega), x_ld1 (o := 0) (off := 2) x7 rfl rfl, x_ldbox o7 rfl, x_ldbox y7 rfl, x_stK, x_stK, eqS_eq, hbb]
      simp only [Bool.not_false, if_true]
      rw [x_ldbox o7 rfl, lookup40 w7, x_oK, x_tuK, x_tuK, e3]
      simp only [List.getElem?_cons_zero, List.getElem?_cons_succ, x_oK, x_boK, Option.isSome_some, x_ntB, Bool.not_true, x_iteR, Bool.false_eq_true, if_false, x_bind]
      unfold u6_0
      rw [x_un10, x_ld1 (o := 0) (off := 2) x7 rfl rfl, x_i64K, x_lit, quo2, x_ldbox o7 rfl, lookup40f w7, x_oK, e3, x_i64K, x_addW]
      simp only [Option.getD_some, x_bind]
      unfold u6_1
      rw [x_un9, x_ldbox y7 rfl]
      erw [up, x_oK, x_bind]
      rw [show ((c : Int) + 1) = ((c + 1 : Nat) : Int) from by omega]
      exact q1
    · have up1 := update40 w7 e3 (thirdZ ot)
      have w8 := get_put_at σ7 wb (.map ((W ++ [(key q, thirdZ ot, wc)]).map wantV) (wc + 1))
      have hg8 : ∀ x, x ≠ wb → (σ7.put wb (.map ((W ++ [(key q, thirdZ ot, wc)]).map wantV) (wc + 1))).get x = σ7.get x := fun x hx => get_put_ne hx
      have n8 : (σ7.put wb (.map ((W ++ [(key q, thirdZ ot, wc)]).map wantV) (wc + 1))).n = σ7.n := rfl
      generalize hσ8 : σ7.put wb (.map ((W ++ [(key q, thirdZ ot, wc)]).map wantV) (wc + 1)) = σ8 at up1 w8 hg8 n8
      have x8 := (hg8 xx (map_ne x7 w7)).trans x7
      have y8 := (hg8 kx (map_ne y7 w7)).trans y7
      have o8 := (hg8 ox (map_ne o7 w7)).trans o7
      have e1' : wantOf (key p) (W ++ [(key q, thirdZ ot, wc)]) = none := by rw [wantOf_append, e1]; simp [wantOf, e2]
      have e3' : wantOf (key q) (W ++ [(key q, thirdZ ot, wc)]) = some (thirdZ ot) := by rw [wantOf_append, e3]; simp [wantOf]
      have up2 := update40 w8 e1' (IntKind.i64.wrap (halfZ va + thirdZ ot))
      have h9 := pre_want (wc' := wc + 1 + 1) ((hg8 tx (map_ne t7 w7)).trans t7) ((hg8 cb (map_ne hA.calls w7)).trans hA.calls) ⟨(hg8 tb (map_ne hA.tab.blk w7)).trans hA.tab.blk, (hg8 mb h.ne).trans hA.tab.map⟩ w8 (hA.rel.to (by omega) (fun x cs _ hx => hg8 x (map_ne hx w7))) (by omega) h.ne
      obtain ⟨σ', q1, q2⟩ := tail _ _ h9 ((get_put_ne (map_ne y8 w8)).trans y8) (by rw [wantOf_append, e1']; simp [wantOf])
      refine ⟨σ', es', clock', _, wc + 1 + 1, c + 2, ?_, q2, by omega⟩
      have hbb : bytesEq (key q) (key p) = false := by
        cases hh : bytesEq (key q) (key p) with
        | false => rfl
        | true => exact absurd ((bytesEq_iff _ _).1 hh) e2
      rw [e1]
      simp only [Option.isSome_none, x_ntB, Bool.not_false, x_iteR, if_true, Option.getD_none]
      rw [x_addI _ (by omega) (by omega), x_ld1 (o := 0) (off := 2) x7 rfl rfl, x_ldbox o7 rfl, x_ldbox y7 rfl, x_stK, x_stK, eqS_eq, hbb]
      simp only [Bool.not_false, if_true]
      rw [x_ldbox o7 rfl, lookup40 w7, x_oK, x_tuK, x_tuK, e3]
      simp only [List.getElem?_cons_zero, List.getElem?_cons_succ, x_oK, x_boK, Option.isSome_none, x_ntB, Bool.not_false, x_iteR, if_true]
      rw [x_addI _ (by omega) (by omega), x_ldbox o7 rfl, x_ld1 (o := 0) (off := 3) x7 rfl rfl, x_i64K, quo3, up1, x_oK, x_bind]
      unfold u6_0
      rw [x_un10, x_ld1 (o := 0) (off := 2) x8 rfl rfl, x_i64K, x_lit, quo2, x_ldbox o8 rfl, lookup40f w8, x_oK, e3', x_i64K, x_addW]
      simp only [Option.getD_some, x_bind]
      unfold u6_1
      rw [x_un9, x_ldbox y8 rfl]
      erw [up2, x_oK, x_bind]
      rw [show ((c : Int) + 1 + 1) = ((c + 2 : Nat) : Int) from by omega]
      exact q1
end Go.Proofs.Ytiephapklpfhfaa

namespace Go.Proofs.Ytiephapklpfhfaa
open Go SS

set_option maxRecDepth 100000 in
set_option maxHeartbeats 1000000 in
theorem tables_run {a0 : V} {xs : List AskT} (ha : AsksV a0 xs) : ∃ σ', u6 (aCall env 400) 400 [a0] St.empty = some (.bool true, σ') := by
  generalize St.empty = σ
  obtain ⟨σ1, c1, k1⟩ := known_call 393 σ
  obtain ⟨σ2, c2, n2, t2, k2⟩ := new_table 399 σ1
  generalize htb : σ1.n + 1 = tb at c2 t2
  generalize hmb : σ1.n = mb at t2 n2
  have b3 := get_new_at σ2 (.blk [.ptr0] 31 0 false)
  have k3 := keeps_new σ2 (.blk [.ptr0] 31 0 false)
  have n3 : (σ2.new (.blk [.ptr0] 31 0 false)).n = σ2.n + 1 := rfl
  generalize hσ3 : σ2.new (.blk [.ptr0] 31 0 false) = σ3 at b3 k3 n3
  generalize htx : σ2.n = tx at b3 n3
  have b4 := get_put_at σ3 tx (.blk [.ptr tb 0 0] 31 0 false)
  have k4 := keeps_put k3 (Nat.le_of_eq htx) (.blk [.ptr tb 0 0] 31 0 false)
  have n4 : (σ3.put tx (.blk [.ptr tb 0 0] 31 0 false)).n = σ3.n := rfl
  generalize hσ4 : σ3.put tx (.blk [.ptr tb 0 0] 31 0 false) = σ4 at b4 k4 n4
  obtain ⟨σ5, c5, k5⟩ := known_call 393 σ4
  have n5 := k5.n
  have b6 := get_new_at σ5 (.map [] 0)
  have k6 := keeps_new σ5 (.map [] 0)
  have n6 : (σ5.new (.map [] 0)).n = σ5.n + 1 := rfl
  generalize hσ6 : σ5.new (.map [] 0) = σ6 at b6 k6 n6
  generalize hwb : σ5.n = wb at b6 n6
  have b7 := get_new_at σ6 (.blk [.int .i64 0] 3 0 false)
  have k7 := keeps_new σ6 (.blk [.int .i64 0] 3 0 false)
  have n7 : (σ6.new (.blk [.int .i64 0] 3 0 false)).n = σ6.n + 1 := rfl
  generalize hσ7 : σ6.new (.blk [.int .i64 0] 3 0 false) = σ7 at b7 k7 n7
  generalize hcb : σ6.n = cb at b7 n7
  have b8 := get_put_at σ7 cb (.blk [.int .i64 0] 3 0 false)
  have k8 := keeps_put k7 (Nat.le_of_eq hcb) (.blk [.int .i64 0] 3 0 false)
  have n8 : (σ7.put cb (.blk [.int .i64 0] 3 0 false)).n = σ7.n := rfl
  generalize hσ8 : σ7.put cb (.blk [.int .i64 0] 3 0 false) = σ8 at b8 k8 n8
  have k58 : Keeps σ5 σ8 := k6.trans k8
  have k28 : Keeps σ2 σ8 := k4.trans (k5.trans k58)
  have t5 : σ5.get tx = _ := (k5.get tx (by omega)).trans b4
  have inv : TInv σ8 tx cb tb mb wb [] 0 [] 0 0 := by
    refine ⟨(k58.get tx (by omega)).trans t5, b8, ⟨(k28.get tb (by omega)).trans t2.blk, (k28.get mb (by omega)).trans t2.map⟩, (k8.get wb (by omega)).trans b6, ⟨List.Perm.refl _, by simp [keysW], fun k v h => by cases h⟩, by omega, by omega⟩
  obtain ⟨vs9, σ9, k', ⟨es, clock, W, wc, c, rfl, h9, _⟩, e9⟩ := loop_inv (P := u6_6 (aCall env 400) 400) (Inv := fun i vs τ => ∃ es clock W wc c, vs = [a0, .ptr tx 0 0, .map wb, .ptr cb 0 0, .int .i64 ((c : Nat) : Int), .int .i64 (i : Int)] ∧ TInv τ tx cb tb mb wb es clock W wc c ∧ c ≤ 2 * i) (n := min xs.length 50)
    (fun i vs τ hi ⟨es, clock, W, wc, c, hvs, h, hc⟩ => by
      subst hvs
      obtain ⟨τ', es', clock', W', wc', c', q1, q2, q3⟩ := ask_round 380 h ha (i := i) (by omega) (by omega) hc
      exact ⟨_, τ', q1, es', clock', W', wc', c', rfl, q2, q3⟩) (min xs.length 50) 0 400 _ σ8 (by omega) (by omega) ⟨[], 0, [], 0, 0, rfl, inv, by omega⟩
  have x9 : u6_6 (aCall env 400) 400 [a0, .ptr tx 0 0, .map wb, .ptr cb 0 0, .int .i64 (c : Int), .int .i64 ((min xs.length 50 : Nat) : Int)] σ9 = some (.exit 0, [], σ9) := by
    unfold u6_6
    simp only [x_lit, x_un6, asks_len ha, x_i64K]
    by_cases hl : xs.length ≤ 50
    · have : ltI ((min xs.length 50 : Nat) : Int) (xs.length : Int) = false := by rw [ltI_eq]; simpa using by omega
      rw [this, x_andF, x_iteR]; rfl
    · have l1 : ltI ((min xs.length 50 : Nat) : Int) (xs.length : Int) = true := by rw [ltI_eq]; simpa using by omega
      have l2 : ltI ((min xs.length 50 : Nat) : Int) 50 = false := by rw [ltI_eq]; simpa using by omega
      rw [l1, x_andT, l2, x_pK, x_iteR]; rfl
  rw [x9, x_bindE] at e9
  refine ⟨σ9, ?_⟩
  unfold u6
  simp only [x_lit, x_un1, x_new]
  rw [c1]
  simp only [x_pK, x_boK, x_ntB, Bool.not_true, x_iteR, Bool.false_eq_true, if_false, c2, hσ3, htx]
  rw [x_onK rfl, x_stbox b3, hσ4, c5]
  simp only [x_pK, x_boK, Bool.not_true, x_orF]
  rw [x_ldbox t5 rfl]
  simp only [x_ptK, x_pK, Bool.false_eq_true, if_false, hσ6, hwb, hσ7, hcb]
  rw [x_stbox b7, hσ8]
  erw [e9]
  rfl
end Go.Proofs.Ytiephapklpfhfaa
