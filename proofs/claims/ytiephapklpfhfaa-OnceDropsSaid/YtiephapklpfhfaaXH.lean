/-
  The run of the statement, whole. No condition.
-/
import Derived.Test.YtiephapklpfhfaaXG
namespace Go.Proofs.Ytiephapklpfhfaa
open Go SS
set_option maxRecDepth 100000
noncomputable def u7_0 (call : SS.Call) (k : Nat) : List V → St → Res := un5 (fun x18 x19 x20 x21 x22 x23 => (ld1 env x22 0 x23 (fun x24 => (i64K x24 (fun x25 => (i64K x21 (fun x26 => (iteR (ltI x25 x26) (ld1 env x22 0 x23 (fun x27 => (i64K x27 (fun x28 => (addI 9223372036854775807 IntKind.i64 (Int.ofNat 97) x28 (fun x29 => (cvI 255 IntKind.u8 x29 (fun x30 => (pK (buildSliceV env 35 1 [(0, (V.int IntKind.u8 x30))] x23) (fun x31 x32 => (oK (convertV env 35 9 x31 x32) (fun x33 => (pK (call 16 [x20, x33, (V.fn 27 [x19, x22])] x32) (fun x34 x35 => (ld1 env x22 0 x35 (fun x36 => (St.newK x35 (AO.blk [(V.int IntKind.i64 (Int.ofNat 0))] 3 0 false) (fun x37 x38 => (st1 (V.ptr x37 0 0) 0 x36 x38 (fun x39 => (ld1 env (V.ptr x37 0 0) 0 x39 (fun x40 => (i64K x40 (fun x41 => (addI 9223372036854775807 IntKind.i64 x41 (Int.ofNat 1) (fun x42 => (st1 (V.ptr x37 0 0) 0 (V.int IntKind.i64 x42) x39 (fun x43 => (some (AEx.norm, ([x18, x19, x20, x21, (V.ptr x37 0 0)], x43))))))))))))))))))))))))))))))) (some ((AEx.exit 0), ([x18, x19, x20, x21], x23)))))))))))
noncomputable def u7_1 (call : SS.Call) (k : Nat) : List V → St → Res := un6 (fun x127 x128 x129 x130 x131 x132 x133 => (i64K x132 (fun x134 => (i64K x130 (fun x135 => (iteR (ltI x134 x135) (i64K x132 (fun x136 => (addI 9223372036854775807 IntKind.i64 (Int.ofNat 97) x136 (fun x137 => (cvI 255 IntKind.u8 x137 (fun x138 => (pK (buildSliceV env 35 1 [(0, (V.int IntKind.u8 x138))] x133) (fun x139 x140 => (oK (convertV env 35 9 x139 x133) (fun x141 => (pK (call 16 [x129, x141, V.fn0] x133) (fun x142 x143 => (ld1 env x128 0 x143 (fun x144 => (ld1 env x128 0 x133 (fun x145 => (gd (V.beq x144 x145) (aiK x132 (fun x146 => (oK (indexAt env 22 x144 (V.int IntKind.i64 x146)) (fun x147 => (ld1 env x147 0 x143 (fun x148 => (ld1 env x147 0 x133 (fun x149 => (gd (V.beq x148 x149) (i64K x142 (fun x150 => (i64K x148 (fun x151 => (iteR (ntB (eqI x150 x151)) (some (AEx.ret, ([(V.bool false)], x143))) (i64K x132 (fun x152 => (addI 9223372036854775807 IntKind.i64 x152 (Int.ofNat 1) (fun x153 => (some (AEx.norm, ([x127, x128, x129, x130, x131, (V.int IntKind.i64 x153)], x143)))))))))))))))))))))))))))))))))))))) (some ((AEx.exit 4), ([x127, x128, x129, x130, x131], x133)))))))))
noncomputable def u7_2 (call : SS.Call) (k : Nat) : List V → St → Res := un5 (fun x154 x155 x156 x157 x158 x159 => (i64K x158 (fun x160 => (addI 9223372036854775807 IntKind.i64 x160 (Int.ofNat 1) (fun x161 => (some (AEx.norm, ([x154, x155, x156, x157, (V.int IntKind.i64 x161)], x159))))))))
noncomputable def u7_3 (call : SS.Call) (k : Nat) : List V → St → Res := un8 (fun x113 x114 x115 x116 x117 x118 x119 x120 x121 => (boK x120 (fun x122 => (iteR x122 (some (AEx.ret, ([(V.bool false)], x121))) (pK (call 22 [x115, x119] x121) (fun x123 x124 => (pK (call 16 [x115, x119, (V.fn 29 [x114, x118])] x124) (fun x125 x126 => (blkR 4 (loopV (u7_1 call k) k [x113, x114, x115, x116, x117, (V.int IntKind.i64 (Int.ofNat 0))] x126) (u7_2 call k))))))))))
noncomputable def u7_4 (call : SS.Call) (k : Nat) : List V → St → Res := un5 (fun x49 x50 x51 x52 x53 x54 => (lnK x49 (fun x55 => (i64K x53 (fun x56 => (andK (ltI x56 x55) x54 (i64K x53 (fun x57 => (some ((ltI x57 (Int.ofNat 20)), x54)))) (fun x58 x59 => (andK x58 x59 (i64K x52 (fun x60 => (some ((ltI (Int.ofNat 0) x60), x59)))) (fun x61 x62 => (iteR x61 (aiK x53 (fun x63 => (ldE1 1 x49 x63 0 x62 (fun x64 => (pK (call 11 [x64, x52] x62) (fun x65 x66 => (St.newK x66 (AO.blk [(V.int IntKind.i64 (Int.ofNat 0))] 3 0 false) (fun x67 x68 => (onK x65 (st1 (V.ptr x67 0 0) 0 x65 x68 (fun x69 => (ld1 env (V.ptr x67 0 0) 0 x69 (fun x70 => (i64K x70 (fun x71 => (addI 9223372036854775807 IntKind.i64 (Int.ofNat 97) x71 (fun x72 => (cvI 255 IntKind.u8 x72 (fun x73 => (pK (buildSliceV env 35 1 [(0, (V.int IntKind.u8 x73))] x69) (fun x74 x75 => (oK (convertV env 35 9 x74 x75) (fun x76 => (pK (call 22 [x51, x76] x75) (fun x77 x78 => (bindR (pK (call 23 [x51, x76] x78) (fun x79 x80 => (boK x79 (fun x81 => (ifB x81 (some (AEx.norm, ([x49, x50, x51, x52, x53, (V.ptr x67 0 0), x76, (V.bool true)], x80))) (pK (call 18 [x51] x80) (fun x82 x83 => (i64K x52 (fun x84 => (subI 9223372036854775807 IntKind.i64 x84 (Int.ofNat 1) (fun x85 => (i64K x82 (fun x86 => (ifB (bK false true (ntB (eqI x86 x85))) (some (AEx.norm, ([x49, x50, x51, x52, x53, (V.ptr x67 0 0), x76, (V.bool true)], x83))) (pK (call 16 [x51, x76, (V.fn 28 [x50, (V.ptr x67 0 0)])] x83) (fun x87 x88 => (ld1 env x50 0 x88 (fun x89 => (ld1 env x50 0 x83 (fun x90 => (gd (V.beq x89 x90) (ld1 env (V.ptr x67 0 0) 0 x88 (fun x91 => (ld1 env (V.ptr x67 0 0) 0 x83 (fun x92 => (gd (V.beq x91 x92) (aiK x91 (fun x93 => (oK (indexAt env 22 x89 (V.int IntKind.i64 x93)) (fun x94 => (ld1 env x94 0 x88 (fun x95 => (ld1 env x94 0 x83 (fun x96 => (gd (V.beq x95 x96) (i64K x95 (fun x97 => (addI 9223372036854775807 IntKind.i64 x97 (Int.ofNat 1) (fun x98 => (i64K x87 (fun x99 => (ifB (bK false true (ntB (eqI x99 x98))) (some (AEx.norm, ([x49, x50, x51, x52, x53, (V.ptr x67 0 0), x76, (V.bool true)], x88))) (pK (call 16 [x51, x76, V.fn0] x88) (fun x100 x101 => (ld1 env x50 0 x101 (fun x102 => (ld1 env x50 0 x88 (fun x103 => (gd (V.beq x102 x103) (ld1 env (V.ptr x67 0 0) 0 x101 (fun x104 => (ld1 env (V.ptr x67 0 0) 0 x88 (fun x105 => (gd (V.beq x104 x105) (aiK x104 (fun x106 => (oK (indexAt env 22 x102 (V.int IntKind.i64 x106)) (fun x107 => (ld1 env x107 0 x101 (fun x108 => (ld1 env x107 0 x88 (fun x109 => (gd (V.beq x108 x109) (i64K x108 (fun x110 => (addI 9223372036854775807 IntKind.i64 x110 (Int.ofNat 1) (fun x111 => (i64K x100 (fun x112 => (some (AEx.norm, ([x49, x50, x51, x52, x53, (V.ptr x67 0 0), x76, (V.bool (bK false true (ntB (eqI x112 x111))))], x101)))))))))))))))))))))))))))))))))))))))))))))))))))))))))))))))))))))))) (u7_3 call k))))))))))))))))))))))))))) (some ((AEx.exit 2), ([x51, x52], x62)))))))))))))
noncomputable def u7_5 (call : SS.Call) (k : Nat) : List V → St → Res := un2 (fun x162 x163 x164 => (pK (call 18 [x162] x164) (fun x165 x166 => (i64K x165 (fun x167 => (i64K x163 (fun x168 => (some (AEx.ret, ([(V.bool (eqI x167 x168))], x166))))))))))
noncomputable def u7_6 (call : SS.Call) (k : Nat) : List V → St → Res := un4 (fun x44 x45 x46 x47 x48 => (blkR 2 (loopV (u7_4 call k) k [x44, x45, x46, x47, (V.int IntKind.i64 (Int.ofNat 0))] x48) (u7_5 call k)))
noncomputable def u7 (call : SS.Call) (k : Nat) : List V → St → Option (V × St) := un2 fun a0 a1 s => (finT (St.newK s (AO.blk (V.cellsF a0) 22 0 false) (fun x0 x1 => (pK (call 8 [] x1) (fun x2 x3 => (boK x2 (fun x4 => (iteR (ntB x4) (some (AEx.ret, ([(V.bool false)], x3))) (pK (call 14 [] x3) (fun x5 x6 => (pK (call 8 [] x6) (fun x7 x8 => (boK x7 (fun x9 => (orK (ntB x9) x8 (ptK x5 (fun x10 => (some (x10, x8)))) (fun x11 x12 => (iteR x11 (some (AEx.ret, ([(V.bool false)], x12))) (ld1 env (V.ptr x0 0 0) 0 x12 (fun x13 => (lnK x13 (fun x14 => (St.newK x12 (AO.blk [(V.int IntKind.i64 (Int.ofNat 0))] 3 0 false) (fun x15 x16 => (st1 (V.ptr x15 0 0) 0 (V.int IntKind.i64 (Int.ofNat 0)) x16 (fun x17 => (blkR 0 (loopV (u7_0 call k) k [a1, (V.ptr x0 0 0), x5, (V.int IntKind.i64 (bK (ltI (Int.ofNat 10) x14) (Int.ofNat 10) x14)), (V.ptr x15 0 0)] x17) (u7_6 call k)))))))))))))))))))))))))))
theorem u7_ok (call : SS.Call) (k : Nat) : u7 call k = unL 2 (kFun env call pu k Try.f7 (bodyOf Try.f7) (.seq (.reg [.one, .one]) (.seq (.seq (.reg [.one, .one]) (.cond (.seq (.reg [.one]) .ret) .skip)) (.seq (.reg [.one, .one]) (.seq (.seq (.reg [.one, .one, .one, .grp 2 [.one, .one]]) (.cond (.seq (.reg [.one]) .ret) .skip)) (.seq (.reg [.one, .one, .one, .one]) (.seq (.seq (.reg [.one, .one]) (.bblk (.loop [1, 2, 5, 6, 7] (.seq (.seq (.reg [.one, .one, .one]) (.cond .skip .exit)) (.seq (.blk (.reg [.one, .one, .one, .one, .one, .one, .one, .one])) (.seq (.seq (.reg [.one]) (.reg [.one, .one])) (.reg [.one, .one, .one]))))))) (.seq (.seq (.reg [.one]) (.bblk (.loop [1, 2, 5, 6, 8] (.seq (.seq (.reg [.one, .one, .one, .one, .one, .grp 2 [.one, .one], .one, .grp 2 [.one, .one]]) (.cond .skip .exit)) (.seq (.blk (.seq (.reg [.one, .one, .adr 1, .one, .one, .one, .one]) (.seq (.reg [.one, .one, .one, .one, .one, .one]) (.seq (.reg [.one, .one, .one]) (.seq (.bind [1, 2, 5, 6, 8, 9, 10, 98] (.drc []) (.cond (.seq (.reg [.one]) .ret) .skip)) (.seq (.reg [.one, .one, .one]) (.seq (.reg [.one, .one, .one, .one]) (.seq (.reg [.one]) (.bblk (.loop [1, 2, 5, 6, 8, 11] (.seq (.seq (.reg [.one, .one, .one]) (.cond .skip .exit)) (.seq (.blk (.seq (.drc []) (.cond (.seq (.reg [.one]) .ret) .skip))) (.reg [.one, .one, .one]))))))))))))) (.reg [.one, .one, .one])))))) (.seq (.reg [.one, .one, .one, .one, .one]) .ret)))))))) [(2, [5, 6]), (4, [1, 2, 5, 6, 8]), (0, [1, 2, 5, 6])]) := by kernel_rfl

end Go.Proofs.Ytiephapklpfhfaa

namespace Go.Proofs.Ytiephapklpfhfaa
open Go SS

theorem maker27 (k : Nat) {σ : St} {vb ib j : Nat} {a0 : V} {xs : List Int} (ha : IntsV a0 xs) (h1 : σ.get vb = some (.blk [a0] 22 0 false)) (h2 : σ.get ib = some (.blk [.int .i64 (j : Int)] 3 0 false)) (hj : j < xs.length) : aCall env (k + 1) 27 [.ptr vb 0 0, .ptr ib 0 0] σ = some (.int .i64 xs[j], σ) := by
  refine callW_of rfl Try.func27 rfl (run_txt t27_ok ?_) rfl
  have h1' : ({ σ with tch := σ.n } : St).get vb = _ := h1
  have h2' : ({ σ with tch := σ.n } : St).get ib = _ := h2
  have ho : a0.one = true := by rcases ha with ⟨rfl, _⟩ | ⟨f, rfl⟩ <;> rfl
  generalize ({ σ with tch := σ.n } : St) = τ at h1' h2' ⊢
  unfold t27
  rw [x_un2, x_ldbox h1' ho, x_ldbox h2' rfl, x_aiK, ints_get ha hj]
  rfl
theorem maker29 (k : Nat) {σ : St} {vb ib j : Nat} {a0 : V} {xs : List Int} (ha : IntsV a0 xs) (h1 : σ.get vb = some (.blk [a0] 22 0 false)) (h2 : σ.get ib = some (.blk [.int .i64 (j : Int)] 3 0 false)) (hj : j < xs.length) : aCall env (k + 1) 29 [.ptr vb 0 0, .ptr ib 0 0] σ = some (.int .i64 xs[j], σ) := by
  refine callW_of rfl Try.func29 rfl (run_txt t29_ok ?_) rfl
  have h1' : ({ σ with tch := σ.n } : St).get vb = _ := h1
  have h2' : ({ σ with tch := σ.n } : St).get ib = _ := h2
  have ho : a0.one = true := by rcases ha with ⟨rfl, _⟩ | ⟨f, rfl⟩ <;> rfl
  generalize ({ σ with tch := σ.n } : St) = τ at h1' h2' ⊢
  unfold t29
  rw [x_un2, x_ldbox h1' ho, x_ldbox h2' rfl, x_aiK, ints_get ha hj]
  rfl
theorem maker28 (k : Nat) {σ : St} {vb ib j : Nat} {a0 : V} {xs : List Int} (ha : IntsV a0 xs) (h1 : σ.get vb = some (.blk [a0] 22 0 false)) (h2 : σ.get ib = some (.blk [.int .i64 (j : Int)] 3 0 false)) (hj : j < xs.length) : aCall env (k + 1) 28 [.ptr vb 0 0, .ptr ib 0 0] σ = some (.int .i64 (IntKind.i64.wrap (xs[j] + 1)), σ) := by
  refine callW_of rfl Try.func28 rfl (run_txt t28_ok ?_) rfl
  have h1' : ({ σ with tch := σ.n } : St).get vb = _ := h1
  have h2' : ({ σ with tch := σ.n } : St).get ib = _ := h2
  have ho : a0.one = true := by rcases ha with ⟨rfl, _⟩ | ⟨f, rfl⟩ <;> rfl
  generalize ({ σ with tch := σ.n } : St) = τ at h1' h2' ⊢
  unfold t28
  rw [x_un2, x_ldbox h1' ho, x_ldbox h2' rfl, x_aiK, ints_get ha hj, x_i64K, x_lit, x_addW]
  rfl

/-- An asking whose maker reads alone. -/
theorem get_plain (f : Nat) {σ : St} {tb mb clock : Nat} {es : Ents} {W : Wants} {key : List UInt8} {g : FuncId} {cap : List V} {v : Int} (ht : Tab σ tb mb es clock) (hr : Rel σ es W) (hlt : tb < σ.n ∧ mb < σ.n) (hw : wantOf key W = none) (b : Nat)
    (hmk : ∀ τ : St, σ.n ≤ τ.n → (∀ x, x < σ.n → x ≠ mb → τ.get x = σ.get x) → aCall env (f + 2) g cap τ = some (.int .i64 v, τ)) :
    ∃ σ' nb, aCall env (f + 7) 16 [.ptr tb 0 0, .str key, .fn g cap] σ = some (.int .i64 v, σ') ∧ Tab σ' tb mb (es ++ [(key, nb, clock)]) (clock + 1) ∧ σ.n ≤ σ'.n ∧ (∀ x, x < σ.n → x ≠ mb → σ'.get x = σ.get x) ∧ Rel σ' (es ++ [(key, nb, clock)]) (W ++ [(key, v, b)]) := by
  obtain ⟨nb, τm, σ', ⟨q1, q2, q3⟩, e1, r1, r2, r3, r4, r5, r6⟩ := tget_new f ht hlt.1 hlt.2 key (look_none ((hr.no key).2 hw)) (g := g) (cap := cap) (v := v) (Q := fun nb τ' => Tab τ' tb mb (es ++ [(key, nb, clock)]) (clock + 1) ∧ (∀ x, x < σ.n → x ≠ mb → τ'.get x = σ.get x) ∧ σ.n ≤ τ'.n) (fun nb τ h1 h2 h3 h4 => ⟨τ, hmk τ (by omega) h4, Nat.le_refl _, fun _ _ _ => rfl, h3, h4, by omega⟩)
  refine ⟨σ', nb, e1, ⟨(r5 tb (by omega)).trans q1.blk, (r5 mb (by omega)).trans q1.map⟩, by omega, fun x h1 h2 => (r5 x (by omega)).trans (q2 x h1 h2), ?_⟩
  exact (hr.to (by omega) (fun x cs hx hxx => (r5 x (by omega)).trans (q2 x hx (map_ne hxx ht.map)))).add hw (by omega) r4

/-- An asking of what is there. -/
theorem get_had (f : Nat) {σ : St} {tb mb clock : Nat} {es : Ents} {W : Wants} {key : List UInt8} {v : Int} (ht : Tab σ tb mb es clock) (hr : Rel σ es W) (hlt : tb < σ.n) (hw : wantOf key W = some v) (mk : V) :
    ∃ σ', aCall env (f + 7) 16 [.ptr tb 0 0, .str key, mk] σ = some (.int .i64 v, σ') ∧ Keeps σ σ' := by
  obtain ⟨x, x1, x2, x3⟩ := hr.val key v hw
  obtain ⟨i, b, hl⟩ := look_some x1
  obtain ⟨σ', e1, hs⟩ := tget_there f ht hlt key hl x2 x3 mk
  exact ⟨σ', e1, hs.keeps⟩

theorem filter_len (k : List UInt8) : ∀ (W : Wants), (keysW W).Nodup → (wantOf k W).isSome = true → (W.filter fun e => decide (e.1 ≠ k)).length + 1 = W.length
  | [], _, h => by cases h
  | (a, c, b) :: r, hn, h => by
    have h2 : a ∉ keysW r ∧ (keysW r).Nodup := List.nodup_cons.1 hn
    rw [List.filter_cons]
    by_cases hk : a = k
    · simp only [hk, ne_eq, not_true_eq_false, decide_false, Bool.false_eq_true, if_false, List.length_cons]
      rw [List.filter_eq_self.2 fun e he => ?_]
      have : e.1 ≠ a := fun e1 => h2.1 (e1 ▸ List.mem_map_of_mem (f := fun e => e.1) he)
      rw [hk] at this
      simpa using this
    · simp only [ne_eq, hk, not_false_eq_true, decide_true, if_true, List.length_cons]
      have := filter_len k r h2.2 (by unfold wantOf at h; rw [if_neg hk] at h; exact h)
      simp only [ne_eq] at this
      omega

/-- What stays, through both loops. -/
structure Drp (σ : St) (vb tb mb clock : Nat) (a0 : V) (es : Ents) (W : Wants) : Prop where
  vals : σ.get vb = some (.blk [a0] 22 0 false)
  tab : Tab σ tb mb es clock
  rel : Rel σ es W
  lt : vb < σ.n ∧ tb < σ.n ∧ mb < σ.n

theorem Drp.to {σ σ' : St} {vb tb mb clock : Nat} {a0 : V} {es : Ents} {W : Wants} (h : Drp σ vb tb mb clock a0 es W) (k : Keeps σ σ') : Drp σ' vb tb mb clock a0 es W := by
  obtain ⟨l1, l2, l3⟩ := h.lt
  have := k.n
  exact ⟨(k.get _ l1).trans h.vals, ⟨(k.get _ l2).trans h.tab.blk, (k.get _ l3).trans h.tab.map⟩, h.rel.to k.n (fun x _ hx _ => k.get x hx), by omega⟩

set_option maxRecDepth 100000 in
set_option maxHeartbeats 1000000 in
theorem drp_first (f k : Nat) {σ : St} {vb tb mb clock ib i n : Nat} {a0 a1 : V} {es : Ents} {W : Wants} {xs : List Int} (h : Drp σ vb tb mb clock a0 es W) (ha : IntsV a0 xs) (hx : n ≤ xs.length) (hn : n ≤ 10) (hi : i < n) (hib : σ.get ib = some (.blk [.int .i64 (i : Int)] 3 0 false)) (hil : ib < σ.n) (hw : wantOf (key i) W = none) :
    ∃ σ' es' clock' ib', u7_0 (aCall env (f + 7)) k [a1, .ptr vb 0 0, .ptr tb 0 0, .int .i64 (n : Int), .ptr ib 0 0] σ = some (.norm, [a1, .ptr vb 0 0, .ptr tb 0 0, .int .i64 (n : Int), .ptr ib' 0 0], σ') ∧ Drp σ' vb tb mb clock' a0 es' (W ++ [(key i, xs[i]'(by omega), 0)]) ∧ σ'.get ib' = some (.blk [.int .i64 ((i + 1 : Nat) : Int)] 3 0 false) ∧ ib' < σ'.n := by
  have hib2 := map_ne hib h.tab.map
  obtain ⟨σ1, nb, e1, t1, n1, g1, r1⟩ := get_plain f h.tab h.rel ⟨h.lt.2.1, h.lt.2.2⟩ hw 0 (g := 27) (cap := [.ptr vb 0 0, .ptr ib 0 0]) (v := xs[i]'(by omega)) (fun τ h1 h2 => maker27 (f + 1) ha ((h2 vb h.lt.1 (map_ne h.vals h.tab.map)).trans h.vals) ((h2 ib hil hib2).trans hib) (by omega))
  have hib1 := (g1 ib hil hib2).trans hib
  have hlt := h.lt
  have d1 : Drp σ1 vb tb mb (clock + 1) a0 (es ++ [(key i, nb, clock)]) (W ++ [(key i, xs[i]'(by omega), 0)]) := ⟨(g1 vb h.lt.1 (map_ne h.vals h.tab.map)).trans h.vals, t1, r1, by omega⟩
  have b3 := get_new_at σ1 (.blk [.int .i64 0] 3 0 false)
  have k3 := keeps_new σ1 (.blk [.int .i64 0] 3 0 false)
  have n3 : (σ1.new (.blk [.int .i64 0] 3 0 false)).n = σ1.n + 1 := rfl
  generalize hσ3 : σ1.new (.blk [.int .i64 0] 3 0 false) = σ3 at b3 k3 n3
  have b4 := get_put_at σ3 σ1.n (.blk [.int .i64 (i : Int)] 3 0 false)
  have k4 := keeps_put k3 (Nat.le_refl _) (.blk [.int .i64 (i : Int)] 3 0 false)
  have n4 : (σ3.put σ1.n (.blk [.int .i64 (i : Int)] 3 0 false)).n = σ3.n := rfl
  generalize hσ4 : σ3.put σ1.n (.blk [.int .i64 (i : Int)] 3 0 false) = σ4 at b4 k4 n4
  have b5 := get_put_at σ4 σ1.n (.blk [.int .i64 ((i + 1 : Nat) : Int)] 3 0 false)
  have k5 := keeps_put k4 (Nat.le_refl _) (.blk [.int .i64 ((i + 1 : Nat) : Int)] 3 0 false)
  have n5 : (σ4.put σ1.n (.blk [.int .i64 ((i + 1 : Nat) : Int)] 3 0 false)).n = σ4.n := rfl
  generalize hσ5 : σ4.put σ1.n (.blk [.int .i64 ((i + 1 : Nat) : Int)] 3 0 false) = σ5 at b5 k5 n5
  refine ⟨σ5, _, clock + 1, σ1.n, ?_, d1.to k5, b5, by omega⟩
  unfold u7_0
  simp only [x_lit, x_un5]
  have l1 : ltI (i : Int) (n : Int) = true := by rw [ltI_eq]; simpa using hi
  rw [x_ldbox hib rfl, x_i64K, x_i64K, l1, x_iteR, if_pos rfl, x_ldbox hib rfl, x_i64K]
  rw [x_addI _ (by omega) (by omega), x_cv8 _ (by omega) (by omega), key_slice, x_pK, show (97 + (i : Int)) = ((97 + i : Nat) : Int) from by omega, key_conv, x_oK]
  unfold key at e1
  rw [e1, x_pK, x_ldbox hib1 rfl, x_new, hσ3, x_stbox b3, hσ4, x_ldbox b4 rfl, x_i64K, x_addI _ (by omega) (by omega), x_stbox b4, show (i : Int) + 1 = ((i + 1 : Nat) : Int) from by omega, hσ5]
end Go.Proofs.Ytiephapklpfhfaa

namespace Go.Proofs.Ytiephapklpfhfaa
open Go SS

theorem drop_rel (f : Nat) {σ : St} {vb tb mb clock : Nat} {a0 : V} {es : Ents} {W : Wants} (h : Drp σ vb tb mb clock a0 es W) (key : List UInt8) :
    ∃ σ' es', aCall env (f + 4) 22 [.ptr tb 0 0, .str key] σ = some (.tup [], σ') ∧ Drp σ' vb tb mb clock a0 es' (W.filter fun e => decide (e.1 ≠ key)) ∧ σ'.n = σ.n ∧ ∀ x, x ≠ mb → σ'.get x = σ.get x := by
  obtain ⟨σ', e1, ht⟩ := drop_call f h.tab h.lt.2.1 key
  have htab := ht.tab
  rw [gone_filter _ _ h.rel.ndE] at htab
  have hn := ht.n
  refine ⟨σ', _, e1, ⟨(ht.get vb (map_ne h.vals h.tab.map)).trans h.vals, htab, (h.rel.drop key).to (by omega) (fun x cs _ hx => ht.get x (map_ne hx h.tab.map)), by have := h.lt; omega⟩, hn, ht.get⟩

/-- Each key has its value. -/
structure Full (σ : St) (vb tb mb clock : Nat) (a0 : V) (es : Ents) (W : Wants) (n : Nat) (xs : List Int) : Prop where
  drp : Drp σ vb tb mb clock a0 es W
  len : W.length = n
  val : ∀ j, j < n → wantOf (key j) W = xs[j]?

theorem Full.to {σ σ' : St} {vb tb mb clock n : Nat} {a0 : V} {es : Ents} {W : Wants} {xs : List Int} (h : Full σ vb tb mb clock a0 es W n xs) (k : Keeps σ σ') : Full σ' vb tb mb clock a0 es W n xs := ⟨h.drp.to k, h.len, h.val⟩

theorem vals_lst {a0 : V} {xs : List Int} (ha : IntsV a0 xs) {j : Nat} (hj : j < xs.length) : ∃ f, a0 = .lst (xs.map (V.int .i64)) f := by
  rcases ha with ⟨_, e⟩ | ha
  · rw [e] at hj; simp at hj
  · exact ha

theorem idx_val {a0 : V} {xs : List Int} (ha : IntsV a0 xs) {j : Nat} (hj : j < xs.length) : indexAt env 22 a0 (.int .i64 (j : Int)) = some (.eptr (xs.map (V.int .i64)) j 0) := by
  obtain ⟨f, rfl⟩ := vals_lst ha hj
  exact idx_lst (v := xs[j]) (by simp [hj])
theorem ld_val {xs : List Int} {j : Nat} (hj : j < xs.length) {R : Type} (σ : St) (K : V → Option R) : ld1 env (.eptr (xs.map (V.int .i64)) j 0) 0 σ K = K (.int .i64 xs[j]) := x_ld1_eptr (x := .int .i64 xs[j]) (v := .int .i64 xs[j]) (by simp [hj]) rfl rfl K
theorem vals_one {a0 : V} {xs : List Int} (ha : IntsV a0 xs) : a0.one = true := by rcases ha with ⟨rfl, _⟩ | ⟨f, rfl⟩ <;> rfl

set_option maxRecDepth 100000 in
theorem drp_inner (f k : Nat) {σ : St} {vb tb mb clock n : Nat} {a0 a1 ii : V} {es : Ents} {W : Wants} {xs : List Int} (h : Full σ vb tb mb clock a0 es W n xs) (ha : IntsV a0 xs) (hx : n ≤ xs.length) (hn : n ≤ 10) {j : Nat} (hj : j < n) :
    ∃ σ', u7_1 (aCall env (f + 7)) k [a1, .ptr vb 0 0, .ptr tb 0 0, .int .i64 (n : Int), ii, .int .i64 (j : Int)] σ = some (.norm, [a1, .ptr vb 0 0, .ptr tb 0 0, .int .i64 (n : Int), ii, .int .i64 ((j + 1 : Nat) : Int)], σ') ∧ Keeps σ σ' := by
  have hjx : j < xs.length := by omega
  obtain ⟨σ', e1, hk⟩ := get_had f h.drp.tab h.drp.rel h.drp.lt.2.1 (key := key j) (v := xs[j]) (by rw [h.val j hj]; simp) .fn0
  have h1 := h.drp.to hk
  refine ⟨σ', ?_, hk⟩
  unfold u7_1
  simp only [x_lit, x_un6]
  have l1 : ltI (j : Int) (n : Int) = true := by rw [ltI_eq]; simpa using hj
  rw [x_i64K, x_i64K, l1, x_iteR, if_pos rfl, x_i64K, x_addI _ (by omega) (by omega), x_cv8 _ (by omega) (by omega), key_slice, x_pK, show (97 + (j : Int)) = ((97 + j : Nat) : Int) from by omega, key_conv, x_oK]
  unfold key at e1
  rw [e1, x_pK, x_ldbox h1.vals (vals_one ha), x_ldbox h.drp.vals (vals_one ha), V.beq_refl, x_gd, x_aiK, idx_val ha hjx, x_oK, ld_val hjx, ld_val hjx, V.beq_refl, x_gd, x_i64K, x_i64K, eqI_eq, beq_self_eq_true, x_ntB, x_iteR, if_neg (by decide), x_i64K, x_addI _ (by omega) (by omega)]
  rfl

set_option maxRecDepth 100000 in
set_option maxHeartbeats 1000000 in
theorem drp_second (f k : Nat) (hk : 20 < k) {σ : St} {vb tb mb clock n : Nat} {a0 a1 : V} {es : Ents} {W : Wants} {xs ys : List Int} (h : Full σ vb tb mb clock a0 es W n xs) (ha : IntsV a0 xs) (hb : IntsV a1 ys) (hx : n ≤ xs.length) (hn : n ≤ 10) (hn0 : 0 < n) {i : Nat} (hi : i < ys.length) (hi2 : i < 20) :
    ∃ σ' es' clock' W', u7_4 (aCall env (f + 7)) k [a1, .ptr vb 0 0, .ptr tb 0 0, .int .i64 (n : Int), .int .i64 (i : Int)] σ = some (.norm, [a1, .ptr vb 0 0, .ptr tb 0 0, .int .i64 (n : Int), .int .i64 ((i + 1 : Nat) : Int)], σ') ∧ Full σ' vb tb mb clock' a0 es' W' n xs := by
  obtain ⟨j, hj, c11⟩ := pick_nat (f + 6) ys[i] n σ (by omega) (by omega)
  have hjx : j < xs.length := by omega
  -- the number's box
  have b1 := get_new_at σ (.blk [.int .i64 0] 3 0 false)
  have k1 := keeps_new σ (.blk [.int .i64 0] 3 0 false)
  have n1 : (σ.new (.blk [.int .i64 0] 3 0 false)).n = σ.n + 1 := rfl
  generalize hσ1 : σ.new (.blk [.int .i64 0] 3 0 false) = σ1 at b1 k1 n1
  generalize hkb : σ.n = kb at b1 n1
  have b2 := get_put_at σ1 kb (.blk [.int .i64 (j : Int)] 3 0 false)
  have k2 := keeps_put k1 (Nat.le_of_eq hkb) (.blk [.int .i64 (j : Int)] 3 0 false)
  have n2 : (σ1.put kb (.blk [.int .i64 (j : Int)] 3 0 false)).n = σ1.n := rfl
  generalize hσ2 : σ1.put kb (.blk [.int .i64 (j : Int)] 3 0 false) = σ2 at b2 k2 n2
  have h2 := h.drp.to k2
  -- it is dropped
  obtain ⟨σ3, es3, c22, h3, n3, g3⟩ := drop_rel (f + 3) h2 (key j)
  have b3 := (g3 kb (map_ne b2 h2.tab.map)).trans b2
  have w3 : wantOf (key j) (W.filter fun e => decide (e.1 ≠ key j)) = none := by
    rw [wantOf_mem, keysW_filter]
    intro hm
    have := (List.mem_filter.1 hm).2
    simp at this
  have len3 : (W.filter fun e => decide (e.1 ≠ key j)).length + 1 = n := by
    rw [filter_len _ _ h.drp.rel.nd (by rw [h.val j hj]; simp [hjx])]; exact h.len
  -- is it made, how many are there
  have hl3 : look (key j) es3 0 = none := look_none ((h3.rel.no _).2 w3)
  obtain ⟨σ4, c23, s4⟩ := tmade_call (f + 2) h3.tab h3.lt.2.1 (key j) (fun i x b e => by rw [hl3] at e; cases e)
  rw [hl3] at c23
  have h4 := h3.to s4.keeps
  obtain ⟨σ5, c18, s5⟩ := count_call (f + 3) h4.tab h4.lt.2.1
  have h5 := h4.to s5.keeps
  have b5 : σ5.get kb = some (.blk [.int .i64 (j : Int)] 3 0 false) := by rw [s5.get, s4.get]; exact b3
  have n5 : σ5.n = σ3.n := by rw [s5.n, s4.n]
  -- one more
  obtain ⟨σ6, nb6, c16, t6, n6, g6, r6⟩ := get_plain f h5.tab h5.rel ⟨h5.lt.2.1, h5.lt.2.2⟩ w3 0 (g := 28) (cap := [.ptr vb 0 0, .ptr kb 0 0]) (v := IntKind.i64.wrap (xs[j] + 1)) (fun τ q1 q2 => maker28 (f + 1) ha ((q2 vb h5.lt.1 (map_ne h5.vals h5.tab.map)).trans h5.vals) ((q2 kb (by omega) (map_ne b5 h5.tab.map)).trans b5) hjx)
  have v6 : σ6.get vb = _ := (g6 vb h5.lt.1 (map_ne h5.vals h5.tab.map)).trans h5.vals
  have b6 := (g6 kb (by omega) (map_ne b5 h5.tab.map)).trans b5
  have h6 : Drp σ6 vb tb mb (clock + 1) a0 (es3 ++ [(key j, nb6, clock)]) ((W.filter fun e => decide (e.1 ≠ key j)) ++ [(key j, IntKind.i64.wrap (xs[j] + 1), 0)]) := ⟨v6, t6, r6, by have := h5.lt; omega⟩
  have w6 : wantOf (key j) ((W.filter fun e => decide (e.1 ≠ key j)) ++ [(key j, IntKind.i64.wrap (xs[j] + 1), 0)]) = some (IntKind.i64.wrap (xs[j] + 1)) := by rw [wantOf_append, w3]; simp [wantOf]
  obtain ⟨σ7, c16', k7⟩ := get_had f h6.tab h6.rel h6.lt.2.1 w6 .fn0
  have h7 := h6.to k7
  have b7 := (k7.get kb (by omega)).trans b6
  -- back again
  obtain ⟨σ8, es8, c22', h8, n8, g8⟩ := drop_rel (f + 3) h7 (key j)
  have b8 := (g8 kb (map_ne b7 h7.tab.map)).trans b7
  have ef : (((W.filter fun e => decide (e.1 ≠ key j)) ++ [(key j, IntKind.i64.wrap (xs[j] + 1), 0)] : Wants).filter fun e => decide (e.1 ≠ key j)) = W.filter fun e => decide (e.1 ≠ key j) := by
    rw [List.filter_append, List.filter_filter]
    simp
  rw [ef] at h8
  have n7 := k7.n
  obtain ⟨σ9, nb9, c16'', t9, n9, g9, r9⟩ := get_plain f h8.tab h8.rel ⟨h8.lt.2.1, h8.lt.2.2⟩ w3 0 (g := 29) (cap := [.ptr vb 0 0, .ptr kb 0 0]) (v := xs[j]) (fun τ q1 q2 => maker29 (f + 1) ha ((q2 vb h8.lt.1 (map_ne h8.vals h8.tab.map)).trans h8.vals) ((q2 kb (by omega) (map_ne b8 h8.tab.map)).trans b8) hjx)
  have h9 : Full σ9 vb tb mb (clock + 1 + 1) a0 (es8 ++ [(key j, nb9, clock + 1)]) ((W.filter fun e => decide (e.1 ≠ key j)) ++ [(key j, xs[j], 0)]) n xs := by
    refine ⟨⟨(g9 vb h8.lt.1 (map_ne h8.vals h8.tab.map)).trans h8.vals, t9, r9, by have := h8.lt; omega⟩, by rw [List.length_append]; exact len3, fun q hq => ?_⟩
    rw [wantOf_append]
    by_cases hqj : q = j
    · subst hqj; rw [w3]; simp [wantOf, hjx]
    · have hne : key q ≠ key j := fun e => hqj (key_inj (by omega) (by omega) e)
      rw [wantOf_filter hne, h.val q hq]
      have hq2 : q < xs.length := by omega
      simp [hq2]
  obtain ⟨vs', σ10, k', ⟨rfl, k10⟩, e10⟩ := loop_inv (P := u7_1 (aCall env (f + 7)) k) (Inv := fun q vs τ => vs = [a1, .ptr vb 0 0, .ptr tb 0 0, .int .i64 (n : Int), .int .i64 (i : Int), .int .i64 (q : Int)] ∧ Keeps σ9 τ) (n := n)
    (fun q vs τ hq ⟨hvs, hkk⟩ => by
      subst hvs
      obtain ⟨τ', q1, q2⟩ := drp_inner f k (h9.to hkk) ha hx hn (a1 := a1) (ii := .int .i64 (i : Int)) hq
      exact ⟨_, τ', q1, rfl, hkk.trans q2⟩) n 0 k _ σ9 (by omega) (by omega) ⟨rfl, keeps_refl _⟩
  have e11 : u7_1 (aCall env (f + 7)) k [a1, .ptr vb 0 0, .ptr tb 0 0, .int .i64 (n : Int), .int .i64 (i : Int), .int .i64 (n : Int)] σ10 = some (.exit 4, [a1, .ptr vb 0 0, .ptr tb 0 0, .int .i64 (n : Int), .int .i64 (i : Int)], σ10) := by
    unfold u7_1
    simp only [x_lit, x_un6, x_i64K]
    have hl : ltI (n : Int) (n : Int) = false := by rw [ltI_eq]; simp
    rw [hl, x_iteR]; rfl
  rw [e11, x_bindE] at e10
  refine ⟨σ10, _, _, _, ?_, h9.to k10⟩
  have l1 : ltI (i : Int) (ys.length : Int) = true := by rw [ltI_eq]; simpa using hi
  have l2 : ltI (i : Int) 20 = true := by rw [ltI_eq]; simpa using by omega
  have l3 : ltI 0 (n : Int) = true := by rw [ltI_eq]; simpa using hn0
  unfold u7_4
  simp only [x_lit, x_un5, ints_len hb, x_i64K, l1, x_andT, l2, x_pK, l3, x_iteR, if_true, x_aiK, ints_get hb hi, c11, x_new, hσ1, hkb]
  rw [x_onK rfl, x_stbox b1, hσ2, x_ldbox b2 rfl, x_i64K, x_addI _ (by omega) (by omega), x_cv8 _ (by omega) (by omega), key_slice, x_pK, show (97 + (j : Int)) = ((97 + j : Nat) : Int) from by omega, key_conv, x_oK]
  have ekey : key j = [UInt8.ofNat (97 + j)] := rfl
  rw [← ekey, c22, x_pK, c23, x_pK]
  simp only [Option.isSome_none, x_boK, ifB_f]
  rw [c18, x_pK, x_subI _ (by omega) (by omega), x_i64K]
  have e1 : eqI (es3.length : Int) ((n : Int) - 1) = true := by rw [eqI_eq, beq_iff_eq]; have := h3.rel.len; omega
  rw [e1, x_ntB]
  simp only [Bool.not_true, bK_eq, Bool.false_eq_true, if_false, ifB_f]
  rw [c16, x_pK, x_ldbox v6 (vals_one ha), x_ldbox h5.vals (vals_one ha), V.beq_refl, x_gd, x_ldbox b6 rfl, x_ldbox b5 rfl, V.beq_refl, x_gd, x_aiK, idx_val ha hjx, x_oK, ld_val hjx, ld_val hjx, V.beq_refl, x_gd, x_i64K, x_addW, x_i64K, eqI_eq, beq_self_eq_true]
  simp only [x_ntB, Bool.not_true, Bool.false_eq_true, if_false, ifB_f]
  rw [c16', x_pK, x_ldbox h7.vals (vals_one ha), x_ldbox v6 (vals_one ha), V.beq_refl, x_gd, x_ldbox b7 rfl, x_ldbox b6 rfl, V.beq_refl, x_gd, x_aiK, idx_val ha hjx, x_oK, ld_val hjx, ld_val hjx, V.beq_refl, x_gd, x_i64K, x_addW, x_i64K, eqI_eq, beq_self_eq_true, x_bind]
  unfold u7_3
  simp only [x_lit, x_un8, x_boK, Bool.not_true, Bool.false_eq_true, if_false, x_iteR]
  rw [c22', x_pK, c16'', x_pK]
  erw [e10]
  rw [x_blkE]
  unfold u7_2
  rw [x_un5, x_i64K, x_lit, x_addI _ (by omega) (by omega)]
  rfl
end Go.Proofs.Ytiephapklpfhfaa

namespace Go.Proofs.Ytiephapklpfhfaa
open Go SS

set_option maxRecDepth 100000 in
set_option maxHeartbeats 1000000 in
theorem drops_run {a0 a1 : V} {xs ys : List Int} (ha : IntsV a0 xs) (hb : IntsV a1 ys) : ∃ σ', u7 (aCall env 400) 400 [a0, a1] St.empty = some (.bool true, σ') := by
  generalize St.empty = σ
  have hc0 : V.cellsF a0 = [a0] := by rcases ha with ⟨rfl, _⟩ | ⟨f, rfl⟩ <;> rfl
  have ho := vals_one ha
  have b0 := get_new_at σ (.blk [a0] 22 0 false)
  have n0 : (σ.new (.blk [a0] 22 0 false)).n = σ.n + 1 := rfl
  generalize hσ0 : σ.new (.blk [a0] 22 0 false) = σ0 at b0 n0
  generalize hvb : σ.n = vb at b0 n0
  obtain ⟨σ1, c1, k1⟩ := known_call 393 σ0
  have n1 := k1.n
  obtain ⟨σ2, c2, n2, t2, k2⟩ := new_table 399 σ1
  generalize htb : σ1.n + 1 = tb at c2 t2
  generalize hmb : σ1.n = mb at t2 n2
  obtain ⟨σ3, c3, k3⟩ := known_call 393 σ2
  have n3 := k3.n
  obtain ⟨n, hn⟩ : ∃ n, n = min xs.length 10 := ⟨_, rfl⟩
  have hmin : bK (ltI 10 (xs.length : Int)) 10 (xs.length : Int) = (n : Int) := by
    rw [bK_eq, ltI_eq]
    split <;> rename_i hh <;> simp at hh <;> omega
  have v3 : σ3.get vb = some (.blk [a0] 22 0 false) := (k3.get vb (by omega)).trans ((k2.get vb (by omega)).trans ((k1.get vb (by omega)).trans b0))
  have b4 := get_new_at σ3 (.blk [.int .i64 0] 3 0 false)
  have k4 := keeps_new σ3 (.blk [.int .i64 0] 3 0 false)
  have n4 : (σ3.new (.blk [.int .i64 0] 3 0 false)).n = σ3.n + 1 := rfl
  generalize hσ4 : σ3.new (.blk [.int .i64 0] 3 0 false) = σ4 at b4 k4 n4
  generalize hib : σ3.n = ib at b4 n4
  have b5 := get_put_at σ4 ib (.blk [.int .i64 0] 3 0 false)
  have k5 := keeps_put k4 (Nat.le_of_eq hib) (.blk [.int .i64 0] 3 0 false)
  have n5 : (σ4.put ib (.blk [.int .i64 0] 3 0 false)).n = σ4.n := rfl
  generalize hσ5 : σ4.put ib (.blk [.int .i64 0] 3 0 false) = σ5 at b5 k5 n5
  have d3 : Drp σ3 vb tb mb 0 a0 [] [] := ⟨v3, ⟨(k3.get tb (by omega)).trans t2.blk, (k3.get mb (by omega)).trans t2.map⟩, ⟨List.Perm.refl _, by simp [keysW], fun k v h => by cases h⟩, by omega⟩
  have d5 := d3.to k5
  obtain ⟨vs6, σ6, kk6, ⟨clock, es, W, ib', rfl, d6, hi6, hl6, len6, val6, no6⟩, e6⟩ := loop_inv (P := u7_0 (aCall env 400) 400) (Inv := fun i vs τ => ∃ clock es W ib, vs = [a1, .ptr vb 0 0, .ptr tb 0 0, .int .i64 (n : Int), .ptr ib 0 0] ∧ Drp τ vb tb mb clock a0 es W ∧ τ.get ib = some (.blk [.int .i64 (i : Int)] 3 0 false) ∧ ib < τ.n ∧ W.length = i ∧ (∀ j, j < i → wantOf (key j) W = xs[j]?) ∧ ∀ j, i ≤ j → j < 100 → wantOf (key j) W = none) (n := n)
    (fun i vs τ hi ⟨clock, es, W, ib, hvs, d, h1, h2, h3, h4, h5⟩ => by
      subst hvs
      have hix : i < xs.length := by omega
      obtain ⟨τ', es', clock', ib', q1, q2, q3, q4⟩ := drp_first 393 400 (a1 := a1) d ha (n := n) (by omega) (by omega) hi h1 h2 (h5 i (Nat.le_refl _) (by omega))
      refine ⟨_, τ', q1, clock', es', _, ib', rfl, q2, q3, q4, by simp [h3], fun j hj => ?_, fun j hj1 hj2 => ?_⟩
      · rw [wantOf_append]
        by_cases hji : j = i
        · subst hji; rw [h5 j (Nat.le_refl _) (by omega)]; simp [wantOf, hix]
        · have hjx : j < xs.length := by omega
          rw [h4 j (by omega)]; simp [hjx]
      · rw [wantOf_append, h5 j (by omega) hj2]
        have hne : key i ≠ key j := fun e => by have := key_inj (by omega) hj2 e; omega
        simp [wantOf, hne]) n 0 400 _ σ5 (by omega) (by omega) ⟨0, [], [], ib, rfl, d5, b5, by omega, rfl, fun j hj => by omega, fun j _ _ => rfl⟩
  have x6 : u7_0 (aCall env 400) 400 [a1, .ptr vb 0 0, .ptr tb 0 0, .int .i64 (n : Int), .ptr ib' 0 0] σ6 = some (.exit 0, [a1, .ptr vb 0 0, .ptr tb 0 0, .int .i64 (n : Int)], σ6) := by
    unfold u7_0
    simp only [x_lit, x_un5]
    have hl : ltI (n : Int) (n : Int) = false := by rw [ltI_eq]; simp
    rw [x_ldbox hi6 rfl, x_i64K, x_i64K, hl, x_iteR]; rfl
  rw [x6, x_bindE] at e6
  have f6 : Full σ6 vb tb mb clock a0 es W n xs := ⟨d6, len6, val6⟩
  obtain ⟨m, hm⟩ : ∃ m, m = if 0 < n then min ys.length 20 else 0 := ⟨_, rfl⟩
  have hm1 : m ≤ 20 ∧ m ≤ ys.length ∧ (0 < m → 0 < n) := by rw [hm]; split <;> omega
  obtain ⟨vs7, σ7, kk7, ⟨clock', es', W', rfl, f7⟩, e7⟩ := loop_inv (P := u7_4 (aCall env 400) 400) (Inv := fun i vs τ => ∃ clock es W, vs = [a1, .ptr vb 0 0, .ptr tb 0 0, .int .i64 (n : Int), .int .i64 (i : Int)] ∧ Full τ vb tb mb clock a0 es W n xs) (n := m)
    (fun i vs τ hi ⟨clock, es, W, hvs, hf⟩ => by
      subst hvs
      obtain ⟨τ', es', clock', W', q1, q2⟩ := drp_second 393 400 (by omega) hf ha hb (by omega) (by omega) (by omega) (i := i) (by omega) (by omega)
      exact ⟨_, τ', q1, clock', es', W', rfl, q2⟩) m 0 400 _ σ6 (by omega) (by omega) ⟨clock, es, W, rfl, f6⟩
  have x7 : u7_4 (aCall env 400) 400 [a1, .ptr vb 0 0, .ptr tb 0 0, .int .i64 (n : Int), .int .i64 (m : Int)] σ7 = some (.exit 2, [.ptr tb 0 0, .int .i64 (n : Int)], σ7) := by
    unfold u7_4
    simp only [x_lit, x_un5, ints_len hb, x_i64K]
    have l0 : ltI (m : Int) (ys.length : Int) = decide (m < ys.length) := by rw [ltI_eq]; simp
    have l1 : ltI (m : Int) 20 = decide (m < 20) := by rw [ltI_eq]; simpa using by omega
    have l2 : ltI 0 (n : Int) = decide (0 < n) := by rw [ltI_eq]; simp
    rw [l0, l1, l2]
    by_cases h1 : m < ys.length
    · by_cases h2 : m < 20
      · have h3 : ¬ 0 < n := by intro h3; rw [if_pos h3] at hm; omega
        simp only [h1, h2, h3, decide_true, decide_false, x_andT, x_pK, x_iteR, Bool.false_eq_true, if_false]
      · simp only [h1, h2, decide_true, decide_false, x_andT, x_andF, x_pK, x_iteR, Bool.false_eq_true, if_false]
    · simp only [h1, decide_false, x_andF, x_iteR, Bool.false_eq_true, if_false]
  rw [x7, x_bindE] at e7
  obtain ⟨σ8, c8, s8⟩ := count_call 396 f7.drp.tab f7.drp.lt.2.1
  refine ⟨σ8, ?_⟩
  unfold u7
  simp only [x_lit, x_un2, x_new, hc0]
  rw [hσ0, hvb, c1]
  simp only [x_pK, x_boK, x_ntB, Bool.not_true, x_iteR, Bool.false_eq_true, if_false, c2, c3, x_orF, x_ptK]
  rw [x_ldbox v3 ho, ints_len ha, hmin, hσ4, hib, x_stbox b4, hσ5]
  erw [e6]
  rw [x_blkE]
  unfold u7_6
  rw [x_un4]
  erw [e7]
  rw [x_blkE]
  unfold u7_5
  rw [x_un2, c8, x_pK, x_i64K, x_i64K, f7.drp.rel.len, f7.len, eqI_eq, beq_self_eq_true]
  rfl
end Go.Proofs.Ytiephapklpfhfaa
