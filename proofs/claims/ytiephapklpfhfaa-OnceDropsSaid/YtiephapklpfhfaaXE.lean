/-
  Slices of integers that come in; the run of another statement. No condition.
-/
import Derived.Test.YtiephapklpfhfaaXD
namespace Go.Proofs.Ytiephapklpfhfaa
open Go SS

/-- A slice of integers, as it comes in. -/
def IntsV (v : V) (xs : List Int) : Prop := (v = .nilS ∧ xs = []) ∨ ∃ f, v = .lst (xs.map (V.int .i64)) f

theorem ints_len {v : V} {xs : List Int} (h : IntsV v xs) {R : Type} (K : Int → Option R) : lnK v K = K (xs.length : Int) := by
  rcases h with ⟨rfl, rfl⟩ | ⟨f, rfl⟩
  · exact x_lnK_nil K
  · rw [x_lnK_lst]; simp
theorem ints_get {v : V} {xs : List Int} (h : IntsV v xs) {i : Nat} (hi : i < xs.length) {R : Type} (σ : St) (K : V → Option R) : ldE1 1 v (i : Int) 0 σ K = K (.int .i64 xs[i]) := by
  rcases h with ⟨rfl, rfl⟩ | ⟨f, rfl⟩
  · simp at hi
  · exact x_ldE1_lst (x := .int .i64 xs[i]) (by simp [hi]) rfl rfl rfl K

/-- All keys are made. -/
structure DInv (σ : St) (tx cb nx gx tb mb N : Nat) (es : Ents) (clock : Nat) : Prop where
  env : DEnv σ tx cb nx gx tb mb N
  calls : σ.get cb = some (.blk [.int .i64 (N : Int)] 3 0 false)
  tab : Tab σ tb mb es clock
  cell : ∀ j, j < N → ∃ x, cellOf (key j) es = some x ∧ x < σ.n ∧ MadeCell σ x ((N - j : Nat) : Int)

theorem DInv.to {σ σ' : St} {tx cb nx gx tb mb N : Nat} {es : Ents} {clock : Nat} (h : DInv σ tx cb nx gx tb mb N es clock) (k : Keeps σ σ') : DInv σ' tx cb nx gx tb mb N es clock := by
  obtain ⟨l1, l2, l3, l4, l5, l6⟩ := h.env.lt
  have := k.n
  refine ⟨h.env.to k.n (fun b hb _ _ => k.get b hb), (k.get _ l6).trans h.calls, ⟨(k.get _ l4).trans h.tab.blk, (k.get _ l5).trans h.tab.map⟩, fun j hj => ?_⟩
  obtain ⟨x, x1, x2, x3⟩ := h.cell j hj
  exact ⟨x, x1, by omega, x3.to (k.get x x2)⟩

set_option maxRecDepth 100000 in
theorem deep_there (f : Nat) {σ : St} {tx cb nx gx tb mb N : Nat} {es : Ents} {clock : Nat} (h : DInv σ tx cb nx gx tb mb N es clock) (hN : N ≤ 25) {j : Nat} (hj : j < N) :
    ∃ σ', aCall env (f + 8) 15 [.int .i64 (j : Int), .ptr tx 0 0, .ptr cb 0 0, .ptr nx 0 0, .ptr gx 0 0] σ = some (.int .i64 ((N - j : Nat) : Int), σ') ∧ Keeps σ σ' := by
  have key : ∃ σ1, t15 (aCall env (f + 7)) (f + 7) [.int .i64 (j : Int), .ptr tx 0 0, .ptr cb 0 0, .ptr nx 0 0, .ptr gx 0 0] { σ with tch := σ.n } = some (.int .i64 ((N - j : Nat) : Int), σ1) ∧ Keeps { σ with tch := σ.n } σ1 := by
    have h' : DInv ({ σ with tch := σ.n } : St) tx cb nx gx tb mb N es clock := h.to ⟨Nat.le_refl _, fun _ _ => rfl⟩
    generalize ({ σ with tch := σ.n } : St) = τ at h' ⊢
    have k1 := keeps_new τ (.blk [.int .i64 (j : Int)] 3 0 false)
    have hx := get_new_at τ (.blk [.int .i64 (j : Int)] 3 0 false)
    generalize hτ1 : τ.new (.blk [.int .i64 (j : Int)] 3 0 false) = τ1 at k1 hx
    have h1 := h'.to k1
    obtain ⟨x, x1, x2, x3⟩ := h1.cell j hj
    obtain ⟨i, b, hl⟩ := look_some x1
    obtain ⟨τ2, hc, hs⟩ := tget_there f h1.tab h1.env.lt.2.2.2.1 (Go.Proofs.Ytiephapklpfhfaa.key j) hl x2 x3 (.fn 17 [.ptr cb 0 0, .ptr τ.n 0 0, .ptr nx 0 0, .ptr gx 0 0])
    refine ⟨τ2, ?_, k1.trans hs.keeps⟩
    unfold t15
    simp only [x_lit, x_un5, x_new]
    rw [show V.cellsF (.int .i64 (j : Int)) = [.int .i64 (j : Int)] from rfl, hτ1, x_ldbox h1.env.t rfl, x_ldbox hx rfl, x_i64K, x_addI _ (by omega) (by omega), x_cv8 _ (by omega) (by omega), key_slice, x_pK, show (97 + (j : Int)) = ((97 + j : Nat) : Int) from by omega, key_conv, x_oK]
    unfold Go.Proofs.Ytiephapklpfhfaa.key at hc
    rw [hc]
    rfl
  obtain ⟨σ1, hr, hk⟩ := key
  exact callW_any rfl Try.func15 rfl (run_txt t15_ok hr) hk

theorem ifB_t (X Y : Res) : ifB true X Y = X := rfl
theorem ifB_f (X Y : Res) : ifB false X Y = Y := rfl

set_option maxRecDepth 100000 in
theorem deep_round (f k : Nat) {σ : St} {tx cb nx gx tb mb N : Nat} {es : Ents} {clock : Nat} (h : DInv σ tx cb nx gx tb mb N es clock) (hN : N ≤ 25) (hN1 : 1 ≤ N) {v : V} {xs : List Int} (hv : IntsV v xs) {i : Nat} (hi : i < xs.length) (hi2 : i < 20) :
    ∃ σ', t4_0 (aCall env (f + 8)) k [v, .ptr nx 0 0, .ptr cb 0 0, .ptr gx 0 0, .int .i64 (i : Int)] σ = some (.norm, [v, .ptr nx 0 0, .ptr cb 0 0, .ptr gx 0 0, .int .i64 ((i + 1 : Nat) : Int)], σ') ∧ Keeps σ σ' := by
  obtain ⟨j, hj, hp⟩ := pick_nat (f + 7) xs[i] N σ (by omega) (by omega)
  obtain ⟨σ1, hc, hk⟩ := deep_there f h hN hj
  have h1 := h.to hk
  refine ⟨σ1, ?_, hk⟩
  unfold t4_0
  simp only [x_lit, x_un5]
  have l1 : ltI (i : Int) (xs.length : Int) = true := by rw [ltI_eq]; simpa using hi
  have l2 : ltI (i : Int) 20 = true := by rw [ltI_eq]; simpa using by omega
  simp only [ints_len hv, x_i64K, l1, x_andT, l2, x_pK, x_iteR, if_true, x_aiK, ints_get hv hi, x_ldbox h.env.n rfl, hp, x_ldbox h.env.g rfl, callV, List.cons_append, List.nil_append, hc, x_ldbox h1.env.n rfl, V.beq_refl, x_gd]
  rw [x_subI _ (by omega) (by omega)]
  have e1 : eqI ((N - j : Nat) : Int) ((N : Int) - (j : Int)) = true := by rw [eqI_eq]; simpa using by omega
  simp only [x_i64K, e1, x_ntB, Bool.not_true, ifB_f, x_ldbox h1.calls rfl, x_ldbox h1.env.n rfl, eqI_eq, beq_self_eq_true, bK_eq, Bool.false_eq_true, if_false, x_bind, x_un6, x_boK, x_iteR]
  rw [x_addI _ (by omega) (by omega)]
  rfl
end Go.Proofs.Ytiephapklpfhfaa

namespace Go.Proofs.Ytiephapklpfhfaa
open Go SS

theorem keeps_refl (σ : St) : Keeps σ σ := ⟨Nat.le_refl _, fun _ _ => rfl⟩

set_option maxRecDepth 100000 in
set_option maxHeartbeats 1000000 in
theorem deep_run (n : Int) {v : V} {xs : List Int} (hv : IntsV v xs) : ∃ σ', t4 (aCall env 400) 400 [.int .i64 n, v] St.empty = some (.bool true, σ') := by
  generalize St.empty = σ
  -- the first argument's box
  have k0 := keeps_new σ (.blk [.int .i64 n] 3 0 false)
  have b0 := get_new_at σ (.blk [.int .i64 n] 3 0 false)
  have n0 : (σ.new (.blk [.int .i64 n] 3 0 false)).n = σ.n + 1 := rfl
  generalize hσ0 : σ.new (.blk [.int .i64 n] 3 0 false) = σ0 at k0 b0 n0
  generalize hnx : σ.n = nx at b0 n0
  obtain ⟨σ1, c1, k1⟩ := known_call 393 σ0
  have b1 := (k1.get nx (by omega)).trans b0
  have n1 := k1.n
  obtain ⟨σ2, c2, n2, t2, k2⟩ := new_table 399 σ1
  have b2 := (k2.get nx (by omega)).trans b1
  generalize htb : σ1.n + 1 = tb at c2 t2
  generalize hmb : σ1.n = mb at t2 n2
  -- the table's box
  have b3 := get_new_at σ2 (.blk [.ptr0] 31 0 false)
  have k3 := keeps_new σ2 (.blk [.ptr0] 31 0 false)
  have n3 : (σ2.new (.blk [.ptr0] 31 0 false)).n = σ2.n + 1 := rfl
  generalize hσ3 : σ2.new (.blk [.ptr0] 31 0 false) = σ3 at b3 k3 n3
  generalize htx : σ2.n = tx at b3 n3
  have b4 := get_put_at σ3 tx (.blk [.ptr tb 0 0] 31 0 false)
  have g4 : ∀ b, b ≠ tx → (σ3.put tx (.blk [.ptr tb 0 0] 31 0 false)).get b = σ3.get b := fun b h => get_put_ne h
  have n4 : (σ3.put tx (.blk [.ptr tb 0 0] 31 0 false)).n = σ3.n := rfl
  generalize hσ4 : σ3.put tx (.blk [.ptr tb 0 0] 31 0 false) = σ4 at b4 g4 n4
  have x4 : σ4.get nx = some (.blk [.int .i64 n] 3 0 false) := (g4 nx (by omega)).trans ((k3.get nx (by omega)).trans b2)
  obtain ⟨j, hj, hp⟩ := pick_nat 399 n 25 σ4 (by omega) (by omega)
  -- how many keys
  have b5 := get_put_at σ4 nx (.blk [.int .i64 ((1 + j : Nat) : Int)] 3 0 false)
  have g5 : ∀ b, b ≠ nx → (σ4.put nx (.blk [.int .i64 ((1 + j : Nat) : Int)] 3 0 false)).get b = σ4.get b := fun b h => get_put_ne h
  have n5 : (σ4.put nx (.blk [.int .i64 ((1 + j : Nat) : Int)] 3 0 false)).n = σ4.n := rfl
  generalize hσ5 : σ4.put nx (.blk [.int .i64 ((1 + j : Nat) : Int)] 3 0 false) = σ5 at b5 g5 n5
  obtain ⟨σ6, c6, k6⟩ := known_call 393 σ5
  have n6 := k6.n
  have t6 : σ6.get tx = some (.blk [.ptr tb 0 0] 31 0 false) := (k6.get tx (by omega)).trans ((g5 tx (by omega)).trans b4)
  have x6 : σ6.get nx = some (.blk [.int .i64 ((1 + j : Nat) : Int)] 3 0 false) := (k6.get nx (by omega)).trans b5
  have tab6 : Tab σ6 tb mb [] 0 := ⟨(k6.get tb (by omega)).trans ((g5 tb (by omega)).trans ((g4 tb (by omega)).trans ((k3.get tb (by omega)).trans t2.blk))),
    (k6.get mb (by omega)).trans ((g5 mb (by omega)).trans ((g4 mb (by omega)).trans ((k3.get mb (by omega)).trans t2.map)))⟩
  -- the counter
  have b7 := get_new_at σ6 (.blk [.int .i64 0] 3 0 false)
  have n7 : (σ6.new (.blk [.int .i64 0] 3 0 false)).n = σ6.n + 1 := rfl
  have k7 := keeps_new σ6 (.blk [.int .i64 0] 3 0 false)
  generalize hσ7 : σ6.new (.blk [.int .i64 0] 3 0 false) = σ7 at b7 n7 k7
  generalize hcb : σ6.n = cb at b7 n7
  have b8 := get_put_at σ7 cb (.blk [.int .i64 0] 3 0 false)
  have g8 : ∀ b, b ≠ cb → (σ7.put cb (.blk [.int .i64 0] 3 0 false)).get b = σ7.get b := fun b h => get_put_ne h
  have n8 : (σ7.put cb (.blk [.int .i64 0] 3 0 false)).n = σ7.n := rfl
  generalize hσ8 : σ7.put cb (.blk [.int .i64 0] 3 0 false) = σ8 at b8 g8 n8
  -- the function's box
  have b9 := get_new_at σ8 (.blk [.fn0] 33 0 false)
  have n9 : (σ8.new (.blk [.fn0] 33 0 false)).n = σ8.n + 1 := rfl
  have k9 := keeps_new σ8 (.blk [.fn0] 33 0 false)
  generalize hσ9 : σ8.new (.blk [.fn0] 33 0 false) = σ9 at b9 n9 k9
  generalize hgx : σ8.n = gx at b9 n9
  have b10 := get_put_at σ9 gx (.blk [.fn 15 [.ptr tx 0 0, .ptr cb 0 0, .ptr nx 0 0, .ptr gx 0 0]] 33 0 false)
  have g10 : ∀ b, b ≠ gx → (σ9.put gx (.blk [.fn 15 [.ptr tx 0 0, .ptr cb 0 0, .ptr nx 0 0, .ptr gx 0 0]] 33 0 false)).get b = σ9.get b := fun b h => get_put_ne h
  have n10 : (σ9.put gx (.blk [.fn 15 [.ptr tx 0 0, .ptr cb 0 0, .ptr nx 0 0, .ptr gx 0 0]] 33 0 false)).n = σ9.n := rfl
  generalize hσ10 : σ9.put gx (.blk [.fn 15 [.ptr tx 0 0, .ptr cb 0 0, .ptr nx 0 0, .ptr gx 0 0]] 33 0 false) = σ10 at b10 g10 n10
  have low : ∀ b, b < σ6.n → σ10.get b = σ6.get b := fun b hb => by rw [g10 b (by omega), k9.get b (by omega), g8 b (by omega), k7.get b hb]
  have de : DEnv σ10 tx cb nx gx tb mb (1 + j) := ⟨(low tx (by omega)).trans t6, (low nx (by omega)).trans x6, b10, by omega, by omega, by omega⟩
  have dc : σ10.get cb = some (.blk [.int .i64 ((0 : Nat) : Int)] 3 0 false) := by rw [g10 cb (by omega), k9.get cb (by omega)]; exact b8
  have dt : Tab σ10 tb mb [] 0 := ⟨(low tb (by omega)).trans tab6.blk, (low mb (by omega)).trans tab6.map⟩
  obtain ⟨σ11, L, clock, c11, d11, _⟩ := deep_new (by omega) j (392 - 7 * j) 0 de dc dt (by omega) (by omega) (fun _ _ _ => rfl)
  rw [show 392 - 7 * j + 7 * j + 8 = 400 from by omega] at c11
  have n11 := d11.n
  have di : DInv σ11 tx cb nx gx tb mb (1 + j) L clock := ⟨de.to d11.n d11.get, by rw [d11.calls]; simp [Nat.add_comm], d11.tab, fun i hi => by
    obtain ⟨x, x1, x2, _, x4⟩ := d11.cell i (by omega) hi
    exact ⟨x, x1, x2, x4⟩⟩
  obtain ⟨σ12, c12, s12⟩ := count_call 396 di.tab di.env.lt.2.2.2.1
  have di2 := di.to s12.keeps
  obtain ⟨σ13, c13, _⟩ := loop_rounds (P := t4_0 (aCall env 400) 400) (Inv := fun _ τ => DInv τ tx cb nx gx tb mb (1 + j) L clock) (mk := fun i => [v, .ptr nx 0 0, .ptr cb 0 0, .ptr gx 0 0, .int .i64 (i : Int)]) (res := []) (id := 0) (n := min xs.length 20)
    (fun i τ hi h => by
      obtain ⟨τ', e1, e2⟩ := deep_round 392 400 h (by omega) (by omega) hv (i := i) (by omega) (by omega)
      exact ⟨τ', e1, h.to e2⟩)
    (fun τ h => by
      unfold t4_0
      simp only [x_lit, x_un5, ints_len hv, x_i64K]
      by_cases hl : xs.length ≤ 20
      · have : ltI ((min xs.length 20 : Nat) : Int) (xs.length : Int) = false := by rw [ltI_eq]; simpa using by omega
        rw [this, x_andF, x_iteR]; rfl
      · have l1 : ltI ((min xs.length 20 : Nat) : Int) (xs.length : Int) = true := by rw [ltI_eq]; simpa using by omega
        have l2 : ltI ((min xs.length 20 : Nat) : Int) 20 = false := by rw [ltI_eq]; simpa using by omega
        rw [l1, x_andT, l2, x_pK, x_iteR]; rfl)
    (min xs.length 20) 0 400 σ12 (by omega) (by omega) di2
  refine ⟨σ13, ?_⟩
  unfold t4
  simp only [x_lit, x_un2, x_new]
  rw [show V.cellsF (.int .i64 n) = [.int .i64 n] from rfl, hσ0, c1]
  simp only [x_pK, x_boK, x_ntB, Bool.not_true, x_iteR, Bool.false_eq_true, if_false, c2, hσ3, hnx, htx]
  rw [x_onK rfl, x_stbox b3, hσ4, x_ldbox x4 rfl]
  rw [show (25 : Int) = ((25 : Nat) : Int) from rfl, hp, x_pK, x_i64K, x_addI _ (by omega) (by omega), x_stbox x4, show (1 + (j : Int)) = ((1 + j : Nat) : Int) from by omega, hσ5, c6]
  simp only [x_pK, x_boK, x_ntB, Bool.not_true, x_orF, x_ldbox t6 rfl, x_ptK, x_iteR, Bool.false_eq_true, if_false, hσ7, hcb]
  rw [x_stbox b7, hσ8]
  simp only [hσ9, hgx]
  rw [x_stbox b9, hσ10, x_ldbox b10 rfl]
  simp only [callV, List.cons_append, List.nil_append]
  rw [show (0 : Int) = ((0 : Nat) : Int) from rfl, c11, x_pK, x_ldbox di.env.n rfl, x_ldbox de.n rfl, V.beq_refl, x_gd, x_i64K, x_i64K]
  have e1 : eqI ((j + 1 : Nat) : Int) ((1 + j : Nat) : Int) = true := by rw [eqI_eq]; simpa using by omega
  have e2 : eqI (L.length : Int) ((1 + j : Nat) : Int) = true := by rw [eqI_eq, d11.len]; simpa using by omega
  rw [e1]
  simp only [x_ntB, Bool.not_true, ifB_f, x_ldbox di.calls rfl, x_ldbox di.env.n rfl, x_i64K, eqI_eq, beq_self_eq_true, bK_eq, Bool.false_eq_true, if_false, x_ldbox di.env.t rfl, c12, x_pK, x_ldbox di2.env.n rfl, V.beq_refl, x_gd, x_bind, x_un5, x_boK, x_iteR]
  rw [← eqI_eq, e2]
  simp only [Bool.not_true, x_iteR, Bool.false_eq_true, if_false]
  rw [show (V.int .i64 ((0 : Nat) : Int)) = .int .i64 ((0 : Nat) : Int) from rfl]
  erw [c13]
  rfl
end Go.Proofs.Ytiephapklpfhfaa
