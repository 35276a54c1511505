/-
  The run of the statement, whole. No condition.
-/
import Derived.Test.YtiephapklpfhfaaXF
namespace Go.Proofs.Ytiephapklpfhfaa
open Go SS

def callsV (b : Bool) : V := .int .i64 (if b then 1 else 0)

/-- A cell, and the number that its maker has. -/
structure CellAt (σ : St) (vb xb c ib j : Nat) (v : Int) (m : Bool) : Prop where
  ltc : c < σ.n
  lti : ib < σ.n
  idx : σ.get ib = some (.blk [.int .i64 (j : Int)] 3 0 false)
  new : m = false → σ.get c = some (.blk (cell0 (.fn 10 [.ptr xb 0 0, .ptr ib 0 0, .ptr vb 0 0])) 58 0 false)
  made : m = true → MadeCell σ c v

theorem CellAt.ty {σ : St} {vb xb c ib j : Nat} {v : Int} {m : Bool} (h : CellAt σ vb xb c ib j v m) : ∃ cs, σ.get c = some (.blk cs 58 0 false) := by
  cases m with
  | false => exact ⟨_, h.new rfl⟩
  | true => obtain ⟨cs, h1, _⟩ := h.made rfl; exact ⟨cs, h1⟩

theorem CellAt.to {σ σ' : St} {vb xb c ib j : Nat} {v : Int} {m : Bool} (h : CellAt σ vb xb c ib j v m) (hn : σ.n ≤ σ'.n) (hc : σ'.get c = σ.get c) (hi : σ'.get ib = σ.get ib) : CellAt σ' vb xb c ib j v m :=
  ⟨Nat.lt_of_lt_of_le h.ltc hn, Nat.lt_of_lt_of_le h.lti hn, hi.trans h.idx, fun e => hc.trans (h.new e), fun e => (h.made e).to hc⟩

theorem ty_ne {σ : St} {a b t t' : Nat} {cs cs' : List V} {v v' : Nat} {f f' : Bool} (h : σ.get a = some (.blk cs t v f)) (h' : σ.get b = some (.blk cs' t' v' f')) (hne : t ≠ t') : a ≠ b := by
  intro e; subst e; rw [h] at h'; cases h'; exact hne rfl

/-- The cells so far. -/
structure Cells (σ : St) (vb xb kb : Nat) (a0 : V) (n : Nat) (cl : List (Nat × Nat)) (xs : List Int) (ms : List Bool) : Prop where
  vals : σ.get vb = some (.blk [a0] 22 0 false)
  xbox : σ.get xb = some (.blk [.ref kb 0 0 n (some n)] 22 0 false)
  calls : σ.get kb = some (.blk (ms.map callsV) 3 0 false)
  lt : vb < σ.n ∧ xb < σ.n ∧ kb < σ.n
  len : ms.length = n
  at_ : ∀ (j c ib : Nat) (m : Bool), cl[j]? = some (c, ib) → ms[j]? = some m → ∃ v, xs[j]? = some v ∧ CellAt σ vb xb c ib j v m
  nd : ∀ (j k c ib c' ib' : Nat), cl[j]? = some (c, ib) → cl[k]? = some (c', ib') → j ≠ k → c ≠ c'
  nk : ∀ (j c ib : Nat), cl[j]? = some (c, ib) → ib ≠ kb

theorem maker10 (k : Nat) {σ τ : St} {vb xb kb n : Nat} {a0 : V} {cl : List (Nat × Nat)} {xs : List Int} {ms : List Bool} (h : Cells σ vb xb kb a0 n cl xs ms) (ha : IntsV a0 xs) {j c ib : Nat} (hcl : cl[j]? = some (c, ib)) (hm : ms[j]? = some false)
    (hn : σ.n ≤ τ.n) (hg : ∀ b', b' < σ.n → b' ≠ c → τ.get b' = σ.get b') : ∃ τ' v, xs[j]? = some v ∧ aCall env (k + 1) 10 [.ptr xb 0 0, .ptr ib 0 0, .ptr vb 0 0] τ = some (.int .i64 v, τ') ∧ Upd τ τ' kb (.blk ((ms.set j true).map callsV) 3 0 false) := by
  obtain ⟨v, hv, hc⟩ := h.at_ j c ib false hcl hm
  obtain ⟨cs, hcc⟩ := hc.ty
  obtain ⟨l1, l2, l3⟩ := h.lt
  have e1 := (hg xb l2 (ty_ne h.xbox hcc (by decide))).trans h.xbox
  have e2 := (hg ib hc.lti (ty_ne hc.idx hcc (by decide))).trans hc.idx
  have e3 := (hg vb l1 (ty_ne h.vals hcc (by decide))).trans h.vals
  have e4 := (hg kb l3 (ty_ne h.calls hcc (by decide))).trans h.calls
  have hj : j < n := by rw [← h.len]; exact (List.getElem?_eq_some_iff.1 hm).1
  have hxs : xs ≠ [] := by intro e; rw [e] at hv; simp at hv
  obtain ⟨f, rfl⟩ : ∃ f, a0 = .lst (xs.map (V.int .i64)) f := by
    rcases ha with ⟨_, e⟩ | ha
    · exact absurd e hxs
    · exact ha
  obtain ⟨τ', m1, m2⟩ := maker_call k (i := j) (m := 0) (v := v) (calls := ms.map callsV) (xs := xs.map (V.int .i64)) (full := f) (σ := τ) (pc := xb) (pi := ib) (pv := vb) (cb := kb) (n := n) (c := n) (by omega) e1 e2 e3 e4 hj (by simp [hm, callsV]) (by decide) (by simp [hv]) (ty_ne h.vals h.calls (by decide)) (h.nk j c ib hcl)
  refine ⟨τ', v, hv, m1, ?_⟩
  have : (ms.map callsV).set j (.int .i64 (0 + 1)) = (ms.set j true).map callsV := by
    rw [List.map_set]; rfl
  rw [this] at m2
  exact m2

theorem idxRef {t e : TypeId} (h : ∃ inf, env.P.underlying t = some (.slice e) ∧ env.P.info? e = some inf ∧ inf.size = 1) {b v n i : Nat} {c : Option Nat} (hi : i < n) : indexAt env t (.ref b v 0 n c) (.int .i64 (i : Int)) = some (.ptr b v i) := by
  obtain ⟨inf, h1, h2, h3⟩ := h
  unfold indexAt
  simp [h1, h2, h3, inRange_nat hi]

theorem idx24 : ∃ inf, env.P.underlying 24 = some (.slice 25) ∧ env.P.info? 25 = some inf ∧ inf.size = 1 := by
  have h0 : (match env.P.info? 25 with | some i => Nat.beq i.size 1 | none => false) = true := by kernel_rfl
  cases hi : env.P.info? 25 with
  | none => rw [hi] at h0; cases h0
  | some i => rw [hi] at h0; exact ⟨i, by kernel_rfl, rfl, Nat.eq_of_beq_eq_true h0⟩
theorem idx28 : ∃ inf, env.P.underlying 28 = some (.slice 4) ∧ env.P.info? 4 = some inf ∧ inf.size = 1 := by
  have h0 : (match env.P.info? 4 with | some i => Nat.beq i.size 1 | none => false) = true := by kernel_rfl
  cases hi : env.P.info? 4 with
  | none => rw [hi] at h0; cases h0
  | some i => rw [hi] at h0; exact ⟨i, by kernel_rfl, rfl, Nat.eq_of_beq_eq_true h0⟩

/-- A cell's Get, made or not; the cells behind it. -/
theorem cells_get (f : Nat) {σ : St} {vb xb kb n : Nat} {a0 : V} {cl : List (Nat × Nat)} {xs : List Int} {ms : List Bool} (h : Cells σ vb xb kb a0 n cl xs ms) (ha : IntsV a0 xs) (hcn : cl.length = n) {j c ib : Nat} (hcl : cl[j]? = some (c, ib)) :
    ∃ v σ', xs[j]? = some v ∧ aCall env (f + 6) 13 [.ptr c 0 0] σ = some (.int .i64 v, σ') ∧ Cells σ' vb xb kb a0 n cl xs (ms.set j true) ∧ σ.n ≤ σ'.n ∧ ∀ b, b < σ.n → b ≠ kb → b ≠ c → σ'.get b = σ.get b := by
  have hj : j < cl.length := (List.getElem?_eq_some_iff.1 hcl).1
  obtain ⟨m, hm⟩ : ∃ m, ms[j]? = some m := ⟨ms[j]'(by rw [h.len]; omega), by simp [h.len, ← hcn, hj]⟩
  obtain ⟨v, hv, hc⟩ := h.at_ j c ib m hcl hm
  cases m with
  | true =>
    obtain ⟨cs, h1, h2, h3, h4⟩ := hc.made rfl
    refine ⟨v, σ, hv, get_made (f + 2) hc.ltc h1 h2 h3, ?_, Nat.le_refl _, fun _ _ _ _ => rfl⟩
    rw [show ms.set j true = ms from ?_]
    · exact h
    · apply List.ext_getElem?
      intro i
      rw [List.getElem?_set]
      split
      · rename_i e; subst e
        split
        · exact hm.symm
        · rename_i hh; exact absurd (List.getElem?_eq_some_iff.1 hm).1 hh
      · rfl
  | false =>
    have hcell := hc.new rfl
    obtain ⟨l1, l2, l3⟩ := h.lt
    obtain ⟨τm, σ', hq, e13, hn, _, hd⟩ := get_new f (σ := σ) (b := c) (v := v) (Q := fun τ' => τ'.get kb = some (.blk ((ms.set j true).map callsV) 3 0 false) ∧ ∀ b, b < σ.n → b ≠ kb → b ≠ c → τ'.get b = σ.get b) hcell rfl rfl rfl rfl hc.ltc (fun τ0 h2 h3 => by
      obtain ⟨τ', v', hv', m1, m2⟩ := maker10 (f + 1) h ha hcl hm h2 h3
      rw [hv] at hv'; cases hv'
      have hck : c ≠ kb := ty_ne hcell h.calls (by decide)
      exact ⟨τ', m1, Nat.le_of_eq m2.n.symm, m2.other c hck, fun b' h4 _ => m2.other b' (by omega), m2.at_, fun b hb hb1 hb2 => (m2.other b hb1).trans (h3 b hb hb2)⟩)
    have hother : ∀ b, b < σ.n → b ≠ kb → b ≠ c → σ'.get b = σ.get b := fun b hb h1 h2 => (hd.other b h2).trans (hq.2 b hb h1 h2)
    have hck : c ≠ kb := ty_ne hcell h.calls (by decide)
    have hsn : σ.n ≤ σ'.n := by rw [hd.n]; exact hn
    refine ⟨v, σ', hv, e13, ⟨(hother vb l1 (ty_ne h.vals h.calls (by decide)) (ty_ne h.vals hcell (by decide))).trans h.vals, (hother xb l2 (ty_ne h.xbox h.calls (by decide)) (ty_ne h.xbox hcell (by decide))).trans h.xbox, (hd.other kb (fun e => hck e.symm)).trans hq.1, ⟨by omega, by omega, by omega⟩, by simp [h.len], ?_, h.nd, h.nk⟩, hsn, hother⟩
    intro j' c' ib' m' hcl' hm'
    by_cases hjj : j' = j
    · subst hjj
      rw [hcl] at hcl'; cases hcl'
      rw [List.getElem?_set_self (by rw [h.len]; omega)] at hm'
      cases hm'
      refine ⟨v, hv, ⟨Nat.lt_of_lt_of_le hc.ltc hsn, Nat.lt_of_lt_of_le hc.lti hsn, (hother ib hc.lti (h.nk _ _ _ hcl) (ty_ne hc.idx hcell (by decide))).trans hc.idx, fun e => (by cases e), fun _ => ⟨_, hd.cell, rfl, rfl, rfl⟩⟩⟩
    · rw [List.getElem?_set_ne (fun e => hjj e.symm)] at hm'
      obtain ⟨v', hv', hc'⟩ := h.at_ j' c' ib' m' hcl' hm'
      obtain ⟨cs', ht'⟩ := hc'.ty
      exact ⟨v', hv', hc'.to hsn (hother c' hc'.ltc (ty_ne ht' h.calls (by decide)) (h.nd _ _ _ _ _ _ hcl' hcl hjj)) (hother ib' hc'.lti (h.nk _ _ _ hcl') (ty_ne hc'.idx hcell (by decide)))⟩
end Go.Proofs.Ytiephapklpfhfaa

namespace Go.Proofs.Ytiephapklpfhfaa
open Go SS

def ptrsOf (cl : List (Nat × Nat)) : List V := cl.map fun p => .ptr p.1 0 0
/-- The slice of the cells. -/
def cellsV (b n : Nat) : V := if n = 0 then .nilS else .ref b (n - 1) 0 n none

theorem x_un9 {R : Type} (f : V → V → V → V → V → V → V → V → V → St → Option R) (a b c d e g h i j : V) (σ : St) : un9 f [a, b, c, d, e, g, h, i, j] σ = f a b c d e g h i j σ := rfl

/-- Between the rounds of the first loop: i cells are there. -/
structure Fst (σ : St) (vb xb kb : Nat) (a0 : V) (n : Nat) (xs : List Int) (i : Nat) (b ib : Nat) (cl : List (Nat × Nat)) : Prop where
  cells : Cells σ vb xb kb a0 n cl xs (List.replicate n false)
  len : cl.length = i
  row : 0 < i → b < σ.n ∧ σ.get b = some (.blk (ptrsOf cl) 25 (i - 1) false)
  idx : σ.get ib = some (.blk [.int .i64 (i : Int)] 3 0 false)
  lti : ib < σ.n
  nk : ib ≠ kb
  old : ∀ (j c ib' : Nat), cl[j]? = some (c, ib') → ib' ≠ ib

set_option maxRecDepth 100000 in
set_option maxHeartbeats 1000000 in
theorem fst_round (f k : Nat) {σ : St} {vb xb kb n i b ib : Nat} {a0 a1 : V} {xs : List Int} {cl : List (Nat × Nat)} (h : Fst σ vb xb kb a0 n xs i b ib cl) (hi : i < n) (hn : n ≤ 12) (hx : n ≤ xs.length) :
    ∃ b' ib' cl' σ', t3_0 (aCall env (f + 1)) k [a1, .ptr vb 0 0, cellsV b i, .int .i64 (n : Int), .ptr xb 0 0, .ptr ib 0 0] σ = some (.norm, [a1, .ptr vb 0 0, cellsV b' (i + 1), .int .i64 (n : Int), .ptr xb 0 0, .ptr ib' 0 0], σ') ∧ Fst σ' vb xb kb a0 n xs (i + 1) b' ib' cl' := by
  obtain ⟨l1, l2, l3⟩ := h.cells.lt
  have hii := h.lti
  obtain ⟨σ1, c9, n1, g1, o1⟩ := new_call f σ 10 [.ptr xb 0 0, .ptr ib 0 0, .ptr vb 0 0]
  -- the slice grows
  obtain ⟨b', σ2, happ, hb', n2, row2, o2⟩ : ∃ b' σ2, (∀ K : V → St → Res, appK 25 1 1 [.ptr σ.n 0 0] (cellsV b i) σ1 K = K (cellsV b' (i + 1)) σ2) ∧ b' < σ2.n ∧ σ1.n ≤ σ2.n ∧ σ2.get b' = some (.blk (ptrsOf (cl ++ [(σ.n, ib)])) 25 i false) ∧ ∀ x, x < σ1.n → (i = 0 ∨ x ≠ b) → σ2.get x = σ1.get x := by
    rcases Nat.eq_zero_or_pos i with h0 | h0
    · subst h0
      have hcl : cl = [] := List.eq_nil_of_length_eq_zero h.len
      subst hcl
      exact ⟨σ1.n, σ1.new (.blk [.ptr σ.n 0 0] 25 0 false), fun K => x_app_nil 25 1 1 _ (by omega) K, Nat.lt_succ_self _, Nat.le_succ _, get_new_at _ _, fun x hx _ => get_new_ne (by omega)⟩
    · obtain ⟨r1, r2⟩ := h.row h0
      have r3 : σ1.get b = some (.blk (ptrsOf cl) 25 (i - 1) false) := (o1 b r1).trans r2
      refine ⟨b, σ1.put b (.blk (ptrsOf cl ++ [.ptr σ.n 0 0]) 25 (i - 1 + 1) false), fun K => ?_, by show b < σ1.n; omega, Nat.le_refl _, ?_, fun x _ hx => get_put_ne (by omega)⟩
      · unfold cellsV
        rw [if_neg (by omega), if_neg (by omega), x_app_ref r3 (by simp [ptrsOf, h.len]) (by omega) (by omega)]
        rw [show i + 1 - 1 = i - 1 + 1 from by omega]
      · rw [get_put_at, show i - 1 + 1 = i from by omega]
        simp [ptrsOf]
  have hbn : ∀ x cs t v fz, σ.get x = some (.blk cs t v fz) → t ≠ 25 → (i = 0 ∨ x ≠ b) := by
    intro x cs t v fz hx ht
    rcases Nat.eq_zero_or_pos i with h0 | h0
    · exact .inl h0
    · exact .inr (ty_ne hx (h.row h0).2 ht)
  have low : ∀ x cs t v fz, x < σ.n → σ.get x = some (.blk cs t v fz) → t ≠ 25 → σ2.get x = some (.blk cs t v fz) := fun x cs t v fz hlt hx ht => by rw [o2 x (by omega) (hbn x cs t v fz hx ht), o1 x hlt, hx]
  have idx2 : σ2.get ib = some (.blk [.int .i64 (i : Int)] 3 0 false) := low _ _ _ _ _ hii h.idx (by decide)
  have cell2 : σ2.get σ.n = some (.blk (cell0 (.fn 10 [.ptr xb 0 0, .ptr ib 0 0, .ptr vb 0 0])) 58 0 false) := by
    rw [o2 σ.n (by omega) ?_]; exact g1
    rcases Nat.eq_zero_or_pos i with h0 | h0
    · exact .inl h0
    · exact .inr (by have := (h.row h0).1; omega)
  -- the new number
  have b3 := get_new_at σ2 (.blk [.int .i64 0] 3 0 false)
  have k3 := keeps_new σ2 (.blk [.int .i64 0] 3 0 false)
  have n3 : (σ2.new (.blk [.int .i64 0] 3 0 false)).n = σ2.n + 1 := rfl
  generalize hσ3 : σ2.new (.blk [.int .i64 0] 3 0 false) = σ3 at b3 k3 n3
  have b4 := get_put_at σ3 σ2.n (.blk [.int .i64 (i : Int)] 3 0 false)
  have k4 := keeps_put k3 (Nat.le_refl _) (.blk [.int .i64 (i : Int)] 3 0 false)
  have n4 : (σ3.put σ2.n (.blk [.int .i64 (i : Int)] 3 0 false)).n = σ3.n := rfl
  generalize hσ4 : σ3.put σ2.n (.blk [.int .i64 (i : Int)] 3 0 false) = σ4 at b4 k4 n4
  have b5 := get_put_at σ4 σ2.n (.blk [.int .i64 ((i + 1 : Nat) : Int)] 3 0 false)
  have k5 := keeps_put k4 (Nat.le_refl _) (.blk [.int .i64 ((i + 1 : Nat) : Int)] 3 0 false)
  have n5 : (σ4.put σ2.n (.blk [.int .i64 ((i + 1 : Nat) : Int)] 3 0 false)).n = σ4.n := rfl
  generalize hσ5 : σ4.put σ2.n (.blk [.int .i64 ((i + 1 : Nat) : Int)] 3 0 false) = σ5 at b5 k5 n5
  have low5 : ∀ x cs t v fz, x < σ.n → σ.get x = some (.blk cs t v fz) → t ≠ 25 → σ5.get x = some (.blk cs t v fz) := fun x cs t v fz hlt hx ht => (k5.get x (by omega)).trans (low x cs t v fz hlt hx ht)
  refine ⟨b', σ2.n, cl ++ [(σ.n, ib)], σ5, ?_, ⟨⟨low5 _ _ _ _ _ l1 h.cells.vals (by decide), low5 _ _ _ _ _ l2 h.cells.xbox (by decide), low5 _ _ _ _ _ l3 h.cells.calls (by decide), by omega, by simp, ?_, ?_, ?_⟩, by simp [h.len], fun _ => ⟨by omega, (k5.get b' hb').trans row2⟩, b5, by omega, by omega, ?_⟩⟩
  · unfold t3_0
    simp only [x_lit, x_un6]
    have hlt : ltI (i : Int) (n : Int) = true := by rw [ltI_eq]; simpa using hi
    rw [x_ldbox h.idx rfl, x_i64K, x_i64K, hlt, x_iteR, if_pos rfl, c9, x_pK, x_ptK, x_iteR, if_neg (by decide), x_onK rfl, happ, x_ldbox idx2 rfl, x_new, hσ3, x_stbox b3, hσ4, x_ldbox b4 rfl, x_i64K, x_addI _ (by omega) (by omega), x_stbox b4, show (i : Int) + 1 = ((i + 1 : Nat) : Int) from by omega, hσ5]
  · intro j c ib' m hcl hm
    rw [List.getElem?_append] at hcl
    split at hcl
    · obtain ⟨v, hv, hc⟩ := h.cells.at_ j c ib' m hcl hm
      obtain ⟨cs, ht⟩ := hc.ty
      exact ⟨v, hv, hc.to (by omega) ((low5 _ _ _ _ _ hc.ltc ht (by decide)).trans ht.symm) ((low5 _ _ _ _ _ hc.lti hc.idx (by decide)).trans hc.idx.symm)⟩
    · rename_i hj
      have hj1 : j = i := by
        have : j - cl.length < 1 := by
          rcases Nat.lt_or_ge (j - cl.length) 1 with h | h
          · exact h
          · rw [List.getElem?_eq_none (by simpa using h)] at hcl; cases hcl
        have := h.len; omega
      subst hj1
      rw [h.len, Nat.sub_self] at hcl
      cases hcl
      rw [List.getElem?_replicate, if_pos hi] at hm
      cases hm
      refine ⟨xs[j]'(by omega), by simp, ⟨by omega, by omega, low5 _ _ _ _ _ hii h.idx (by decide), fun _ => (k5.get _ (by omega)).trans cell2, fun e => by cases e⟩⟩
  · intro j q c ib' c' ib'' h1 h2 hne
    rw [List.getElem?_append] at h1 h2
    have lt : ∀ (j c ib' : Nat), cl[j]? = some (c, ib') → c < σ.n := fun j c ib' hh => by
      have hj : j < n := by have := (List.getElem?_eq_some_iff.1 hh).1; have := h.len; omega
      obtain ⟨v, hv, hc⟩ := h.cells.at_ j c ib' false hh (by simp [hj])
      exact hc.ltc
    have one : ∀ (j c ib' : Nat), ¬ j < cl.length → [(σ.n, ib)][j - cl.length]? = some (c, ib') → j = cl.length ∧ c = σ.n := fun j c ib' hj hh => by
      have : j - cl.length < 1 := by
        rcases Nat.lt_or_ge (j - cl.length) 1 with h | h
        · exact h
        · rw [List.getElem?_eq_none (by simpa using h)] at hh; cases hh
      have e : j - cl.length = 0 := by omega
      rw [e] at hh; cases hh
      exact ⟨by omega, rfl⟩
    split at h1 <;> split at h2
    · exact h.cells.nd j q c ib' c' ib'' h1 h2 hne
    · obtain ⟨e1, rfl⟩ := one _ _ _ (by assumption) h2
      have := lt _ _ _ h1; omega
    · obtain ⟨e1, rfl⟩ := one _ _ _ (by assumption) h1
      have := lt _ _ _ h2; omega
    · obtain ⟨e1, _⟩ := one _ _ _ (by assumption) h1
      obtain ⟨e2, _⟩ := one _ _ _ (by assumption) h2
      omega
  · intro j c ib' hcl
    rw [List.getElem?_append] at hcl
    split at hcl
    · exact h.cells.nk j c ib' hcl
    · have : j - cl.length < 1 := by
        rcases Nat.lt_or_ge (j - cl.length) 1 with h | h
        · exact h
        · rw [List.getElem?_eq_none (by simpa using h)] at hcl; cases hcl
      have e : j - cl.length = 0 := by omega
      rw [e] at hcl; cases hcl
      exact h.nk
  · intro j c ib' hcl
    rw [List.getElem?_append] at hcl
    split at hcl
    · have hj : j < n := by have := (List.getElem?_eq_some_iff.1 hcl).1; have := h.len; omega
      obtain ⟨v, hv, hc⟩ := h.cells.at_ j c ib' false hcl (by simp [hj])
      have := hc.lti; omega
    · have : j - cl.length < 1 := by
        rcases Nat.lt_or_ge (j - cl.length) 1 with h | h
        · exact h
        · rw [List.getElem?_eq_none (by simpa using h)] at hcl; cases hcl
      have e : j - cl.length = 0 := by omega
      rw [e] at hcl; cases hcl
      omega
end Go.Proofs.Ytiephapklpfhfaa

namespace Go.Proofs.Ytiephapklpfhfaa
open Go SS

/-- Behind the first loop. -/
structure Snd (σ : St) (vb xb kb : Nat) (a0 : V) (n : Nat) (xs : List Int) (b ab : Nat) (cl : List (Nat × Nat)) (ms : List Bool) : Prop where
  cells : Cells σ vb xb kb a0 n cl xs ms
  len : cl.length = n
  row : 0 < n → b < σ.n ∧ σ.get b = some (.blk (ptrsOf cl) 25 (n - 1) false)
  asked : σ.get ab = some (.blk (ms.map V.bool) 4 0 false)
  lta : ab < σ.n

theorem Snd.at_ {σ : St} {vb xb kb n b ab : Nat} {a0 : V} {xs : List Int} {cl : List (Nat × Nat)} {ms : List Bool} (h : Snd σ vb xb kb a0 n xs b ab cl ms) {j : Nat} (hj : j < n) :
    ∃ c ib m v cs, cl[j]? = some (c, ib) ∧ ms[j]? = some m ∧ xs[j]? = some v ∧ CellAt σ vb xb c ib j v m ∧ σ.get c = some (.blk cs 58 0 false) ∧ cs[5]? = some (.int .u32 (if m then 1 else 0)) := by
  obtain ⟨p, hp⟩ : ∃ p, cl[j]? = some p := ⟨cl[j]'(by rw [h.len]; exact hj), by simp [h.len, hj]⟩
  obtain ⟨c, ib⟩ := p
  obtain ⟨m, hm⟩ : ∃ m, ms[j]? = some m := ⟨ms[j]'(by rw [h.cells.len]; exact hj), by simp [h.cells.len, hj]⟩
  obtain ⟨v, hv, hc⟩ := h.cells.at_ j c ib m hp hm
  cases m with
  | false => exact ⟨c, ib, false, v, _, hp, hm, hv, hc, hc.new rfl, rfl⟩
  | true => obtain ⟨cs, h1, h2, h3, h4⟩ := hc.made rfl; exact ⟨c, ib, true, v, cs, hp, hm, hv, hc, h1, h4⟩

theorem cells_vals {a0 : V} {xs : List Int} (ha : IntsV a0 xs) {j : Nat} {v : Int} (hv : xs[j]? = some v) : ∃ f, a0 = .lst (xs.map (V.int .i64)) f := by
  rcases ha with ⟨_, e⟩ | ha
  · rw [e] at hv; simp at hv
  · exact ha

set_option maxRecDepth 100000 in
set_option maxHeartbeats 1000000 in
theorem snd_round (f k : Nat) {σ : St} {vb xb kb n b ab : Nat} {a0 a1 : V} {xs ys : List Int} {cl : List (Nat × Nat)} {ms : List Bool} (h : Snd σ vb xb kb a0 n xs b ab cl ms) (ha : IntsV a0 xs) (hb : IntsV a1 ys) (hn : 0 < n) (hn2 : n ≤ 12) {i : Nat} (hi : i < ys.length) (hi2 : i < 40) :
    ∃ σ' ms', t3_1 (aCall env (f + 6)) k [a1, .ptr vb 0 0, cellsV b n, .int .i64 (n : Int), .ptr xb 0 0, .ref ab 0 0 n (some n), .int .i64 (i : Int)] σ = some (.norm, [a1, .ptr vb 0 0, cellsV b n, .int .i64 (n : Int), .ptr xb 0 0, .ref ab 0 0 n (some n), .int .i64 ((i + 1 : Nat) : Int)], σ') ∧ Snd σ' vb xb kb a0 n xs b ab cl ms' := by
  obtain ⟨j, hj, hp⟩ := pick_nat (f + 5) ys[i] n σ (by omega) (by omega)
  obtain ⟨c, ib, m, v, cs, hcl, hm, hv, hc, hcs, h5⟩ := h.at_ hj
  obtain ⟨r1, r2⟩ := h.row hn
  have c12 := made_call (f + 3) (σ := σ) (b := c) hcs h5
  have hmm : ((if m then (1 : Int) else 0) != 0) = m := by cases m <;> rfl
  rw [hmm] at c12
  obtain ⟨v', σ', hv', c13, hcells, hn', ho⟩ := cells_get f h.cells ha h.len hcl
  rw [hv] at hv'; cases hv'
  obtain ⟨fl, rfl⟩ := cells_vals ha hv
  have hval : σ'.get vb = _ := hcells.vals
  have hptr : (ptrsOf cl)[j]? = some (.ptr c 0 0) := by simp [ptrsOf, hcl]
  have hask : (ms.map V.bool)[j]? = some (.bool m) := by simp [hm]
  have hask' : σ'.get ab = some (.blk (ms.map V.bool) 4 0 false) := (ho ab h.lta (ty_ne h.asked h.cells.calls (by decide)) (ty_ne h.asked hcs (by decide))).trans h.asked
  have hrow' : σ'.get b = some (.blk (ptrsOf cl) 25 (n - 1) false) := (ho b r1 (ty_ne r2 h.cells.calls (by decide)) (ty_ne r2 hcs (by decide))).trans r2
  have hset : (ms.map V.bool).set j (.bool true) = (ms.set j true).map V.bool := by rw [List.map_set]
  have hjm : j < ms.length := by rw [h.cells.len]; exact hj
  refine ⟨σ'.put ab (.blk ((ms.set j true).map V.bool) 4 0 false), ms.set j true, ?_, ⟨?_, h.len, fun _ => ⟨?_, ?_⟩, get_put_at _ _ _, ?_⟩⟩
  · unfold t3_1
    simp only [x_lit, x_un7]
    have l1 : ltI (i : Int) (ys.length : Int) = true := by rw [ltI_eq]; simpa using hi
    have l2 : ltI (i : Int) 40 = true := by rw [ltI_eq]; simpa using by omega
    have l3 : ltI 0 (n : Int) = true := by rw [ltI_eq]; simpa using hn
    simp only [ints_len hb, x_i64K, l1, x_andT, l2, x_pK, l3, x_iteR, if_true, x_aiK, ints_get hb hi, hp]
    have ic : indexAt env 24 (cellsV b n) (.int .i64 (j : Int)) = some (.ptr b (n - 1) j) := by
      unfold cellsV; rw [if_neg (by omega)]; exact idxRef idx24 hj
    rw [ic, x_oK, x_ld1 (o := j) (off := 0) r2 hptr rfl, c12, x_pK, idxRef idx28 hj, x_oK, x_ld1 (o := j) (off := 0) h.asked hask rfl, x_ld1 (o := j) (off := 0) h.asked hask rfl, V.beq_refl, x_gd, x_boK, x_boK, eqB_eq, beq_self_eq_true, x_ntB]
    simp only [Bool.not_true, ifB_f, x_oK]
    rw [x_ld1 (o := j) (off := 0) r2 hptr rfl, c13, x_pK, x_ldbox hval rfl, x_ldbox h.cells.vals rfl, V.beq_refl, x_gd, idx_lst (v := v) (by simp [hv]), x_oK]
    rw [x_ld1_eptr (x := .int .i64 v) (v := .int .i64 v) (by simp [hv]) rfl rfl, x_ld1_eptr (x := .int .i64 v) (v := .int .i64 v) (by simp [hv]) rfl rfl, V.beq_refl, x_gd, x_i64K, x_i64K, eqI_eq, beq_self_eq_true]
    simp only [x_ntB, Bool.not_true, bK_eq, Bool.false_eq_true, if_false, x_bind, x_un9, x_boK, x_iteR, x_aiK]
    rw [x_stE1_ref hj hask' (by simp; omega), x_i64K, x_addI _ (by omega) (by omega), show 0 + (j * 1 + 0) = j from by omega, hset]
    rfl
  · obtain ⟨q1, q2, q3, q4, q5, q6, q7, q8⟩ := hcells
    refine ⟨(get_put_ne (ty_ne q1 hask' (by decide))).trans q1, (get_put_ne (ty_ne q2 hask' (by decide))).trans q2, (get_put_ne (ty_ne q3 hask' (by decide))).trans q3, q4, q5, fun j' c' ib' m' e1 e2 => ?_, q7, q8⟩
    obtain ⟨v', hv', hc'⟩ := q6 j' c' ib' m' e1 e2
    obtain ⟨cs', ht'⟩ := hc'.ty
    exact ⟨v', hv', hc'.to (Nat.le_refl _) (get_put_ne (ty_ne ht' hask' (by decide))) (get_put_ne (ty_ne hc'.idx hask' (by decide)))⟩
  · show b < σ'.n; omega
  · rw [get_put_ne (ty_ne hrow' hask' (by decide))]; exact hrow'
  · show ab < σ'.n; have := h.lta; omega

set_option maxRecDepth 100000 in
set_option maxHeartbeats 1000000 in
theorem thd_round (f k : Nat) {σ : St} {vb xb kb n b ab : Nat} {a0 : V} {xs : List Int} {cl : List (Nat × Nat)} {ms : List Bool} (h : Snd σ vb xb kb a0 n xs b ab cl ms) (hn2 : n ≤ 12) {i : Nat} (hi : i < n) :
    t3_2 (aCall env (f + 6)) k [cellsV b n, .int .i64 (n : Int), .ptr xb 0 0, .ref ab 0 0 n (some n), .int .i64 (i : Int)] σ = some (.norm, [cellsV b n, .int .i64 (n : Int), .ptr xb 0 0, .ref ab 0 0 n (some n), .int .i64 ((i + 1 : Nat) : Int)], σ) := by
  obtain ⟨c, ib, m, v, cs, hcl, hm, hv, hc, hcs, h5⟩ := h.at_ hi
  obtain ⟨r1, r2⟩ := h.row (by omega)
  have c12 := made_call (f + 3) (σ := σ) (b := c) hcs h5
  have hmm : ((if m then (1 : Int) else 0) != 0) = m := by cases m <;> rfl
  rw [hmm] at c12
  have hptr : (ptrsOf cl)[i]? = some (.ptr c 0 0) := by simp [ptrsOf, hcl]
  have hask : (ms.map V.bool)[i]? = some (.bool m) := by simp [hm]
  have hcal : (ms.map callsV)[i]? = some (.int .i64 (if m then 1 else 0)) := by simp [hm, callsV]
  have ic : indexAt env 24 (cellsV b n) (.int .i64 (i : Int)) = some (.ptr b (n - 1) i) := by
    unfold cellsV; rw [if_neg (by omega)]; exact idxRef idx24 hi
  have iv : indexAt env 22 (.ref kb 0 0 n (some n)) (.int .i64 (i : Int)) = some (.ptr kb 0 i) := idxRef idx22 hi
  unfold t3_2
  simp only [x_lit, x_un5]
  have l1 : ltI (i : Int) (n : Int) = true := by rw [ltI_eq]; simpa using hi
  rw [x_i64K, x_i64K, l1, x_iteR, if_pos rfl, x_aiK, idxRef idx28 hi, x_oK, x_ld1 (o := i) (off := 0) h.asked hask rfl, x_ldbox h.cells.xbox rfl, x_aiK, iv, x_oK, x_ld1 (o := i) (off := 0) h.cells.calls hcal rfl, x_i64K, x_boK]
  have e1 : eqB m (eqI (if m then 1 else 0) 1) = true := by cases m <;> rfl
  have e2 : ltI 1 (if m then 1 else 0) = false := by cases m <;> rfl
  rw [e1, x_ntB]
  simp only [Bool.not_true, ifB_f, x_ldbox h.cells.xbox rfl, x_aiK, iv, x_oK]
  rw [x_ld1 (o := i) (off := 0) h.cells.calls hcal rfl, x_i64K, e2, bK_eq, if_neg (by decide)]
  simp only [ifB_f, ic, x_oK]
  rw [x_ld1 (o := i) (off := 0) r2 hptr rfl, c12, x_pK, idxRef idx28 hi, x_oK, x_ld1 (o := i) (off := 0) h.asked hask rfl, x_ld1 (o := i) (off := 0) h.asked hask rfl, V.beq_refl, x_gd, x_boK, x_boK, eqB_eq, beq_self_eq_true]
  simp only [x_ntB, Bool.not_true, bK_eq, Bool.false_eq_true, if_false, x_bind, x_un6, x_boK, x_iteR, x_i64K]
  rw [x_addI _ (by omega) (by omega)]
  rfl
end Go.Proofs.Ytiephapklpfhfaa

namespace Go.Proofs.Ytiephapklpfhfaa
open Go SS

theorem slice_made {t e : TypeId} {z : V} (h : (match env.P.underlying t with | some (.slice e') => Nat.beq e' e | _ => false) = true) (hi : (match env.P.info? e with | some i => Nat.beq i.size 1 && Nat.ble i.bytes 8 | none => false) = true) (hz : zeroOf env.P e = some z) (h1 : z.cells = [z]) (n : Nat) (hn : n ≤ 4294967296) (σ : St) :
    makeSliceV env t (.int .i64 (n : Int)) (.int .i64 (n : Int)) σ = some (.ref σ.n 0 0 n (some n), σ.new (.blk (List.replicate n z) e 0 false)) := by
  unfold makeSliceV
  cases hu : env.P.underlying t with
  | none => rw [hu] at h; cases h
  | some d =>
    rw [hu] at h
    cases d <;> simp only at h <;> first | (cases h; done) | skip
    rename_i e'
    have := Nat.eq_of_beq_eq_true h
    subst this
    cases hf : env.P.info? e' with
    | none => rw [hf] at hi; cases hi
    | some i =>
      rw [hf] at hi
      simp only [Bool.and_eq_true] at hi
      have hs := Nat.eq_of_beq_eq_true hi.1
      have hb := Nat.le_of_ble_eq_true hi.2
      have hrep : repl n [z] = List.replicate n z := by
        unfold repl
        induction n with
        | zero => rfl
        | succ n ih => rw [List.replicate_succ, List.flatten_cons, ih (by omega), List.replicate_succ]; rfl
      have hbb : i.bytes * n ≤ 140737488355328 := by
        have : i.bytes * n ≤ 8 * 4294967296 := Nat.mul_le_mul hb hn
        omega
      simp only [hz, hf, h1]
      show (if (Nat.ble n n && Nat.ble (i.bytes * n) 140737488355328 && Nat.ble n 4294967296 && Nat.beq [z].length i.size && Nat.blt 0 i.size) = true then some (V.ref σ.n 0 0 n (some n), σ.new (.blk (repl n [z]) e' 0 false)) else none) = _
      rw [if_pos, hrep]
      simp only [Bool.and_eq_true]
      refine ⟨⟨⟨⟨Nat.ble_eq_true_of_le (Nat.le_refl _), Nat.ble_eq_true_of_le hbb⟩, Nat.ble_eq_true_of_le hn⟩, ?_⟩, ?_⟩
      · rw [hs]; rfl
      · rw [hs]; rfl

theorem zero4 : zeroOf env.P 4 = some (.bool false) := by kernel_rfl

set_option maxRecDepth 100000 in
set_option maxHeartbeats 1000000 in
theorem cells_run {a0 a1 : V} {xs ys : List Int} (ha : IntsV a0 xs) (hb : IntsV a1 ys) : ∃ σ', t3 (aCall env 400) 400 [a0, a1] St.empty = some (.bool true, σ') := by
  generalize St.empty = σ
  have hc0 : V.cellsF a0 = [a0] := by rcases ha with ⟨rfl, _⟩ | ⟨f, rfl⟩ <;> rfl
  have ho : a0.one = true := by rcases ha with ⟨rfl, _⟩ | ⟨f, rfl⟩ <;> rfl
  have b0 := get_new_at σ (.blk [a0] 22 0 false)
  have n0 : (σ.new (.blk [a0] 22 0 false)).n = σ.n + 1 := rfl
  generalize hσ0 : σ.new (.blk [a0] 22 0 false) = σ0 at b0 n0
  generalize hvb : σ.n = vb at b0 n0
  obtain ⟨σ1, c1, k1⟩ := known_call 393 σ0
  have b1 := (k1.get vb (by omega)).trans b0
  have n1 := k1.n
  obtain ⟨n, hn⟩ : ∃ n, n = min xs.length 12 := ⟨_, rfl⟩
  have hmin : bK (ltI 12 (xs.length : Int)) 12 (xs.length : Int) = (n : Int) := by
    rw [bK_eq, ltI_eq]
    split <;> rename_i hh <;> simp at hh <;> omega
  have mk := slice_made (t := 22) (e := 3) (by kernel_rfl) (by kernel_rfl) zero3 rfl n (by omega) σ1
  have b2 := get_new_at σ1 (.blk (List.replicate n (.int .i64 0)) 3 0 false)
  have k2 := keeps_new σ1 (.blk (List.replicate n (.int .i64 0)) 3 0 false)
  have n2 : (σ1.new (.blk (List.replicate n (.int .i64 0)) 3 0 false)).n = σ1.n + 1 := rfl
  generalize hσ2 : σ1.new (.blk (List.replicate n (.int .i64 0)) 3 0 false) = σ2 at mk b2 k2 n2
  generalize hkb : σ1.n = kb at mk b2 n2
  have b3 := get_new_at σ2 (.blk [.nilS] 22 0 false)
  have k3 := keeps_new σ2 (.blk [.nilS] 22 0 false)
  have n3 : (σ2.new (.blk [.nilS] 22 0 false)).n = σ2.n + 1 := rfl
  generalize hσ3 : σ2.new (.blk [.nilS] 22 0 false) = σ3 at b3 k3 n3
  generalize hxb : σ2.n = xb at b3 n3
  have b4 := get_put_at σ3 xb (.blk [.ref kb 0 0 n (some n)] 22 0 false)
  have k4 := keeps_put k3 (Nat.le_of_eq hxb) (.blk [.ref kb 0 0 n (some n)] 22 0 false)
  have n4 : (σ3.put xb (.blk [.ref kb 0 0 n (some n)] 22 0 false)).n = σ3.n := rfl
  generalize hσ4 : σ3.put xb (.blk [.ref kb 0 0 n (some n)] 22 0 false) = σ4 at b4 k4 n4
  have b5 := get_new_at σ4 (.blk [.int .i64 0] 3 0 false)
  have k5 := keeps_new σ4 (.blk [.int .i64 0] 3 0 false)
  have n5 : (σ4.new (.blk [.int .i64 0] 3 0 false)).n = σ4.n + 1 := rfl
  generalize hσ5 : σ4.new (.blk [.int .i64 0] 3 0 false) = σ5 at b5 k5 n5
  generalize hib : σ4.n = ib at b5 n5
  have b6 := get_put_at σ5 ib (.blk [.int .i64 0] 3 0 false)
  have k6 := keeps_put k5 (Nat.le_of_eq hib) (.blk [.int .i64 0] 3 0 false)
  have n6 : (σ5.put ib (.blk [.int .i64 0] 3 0 false)).n = σ5.n := rfl
  generalize hσ6 : σ5.put ib (.blk [.int .i64 0] 3 0 false) = σ6 at b6 k6 n6
  have low : ∀ x, x < σ2.n → σ6.get x = σ2.get x := fun x hx => by rw [k6.get x (by omega), k4.get x (by omega)]
  have f0 : Fst σ6 vb xb kb a0 n xs 0 0 ib [] := by
    refine ⟨⟨?_, ?_, ?_, by omega, by simp, fun j c i m h => by simp at h, fun j k c i c' i' h => by simp at h, fun j c i h => by simp at h⟩, rfl, fun h => by omega, b6, by omega, by omega, fun j c i h => by simp at h⟩
    · exact (low vb (by omega)).trans ((k2.get vb (by omega)).trans b1)
    · exact (k6.get xb (by omega)).trans b4
    · rw [low kb (by omega), b2]; simp [callsV]
  obtain ⟨vs7, σ7, kk, ⟨b, ib', cl, rfl, hf⟩, e7⟩ := loop_inv (P := t3_0 (aCall env 400) 400) (Inv := fun i vs τ => ∃ b ib cl, vs = [a1, .ptr vb 0 0, cellsV b i, .int .i64 (n : Int), .ptr xb 0 0, .ptr ib 0 0] ∧ Fst τ vb xb kb a0 n xs i b ib cl) (n := n)
    (fun i vs τ hi ⟨b, ib, cl, hvs, hf⟩ => by
      subst hvs
      obtain ⟨b', ib', cl', τ', e1, e2⟩ := fst_round 399 400 (a1 := a1) hf hi (by omega) (by omega)
      exact ⟨_, τ', e1, b', ib', cl', rfl, e2⟩) n 0 400 _ σ6 (by omega) (by omega) ⟨0, ib, [], rfl, f0⟩
  have x7 : t3_0 (aCall env 400) 400 [a1, .ptr vb 0 0, cellsV b n, .int .i64 (n : Int), .ptr xb 0 0, .ptr ib' 0 0] σ7 = some (.exit 0, [a1, .ptr vb 0 0, cellsV b n, .int .i64 (n : Int), .ptr xb 0 0], σ7) := by
    unfold t3_0
    simp only [x_lit, x_un6]
    have hl : ltI (n : Int) (n : Int) = false := by rw [ltI_eq]; simp
    rw [x_ldbox hf.idx rfl, x_i64K, x_i64K, hl, x_iteR]; rfl
  rw [x7, x_bindE] at e7
  have hlt := hf.cells.lt
  -- the second loop
  have mk8 := slice_made (t := 28) (e := 4) (by kernel_rfl) (by kernel_rfl) zero4 rfl n (by omega) σ7
  have b8 := get_new_at σ7 (.blk (List.replicate n (.bool false)) 4 0 false)
  have k8 := keeps_new σ7 (.blk (List.replicate n (.bool false)) 4 0 false)
  have n8 : (σ7.new (.blk (List.replicate n (.bool false)) 4 0 false)).n = σ7.n + 1 := rfl
  generalize hσ8 : σ7.new (.blk (List.replicate n (.bool false)) 4 0 false) = σ8 at mk8 b8 k8 n8
  generalize hab : σ7.n = ab at mk8 b8 n8
  have s8 : Snd σ8 vb xb kb a0 n xs b ab cl (List.replicate n false) := by
    obtain ⟨q1, q2, q3, q4, q5, q6, q7, q8⟩ := hf.cells
    refine ⟨⟨(k8.get _ (by omega)).trans q1, (k8.get _ (by omega)).trans q2, (k8.get _ (by omega)).trans q3, by omega, q5, fun j c i m e1 e2 => ?_, q7, q8⟩, hf.len, fun hn => ?_, by rw [b8]; simp, by omega⟩
    · obtain ⟨v, hv, hc⟩ := q6 j c i m e1 e2
      exact ⟨v, hv, hc.to k8.n (k8.get _ hc.ltc) (k8.get _ hc.lti)⟩
    · obtain ⟨r1, r2⟩ := hf.row hn
      exact ⟨by omega, (k8.get _ r1).trans r2⟩
  obtain ⟨m, hm⟩ : ∃ m, m = if 0 < n then min ys.length 40 else 0 := ⟨_, rfl⟩
  have hm1 : m ≤ 40 ∧ m ≤ ys.length ∧ (0 < m → 0 < n) := by rw [hm]; split <;> omega
  obtain ⟨vs9, σ9, kk9, ⟨ms, rfl, s9⟩, e9⟩ := loop_inv (P := t3_1 (aCall env 400) 400) (Inv := fun i vs τ => ∃ ms, vs = [a1, .ptr vb 0 0, cellsV b n, .int .i64 (n : Int), .ptr xb 0 0, .ref ab 0 0 n (some n), .int .i64 (i : Int)] ∧ Snd τ vb xb kb a0 n xs b ab cl ms) (n := m)
    (fun i vs τ hi ⟨ms, hvs, hs⟩ => by
      subst hvs
      obtain ⟨τ', ms', e1, e2⟩ := snd_round 394 400 hs ha hb (by omega) (by omega) (i := i) (by omega) (by omega)
      exact ⟨_, τ', e1, ms', rfl, e2⟩) m 0 400 _ σ8 (by omega) (by omega) ⟨_, rfl, s8⟩
  have x9 : t3_1 (aCall env 400) 400 [a1, .ptr vb 0 0, cellsV b n, .int .i64 (n : Int), .ptr xb 0 0, .ref ab 0 0 n (some n), .int .i64 (m : Int)] σ9 = some (.exit 2, [cellsV b n, .int .i64 (n : Int), .ptr xb 0 0, .ref ab 0 0 n (some n)], σ9) := by
    unfold t3_1
    simp only [x_lit, x_un7, ints_len hb, x_i64K]
    have l0 : ltI (m : Int) (ys.length : Int) = decide (m < ys.length) := by rw [ltI_eq]; simp
    have l1 : ltI (m : Int) 40 = decide (m < 40) := by rw [ltI_eq]; simpa using by omega
    have l2 : ltI 0 (n : Int) = decide (0 < n) := by rw [ltI_eq]; simp
    rw [l0, l1, l2]
    by_cases h1 : m < ys.length
    · by_cases h2 : m < 40
      · have h3 : ¬ 0 < n := by intro h3; rw [if_pos h3] at hm; omega
        simp only [h1, h2, h3, decide_true, decide_false, x_andT, x_pK, x_iteR, Bool.false_eq_true, if_false]
      · simp only [h1, h2, decide_true, decide_false, x_andT, x_andF, x_pK, x_iteR, Bool.false_eq_true, if_false]
    · simp only [h1, decide_false, x_andF, x_iteR, Bool.false_eq_true, if_false]
  rw [x9, x_bindE] at e9
  -- the third loop
  obtain ⟨vs10, σ10, kk10, ⟨rfl, s10⟩, e10⟩ := loop_inv (P := t3_2 (aCall env 400) 400) (Inv := fun i vs τ => vs = [cellsV b n, .int .i64 (n : Int), .ptr xb 0 0, .ref ab 0 0 n (some n), .int .i64 (i : Int)] ∧ Snd τ vb xb kb a0 n xs b ab cl ms) (n := n)
    (fun i vs τ hi ⟨hvs, hs⟩ => by
      subst hvs
      exact ⟨_, τ, thd_round 394 400 hs (by omega) hi, rfl, hs⟩) n 0 400 _ σ9 (by omega) (by omega) ⟨rfl, s9⟩
  have x10 : t3_2 (aCall env 400) 400 [cellsV b n, .int .i64 (n : Int), .ptr xb 0 0, .ref ab 0 0 n (some n), .int .i64 (n : Int)] σ10 = some (.exit 4, [], σ10) := by
    unfold t3_2
    simp only [x_lit, x_un5, x_i64K]
    have hl : ltI (n : Int) (n : Int) = false := by rw [ltI_eq]; simp
    rw [hl, x_iteR]; rfl
  rw [x10, x_bindE] at e10
  obtain ⟨σ11, c11, _⟩ := known_call 393 σ10
  refine ⟨σ11, ?_⟩
  unfold t3
  simp only [x_lit, x_un2, x_new, hc0]
  rw [hσ0, hvb, c1]
  simp only [x_pK, x_boK, x_ntB, Bool.not_true, x_iteR, Bool.false_eq_true, if_false]
  rw [x_ldbox b1 ho, ints_len ha, hmin, mk, x_pK, hσ3, hxb, x_stbox b3, hσ4, hσ5, hib, x_stbox b5, hσ6]
  erw [e7]
  simp only [x_blkE, x_un5, x_i64K, mk8, x_pK]
  erw [e9]
  simp only [x_blkE, x_un4]
  erw [e10]
  simp only [x_blkE, x_un0]
  rw [c11]
  rfl
end Go.Proofs.Ytiephapklpfhfaa
