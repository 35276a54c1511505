/-
  Tables: what is wanted, the makers, an asking. No condition.
-/
import Derived.Test.YtiephapklpfhfaaXF
namespace Go.Proofs.Ytiephapklpfhfaa
open Go SS

def callsV (b : Bool) : V := .int .i64 (if b then 1 else 0)

/-- A cell, and the number that its maker has. -/
structure CellAt (σ : St) (vb xb c ib j : Nat) (v : Int) (m : Bool) : Prop where
  ltc : c < σ.n
  lti : ib < σ.n
  idx : σ.get ib = some (.blk [.int .i64 (j : Int)] 3 0 false)
  new : m = false → σ.get c = some (.blk (cell0 (.fn 10 [.ptr xb 0 0, .ptr ib 0 0, .ptr vb 0 0])) 58 0 false)
  made : m = true → MadeCell σ c v

theorem CellAt.ty {σ : St} {vb xb c ib j : Nat} {v : Int} {m : Bool} (h : CellAt σ vb xb c ib j v m) : ∃ cs, σ.get c = some (.blk cs 58 0 false) := by
  cases m with
  | false => exact ⟨_, h.new rfl⟩
  | true => obtain ⟨cs, h1, _⟩ := h.made rfl; exact ⟨cs, h1⟩

theorem CellAt.to {σ σ' : St} {vb xb c ib j : Nat} {v : Int} {m : Bool} (h : CellAt σ vb xb c ib j v m) (hn : σ.n ≤ σ'.n) (hc : σ'.get c = σ.get c) (hi : σ'.get ib = σ.get ib) : CellAt σ' vb xb c ib j v m :=
  ⟨Nat.lt_of_lt_of_le h.ltc hn, Nat.lt_of_lt_of_le h.lti hn, hi.trans h.idx, fun e => hc.trans (h.new e), fun e => (h.made e).to hc⟩

theorem ty_ne {σ : St} {a b t t' : Nat} {cs cs' : List V} {v v' : Nat} {f f' : Bool} (h : σ.get a = some (.blk cs t v f)) (h' : σ.get b = some (.blk cs' t' v' f')) (hne : t ≠ t') : a ≠ b := by
  intro e; subst e; rw [h] at h'; cases h'; exact hne rfl

/-- The cells so far. -/
structure Cells (σ : St) (vb xb kb : Nat) (a0 : V) (n : Nat) (cl : List (Nat × Nat)) (xs : List Int) (ms : List Bool) : Prop where
  vals : σ.get vb = some (.blk [a0] 22 0 false)
  xbox : σ.get xb = some (.blk [.ref kb 0 0 n (some n)] 22 0 false)
  calls : σ.get kb = some (.blk (ms.map callsV) 3 0 false)
  lt : vb < σ.n ∧ xb < σ.n ∧ kb < σ.n
  len : ms.length = n
  at_ : ∀ (j c ib : Nat) (m : Bool), cl[j]? = some (c, ib) → ms[j]? = some m → ∃ v, xs[j]? = some v ∧ CellAt σ vb xb c ib j v m
  nd : ∀ (j k c ib c' ib' : Nat), cl[j]? = some (c, ib) → cl[k]? = some (c', ib') → j ≠ k → c ≠ c'
  nk : ∀ (j c ib : Nat), cl[j]? = some (c, ib) → ib ≠ kb

theorem maker10 (k : Nat) {σ τ : St} {vb xb kb n : Nat} {a0 : V} {cl : List (Nat × Nat)} {xs : List Int} {ms : List Bool} (h : Cells σ vb xb kb a0 n cl xs ms) (ha : IntsV a0 xs) {j c ib : Nat} (hcl : cl[j]? = some (c, ib)) (hm : ms[j]? = some false)
    (hn : σ.n ≤ τ.n) (hg : ∀ b', b' < σ.n → b' ≠ c → τ.get b' = σ.get b') : ∃ τ' v, xs[j]? = some v ∧ aCall env (k + 1) 10 [.ptr xb 0 0, .ptr ib 0 0, .ptr vb 0 0] τ = some (.int .i64 v, τ') ∧ Upd τ τ' kb (.blk ((ms.set j true).map callsV) 3 0 false) := by
  obtain ⟨v, hv, hc⟩ := h.at_ j c ib false hcl hm
  obtain ⟨cs, hcc⟩ := hc.ty
  obtain ⟨l1, l2, l3⟩ := h.lt
  have e1 := (hg xb l2 (ty_ne h.xbox hcc (by decide))).trans h.xbox
  have e2 := (hg ib hc.lti (ty_ne hc.idx hcc (by decide))).trans hc.idx
  have e3 := (hg vb l1 (ty_ne h.vals hcc (by decide))).trans h.vals
  have e4 := (hg kb l3 (ty_ne h.calls hcc (by decide))).trans h.calls
  have hj : j < n := by rw [← h.len]; exact (List.getElem?_eq_some_iff.1 hm).1
  have hxs : xs ≠ [] := by intro e; rw [e] at hv; simp at hv
  obtain ⟨f, rfl⟩ : ∃ f, a0 = .lst (xs.map (V.int .i64)) f := by
    rcases ha with ⟨_, e⟩ | ha
    · exact absurd e hxs
    · exact ha
  obtain ⟨τ', m1, m2⟩ := maker_call k (i := j) (m := 0) (v := v) (calls := ms.map callsV) (xs := xs.map (V.int .i64)) (full := f) (σ := τ) (pc := xb) (pi := ib) (pv := vb) (cb := kb) (n := n) (c := n) (by omega) e1 e2 e3 e4 hj (by simp [hm, callsV]) (by decide) (by simp [hv]) (ty_ne h.vals h.calls (by decide)) (h.nk j c ib hcl)
  refine ⟨τ', v, hv, m1, ?_⟩
  have : (ms.map callsV).set j (.int .i64 (0 + 1)) = (ms.set j true).map callsV := by
    rw [List.map_set]; rfl
  rw [this] at m2
  exact m2

theorem idxRef {t e : TypeId} (h : ∃ inf, env.P.underlying t = some (.slice e) ∧ env.P.info? e = some inf ∧ inf.size = 1) {b v n i : Nat} {c : Option Nat} (hi : i < n) : indexAt env t (.ref b v 0 n c) (.int .i64 (i : Int)) = some (.ptr b v i) := by
  obtain ⟨inf, h1, h2, h3⟩ := h
  unfold indexAt
  simp [h1, h2, h3, inRange_nat hi]

theorem idx24 : ∃ inf, env.P.underlying 24 = some (.slice 25) ∧ env.P.info? 25 = some inf ∧ inf.size = 1 := by
  have h0 : (match env.P.info? 25 with | some i => Nat.beq i.size 1 | none => false) = true := by kernel_rfl
  cases hi : env.P.info? 25 with
  | none => rw [hi] at h0; cases h0
  | some i => rw [hi] at h0; exact ⟨i, by kernel_rfl, rfl, Nat.eq_of_beq_eq_true h0⟩
theorem idx28 : ∃ inf, env.P.underlying 28 = some (.slice 4) ∧ env.P.info? 4 = some inf ∧ inf.size = 1 := by
  have h0 : (match env.P.info? 4 with | some i => Nat.beq i.size 1 | none => false) = true := by kernel_rfl
  cases hi : env.P.info? 4 with
  | none => rw [hi] at h0; cases h0
  | some i => rw [hi] at h0; exact ⟨i, by kernel_rfl, rfl, Nat.eq_of_beq_eq_true h0⟩

/-- A cell's Get, made or not; the cells behind it. -/
theorem cells_get (f : Nat) {σ : St} {vb xb kb n : Nat} {a0 : V} {cl : List (Nat × Nat)} {xs : List Int} {ms : List Bool} (h : Cells σ vb xb kb a0 n cl xs ms) (ha : IntsV a0 xs) (hcn : cl.length = n) {j c ib : Nat} (hcl : cl[j]? = some (c, ib)) :
    ∃ v σ', xs[j]? = some v ∧ aCall env (f + 6) 13 [.ptr c 0 0] σ = some (.int .i64 v, σ') ∧ Cells σ' vb xb kb a0 n cl xs (ms.set j true) ∧ σ.n ≤ σ'.n ∧ ∀ b, b < σ.n → b ≠ kb → b ≠ c → σ'.get b = σ.get b := by
  have hj : j < cl.length := (List.getElem?_eq_some_iff.1 hcl).1
  obtain ⟨m, hm⟩ : ∃ m, ms[j]? = some m := ⟨ms[j]'(by rw [h.len]; omega), by simp [h.len, ← hcn, hj]⟩
  obtain ⟨v, hv, hc⟩ := h.at_ j c ib m hcl hm
  cases m with
  | true =>
    obtain ⟨cs, h1, h2, h3, h4⟩ := hc.made rfl
    refine ⟨v, σ, hv, get_made (f + 2) hc.ltc h1 h2 h3, ?_, Nat.le_refl _, fun _ _ _ _ => rfl⟩
    rw [show ms.set j true = ms from ?_]
    · exact h
    · apply List.ext_getElem?
      intro i
      rw [List.getElem?_set]
      split
      · rename_i e; subst e
        split
        · exact hm.symm
        · rename_i hh; exact absurd (List.getElem?_eq_some_iff.1 hm).1 hh
      · rfl
  | false =>
    have hcell := hc.new rfl
    obtain ⟨l1, l2, l3⟩ := h.lt
    obtain ⟨τm, σ', hq, e13, hn, _, hd⟩ := get_new f (σ := σ) (b := c) (v := v) (Q := fun τ' => τ'.get kb = some (.blk ((ms.set j true).map callsV) 3 0 false) ∧ ∀ b, b < σ.n → b ≠ kb → b ≠ c → τ'.get b = σ.get b) hcell rfl rfl rfl rfl hc.ltc (fun τ0 h2 h3 => by
      obtain ⟨τ', v', hv', m1, m2⟩ := maker10 (f + 1) h ha hcl hm h2 h3
      rw [hv] at hv'; cases hv'
      have hck : c ≠ kb := ty_ne hcell h.calls (by decide)
      exact ⟨τ', m1, Nat.le_of_eq m2.n.symm, m2.other c hck, fun b' h4 _ => m2.other b' (by omega), m2.at_, fun b hb hb1 hb2 => (m2.other b hb1).trans (h3 b hb hb2)⟩)
    have hother : ∀ b, b < σ.n → b ≠ kb → b ≠ c → σ'.get b = σ.get b := fun b hb h1 h2 => (hd.other b h2).trans (hq.2 b hb h1 h2)
    have hck : c ≠ kb := ty_ne hcell h.calls (by decide)
    have hsn : σ.n ≤ σ'.n := by rw [hd.n]; exact hn
    refine ⟨v, σ', hv, e13, ⟨(hother vb l1 (ty_ne h.vals h.calls (by decide)) (ty_ne h.vals hcell (by decide))).trans h.vals, (hother xb l2 (ty_ne h.xbox h.calls (by decide)) (ty_ne h.xbox hcell (by decide))).trans h.xbox, (hd.other kb (fun e => hck e.symm)).trans hq.1, ⟨by omega, by omega, by omega⟩, by simp [h.len], ?_, h.nd, h.nk⟩, hsn, hother⟩
    intro j' c' ib' m' hcl' hm'
    by_cases hjj : j' = j
    · subst hjj
      rw [hcl] at hcl'; cases hcl'
      rw [List.getElem?_set_self (by rw [h.len]; omega)] at hm'
      cases hm'
      refine ⟨v, hv, ⟨Nat.lt_of_lt_of_le hc.ltc hsn, Nat.lt_of_lt_of_le hc.lti hsn, (hother ib hc.lti (h.nk _ _ _ hcl) (ty_ne hc.idx hcell (by decide))).trans hc.idx, fun e => (by cases e), fun _ => ⟨_, hd.cell, rfl, rfl, rfl⟩⟩⟩
    · rw [List.getElem?_set_ne (fun e => hjj e.symm)] at hm'
      obtain ⟨v', hv', hc'⟩ := h.at_ j' c' ib' m' hcl' hm'
      obtain ⟨cs', ht'⟩ := hc'.ty
      exact ⟨v', hv', hc'.to hsn (hother c' hc'.ltc (ty_ne ht' h.calls (by decide)) (h.nd _ _ _ _ _ _ hcl' hcl hjj)) (hother ib' hc'.lti (h.nk _ _ _ hcl') (ty_ne hc'.idx hcell (by decide)))⟩
end Go.Proofs.Ytiephapklpfhfaa

namespace Go.Proofs.Ytiephapklpfhfaa
open Go SS

abbrev Wants := List (List UInt8 × Int × Nat)
def wantV (e : List UInt8 × Int × Nat) : V × V × Nat := (.str e.1, .int .i64 e.2.1, e.2.2)
def wlook (k : List UInt8) : Wants → Nat → Option (Nat × Int × Nat)
  | [], _ => none
  | (a, c, b) :: r, i => if bytesEq k a then some (i, c, b) else wlook k r (i + 1)
def wantOf (k : List UInt8) : Wants → Option Int
  | [] => none
  | (a, c, _) :: r => if a = k then some c else wantOf k r
def wgone (es : Wants) : Option (Nat × Int × Nat) → Wants
  | some (i, _, _) => es.eraseIdx i
  | none => es

theorem findE_wants (k : List UInt8) : ∀ (es : Wants) (i : Nat), findE env.P 9 (.str k) (es.map wantV) i = some ((wlook k es i).map fun p => (p.1, V.int .i64 p.2.1, p.2.2))
  | [], i => rfl
  | (a, c, b) :: r, i => by
    simp only [List.map_cons, wantV, findE, keyEq9, wlook]
    cases bytesEq k a with
    | true => simp
    | false => simpa using findE_wants k r (i + 1)

theorem wlook_want (k : List UInt8) : ∀ (es : Wants) (i : Nat), (wlook k es i).map (fun p => p.2.1) = wantOf k es
  | [], _ => rfl
  | (a, c, b) :: r, i => by
    unfold wlook wantOf
    by_cases h : a = k
    · subst h; rw [if_pos (bytesEq_self _), if_pos rfl]; rfl
    · rw [if_neg (fun e => h ((bytesEq_iff _ _).1 e).symm), if_neg h]; exact wlook_want k r (i + 1)

theorem wantOf_append (k : List UInt8) : ∀ (a b : Wants), wantOf k (a ++ b) = (wantOf k a).or (wantOf k b)
  | [], b => rfl
  | (x, c, n) :: r, b => by
    simp only [List.cons_append, wantOf]
    split
    · rfl
    · exact wantOf_append k r b

theorem lookup40 {σ : St} {mb : Nat} {es : Wants} {clock : Nat} (hm : σ.get mb = some (.map (es.map wantV) clock)) (k : List UInt8) :
    lookupV env 40 (.map mb) (.str k) true σ = some (.tup [.int .i64 ((wantOf k es).getD 0), .bool (wantOf k es).isSome]) := by
  unfold lookupV
  simp only [und40, hm, findE_wants, keyEq9, bytesEq_self, zero3]
  rw [← wlook_want k es 0]
  cases wlook k es 0 <;> rfl
theorem lookup40f {σ : St} {mb : Nat} {es : Wants} {clock : Nat} (hm : σ.get mb = some (.map (es.map wantV) clock)) (k : List UInt8) :
    lookupV env 40 (.map mb) (.str k) false σ = some (.int .i64 ((wantOf k es).getD 0)) := by
  unfold lookupV
  simp only [und40, hm, findE_wants, keyEq9, bytesEq_self, zero3]
  rw [← wlook_want k es 0]
  cases wlook k es 0 <;> rfl

theorem wlook_none {k : List UInt8} {es : Wants} (h : wantOf k es = none) : wlook k es 0 = none := by
  have := wlook_want k es 0
  rw [h] at this
  cases hl : wlook k es 0 with
  | none => rfl
  | some p => rw [hl] at this; cases this

theorem update40 {σ : St} {mb : Nat} {es : Wants} {clock : Nat} (hm : σ.get mb = some (.map (es.map wantV) clock)) {k : List UInt8} (h : wantOf k es = none) (v : Int) :
    mapUpdateV env 40 (.map mb) (.str k) (.int .i64 v) σ = some (σ.put mb (.map ((es ++ [(k, v, clock)]).map wantV) (clock + 1))) := by
  unfold mapUpdateV
  simp only [und40, hm, findE_wants, keyEq9, bytesEq_self, wlook_none h]
  simp [wantV]

theorem eraseIdx_wants : ∀ (es : Wants) (i : Nat), (es.map wantV).eraseIdx i = (es.eraseIdx i).map wantV
  | [], _ => rfl
  | _ :: _, 0 => rfl
  | a :: r, i + 1 => by simp [List.eraseIdx_cons_succ, eraseIdx_wants r i]

theorem delete40 {σ : St} {mb : Nat} {es : Wants} {clock : Nat} (hm : σ.get mb = some (.map (es.map wantV) clock)) (k : List UInt8) :
    builtinV env .delete [40, 9] [.map mb, .str k] σ = some (.tup [], σ.put mb (.map ((wgone es (wlook k es 0)).map wantV) clock)) := by
  show SS.unit (deleteV env 40 (.map mb) (.str k) σ) = _
  unfold deleteV
  simp only [und40, hm, findE_wants, keyEq9, bytesEq_self]
  cases wlook k es 0 with
  | none => rfl
  | some p => simp [wgone, eraseIdx_wants, SS.unit]

theorem len40 {σ : St} {mb : Nat} {es : Wants} {clock : Nat} (hm : σ.get mb = some (.map (es.map wantV) clock)) : lenAt env 40 (.map mb) σ = some (.int .i64 es.length) := by
  simp [lenAt, und40, hm]

/-! A key goes. -/
def keysE (es : Ents) : List (List UInt8) := es.map fun e => e.1
def keysW (es : Wants) : List (List UInt8) := es.map fun e => e.1

theorem cellOf_mem {k : List UInt8} : ∀ {es : Ents}, cellOf k es = none ↔ k ∉ keysE es
  | [] => by simp [cellOf, keysE]
  | (a, c, b) :: r => by
    unfold cellOf
    by_cases h : a = k
    · simp [h, keysE]
    · rw [if_neg h, cellOf_mem (es := r)]; simp [keysE, Ne.symm h]
theorem wantOf_mem {k : List UInt8} : ∀ {es : Wants}, wantOf k es = none ↔ k ∉ keysW es
  | [] => by simp [wantOf, keysW]
  | (a, c, b) :: r => by
    unfold wantOf
    by_cases h : a = k
    · simp [h, keysW]
    · rw [if_neg h, wantOf_mem (es := r)]; simp [keysW, Ne.symm h]

theorem look_shift (k : List UInt8) : ∀ (es : Ents) (i : Nat), look k es (i + 1) = (look k es i).map fun p => (p.1 + 1, p.2)
  | [], _ => rfl
  | (a, c, b) :: r, i => by
    unfold look
    split
    · rfl
    · exact look_shift k r (i + 1)
theorem wlook_shift (k : List UInt8) : ∀ (es : Wants) (i : Nat), wlook k es (i + 1) = (wlook k es i).map fun p => (p.1 + 1, p.2)
  | [], _ => rfl
  | (a, c, b) :: r, i => by
    unfold wlook
    split
    · rfl
    · exact wlook_shift k r (i + 1)

theorem gone_filter (k : List UInt8) : ∀ (es : Ents), (keysE es).Nodup → gone es (look k es 0) = es.filter fun e => decide (e.1 ≠ k)
  | [], _ => rfl
  | (a, c, b) :: r, h => by
    have h2 : a ∉ keysE r ∧ (keysE r).Nodup := List.nodup_cons.1 h
    unfold look
    by_cases hk : a = k
    · subst hk
      rw [if_pos (bytesEq_self _)]
      simp only [gone, List.eraseIdx_zero, List.tail_cons, List.filter_cons, ne_eq, not_true_eq_false, decide_false, Bool.false_eq_true, if_false]
      refine (List.filter_eq_self.2 fun e he => ?_).symm
      have : e.1 ≠ a := fun e1 => h2.1 (e1 ▸ List.mem_map_of_mem (f := fun e => e.1) he)
      simpa using this
    · rw [if_neg (fun e => hk ((bytesEq_iff _ _).1 e).symm), look_shift]
      have ih := gone_filter k r h2.2
      simp only [List.filter_cons, ne_eq, hk, not_false_eq_true, decide_true, if_true]
      rw [← ih]
      cases look k r 0 <;> rfl
theorem wgone_filter (k : List UInt8) : ∀ (es : Wants), (keysW es).Nodup → wgone es (wlook k es 0) = es.filter fun e => decide (e.1 ≠ k)
  | [], _ => rfl
  | (a, c, b) :: r, h => by
    have h2 : a ∉ keysW r ∧ (keysW r).Nodup := List.nodup_cons.1 h
    unfold wlook
    by_cases hk : a = k
    · subst hk
      rw [if_pos (bytesEq_self _)]
      simp only [wgone, List.eraseIdx_zero, List.tail_cons, List.filter_cons, ne_eq, not_true_eq_false, decide_false, Bool.false_eq_true, if_false]
      refine (List.filter_eq_self.2 fun e he => ?_).symm
      have : e.1 ≠ a := fun e1 => h2.1 (e1 ▸ List.mem_map_of_mem (f := fun e => e.1) he)
      simpa using this
    · rw [if_neg (fun e => hk ((bytesEq_iff _ _).1 e).symm), wlook_shift]
      have ih := wgone_filter k r h2.2
      simp only [List.filter_cons, ne_eq, hk, not_false_eq_true, decide_true, if_true]
      rw [← ih]
      cases wlook k r 0 <;> rfl

theorem cellOf_filter {k k' : List UInt8} (h : k' ≠ k) : ∀ (es : Ents), cellOf k' (es.filter fun e => decide (e.1 ≠ k)) = cellOf k' es
  | [] => rfl
  | (a, c, b) :: r => by
    rw [List.filter_cons]
    by_cases hk : a = k
    · simp only [hk, ne_eq, not_true_eq_false, decide_false, Bool.false_eq_true, if_false, cellOf]
      rw [if_neg (fun e => h e.symm)]; exact cellOf_filter h r
    · simp only [ne_eq, hk, not_false_eq_true, decide_true, if_true, cellOf]
      split
      · rfl
      · exact cellOf_filter h r
theorem wantOf_filter {k k' : List UInt8} (h : k' ≠ k) : ∀ (es : Wants), wantOf k' (es.filter fun e => decide (e.1 ≠ k)) = wantOf k' es
  | [] => rfl
  | (a, c, b) :: r => by
    rw [List.filter_cons]
    by_cases hk : a = k
    · simp only [hk, ne_eq, not_true_eq_false, decide_false, Bool.false_eq_true, if_false, wantOf]
      rw [if_neg (fun e => h e.symm)]; exact wantOf_filter h r
    · simp only [ne_eq, hk, not_false_eq_true, decide_true, if_true, wantOf]
      split
      · rfl
      · exact wantOf_filter h r

theorem keysE_filter (k : List UInt8) (es : Ents) : keysE (es.filter fun e => decide (e.1 ≠ k)) = (keysE es).filter fun a => decide (a ≠ k) := by
  unfold keysE; rw [List.filter_map]; rfl
theorem keysW_filter (k : List UInt8) (es : Wants) : keysW (es.filter fun e => decide (e.1 ≠ k)) = (keysW es).filter fun a => decide (a ≠ k) := by
  unfold keysW; rw [List.filter_map]; rfl

/-- The table holds what is wanted. -/
structure Rel (σ : St) (es : Ents) (W : Wants) : Prop where
  perm : (keysE es).Perm (keysW W)
  nd : (keysW W).Nodup
  val : ∀ k v, wantOf k W = some v → ∃ x, cellOf k es = some x ∧ x < σ.n ∧ MadeCell σ x v

theorem Rel.len {σ : St} {es : Ents} {W : Wants} (h : Rel σ es W) : es.length = W.length := by
  have := h.perm.length_eq
  simpa [keysE, keysW] using this
theorem Rel.ndE {σ : St} {es : Ents} {W : Wants} (h : Rel σ es W) : (keysE es).Nodup := h.perm.nodup_iff.2 h.nd
theorem Rel.no {σ : St} {es : Ents} {W : Wants} (h : Rel σ es W) (k : List UInt8) : cellOf k es = none ↔ wantOf k W = none := by
  rw [cellOf_mem, wantOf_mem, h.perm.mem_iff]
theorem Rel.is {σ : St} {es : Ents} {W : Wants} (h : Rel σ es W) (k : List UInt8) : (look k es 0).isSome = (wantOf k W).isSome := by
  have h1 := h.no k
  have h2 := look_cell k es 0
  cases hl : look k es 0 with
  | none => rw [hl] at h2; rw [h1.1 h2.symm]; rfl
  | some p =>
    rw [hl] at h2
    cases hw : wantOf k W with
    | none => rw [h1.2 hw] at h2; cases h2
    | some v => rfl
theorem Rel.to {σ σ' : St} {es : Ents} {W : Wants} (h : Rel σ es W) (hn : σ.n ≤ σ'.n) (hg : ∀ x cs, x < σ.n → σ.get x = some (.blk cs 58 0 false) → σ'.get x = σ.get x) : Rel σ' es W :=
  ⟨h.perm, h.nd, fun k v hv => by
    obtain ⟨x, x1, x2, x3⟩ := h.val k v hv
    obtain ⟨cs, c1, c2⟩ := x3
    exact ⟨x, x1, Nat.lt_of_lt_of_le x2 hn, MadeCell.to ⟨cs, c1, c2⟩ (hg x cs x2 c1)⟩⟩
theorem Rel.drop {σ : St} {es : Ents} {W : Wants} (h : Rel σ es W) (k : List UInt8) : Rel σ (es.filter fun e => decide (e.1 ≠ k)) (W.filter fun e => decide (e.1 ≠ k)) := by
  refine ⟨?_, ?_, fun k' v hv => ?_⟩
  · rw [keysE_filter, keysW_filter]; exact h.perm.filter _
  · rw [keysW_filter]; exact h.nd.filter _
  · have hne : k' ≠ k := by
      intro e; subst e
      have : wantOf k' (W.filter fun e => decide (e.1 ≠ k')) = none := by
        rw [wantOf_mem, keysW_filter]
        intro hm
        have := (List.mem_filter.1 hm).2
        simp at this
      rw [this] at hv; cases hv
    rw [wantOf_filter hne] at hv
    obtain ⟨x, x1, x2⟩ := h.val k' v hv
    exact ⟨x, by rw [cellOf_filter hne]; exact x1, x2⟩
theorem Rel.add {σ : St} {es : Ents} {W : Wants} (h : Rel σ es W) {k : List UInt8} (hk : wantOf k W = none) {x b b' : Nat} {v : Int} (hx : x < σ.n) (hm : MadeCell σ x v) : Rel σ (es ++ [(k, x, b)]) (W ++ [(k, v, b')]) := by
  have hkm : k ∉ keysW W := wantOf_mem.1 hk
  refine ⟨?_, ?_, fun k' v' hv => ?_⟩
  · simp only [keysE, keysW, List.map_append, List.map_cons, List.map_nil]
    exact List.Perm.append_right _ h.perm
  · simp only [keysW, List.map_append, List.map_cons, List.map_nil]
    rw [List.nodup_append]
    refine ⟨h.nd, by simp, fun a ha b hb => ?_⟩
    simp at hb; subst hb
    intro e; subst e; exact hkm ha
  · rw [wantOf_append] at hv
    rw [cellOf_append]
    by_cases hkk : k' = k
    · subst hkk
      rw [hk] at hv
      simp only [Option.none_or, wantOf, if_true] at hv
      cases hv
      rw [(h.no k').2 hk]
      exact ⟨x, by simp [cellOf], hx, hm⟩
    · have : wantOf k' [(k, v, b')] = none := by simp [wantOf, Ne.symm hkk]
      rw [this, Option.or_none] at hv
      obtain ⟨y, y1, y2⟩ := h.val k' v' hv
      exact ⟨y, by rw [y1]; rfl, y2⟩
end Go.Proofs.Ytiephapklpfhfaa

namespace Go.Proofs.Ytiephapklpfhfaa
open Go SS

def halfZ (x : Int) : Int := IntKind.i64.wrap (x.tdiv 2)
def thirdZ (x : Int) : Int := IntKind.i64.wrap (x.tdiv 3)

theorem quo2 {R : Type} (x : Int) (K : Int → Option R) : quoI 9223372036854775807 .i64 x 2 K = K (halfZ x) := quoI_eq (mx := 9223372036854775807) (k := .i64) (y := 2) rfl (by decide) K
theorem quo3 {R : Type} (x : Int) (K : Int → Option R) : quoI 9223372036854775807 .i64 x 3 K = K (thirdZ x) := quoI_eq (mx := 9223372036854775807) (k := .i64) (y := 3) rfl (by decide) K

/-- The asking's own variables. -/
structure AskAt (σ : St) (cb xx c : Nat) (wh ky va ot : Int) : Prop where
  calls : σ.get cb = some (.blk [.int .i64 (c : Int)] 3 0 false)
  x : σ.get xx = some (.blk [.int .i64 wh, .int .i64 ky, .int .i64 va, .int .i64 ot] 42 0 false)
  lt : cb < σ.n ∧ xx < σ.n

set_option maxRecDepth 100000 in
theorem maker26 (k : Nat) {τ : St} {cb xx c : Nat} {wh ky va ot : Int} (h : AskAt τ cb xx c wh ky va ot) (hc : c ≤ 1000) :
    ∃ τ', aCall env (k + 1) 26 [.ptr cb 0 0, .ptr xx 0 0] τ = some (.int .i64 (thirdZ ot), τ') ∧ Upd τ τ' cb (.blk [.int .i64 ((c + 1 : Nat) : Int)] 3 0 false) := by
  refine callW_upd rfl Try.func26 rfl (run_txt t26_ok ?_) (upd_put _ cb _) h.lt.1
  have h1 : ({ τ with tch := τ.n } : St).get cb = _ := h.calls
  have h2 : ({ τ with tch := τ.n } : St).get xx = _ := h.x
  generalize ({ τ with tch := τ.n } : St) = σ at h1 h2 ⊢
  have h3 : (σ.put cb (.blk [.int .i64 ((c + 1 : Nat) : Int)] 3 0 false)).get xx = _ := (get_put_ne (ty_ne h2 h1 (by decide))).trans h2
  unfold t26
  simp only [x_lit, x_un2]
  rw [x_ldbox h1 rfl, x_i64K, x_addI _ (by omega) (by omega), x_stbox h1, show ((c : Int) + 1) = ((c + 1 : Nat) : Int) from by omega, x_ld1 (o := 0) (off := 3) h3 rfl rfl, x_i64K, quo3]
  rfl

theorem f42_2 (b : Nat) : fieldAt env 42 (.ptr b 0 0) 2 = some (.ptr b 0 2) := by kernel_rfl

/-- The same two keys: the maker tells the value. -/
theorem maker25_same (f : Nat) {τ : St} {cb xx ox kx tx c : Nat} {wh ky va ot : Int} {key : List UInt8} (h : AskAt τ cb xx c wh ky va ot) (hc : c ≤ 1000) (ho : τ.get ox = some (.blk [.str key] 9 0 false)) (hk : τ.get kx = some (.blk [.str key] 9 0 false)) :
    ∃ τ', aCall env (f + 1) 25 [.ptr cb 0 0, .ptr ox 0 0, .ptr kx 0 0, .ptr xx 0 0, .ptr tx 0 0] τ = some (.int .i64 va, τ') ∧ Upd τ τ' cb (.blk [.int .i64 ((c + 1 : Nat) : Int)] 3 0 false) := by
  refine callW_upd rfl Try.func25 rfl (run_txt t25_ok ?_) (upd_put _ cb _) h.lt.1
  have h1 : ({ τ with tch := τ.n } : St).get cb = _ := h.calls
  have h2 : ({ τ with tch := τ.n } : St).get xx = _ := h.x
  have h3 : ({ τ with tch := τ.n } : St).get ox = _ := ho
  have h4 : ({ τ with tch := τ.n } : St).get kx = _ := hk
  generalize ({ τ with tch := τ.n } : St) = σ at h1 h2 h3 h4 ⊢
  have g2 : (σ.put cb (.blk [.int .i64 ((c + 1 : Nat) : Int)] 3 0 false)).get xx = _ := (get_put_ne (ty_ne h2 h1 (by decide))).trans h2
  have g3 : (σ.put cb (.blk [.int .i64 ((c + 1 : Nat) : Int)] 3 0 false)).get ox = _ := (get_put_ne (ty_ne h3 h1 (by decide))).trans h3
  have g4 : (σ.put cb (.blk [.int .i64 ((c + 1 : Nat) : Int)] 3 0 false)).get kx = _ := (get_put_ne (ty_ne h4 h1 (by decide))).trans h4
  unfold t25
  simp only [x_lit, x_un5]
  rw [x_ldbox h1 rfl, x_i64K, x_addI _ (by omega) (by omega), x_stbox h1, show ((c : Int) + 1) = ((c + 1 : Nat) : Int) from by omega, x_ldbox g3 rfl, x_ldbox g4 rfl, x_stK, x_stK, eqS_eq, bytesEq_self, x_iteR, if_pos rfl, x_ld1 (o := 0) (off := 2) g2 rfl rfl]
  rfl

/-- Two keys: the maker asks for the other one. -/
theorem maker25_other (f : Nat) {τ τ2 : St} {cb xx ox kx tx tb c : Nat} {wh ky va ot w : Int} {key other : List UInt8} (h : AskAt τ cb xx c wh ky va ot) (hc : c ≤ 1000) (ho : τ.get ox = some (.blk [.str other] 9 0 false)) (hk : τ.get kx = some (.blk [.str key] 9 0 false)) (ht : τ.get tx = some (.blk [.ptr tb 0 0] 31 0 false)) (hne : other ≠ key)
    (hr : aCall env f 16 [.ptr tb 0 0, .str other, .fn 26 [.ptr cb 0 0, .ptr xx 0 0]] (({ τ with tch := τ.n } : St).put cb (.blk [.int .i64 ((c + 1 : Nat) : Int)] 3 0 false)) = some (.int .i64 w, τ2)) (hx : τ2.get xx = τ.get xx) (htc : τ2.tch < τ.n) :
    ∃ τ', aCall env (f + 1) 25 [.ptr cb 0 0, .ptr ox 0 0, .ptr kx 0 0, .ptr xx 0 0, .ptr tx 0 0] τ = some (.int .i64 (IntKind.i64.wrap (halfZ va + w)), τ') ∧ τ'.n = τ2.n ∧ ∀ b, τ'.get b = τ2.get b := by
  have key' : t25 (aCall env f) f [.ptr cb 0 0, .ptr ox 0 0, .ptr kx 0 0, .ptr xx 0 0, .ptr tx 0 0] { τ with tch := τ.n } = some (.int .i64 (IntKind.i64.wrap (halfZ va + w)), τ2) := by
    have h1 : ({ τ with tch := τ.n } : St).get cb = _ := h.calls
    have h2 : ({ τ with tch := τ.n } : St).get xx = _ := h.x
    have h3 : ({ τ with tch := τ.n } : St).get ox = _ := ho
    have h4 : ({ τ with tch := τ.n } : St).get kx = _ := hk
    have h5 : ({ τ with tch := τ.n } : St).get tx = _ := ht
    have h6 : τ2.get xx = _ := hx.trans h.x
    generalize ({ τ with tch := τ.n } : St) = σ at h1 h2 h3 h4 h5 hr ⊢
    have g2 : (σ.put cb (.blk [.int .i64 ((c + 1 : Nat) : Int)] 3 0 false)).get xx = _ := (get_put_ne (ty_ne h2 h1 (by decide))).trans h2
    have g3 : (σ.put cb (.blk [.int .i64 ((c + 1 : Nat) : Int)] 3 0 false)).get ox = _ := (get_put_ne (ty_ne h3 h1 (by decide))).trans h3
    have g4 : (σ.put cb (.blk [.int .i64 ((c + 1 : Nat) : Int)] 3 0 false)).get kx = _ := (get_put_ne (ty_ne h4 h1 (by decide))).trans h4
    have g5 : (σ.put cb (.blk [.int .i64 ((c + 1 : Nat) : Int)] 3 0 false)).get tx = _ := (get_put_ne (ty_ne h5 h1 (by decide))).trans h5
    have hb : bytesEq other key = false := by
      cases hh : bytesEq other key with
      | false => rfl
      | true => exact absurd ((bytesEq_iff _ _).1 hh) hne
    unfold t25
    simp only [x_lit, x_un5]
    rw [x_ldbox h1 rfl, x_i64K, x_addI _ (by omega) (by omega), x_stbox h1, show ((c : Int) + 1) = ((c + 1 : Nat) : Int) from by omega, x_ldbox g3 rfl, x_ldbox g4 rfl, x_stK, x_stK, eqS_eq, hb, x_iteR, if_neg (by decide), f42_2, x_oK, x_ld1 (o := 2) (off := 0) g2 rfl rfl, x_i64K, quo2, x_ldbox g5 rfl, x_ldbox g3 rfl, hr, x_pK, x_ld1 (o := 2) (off := 0) h6 rfl rfl, V.beq_refl, x_gd, x_i64K, x_addW]
    rfl
  obtain ⟨σ', e1, e2, _, e4⟩ := callW_gen rfl Try.func25 rfl (run_txt t25_ok key') htc
  exact ⟨σ', e1, e2, e4⟩
end Go.Proofs.Ytiephapklpfhfaa

namespace Go.Proofs.Ytiephapklpfhfaa
open Go SS

theorem Rel.swap {σ : St} {es : Ents} {W : Wants} {a b : List UInt8 × Nat × Nat} (h : Rel σ (es ++ [a] ++ [b]) W) (hne : a.1 ≠ b.1) : Rel σ (es ++ [b] ++ [a]) W := by
  obtain ⟨a1, a2, a3⟩ := a
  obtain ⟨b1, b2, b3⟩ := b
  have hne : a1 ≠ b1 := hne
  refine ⟨?_, h.nd, fun k v hv => ?_⟩
  · refine List.Perm.trans ?_ h.perm
    simp only [keysE, List.map_append, List.map_cons, List.map_nil, List.append_assoc, List.cons_append, List.nil_append]
    exact List.Perm.append_left _ (List.Perm.swap _ _ _)
  · obtain ⟨x, x1, x2⟩ := h.val k v hv
    refine ⟨x, ?_, x2⟩
    rw [List.append_assoc, cellOf_append] at x1 ⊢
    cases hc : cellOf k es with
    | some y => rw [hc] at x1; exact x1
    | none =>
      rw [hc] at x1
      simp only [Option.none_or, List.cons_append, List.nil_append, cellOf] at x1 ⊢
      by_cases e1 : a1 = k
      · rw [if_pos e1] at x1
        rw [if_neg (fun e => hne (e1.trans e.symm)), if_pos e1]; exact x1
      · rw [if_neg e1] at x1
        rw [if_neg e1]
        exact x1

/-- What an asking does to what is wanted. -/
def Outcome (W : Wants) (key other : List UInt8) (va ot : Int) (c b : Nat) (got : Int) (c' : Nat) (W' : Wants) : Prop :=
  (wantOf key W = some got ∧ c' = c ∧ W' = W) ∨
  (wantOf key W = none ∧ other = key ∧ got = va ∧ c' = c + 1 ∧ W' = W ++ [(key, va, b)]) ∨
  (wantOf key W = none ∧ other ≠ key ∧ (∃ w, wantOf other W = some w ∧ got = IntKind.i64.wrap (halfZ va + w)) ∧ c' = c + 1 ∧ W' = W ++ [(key, got, b)]) ∨
  (wantOf key W = none ∧ other ≠ key ∧ wantOf other W = none ∧ got = IntKind.i64.wrap (halfZ va + thirdZ ot) ∧ c' = c + 2 ∧ W' = W ++ [(other, thirdZ ot, b)] ++ [(key, got, b + 1)])

theorem map_ne {σ : St} {a b t : Nat} {cs : List V} {v : Nat} {f : Bool} {es : List (V × V × Nat)} {c : Nat} (h : σ.get a = some (.blk cs t v f)) (h' : σ.get b = some (.map es c)) : a ≠ b := by
  intro e; subst e; rw [h] at h'; cases h'

/-- A round's own boxes. -/
structure Boxes (σ : St) (tx kx ox tb : Nat) (key other : List UInt8) : Prop where
  t : σ.get tx = some (.blk [.ptr tb 0 0] 31 0 false)
  k : σ.get kx = some (.blk [.str key] 9 0 false)
  o : σ.get ox = some (.blk [.str other] 9 0 false)
  lt : tx < σ.n ∧ kx < σ.n ∧ ox < σ.n

structure Asked (σ σ' : St) (tb mb cb c' : Nat) (es' : Ents) (clock' : Nat) (W' : Wants) : Prop where
  n : σ.n ≤ σ'.n
  tab : Tab σ' tb mb es' clock'
  calls : σ'.get cb = some (.blk [.int .i64 (c' : Int)] 3 0 false)
  get : ∀ b, b < σ.n → b ≠ cb → b ≠ mb → σ'.get b = σ.get b
  rel : Rel σ' es' W'

set_option maxRecDepth 100000 in
set_option maxHeartbeats 1000000 in
theorem ask_get (f : Nat) {σ : St} {tb mb cb xx kx ox tx clock c wc : Nat} {es : Ents} {W : Wants} {wh ky va ot : Int} {key other : List UInt8} (ht : Tab σ tb mb es clock) (hr : Rel σ es W) (ha : AskAt σ cb xx c wh ky va ot) (hb : Boxes σ tx kx ox tb key other) (hlt : tb < σ.n ∧ mb < σ.n) (hc : c ≤ 500) :
    ∃ σ' es' clock' c' got W', aCall env (f + 20) 16 [.ptr tb 0 0, .str key, .fn 25 [.ptr cb 0 0, .ptr ox 0 0, .ptr kx 0 0, .ptr xx 0 0, .ptr tx 0 0]] σ = some (.int .i64 got, σ') ∧ Outcome W key other va ot c wc got c' W' ∧ Asked σ σ' tb mb cb c' es' clock' W' := by
  have hcm : cb ≠ mb := map_ne ha.calls ht.map
  have hct : cb ≠ tb := ty_ne ha.calls ht.blk (by decide)
  cases hw : wantOf key W with
  | some v =>
    obtain ⟨x, x1, x2, x3⟩ := hr.val key v hw
    obtain ⟨i, b, hl⟩ := look_some x1
    obtain ⟨σ', e1, hs⟩ := tget_there (f + 13) ht hlt.1 key hl x2 x3 (.fn 25 [.ptr cb 0 0, .ptr ox 0 0, .ptr kx 0 0, .ptr xx 0 0, .ptr tx 0 0])
    exact ⟨σ', es, clock, c, v, W, e1, .inl ⟨hw, rfl, rfl⟩, ⟨Nat.le_of_eq hs.n.symm, ⟨(hs.get _).trans ht.blk, (hs.get _).trans ht.map⟩, (hs.get _).trans ha.calls, fun b _ _ _ => hs.get b, hr.to (Nat.le_of_eq hs.n.symm) fun x _ _ _ => hs.get x⟩⟩
  | none =>
    have hcell := (hr.no key).2 hw
    -- the maker, in the state in which it is called
    have hm : ∃ got c' W', Outcome W key other va ot c wc got c' W' ∧ TMakes (f + 13) σ tb mb es clock key 25 [.ptr cb 0 0, .ptr ox 0 0, .ptr kx 0 0, .ptr xx 0 0, .ptr tx 0 0] got (fun nb τ' => ∃ es' clock', Tab τ' tb mb es' clock' ∧ τ'.get cb = some (.blk [.int .i64 (c' : Int)] 3 0 false) ∧ (∀ b, b < σ.n → b ≠ cb → b ≠ mb → τ'.get b = σ.get b) ∧ ∀ σ' : St, τ'.n = σ'.n → (∀ b, b ≠ nb → σ'.get b = τ'.get b) → MadeCell σ' nb got → Rel σ' es' W') := by
      by_cases hok : other = key
      · subst hok
        refine ⟨va, c + 1, _, .inr (.inl ⟨hw, rfl, rfl, rfl, rfl⟩), fun nb τ h1 h2 h3 h4 => ?_⟩
        have ha' : AskAt τ cb xx c wh ky va ot := ⟨(h4 cb ha.lt.1 hcm).trans ha.calls, (h4 xx ha.lt.2 (map_ne ha.x ht.map)).trans ha.x, by have := ha.lt; omega⟩
        obtain ⟨τ', m1, m2⟩ := maker25_same (f + 14) (tx := tx) ha' (by omega) ((h4 ox hb.lt.2.2 (map_ne hb.o ht.map)).trans hb.o) ((h4 kx hb.lt.2.1 (map_ne hb.k ht.map)).trans hb.k)
        have hn := m2.n
        refine ⟨τ', m1, by omega, fun b hb1 hb2 => m2.other b (by have := ha.lt.1; omega), _, clock + 1, ⟨(m2.other _ (fun e => hct e.symm)).trans h3.blk, (m2.other _ (fun e => hcm e.symm)).trans h3.map⟩, m2.at_, fun b hb1 hb2 hb3 => (m2.other b hb2).trans (h4 b hb1 hb3), fun σ' hn' hg hmc => ?_⟩
        refine Rel.add (hr.to (by omega) fun x cs hx hxx => ?_) hw (by omega) hmc
        rw [hg x (by omega), m2.other x (ty_ne hxx ha.calls (by decide)), h4 x hx (map_ne hxx ht.map)]
      · cases hwo : wantOf other W with
        | some w =>
          refine ⟨_, c + 1, _, .inr (.inr (.inl ⟨hw, hok, ⟨w, hwo, rfl⟩, rfl, rfl⟩)), fun nb τ h1 h2 h3 h4 => ?_⟩
          have ha' : AskAt τ cb xx c wh ky va ot := ⟨(h4 cb ha.lt.1 hcm).trans ha.calls, (h4 xx ha.lt.2 (map_ne ha.x ht.map)).trans ha.x, by have := ha.lt; omega⟩
          obtain ⟨x, x1, x2, x3⟩ := hr.val other w hwo
          obtain ⟨cs, q1, q2⟩ := id x3
          obtain ⟨i, b, hl⟩ : ∃ i b, look other (es ++ [(key, nb, clock)]) 0 = some (i, x, b) := look_some (by rw [cellOf_append, x1]; rfl)
          have hta : Tab (({ τ with tch := τ.n } : St).put cb (.blk [.int .i64 ((c + 1 : Nat) : Int)] 3 0 false)) tb mb (es ++ [(key, nb, clock)]) (clock + 1) := ⟨(get_put_ne (fun e => hct e.symm)).trans h3.blk, (get_put_ne (fun e => hcm e.symm)).trans h3.map⟩
          have hxc : x ≠ cb := ty_ne q1 ha.calls (by decide)
          obtain ⟨τ2, e1, hs⟩ := tget_there (f + 7) hta (by show tb < τ.n; omega) other hl (by show x < τ.n; omega) (x3.to (by rw [get_put_ne hxc]; exact h4 x x2 (map_ne q1 ht.map))) (.fn 26 [.ptr cb 0 0, .ptr xx 0 0])
          have hs2 := hs.n
          have hs3 : τ2.n = τ.n := hs2
          obtain ⟨τ', m1, m2, m3⟩ := maker25_other (f + 14) ha' (by omega) ((h4 ox hb.lt.2.2 (map_ne hb.o ht.map)).trans hb.o) ((h4 kx hb.lt.2.1 (map_ne hb.k ht.map)).trans hb.k) ((h4 tx hb.lt.1 (map_ne hb.t ht.map)).trans hb.t) hok e1 (by rw [hs.get]; exact get_put_ne (ty_ne ha'.x ha'.calls (by decide))) (by have := hs.tch; omega)
          have og : ∀ b, b ≠ cb → τ'.get b = τ.get b := fun b hb1 => by rw [m3, hs.get]; exact get_put_ne hb1
          refine ⟨τ', m1, by omega, fun b hb1 hb2 => og b (by have := ha.lt.1; omega), _, clock + 1, ⟨(og _ (fun e => hct e.symm)).trans h3.blk, (og _ (fun e => hcm e.symm)).trans h3.map⟩, by rw [m3, hs.get]; exact get_put_at _ _ _, fun b hb1 hb2 hb3 => (og b hb2).trans (h4 b hb1 hb3), fun σ' hn' hg hmc => ?_⟩
          refine Rel.add (hr.to (by omega) fun x cs hx hxx => ?_) hw (by omega) hmc
          rw [hg x (by omega), og x (ty_ne hxx ha.calls (by decide)), h4 x hx (map_ne hxx ht.map)]
        | none =>
          refine ⟨_, c + 2, _, .inr (.inr (.inr ⟨hw, hok, hwo, rfl, rfl, rfl⟩)), fun nb τ h1 h2 h3 h4 => ?_⟩
          have ha' : AskAt τ cb xx c wh ky va ot := ⟨(h4 cb ha.lt.1 hcm).trans ha.calls, (h4 xx ha.lt.2 (map_ne ha.x ht.map)).trans ha.x, by have := ha.lt; omega⟩
          have hta : Tab (({ τ with tch := τ.n } : St).put cb (.blk [.int .i64 ((c + 1 : Nat) : Int)] 3 0 false)) tb mb (es ++ [(key, nb, clock)]) (clock + 1) := ⟨(get_put_ne (fun e => hct e.symm)).trans h3.blk, (get_put_ne (fun e => hcm e.symm)).trans h3.map⟩
          have haa : AskAt (({ τ with tch := τ.n } : St).put cb (.blk [.int .i64 ((c + 1 : Nat) : Int)] 3 0 false)) cb xx (c + 1) wh ky va ot := ⟨get_put_at _ _ _, (get_put_ne (ty_ne ha'.x ha'.calls (by decide))).trans ha'.x, ha'.lt⟩
          have hno : look other (es ++ [(key, nb, clock)]) 0 = none := look_none (by rw [cellOf_append, (hr.no other).2 hwo]; simp [cellOf, Ne.symm hok])
          have hna : (({ τ with tch := τ.n } : St).put cb (.blk [.int .i64 ((c + 1 : Nat) : Int)] 3 0 false)).n = τ.n := rfl
          have hga : ∀ b, b ≠ cb → (({ τ with tch := τ.n } : St).put cb (.blk [.int .i64 ((c + 1 : Nat) : Int)] 3 0 false)).get b = τ.get b := fun b hb1 => get_put_ne hb1
          generalize hτa : (({ τ with tch := τ.n } : St).put cb (.blk [.int .i64 ((c + 1 : Nat) : Int)] 3 0 false)) = τa at hta haa hna hga
          obtain ⟨nb2, τm, τ2, ⟨q1, q2, q3⟩, e1, r1, r2, r3, r4, r5, r6⟩ := tget_new (f + 7) hta (by omega) (by omega) other hno (g := 26) (cap := [.ptr cb 0 0, .ptr xx 0 0]) (v := thirdZ ot) (Q := fun nb2 τ' => τ'.get cb = some (.blk [.int .i64 ((c + 2 : Nat) : Int)] 3 0 false) ∧ Tab τ' tb mb (es ++ [(key, nb, clock)] ++ [(other, nb2, clock + 1)]) (clock + 1 + 1) ∧ ∀ b, b < τa.n → b ≠ cb → b ≠ mb → τ'.get b = τa.get b) (fun nb2 τ0 j1 j2 j3 j4 => by
            have ha0 : AskAt τ0 cb xx (c + 1) wh ky va ot := ⟨(j4 cb haa.lt.1 hcm).trans haa.calls, (j4 xx haa.lt.2 (map_ne haa.x hta.map)).trans haa.x, by have := haa.lt; omega⟩
            obtain ⟨τ', m1, m2⟩ := maker26 (f + 8) ha0 (by omega)
            exact ⟨τ', m1, Nat.le_of_eq m2.n.symm, fun b hb1 hb2 => m2.other b (by have := haa.lt.1; omega), m2.at_, ⟨(m2.other _ (fun e => hct e.symm)).trans j3.blk, (m2.other _ (fun e => hcm e.symm)).trans j3.map⟩, fun b hb1 hb2 hb3 => (m2.other b hb2).trans (j4 b hb1 hb3)⟩)
          have hlc := ha.lt
          obtain ⟨τ', m1, m2, m3⟩ := maker25_other (f + 14) (w := thirdZ ot) ha' (by omega) ((h4 ox hb.lt.2.2 (map_ne hb.o ht.map)).trans hb.o) ((h4 kx hb.lt.2.1 (map_ne hb.k ht.map)).trans hb.k) ((h4 tx hb.lt.1 (map_ne hb.t ht.map)).trans hb.t) hok (by rw [hτa]; exact e1) (by rw [r5 xx (by omega), q3 xx (by omega) (ty_ne ha'.x ha'.calls (by decide)) (map_ne ha'.x h3.map)]; exact hga xx (ty_ne ha'.x ha'.calls (by decide))) (by omega)
          have og : ∀ b, b < τa.n → b ≠ cb → b ≠ mb → τ'.get b = τ.get b := fun b hb0 hb1 hb2 => by rw [m3, r5 b (by omega), q3 b hb0 hb1 hb2]; exact hga b hb1
          refine ⟨τ', m1, by omega, fun b hb1 hb2 => og b (by omega) (by omega) (by omega), es ++ [(key, nb, clock)] ++ [(other, nb2, clock + 1)], clock + 1 + 1, ⟨?_, ?_⟩, ?_, fun b hb1 hb2 hb3 => (og b (by omega) hb2 hb3).trans (h4 b hb1 hb3), fun σ' hn' hg hmc => ?_⟩
          · rw [m3, r5 tb (by omega)]; exact q2.blk
          · rw [m3, r5 mb (by omega)]; exact q2.map
          · rw [m3, r5 cb (by omega)]; exact q1
          · have hr1 : Rel σ' es W := hr.to (by omega) fun x cs hx hxx => by rw [hg x (by omega), og x (by omega) (ty_ne hxx ha.calls (by decide)) (map_ne hxx ht.map), h4 x hx (map_ne hxx ht.map)]
            have hr2 : Rel σ' (es ++ [(other, nb2, clock + 1)]) (W ++ [(other, thirdZ ot, wc)]) := hr1.add hwo (by omega) (r4.to (by rw [hg nb2 (by omega), m3]))
            have hr3 := hr2.add (k := key) (x := nb) (b := clock) (b' := wc + 1) (by rw [wantOf_append, hw]; simp [wantOf, hok]) (by omega) hmc
            exact hr3.swap (fun e => hok e)
    obtain ⟨got, c', W', ho, htm⟩ := hm
    obtain ⟨nb, τm, σ', ⟨es', clock', q1, q2, q3, q4⟩, e1, r1, r2, r3, r4, r5, r6⟩ := tget_new (f + 13) ht hlt.1 hlt.2 key (look_none hcell) htm
    have hn : σ.n ≤ σ'.n := by omega
    have l1 := ha.lt
    refine ⟨σ', es', clock', c', got, W', e1, ho, ⟨hn, ⟨?_, ?_⟩, ?_, fun b hb1 hb2 hb3 => ?_, q4 σ' r3.symm r5 r4⟩⟩
    · rw [r5 tb (by omega)]; exact q1.blk
    · rw [r5 mb (by omega)]; exact q1.map
    · rw [r5 cb (by omega)]; exact q2
    · rw [r5 b (by omega)]; exact q3 b hb1 hb2 hb3
end Go.Proofs.Ytiephapklpfhfaa
