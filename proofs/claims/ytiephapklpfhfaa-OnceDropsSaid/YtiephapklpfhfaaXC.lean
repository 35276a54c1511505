/-
  Tables of chapter 1: what their functions do to any heap. No condition.
-/
import Derived.Test.YtiephapklpfhfaaXB
namespace Go.Proofs.Ytiephapklpfhfaa
open Go SS

abbrev Ents := List (List UInt8 × Nat × Nat)
def entV (e : List UInt8 × Nat × Nat) : V × V × Nat := (.str e.1, .ptr e.2.1 0 0, e.2.2)
def look (k : List UInt8) : Ents → Nat → Option (Nat × Nat × Nat)
  | [], _ => none
  | (a, c, b) :: r, i => if bytesEq k a then some (i, c, b) else look k r (i + 1)

def cellV : Option (Nat × Nat × Nat) → V
  | some (_, c, _) => .ptr c 0 0
  | none => .ptr0
def gone (es : Ents) : Option (Nat × Nat × Nat) → Ents
  | some (i, _, _) => es.eraseIdx i
  | none => es

theorem bytesEq_iff : ∀ (a b : List UInt8), bytesEq a b = true ↔ a = b
  | [], [] => by simp [bytesEq]
  | [], _ :: _ => by simp [bytesEq]
  | _ :: _, [] => by simp [bytesEq]
  | x :: a, y :: b => by
    simp only [bytesEq, Bool.and_eq_true, bytesEq_iff a b, List.cons.injEq]
    refine and_congr ⟨fun h => ?_, fun h => by subst h; exact Nat.beq_refl _⟩ Iff.rfl
    exact UInt8.toNat_inj.1 (Nat.eq_of_beq_eq_true h)

theorem bytesEq_self (a : List UInt8) : bytesEq a a = true := (bytesEq_iff a a).2 rfl

theorem und9 : env.P.underlying 9 = some .string := by kernel_rfl
theorem und61 : env.P.underlying 61 = some (.map 9 25) := by kernel_rfl
theorem und40 : env.P.underlying 40 = some (.map 9 3) := by kernel_rfl
theorem zero25 : zeroOf env.P 25 = some .ptr0 := by kernel_rfl
theorem zero3 : zeroOf env.P 3 = some (.int .i64 0) := by kernel_rfl

theorem keyEq9 (k a : List UInt8) : keyEq env.P 9 (.str k) (.str a) = some (bytesEq k a) := by
  simp [keyEq, und9, fitsD, eqCell]

theorem findE_ents (k : List UInt8) : ∀ (es : Ents) (i : Nat), findE env.P 9 (.str k) (es.map entV) i = some ((look k es i).map fun p => (p.1, V.ptr p.2.1 0 0, p.2.2))
  | [], i => rfl
  | (a, c, b) :: r, i => by
    simp only [List.map_cons, entV, findE, keyEq9, look]
    cases bytesEq k a with
    | true => simp
    | false => simpa using findE_ents k r (i + 1)

/-- A table that nobody has locked. -/
structure Tab (σ : St) (tb mb : Nat) (es : Ents) (clock : Nat) : Prop where
  blk : σ.get tb = some (.blk [.int .i32 0, .int .u32 0, .map mb] 63 0 false)
  map : σ.get mb = some (.map (es.map entV) clock)

theorem Tab.ne {σ : St} {tb mb : Nat} {es : Ents} {clock : Nat} (h : Tab σ tb mb es clock) : mb ≠ tb := by
  intro e; subst e
  have := h.blk.symm.trans h.map
  cases this

theorem lookup61 {σ : St} {mb : Nat} {es : Ents} {clock : Nat} (hm : σ.get mb = some (.map (es.map entV) clock)) (k : List UInt8) :
    lookupV env 61 (.map mb) (.str k) true σ = some (.tup [cellV (look k es 0), .bool (look k es 0).isSome]) := by
  unfold lookupV
  simp only [und61, hm, findE_ents, keyEq9, bytesEq_self, zero25]
  cases look k es 0 <;> rfl
theorem lookup61f {σ : St} {mb : Nat} {es : Ents} {clock : Nat} (hm : σ.get mb = some (.map (es.map entV) clock)) (k : List UInt8) :
    lookupV env 61 (.map mb) (.str k) false σ = some (cellV (look k es 0)) := by
  unfold lookupV
  simp only [und61, hm, findE_ents, keyEq9, bytesEq_self, zero25]
  cases look k es 0 <;> rfl

theorem update61 {σ : St} {mb : Nat} {es : Ents} {clock : Nat} (hm : σ.get mb = some (.map (es.map entV) clock)) {k : List UInt8} (h : look k es 0 = none) (c : Nat) :
    mapUpdateV env 61 (.map mb) (.str k) (.ptr c 0 0) σ = some (σ.put mb (.map ((es ++ [(k, c, clock)]).map entV) (clock + 1))) := by
  unfold mapUpdateV
  simp only [und61, hm, findE_ents, keyEq9, bytesEq_self, h]
  simp [entV]

theorem eraseIdx_ents : ∀ (es : Ents) (i : Nat), (es.map entV).eraseIdx i = (es.eraseIdx i).map entV
  | [], _ => rfl
  | _ :: _, 0 => rfl
  | a :: r, i + 1 => by simp [List.eraseIdx_cons_succ, eraseIdx_ents r i]

theorem delete61 {σ : St} {mb : Nat} {es : Ents} {clock : Nat} (hm : σ.get mb = some (.map (es.map entV) clock)) (k : List UInt8) :
    deleteV env 61 (.map mb) (.str k) σ = some (σ.put mb (.map ((gone es (look k es 0)).map entV) clock)) := by
  unfold deleteV
  simp only [und61, hm, findE_ents, keyEq9, bytesEq_self]
  cases look k es 0 with
  | none => rfl
  | some p => simp [gone, eraseIdx_ents]

/-- All is as it was. -/
structure Same (σ σ' : St) (t : Nat) : Prop where
  n : σ'.n = σ.n
  get : ∀ b, σ'.get b = σ.get b
  tch : σ'.tch ≤ t

theorem f63_0 (b : Nat) : fieldAt env 63 (.ptr b 0 0) 0 = some (.ptr b 0 0) := by kernel_rfl
theorem f63_1 (b : Nat) : fieldAt env 63 (.ptr b 0 0) 1 = some (.ptr b 0 2) := by kernel_rfl
theorem one61 : oneTy 61 = true := by kernel_rfl
end Go.Proofs.Ytiephapklpfhfaa

namespace Go.Proofs.Ytiephapklpfhfaa
open Go SS

noncomputable def bodyOf38 : Code := match Try.f38.body with | some c => c | none => .skip
noncomputable def bodyOf18 : Code := match Try.f18.body with | some c => c | none => .skip
noncomputable def bodyOf22 : Code := match Try.f22.body with | some c => c | none => .skip
noncomputable def bodyOf35 : Code := match Try.f35.body with | some c => c | none => .skip

/-- Locked, then unlocked: as it was. -/
theorem same_of {σ τ1 τ2 : St} {tb mb : Nat} {es : Ents} {clock : Nat} (ht : Tab σ tb mb es clock) (u1 : Upd σ τ1 tb (.blk [.int .i32 1, .int .u32 0, .map mb] 63 0 false)) (u2 : Upd τ1 τ2 tb (.blk [.int .i32 0, .int .u32 0, .map mb] 63 0 false)) : Same σ τ2 tb := by
  refine ⟨u2.n.trans u1.n, fun b => ?_, u2.tch⟩
  by_cases h : b = tb
  · subst h; exact u2.at_.trans ht.blk.symm
  · exact (u2.other b h).trans (u1.other b h)

set_option maxRecDepth 100000 in
set_option maxHeartbeats 4000000 in
theorem cell_call (k : Nat) {σ : St} {tb mb : Nat} {es : Ents} {clock : Nat} (ht : Tab σ tb mb es clock) (htb : tb < σ.n) (key : List UInt8) (hc : ∀ i c b, look key es 0 = some (i, c, b) → c < σ.n) :
    ∃ σ', aCall env (k + 4) 38 [.ptr tb 0 0, .str key] σ = some (cellV (look key es 0), σ') ∧ Same σ σ' tb := by
  obtain ⟨τ1, e36, u1⟩ := lock36 k (σ := { σ with tch := σ.n }) (o := 0) htb ht.blk rfl
  have u1 : Upd { σ with tch := σ.n } τ1 tb (.blk [.int .i32 1, .int .u32 0, .map mb] 63 0 false) := u1
  have hm1 : τ1.get mb = some (.map (es.map entV) clock) := (u1.other mb ht.ne).trans ht.map
  obtain ⟨τ2, d37, u2⟩ := defer37 (k + 1) (o := 0) (σ := τ1) (by have := u1.n; show tb < τ1.n; rw [this]; exact htb) u1.at_ rfl
  have u2 : Upd τ1 τ2 tb (.blk [.int .i32 0, .int .u32 0, .map mb] 63 0 false) := u2
  have ld := load1 one61 (o := 2) u1.at_ rfl rfl
  have lk := lookup61f hm1 key
  have hs := same_of (σ := { σ with tch := σ.n }) ⟨ht.blk, ht.map⟩ u1 u2
  have hr : runBody env (aCall env (k + 3)) (callD env (aCall env (k + 3)) (k + 3)) (aDraw env (aCall env (k + 3))) (k + 3) Try.f38 bodyOf38 [.ptr tb 0 0, .str key] { σ with tch := σ.n } = some (cellV (look key es 0), τ2) := by
    generalize ({ σ with tch := σ.n } : St) = τ at e36 ⊢
    have hne : binO env .eql 31 (.tmp 5) (.const (.pointer none)) (.ptr tb 0 0) .ptr0 τ = some (.bool false) := by kernel_rfl
    unfold runBody bodyOf38 Try.f38
    simp [aCode, aOps, aStep, wants, aOper, aVal, Fr.ev, Fr.put, argsAt, PT.get_set, keep, ofConst, ofCell, resultsV, resultV, aDefers, kindEq, evs, f63_0, f63_1, e36, d37, ld, lk, hne]
  obtain ⟨σ', e1, e2, e3, e4⟩ := callW_gen (c := bodyOf38) rfl Try.func38 rfl hr (by have := hs.tch; omega)
  exact ⟨σ', e1, e2.trans hs.n, fun b => (e4 b).trans (hs.get b), Nat.le_trans e3.1 hs.tch⟩

/-- A cell that is made, of a value. -/
def MadeCell (σ : St) (c : Nat) (v : Int) : Prop := ∃ cs, σ.get c = some (.blk cs 58 0 false) ∧ cs[0]? = some (.int .u32 1) ∧ cs[4]? = some (.int .i64 v) ∧ cs[5]? = some (.int .u32 1)

theorem MadeCell.to {σ σ' : St} {c : Nat} {v : Int} (h : MadeCell σ c v) (e : σ'.get c = σ.get c) : MadeCell σ' c v := by
  obtain ⟨cs, h1, h2⟩ := h
  exact ⟨cs, e.trans h1, h2⟩

theorem made_nil (k : Nat) (σ : St) : aCall env (k + 1) 12 [.ptr0] σ = some (.bool false, σ) := by
  refine callW_of (c := _) rfl Try.func12 rfl ?_ rfl
  generalize ({ σ with tch := σ.n } : St) = τ
  have hne : binO env .neq 25 (.tmp 3) (.const (.pointer none)) .ptr0 .ptr0 τ = some (.bool false) := by kernel_rfl
  unfold runBody Try.f12
  simp [aCode, aOps, aStep, wants, aOper, aVal, Fr.ev, Fr.put, argsAt, PT.get_set, keep, ofConst, ofCell, resultsV, resultV, aDefers, kindEq, evs, hne]

set_option maxRecDepth 100000 in
set_option maxHeartbeats 4000000 in
theorem tmade_call (k : Nat) {σ : St} {tb mb : Nat} {es : Ents} {clock : Nat} (ht : Tab σ tb mb es clock) (htb : tb < σ.n) (key : List UInt8) (hc : ∀ i c b, look key es 0 = some (i, c, b) → c < σ.n ∧ ∃ v, MadeCell σ c v) :
    ∃ σ', aCall env (k + 5) 23 [.ptr tb 0 0, .str key] σ = some (.bool (look key es 0).isSome, σ') ∧ Same σ σ' tb := by
  obtain ⟨τ1, e38, hs⟩ := cell_call k (σ := { σ with tch := σ.n }) ⟨ht.blk, ht.map⟩ htb key (fun i c b h => (hc i c b h).1)
  have hr : runBody env (aCall env (k + 4)) (callD env (aCall env (k + 4)) (k + 4)) (aDraw env (aCall env (k + 4))) (k + 4) Try.f23 (match Try.f23.body with | some c => c | none => .skip) [.ptr tb 0 0, .str key] { σ with tch := σ.n } = some (.bool (look key es 0).isSome, τ1) := by
    cases hl : look key es 0 with
    | none =>
      rw [hl] at e38
      simp only [cellV] at e38
      have h12 := made_nil (k + 3) τ1
      generalize ({ σ with tch := σ.n } : St) = τ at e38 ⊢
      unfold runBody Try.f23
      simp [aCode, aOps, aStep, wants, aOper, aVal, Fr.ev, Fr.put, argsAt, PT.get_set, keep, ofConst, ofCell, resultsV, resultV, aDefers, kindEq, evs, e38, h12]
    | some p =>
      obtain ⟨i, c, b⟩ := p
      rw [hl] at e38
      simp only [cellV] at e38
      obtain ⟨_, v, cs, h1, h2, h3, h4⟩ := hc i c b hl
      have h12 := made_call (k + 1) (σ := τ1) (b := c) ((hs.get c).trans h1) h4
      generalize ({ σ with tch := σ.n } : St) = τ at e38 ⊢
      unfold runBody Try.f23
      simp [aCode, aOps, aStep, wants, aOper, aVal, Fr.ev, Fr.put, argsAt, PT.get_set, keep, ofConst, ofCell, resultsV, resultV, aDefers, kindEq, evs, e38, h12]
  obtain ⟨σ', e1, e2, e3, e4⟩ := callW_gen (c := _) rfl Try.func23 rfl hr (by have := hs.tch; omega)
  exact ⟨σ', e1, e2.trans hs.n, fun b => (e4 b).trans (hs.get b), Nat.le_trans e3.1 hs.tch⟩

set_option maxRecDepth 100000 in
set_option maxHeartbeats 4000000 in
theorem count_call (k : Nat) {σ : St} {tb mb : Nat} {es : Ents} {clock : Nat} (ht : Tab σ tb mb es clock) (htb : tb < σ.n) :
    ∃ σ', aCall env (k + 4) 18 [.ptr tb 0 0] σ = some (.int .i64 es.length, σ') ∧ Same σ σ' tb := by
  obtain ⟨τ1, e36, u1⟩ := lock36 k (σ := { σ with tch := σ.n }) (o := 0) htb ht.blk rfl
  have u1 : Upd { σ with tch := σ.n } τ1 tb (.blk [.int .i32 1, .int .u32 0, .map mb] 63 0 false) := u1
  have hm1 : τ1.get mb = some (.map (es.map entV) clock) := (u1.other mb ht.ne).trans ht.map
  obtain ⟨τ2, d37, u2⟩ := defer37 (k + 1) (o := 0) (σ := τ1) (by have := u1.n; show tb < τ1.n; rw [this]; exact htb) u1.at_ rfl
  have u2 : Upd τ1 τ2 tb (.blk [.int .i32 0, .int .u32 0, .map mb] 63 0 false) := u2
  have ld := load1 one61 (o := 2) u1.at_ rfl rfl
  have ln : lenAt env 61 (.map mb) τ1 = some (.int .i64 es.length) := by simp [lenAt, und61, hm1]
  have hs := same_of (σ := { σ with tch := σ.n }) ⟨ht.blk, ht.map⟩ u1 u2
  have hr : runBody env (aCall env (k + 3)) (callD env (aCall env (k + 3)) (k + 3)) (aDraw env (aCall env (k + 3))) (k + 3) Try.f18 bodyOf18 [.ptr tb 0 0] { σ with tch := σ.n } = some (.int .i64 es.length, τ2) := by
    generalize ({ σ with tch := σ.n } : St) = τ at e36 ⊢
    have hne : binO env .eql 31 (.tmp 3) (.const (.pointer none)) (.ptr tb 0 0) .ptr0 τ = some (.bool false) := by kernel_rfl
    unfold runBody bodyOf18 Try.f18
    simp [aCode, aOps, aStep, wants, aOper, aVal, Fr.ev, Fr.put, argsAt, PT.get_set, keep, ofConst, ofCell, resultsV, resultV, aDefers, kindEq, evs, f63_0, f63_1, e36, d37, ld, hne, builtinV, ln]
  obtain ⟨σ', e1, e2, e3, e4⟩ := callW_gen (c := bodyOf18) rfl Try.func18 rfl hr (by have := hs.tch; omega)
  exact ⟨σ', e1, e2.trans hs.n, fun b => (e4 b).trans (hs.get b), Nat.le_trans e3.1 hs.tch⟩

/-- The map alone was turned. -/
structure Turned (σ σ' : St) (tb mb : Nat) (es : Ents) (clock : Nat) : Prop where
  n : σ'.n = σ.n
  tab : Tab σ' tb mb es clock
  get : ∀ b, b ≠ mb → σ'.get b = σ.get b
  tch : σ'.tch ≤ tb

set_option maxRecDepth 100000 in
set_option maxHeartbeats 4000000 in
theorem drop_call (k : Nat) {σ : St} {tb mb : Nat} {es : Ents} {clock : Nat} (ht : Tab σ tb mb es clock) (htb : tb < σ.n) (key : List UInt8) :
    ∃ σ', aCall env (k + 4) 22 [.ptr tb 0 0, .str key] σ = some (.tup [], σ') ∧ Turned σ σ' tb mb (gone es (look key es 0)) clock := by
  obtain ⟨τ1, e36, u1⟩ := lock36 k (σ := { σ with tch := σ.n }) (o := 0) htb ht.blk rfl
  have u1 : Upd { σ with tch := σ.n } τ1 tb (.blk [.int .i32 1, .int .u32 0, .map mb] 63 0 false) := u1
  have hm1 : τ1.get mb = some (.map (es.map entV) clock) := (u1.other mb ht.ne).trans ht.map
  have dl := delete61 hm1 key
  generalize hes : (gone es (look key es 0)) = es' at dl ⊢
  have hb2 : (τ1.put mb (.map (es'.map entV) clock)).get tb = some (.blk [.int .i32 1, .int .u32 0, .map mb] 63 0 false) := by rw [St.get_put, if_neg (fun h => ht.ne h.symm)]; exact u1.at_
  have hm2 : (τ1.put mb (.map (es'.map entV) clock)).get mb = some (.map (es'.map entV) clock) := by rw [St.get_put, if_pos rfl]
  have ho2 : ∀ b, b ≠ mb → (τ1.put mb (.map (es'.map entV) clock)).get b = τ1.get b := fun b h => by rw [St.get_put, if_neg h]
  have hn2 : (τ1.put mb (.map (es'.map entV) clock)).n = τ1.n := rfl
  generalize hτ2 : τ1.put mb (.map (es'.map entV) clock) = τ2 at dl hb2 hm2 ho2 hn2
  obtain ⟨τ3, d37, u3⟩ := defer37 (k + 1) (o := 0) (σ := τ2) (by have := u1.n; rw [hn2, this]; exact htb) hb2 rfl
  have u3 : Upd τ2 τ3 tb (.blk [.int .i32 0, .int .u32 0, .map mb] 63 0 false) := u3
  have ld := load1 one61 (o := 2) u1.at_ rfl rfl
  have hr : runBody env (aCall env (k + 3)) (callD env (aCall env (k + 3)) (k + 3)) (aDraw env (aCall env (k + 3))) (k + 3) Try.f22 bodyOf22 [.ptr tb 0 0, .str key] { σ with tch := σ.n } = some (.tup [], τ3) := by
    generalize ({ σ with tch := σ.n } : St) = τ at e36 ⊢
    have hne : binO env .eql 31 (.tmp 4) (.const (.pointer none)) (.ptr tb 0 0) .ptr0 τ = some (.bool false) := by kernel_rfl
    unfold runBody bodyOf22 Try.f22
    simp [aCode, aOps, aStep, wants, aOper, aVal, Fr.ev, Fr.put, argsAt, PT.get_set, keep, ofConst, ofCell, resultsV, resultV, aDefers, kindEq, evs, f63_0, f63_1, e36, d37, ld, hne, builtinV, dl, SS.unit]
  obtain ⟨σ', e1, e2, e3, e4⟩ := callW_gen (c := bodyOf22) rfl Try.func22 rfl hr (by have := u3.tch; omega)
  refine ⟨σ', e1, ?_, ⟨(e4 tb).trans u3.at_, ?_⟩, fun b h => ?_, Nat.le_trans e3.1 u3.tch⟩
  · rw [e2, u3.n, hn2, u1.n]
  · rw [e4, u3.other mb ht.ne]; exact hm2
  · rw [e4]
    by_cases hb : b = tb
    · subst hb; exact u3.at_.trans ht.blk.symm
    · rw [u3.other b hb, ho2 b h]; exact u1.other b hb
end Go.Proofs.Ytiephapklpfhfaa

namespace Go.Proofs.Ytiephapklpfhfaa
open Go SS

set_option maxRecDepth 100000 in
set_option maxHeartbeats 400000 in
theorem claim_there (k : Nat) {σ : St} {tb mb : Nat} {es : Ents} {clock : Nat} (ht : Tab σ tb mb es clock) (htb : tb < σ.n) (key : List UInt8) {i c b : Nat} (hl : look key es 0 = some (i, c, b)) (mk : V) :
    ∃ σ', aCall env (k + 4) 35 [.ptr tb 0 0, .str key, mk] σ = some (.ptr c 0 0, σ') ∧ Same σ σ' tb := by
  obtain ⟨τ1, e36, u1⟩ := lock36 k (σ := { σ with tch := σ.n }) (o := 0) htb ht.blk rfl
  have u1 : Upd { σ with tch := σ.n } τ1 tb (.blk [.int .i32 1, .int .u32 0, .map mb] 63 0 false) := u1
  have hm1 : τ1.get mb = some (.map (es.map entV) clock) := (u1.other mb ht.ne).trans ht.map
  obtain ⟨τ2, d37, u2⟩ := defer37 (k + 1) (o := 0) (σ := τ1) (by have := u1.n; show tb < τ1.n; rw [this]; exact htb) u1.at_ rfl
  have u2 : Upd τ1 τ2 tb (.blk [.int .i32 0, .int .u32 0, .map mb] 63 0 false) := u2
  have ld := load1 one61 (o := 2) u1.at_ rfl rfl
  have lk := lookup61 hm1 key
  rw [hl] at lk
  simp only [cellV, Option.isSome_some] at lk
  have hs := same_of (σ := { σ with tch := σ.n }) ⟨ht.blk, ht.map⟩ u1 u2
  have hr : runBody env (aCall env (k + 3)) (callD env (aCall env (k + 3)) (k + 3)) (aDraw env (aCall env (k + 3))) (k + 3) Try.f35 bodyOf35 [.ptr tb 0 0, .str key, mk] { σ with tch := σ.n } = some (.ptr c 0 0, τ2) := by
    generalize ({ σ with tch := σ.n } : St) = τ at e36 ⊢
    unfold runBody bodyOf35 Try.f35
    simp [aCode, aOps, aStep, wants, aOper, aVal, Fr.ev, Fr.put, argsAt, PT.get_set, keep, ofConst, ofCell, resultsV, resultV, aDefers, kindEq, evs, f63_0, f63_1, e36, d37, ld, lk, unV]
  obtain ⟨σ', e1, e2, e3, e4⟩ := callW_gen (c := bodyOf35) rfl Try.func35 rfl hr (by have := hs.tch; omega)
  exact ⟨σ', e1, e2.trans hs.n, fun b => (e4 b).trans (hs.get b), Nat.le_trans e3.1 hs.tch⟩

/-- A key that was not there has a cell. -/
structure Claimed (σ σ' : St) (tb mb nb : Nat) (es : Ents) (clock : Nat) (key : List UInt8) (g : FuncId) (cap : List V) : Prop where
  ge : σ.n ≤ nb
  lt : nb < σ'.n
  tab : Tab σ' tb mb (es ++ [(key, nb, clock)]) (clock + 1)
  cell : σ'.get nb = some (.blk (cell0 (.fn g cap)) 58 0 false)
  get : ∀ b, b < σ.n → b ≠ mb → σ'.get b = σ.get b
  tch : σ'.tch ≤ tb

set_option maxRecDepth 100000 in
set_option maxHeartbeats 400000 in
theorem claim_new (k : Nat) {σ : St} {tb mb : Nat} {es : Ents} {clock : Nat} (ht : Tab σ tb mb es clock) (htb : tb < σ.n) (hmb : mb < σ.n) (key : List UInt8) (hl : look key es 0 = none) (g : FuncId) (cap : List V) :
    ∃ nb σ', aCall env (k + 4) 35 [.ptr tb 0 0, .str key, .fn g cap] σ = some (.ptr nb 0 0, σ') ∧ Claimed σ σ' tb mb nb es clock key g cap := by
  obtain ⟨τ1, e36, u1⟩ := lock36 k (σ := { σ with tch := σ.n }) (o := 0) htb ht.blk rfl
  have u1 : Upd { σ with tch := σ.n } τ1 tb (.blk [.int .i32 1, .int .u32 0, .map mb] 63 0 false) := u1
  have hn1 : τ1.n = σ.n := u1.n
  have hm1 : τ1.get mb = some (.map (es.map entV) clock) := (u1.other mb ht.ne).trans ht.map
  have ld := load1 one61 (o := 2) u1.at_ rfl rfl
  have lk := lookup61 hm1 key
  rw [hl] at lk
  simp only [cellV, Option.isSome_none] at lk
  obtain ⟨τ2, e9, n2, c2, o2⟩ := new_call (k + 2) τ1 g cap
  have hb2 : τ2.get tb = some (.blk [.int .i32 1, .int .u32 0, .map mb] 63 0 false) := (o2 tb (by omega)).trans u1.at_
  have hm2 : τ2.get mb = some (.map (es.map entV) clock) := (o2 mb (by omega)).trans hm1
  have ld2 := load1 one61 (o := 2) hb2 rfl rfl
  have up := update61 hm2 hl τ1.n
  have hb3 : (τ2.put mb (.map ((es ++ [(key, τ1.n, clock)]).map entV) (clock + 1))).get tb = some (.blk [.int .i32 1, .int .u32 0, .map mb] 63 0 false) := by rw [St.get_put, if_neg (fun h => ht.ne h.symm)]; exact hb2
  have hm3 : (τ2.put mb (.map ((es ++ [(key, τ1.n, clock)]).map entV) (clock + 1))).get mb = some (.map ((es ++ [(key, τ1.n, clock)]).map entV) (clock + 1)) := by rw [St.get_put, if_pos rfl]
  have ho3 : ∀ b, b ≠ mb → (τ2.put mb (.map ((es ++ [(key, τ1.n, clock)]).map entV) (clock + 1))).get b = τ2.get b := fun b h => by rw [St.get_put, if_neg h]
  have hn3 : (τ2.put mb (.map ((es ++ [(key, τ1.n, clock)]).map entV) (clock + 1))).n = τ2.n := rfl
  generalize hτ3 : τ2.put mb (.map ((es ++ [(key, τ1.n, clock)]).map entV) (clock + 1)) = τ3 at up hb3 hm3 ho3 hn3
  obtain ⟨τ4, d37, u4⟩ := defer37 (k + 1) (o := 0) (σ := τ3) (by omega) hb3 rfl
  have u4 : Upd τ3 τ4 tb (.blk [.int .i32 0, .int .u32 0, .map mb] 63 0 false) := u4
  have hr : runBody env (aCall env (k + 3)) (callD env (aCall env (k + 3)) (k + 3)) (aDraw env (aCall env (k + 3))) (k + 3) Try.f35 bodyOf35 [.ptr tb 0 0, .str key, .fn g cap] { σ with tch := σ.n } = some (.ptr τ1.n 0 0, τ4) := by
    generalize ({ σ with tch := σ.n } : St) = τ at e36 ⊢
    generalize τ1.n = nb at e9 up ⊢
    unfold runBody bodyOf35 Try.f35
    simp [aCode, aOps, aStep, wants, aOper, aVal, Fr.ev, Fr.put, argsAt, PT.get_set, keep, ofConst, ofCell, resultsV, resultV, aDefers, kindEq, evs, f63_0, f63_1, e36, d37, ld, ld2, lk, unV, e9]
    rw [up]
    simp only [SS.unit, PT.get_set, Nat.reduceEqDiff, if_true, if_false, Nat.reduceLT]
    simp [aDefers, d37]
  obtain ⟨σ', e1, e2, e3, e4⟩ := callW_gen (c := bodyOf35) rfl Try.func35 rfl hr (by have := u4.tch; omega)
  refine ⟨τ1.n, σ', e1, ⟨by omega, by have := u4.n; omega, ⟨(e4 tb).trans u4.at_, ?_⟩, ?_, fun b h hb => ?_, Nat.le_trans e3.1 u4.tch⟩⟩
  · rw [e4, u4.other mb ht.ne]; exact hm3
  · rw [e4, u4.other _ (by omega), ho3 _ (by omega)]; exact c2
  · rw [e4]
    by_cases hbt : b = tb
    · subst hbt; exact u4.at_.trans ht.blk.symm
    · rw [u4.other b hbt, ho3 b hb, o2 b (by omega)]; exact u1.other b hbt

set_option maxRecDepth 100000 in
set_option maxHeartbeats 400000 in
theorem tget_there (k : Nat) {σ : St} {tb mb : Nat} {es : Ents} {clock : Nat} (ht : Tab σ tb mb es clock) (htb : tb < σ.n) (key : List UInt8) {i c b : Nat} (hl : look key es 0 = some (i, c, b)) (hc : c < σ.n) {v : Int} (hv : MadeCell σ c v) (mk : V) :
    ∃ σ', aCall env (k + 7) 16 [.ptr tb 0 0, .str key, mk] σ = some (.int .i64 v, σ') ∧ Same σ σ' tb := by
  obtain ⟨τ1, e35, hs⟩ := claim_there (k + 2) (σ := { σ with tch := σ.n }) ⟨ht.blk, ht.map⟩ htb key hl mk
  obtain ⟨cs, h1, h2, h3, h4⟩ := hv
  have h13 := get_made (k + 2) (σ := τ1) (b := c) (by have := hs.n; rw [this]; exact hc) ((hs.get c).trans h1) h2 h3
  have hr : runBody env (aCall env (k + 6)) (callD env (aCall env (k + 6)) (k + 6)) (aDraw env (aCall env (k + 6))) (k + 6) Try.f16 (match Try.f16.body with | some c => c | none => .skip) [.ptr tb 0 0, .str key, mk] { σ with tch := σ.n } = some (.int .i64 v, τ1) := by
    generalize ({ σ with tch := σ.n } : St) = τ at e35 ⊢
    have hne : binO env .eql 31 (.tmp 7) (.const (.pointer none)) (.ptr tb 0 0) .ptr0 τ = some (.bool false) := by kernel_rfl
    unfold runBody Try.f16
    simp [aCode, aOps, aStep, wants, aOper, aVal, Fr.ev, Fr.put, argsAt, PT.get_set, keep, ofConst, ofCell, resultsV, resultV, aDefers, kindEq, evs, e35, h13, hne]
  obtain ⟨σ', e1, e2, e3, e4⟩ := callW_gen (c := _) rfl Try.func16 rfl hr (by have := hs.tch; omega)
  exact ⟨σ', e1, e2.trans hs.n, fun b => (e4 b).trans (hs.get b), Nat.le_trans e3.1 hs.tch⟩

/-- What a maker does in a table's Get. -/
def TMakes (k : Nat) (σ : St) (tb mb : Nat) (es : Ents) (clock : Nat) (key : List UInt8) (g : FuncId) (cap : List V) (v : Int) (Q : Nat → St → Prop) : Prop :=
  ∀ (nb : Nat) (τ : St), σ.n ≤ nb → nb < τ.n → Tab τ tb mb (es ++ [(key, nb, clock)]) (clock + 1) → (∀ b, b < σ.n → b ≠ mb → τ.get b = σ.get b) →
    ∃ τ', aCall env (k + 2) g cap τ = some (.int .i64 v, τ') ∧ τ.n ≤ τ'.n ∧ (∀ b, σ.n ≤ b → b < τ.n → τ'.get b = τ.get b) ∧ Q nb τ'

theorem made_made (g : FuncId) (cap : List V) (v : Int) {σ : St} {c : Nat} (h : σ.get c = some (.blk (made (cell0 (.fn g cap)) v) 58 0 false)) : MadeCell σ c v :=
  ⟨_, h, rfl, rfl, rfl⟩

set_option maxRecDepth 100000 in
set_option maxHeartbeats 400000 in
theorem tget_new (k : Nat) {σ : St} {tb mb : Nat} {es : Ents} {clock : Nat} (ht : Tab σ tb mb es clock) (htb : tb < σ.n) (hmb : mb < σ.n) (key : List UInt8) (hl : look key es 0 = none) {g : FuncId} {cap : List V} {v : Int} {Q : Nat → St → Prop} (hmk : TMakes k σ tb mb es clock key g cap v Q) :
    ∃ nb τm σ', Q nb τm ∧ aCall env (k + 7) 16 [.ptr tb 0 0, .str key, .fn g cap] σ = some (.int .i64 v, σ') ∧ σ.n ≤ nb ∧ nb < τm.n ∧ σ'.n = τm.n ∧ MadeCell σ' nb v ∧ (∀ b, b ≠ nb → σ'.get b = τm.get b) ∧ σ'.tch ≤ tb := by
  obtain ⟨nb, τ1, e35, hc⟩ := claim_new (k + 2) (σ := { σ with tch := σ.n }) ⟨ht.blk, ht.map⟩ htb hmb key hl g cap
  have hnb : σ.n ≤ nb := hc.ge
  have hlt := hc.lt
  obtain ⟨τm, τ2, hq, e13, hn, ht2, hd⟩ := get_new k (σ := τ1) (b := nb) (Q := fun τ => Q nb τ) hc.cell rfl rfl rfl rfl hc.lt (fun τ0 h1 h2 => by
    obtain ⟨τ', m1, m2, m3, m4⟩ := hmk nb τ0 hnb (by omega) ⟨(h2 tb (by omega) (by omega)).trans hc.tab.blk, (h2 mb (by omega) (by omega)).trans hc.tab.map⟩ (fun b h3 h4 => (h2 b (by omega) (by omega)).trans (hc.get b h3 h4))
    exact ⟨τ', m1, m2, m3 nb hnb (by omega), fun b' h3 h4 => m3 b' (by omega) h4, m4⟩)
  have hr : runBody env (aCall env (k + 6)) (callD env (aCall env (k + 6)) (k + 6)) (aDraw env (aCall env (k + 6))) (k + 6) Try.f16 (match Try.f16.body with | some c => c | none => .skip) [.ptr tb 0 0, .str key, .fn g cap] { σ with tch := σ.n } = some (.int .i64 v, τ2) := by
    generalize ({ σ with tch := σ.n } : St) = τ at e35 ⊢
    have hne : binO env .eql 31 (.tmp 7) (.const (.pointer none)) (.ptr tb 0 0) .ptr0 τ = some (.bool false) := by kernel_rfl
    unfold runBody Try.f16
    simp [aCode, aOps, aStep, wants, aOper, aVal, Fr.ev, Fr.put, argsAt, PT.get_set, keep, ofConst, ofCell, resultsV, resultV, aDefers, kindEq, evs, e35, e13, hne]
  have htt : τ2.tch ≤ tb := Nat.le_trans ht2 hc.tch
  obtain ⟨σ', e1, e2, e3, e4⟩ := callW_gen (c := _) rfl Try.func16 rfl hr (by omega)
  exact ⟨nb, τm, σ', hq, e1, hnb, by omega, e2.trans hd.n, (made_made g cap v hd.cell).to (e4 nb), fun b h => (e4 b).trans (hd.other b h), Nat.le_trans e3.1 htt⟩
end Go.Proofs.Ytiephapklpfhfaa
