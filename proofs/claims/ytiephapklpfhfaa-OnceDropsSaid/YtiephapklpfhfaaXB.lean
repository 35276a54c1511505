/-
  Cells of chapter 1: the first Get of a cell. No condition.
-/
import Derived.Test.YtiephapklpfhfaaXA
namespace Go.Proofs.Ytiephapklpfhfaa
open Go SS

noncomputable def bodyOf33 : Code := match Try.f33.body with | some c => c | none => .skip

set_option maxRecDepth 100000 in
set_option maxHeartbeats 4000000 in
theorem body33 (k : Nat) {τ τ1 : St} {p b : Nat} {cs : List V} {g : FuncId} {cap : List V} {v : Int} (hb : τ.get b = some (.blk cs 58 0 false)) (hp : τ.get p = some (.blk [.ptr b 0 0] 25 0 false)) (hlen : cs.length = 6) (hg : cs[3]? = some (.fn g cap)) (hbt : b < τ.n)
    (hmk : aCall env (k + 2) g cap τ = some (.int .i64 v, τ1)) (hn1 : τ.n ≤ τ1.n) (hbc : τ1.get b = τ.get b) (hpc : τ1.get p = τ.get p) (hpb : p ≠ b) :
    ∃ τ', runBody env (aCall env (k + 2)) (callD env (aCall env (k + 2)) (k + 2)) (aDraw env (aCall env (k + 2))) (k + 2) Try.f33 (bodyOf33) [.ptr p 0 0] τ = some (.tup [], τ') ∧ τ'.n = τ1.n ∧
      τ'.get b = some (.blk ((cs.set 4 (.int .i64 v)).set 5 (.int .u32 1)) 58 0 false) ∧ (∀ b', b' ≠ b → τ'.get b' = τ1.get b') ∧ τ'.tch ≤ b := by
  have hb1 : τ1.get b = some (.blk cs 58 0 false) := hbc.trans hb
  have hp1 : τ1.get p = some (.blk [.ptr b 0 0] 25 0 false) := hpc.trans hp
  have lp := load1 (t := 25) (o := 0) (by kernel_rfl) hp rfl rfl
  have lp1 := load1 (t := 25) (o := 0) (by kernel_rfl) hp1 rfl rfl
  have lm := load1 (t := 27) (o := 3) (by kernel_rfl) hb hg rfl
  have lm1 := load1 (t := 27) (o := 3) (by kernel_rfl) hb1 hg rfl
  have st := store1 (t := 3) (o := 4) (v := .int .i64 v) (by kernel_rfl) hb1 (by omega) rfl rfl
  have hb2 : (τ1.put b (.blk (cs.set 4 (.int .i64 v)) 58 0 false)).get b = some (.blk (cs.set 4 (.int .i64 v)) 58 0 false) := by rw [St.get_put, if_pos rfl]
  have hp2 : (τ1.put b (.blk (cs.set 4 (.int .i64 v)) 58 0 false)).get p = some (.blk [.ptr b 0 0] 25 0 false) := by rw [St.get_put, if_neg hpb]; exact hp1
  have hn2 : (τ1.put b (.blk (cs.set 4 (.int .i64 v)) 58 0 false)).n = τ1.n := rfl
  have ho2 : ∀ b', b' ≠ b → (τ1.put b (.blk (cs.set 4 (.int .i64 v)) 58 0 false)).get b' = τ1.get b' := fun b' h => by rw [St.get_put, if_neg h]
  generalize hτ : τ1.put b (.blk (cs.set 4 (.int .i64 v)) 58 0 false) = τ2 at st hb2 hp2 hn2 ho2 ⊢
  have lp2 := load1 (t := 25) (o := 0) (by kernel_rfl) hp2 rfl rfl
  have hg2 : (cs.set 4 (.int .i64 v))[3]? = some (.fn g cap) := by rw [List.getElem?_set_ne (by omega)]; exact hg
  have lm2 := load1 (t := 27) (o := 3) (by kernel_rfl) hb2 hg2 rfl
  obtain ⟨τ3, s34, u3⟩ := store34 k (σ := τ2) (o := 5) (by omega) hb2 (by simpa using by omega)
  have f1 : fieldAt env 58 (.ptr b 0 0) 1 = some (.ptr b 0 3) := by have := f58_1 b 0; simpa using this
  have f2 : fieldAt env 58 (.ptr b 0 0) 2 = some (.ptr b 0 4) := by have := f58_2 b 0; simpa using this
  have f3 : fieldAt env 58 (.ptr b 0 0) 3 = some (.ptr b 0 5) := by have := f58_3 b 0; simpa using this
  have hne : binO env .neq 27 (.tmp 4) (.const .nilFunc) (.fn g cap) .fn0 τ = some (.bool true) := by kernel_rfl
  refine ⟨τ3, ?_, u3.n.trans hn2, u3.at_, fun b' h1 => (u3.other b' h1).trans (ho2 b' h1), u3.tch⟩
  unfold runBody bodyOf33 Try.f33
  simp [aCode, aDraw, hoist, dRun, dStep, withMasks, masks, maskOf, edgeMask, effects, kindOp, Region.binds, least, most, samePast, aOps, aStep, wants, aOper, aVal, Fr.ev, Fr.put, argsAt, PT.get_set, PT.get_leaf, keep, ofConst, ofCell, resultsV, resultV, aDefers, kindEq, evs, sliceSlice, late_f, sameAt, readAt, lp, lp1, lp2, lm, lm1, lm2, st, hmk, f1, f2, f3, hne, s34, V.beq_refl, SS.unit]

theorem call33 (k : Nat) {σ τ1 : St} {p b : Nat} {cs : List V} {g : FuncId} {cap : List V} {v : Int} (hb : σ.get b = some (.blk cs 58 0 false)) (hp : σ.get p = some (.blk [.ptr b 0 0] 25 0 false)) (hlen : cs.length = 6) (hg : cs[3]? = some (.fn g cap)) (hbt : b < σ.n)
    (hmk : aCall env (k + 2) g cap { σ with tch := σ.n } = some (.int .i64 v, τ1)) (hn1 : σ.n ≤ τ1.n) (hbc : τ1.get b = σ.get b) (hpc : τ1.get p = σ.get p) (hpb : p ≠ b) :
    ∃ σ', aCall env (k + 3) 33 [.ptr p 0 0] σ = some (.tup [], σ') ∧ σ'.n = τ1.n ∧ σ'.tch ≤ b ∧
      σ'.get b = some (.blk ((cs.set 4 (.int .i64 v)).set 5 (.int .u32 1)) 58 0 false) ∧ (∀ b', b' ≠ b → σ'.get b' = τ1.get b') := by
  obtain ⟨τ', hr, hn, h1, h3, h4⟩ := body33 k (τ := { σ with tch := σ.n }) hb hp hlen hg hbt hmk hn1 hbc hpc hpb
  obtain ⟨σ', e1, e2, e3, e4⟩ := callW_gen (c := bodyOf33) rfl Try.func33 rfl hr (by omega)
  exact ⟨σ', e1, e2.trans hn, Nat.le_trans e3.1 h4, (e4 b).trans h1, fun b' x => (e4 b').trans (h3 b' x)⟩
end Go.Proofs.Ytiephapklpfhfaa

namespace Go.Proofs.Ytiephapklpfhfaa
open Go SS

set_option maxRecDepth 100000 in
set_option maxHeartbeats 4000000 in
theorem defer34 (k : Nat) {σ : St} {b o : Nat} {cs : List V} {ty : TypeId} (hb : σ.get b = some (.blk cs ty 0 false)) (ho : o < cs.length) :
    callD env (aCall env (k + 1)) (k + 1) 34 [.ptr b 0 o, .bool true] σ = some (.tup [], σ.put b (.blk (cs.set o (.int .u32 1)) ty 0 false)) := by
  have he : env.extn 34 = none := rfl
  have hf : env.P.funcs[34]? = some Try.f34 := Try.func34
  have h41 := store41 k (x := 1) hb ho
  have h42 := call42 k σ
  generalize hτ : σ.put b (.blk (cs.set o (.int .u32 1)) ty 0 false) = τ2 at h41 ⊢
  unfold callD
  simp only [he, hf]
  unfold runPlain Try.f34
  simp [aCode, aDraw, hoist, dRun, dStep, withMasks, masks, maskOf, edgeMask, effects, kindOp, Region.binds, least, most, samePast, aOps, aStep, wants, aOper, aVal, Fr.ev, Fr.put, argsAt, PT.get_set, PT.get_leaf, keep, ofConst, ofCell, resultsV, resultV, aDefers, kindEq, f50_1, h41, h42, evs, sliceSlice, late_f, sameAt, readAt]

set_option maxRecDepth 100000 in
set_option maxHeartbeats 4000000 in
theorem defer37 (k : Nat) {σ : St} {b o : Nat} {cs : List V} {ty : TypeId} (hlt : b < σ.n) (hb : σ.get b = some (.blk cs ty 0 false)) (hx : cs[o]? = some (.int .i32 1)) :
    ∃ σ', callD env (aCall env (k + 2)) (k + 2) 37 [.ptr b 0 o] σ = some (.tup [], σ') ∧ Upd σ σ' b (.blk (cs.set o (.int .i32 0)) ty 0 false) := by
  have he : env.extn 37 = none := rfl
  have hf : env.P.funcs[37]? = some Try.f37 := Try.func37
  obtain ⟨σ1, h44, hu⟩ := unlock44 k hlt hb hx
  refine ⟨σ1, ?_, hu⟩
  unfold callD
  simp only [he, hf]
  unfold runPlain Try.f37
  simp [aCode, aOps, aStep, wants, aOper, aVal, Fr.ev, Fr.put, argsAt, PT.get_set, keep, ofConst, ofCell, resultsV, resultV, aDefers, kindEq, f54_1, h44, evs]
end Go.Proofs.Ytiephapklpfhfaa

namespace Go.Proofs.Ytiephapklpfhfaa
open Go SS

noncomputable def bodyOf40 : Code := match Try.f40.body with | some c => c | none => .skip

/-- What a maker does: it tells v, leaves the cell alone, and what is newer than a state; what else there is of it Q tells. -/
def Makes (k : Nat) (σ : St) (b : Nat) (g : FuncId) (cap : List V) (v : Int) (Q : St → Prop) : Prop :=
  ∀ τ : St, σ.n ≤ τ.n → (∀ b', b' < σ.n → b' ≠ b → τ.get b' = σ.get b') → ∃ τ', aCall env (k + 2) g cap τ = some (.int .i64 v, τ') ∧ τ.n ≤ τ'.n ∧ τ'.get b = τ.get b ∧ (∀ b', σ.n ≤ b' → b' < τ.n → τ'.get b' = τ.get b') ∧ Q τ'

/-- The cell is made; all else is as the maker left it. -/
structure Done (τ' σ' : St) (b : Nat) (cs : List V) : Prop where
  n : σ'.n = τ'.n
  tch : σ'.tch ≤ b
  cell : σ'.get b = some (.blk cs 58 0 false)
  other : ∀ b', b' ≠ b → σ'.get b' = τ'.get b'

/-- A cell's block once it is made. -/
def made (cs : List V) (v : Int) : List V := ((((cs.set 1 (.int .i32 1)).set 4 (.int .i64 v)).set 5 (.int .u32 1)).set 0 (.int .u32 1)).set 1 (.int .i32 0)

set_option maxRecDepth 100000 in
set_option maxHeartbeats 4000000 in
theorem body40 (k : Nat) {τ : St} {p b : Nat} {cs : List V} {g : FuncId} {cap : List V} {v : Int} {Q : St → Prop} {m : Nat} (hm : b < m) (hpm : m ≤ p) (hb : τ.get b = some (.blk cs 58 0 false)) (hp : τ.get p = some (.blk [.ptr b 0 0] 25 0 false)) (hlen : cs.length = 6) (hg : cs[3]? = some (.fn g cap))
    (h0 : cs[0]? = some (.int .u32 0)) (h1 : cs[1]? = some (.int .i32 0)) (hpt : p < τ.n)
    (hmk : ∀ τ0 : St, m ≤ τ0.n → (∀ b', b' < m → b' ≠ b → τ0.get b' = τ.get b') → ∃ τ', aCall env (k + 2) g cap τ0 = some (.int .i64 v, τ') ∧ τ0.n ≤ τ'.n ∧ τ'.get b = τ0.get b ∧ (∀ b', m ≤ b' → b' < τ0.n → τ'.get b' = τ0.get b') ∧ Q τ') :
    ∃ τm τ', Q τm ∧ runBody env (aCall env (k + 3)) (callD env (aCall env (k + 3)) (k + 3)) (aDraw env (aCall env (k + 3))) (k + 3) Try.f40 bodyOf40 [.ptr b 0 0, .fn 33 [.ptr p 0 0]] τ = some (.tup [], τ') ∧ τ.n ≤ τm.n ∧ Done τm τ' b (made cs v) ∧ (∀ b', m ≤ b' → b' < τ.n → τm.get b' = τ.get b') := by
  have hpb : p ≠ b := by omega
  obtain ⟨τ1, e36, u1⟩ := lock36 k (o := 1) (by omega) hb h1
  have hl1 : (cs.set 1 (.int .i32 1)).length = 6 := by simpa using hlen
  have hg1 : (cs.set 1 (.int .i32 1))[3]? = some (.fn g cap) := by rw [List.getElem?_set_ne (by omega)]; exact hg
  have h01 : (cs.set 1 (.int .i32 1))[0]? = some (.int .u32 0) := by rw [List.getElem?_set_ne (by omega)]; exact h0
  have e31 := load_call (k + 1) (o := 0) u1.at_ h01
  have hn1 := u1.n
  obtain ⟨τm, em, nm, bm, om, qm⟩ := hmk { τ1 with tch := τ1.n } (by show m ≤ τ1.n; omega) (fun b' _ hne => u1.other b' hne)
  have nm : τ1.n ≤ τm.n := nm
  obtain ⟨τ2, e33, n2, t2, hb2, ho2⟩ := call33 k (σ := τ1) u1.at_ ((u1.other p hpb).trans hp) hl1 hg1 (by omega) em nm bm (om p hpm (by show p < τ1.n; omega)) hpb
  have d34 := defer34 (k + 2) (o := 0) hb2 (by simp [hlen])
  have hb3 : (τ2.put b (.blk ((((cs.set 1 (.int .i32 1)).set 4 (.int .i64 v)).set 5 (.int .u32 1)).set 0 (.int .u32 1)) 58 0 false)).get b = some (.blk ((((cs.set 1 (.int .i32 1)).set 4 (.int .i64 v)).set 5 (.int .u32 1)).set 0 (.int .u32 1)) 58 0 false) := by rw [St.get_put, if_pos rfl]
  have hx3 : ((((cs.set 1 (.int .i32 1)).set 4 (.int .i64 v)).set 5 (.int .u32 1)).set 0 (.int .u32 1))[1]? = some (.int .i32 1) := by
    rw [List.getElem?_set_ne (by omega), List.getElem?_set_ne (by omega), List.getElem?_set_ne (by omega)]
    simp [hlen]
  obtain ⟨τ4, d37, u4⟩ := defer37 (k + 1) (o := 1) (by show b < τ2.n; omega) hb3 hx3
  have f1 : fieldAt env 56 (.ptr b 0 0) 1 = some (.ptr b 0 0) := f56_1 b 0
  have f2 : fieldAt env 56 (.ptr b 0 0) 2 = some (.ptr b 0 1) := by have := f56_2 b 0; simpa using this
  have hn4 : τ4.n = τm.n := u4.n.trans n2
  refine ⟨τm, τ4, qm, ?_, by omega, ⟨hn4, u4.tch, u4.at_, fun b' h => ?_⟩, fun b' h2 h3 => ?_⟩
  · unfold runBody bodyOf40 Try.f40
    simp [aCode, aOps, aStep, wants, aOper, aVal, Fr.ev, Fr.put, argsAt, PT.get_set, keep, ofConst, ofCell, resultsV, resultV, aDefers, kindEq, evs, unV, f1, f2, e36, e31, e33, d34, d37]
  · rw [u4.other b' h, St.get_put, if_neg h, ho2 b' h]
  · have hh : b' < τ1.n := by omega
    have hne : b' ≠ b := by omega
    exact (om b' h2 hh).trans (u1.other b' hne)
end Go.Proofs.Ytiephapklpfhfaa

namespace Go.Proofs.Ytiephapklpfhfaa
open Go SS

theorem made_four {cs : List V} {v : Int} (h : cs.length = 6) : (made cs v)[4]? = some (.int .i64 v) := by
  unfold made
  rw [List.getElem?_set_ne (by omega), List.getElem?_set_ne (by omega), List.getElem?_set_ne (by omega)]
  simp [h]

def MakesFrom (k : Nat) (σ : St) (m b : Nat) (g : FuncId) (cap : List V) (v : Int) (Q : St → Prop) : Prop :=
  ∀ τ0 : St, m ≤ τ0.n → (∀ b', b' < m → b' ≠ b → τ0.get b' = σ.get b') → ∃ τ', aCall env (k + 2) g cap τ0 = some (.int .i64 v, τ') ∧ τ0.n ≤ τ'.n ∧ τ'.get b = τ0.get b ∧ (∀ b', m ≤ b' → b' < τ0.n → τ'.get b' = τ0.get b') ∧ Q τ'

theorem call40 (k : Nat) {σ : St} {p b : Nat} {cs : List V} {g : FuncId} {cap : List V} {v : Int} {Q : St → Prop} {m : Nat} (hm : b < m) (hpm : m ≤ p) (hb : σ.get b = some (.blk cs 58 0 false)) (hp : σ.get p = some (.blk [.ptr b 0 0] 25 0 false)) (hlen : cs.length = 6) (hg : cs[3]? = some (.fn g cap))
    (h0 : cs[0]? = some (.int .u32 0)) (h1 : cs[1]? = some (.int .i32 0)) (hpt : p < σ.n) (hmk : MakesFrom k σ m b g cap v Q) :
    ∃ τm σ', Q τm ∧ aCall env (k + 4) 40 [.ptr b 0 0, .fn 33 [.ptr p 0 0]] σ = some (.tup [], σ') ∧ σ.n ≤ τm.n ∧ Done τm σ' b (made cs v) ∧ (∀ b', m ≤ b' → b' < σ.n → τm.get b' = σ.get b') := by
  obtain ⟨τm, τ', hq, hr, hn, hd, ho⟩ := body40 k (τ := { σ with tch := σ.n }) hm hpm hb hp hlen hg h0 h1 hpt hmk
  have hn' : σ.n ≤ τm.n := hn
  obtain ⟨σ', e1, e2, e3, e4⟩ := callW_gen (c := bodyOf40) rfl Try.func40 rfl hr (by have := hd.tch; omega)
  exact ⟨τm, σ', hq, e1, hn', ⟨e2.trans hd.n, Nat.le_trans e3.1 hd.tch, (e4 b).trans hd.cell, fun b' h => (e4 b').trans (hd.other b' h)⟩, ho⟩

set_option maxRecDepth 100000 in
set_option maxHeartbeats 4000000 in
theorem do_new (k : Nat) {σ : St} {p b : Nat} {cs : List V} {g : FuncId} {cap : List V} {v : Int} {Q : St → Prop} {m : Nat} (hm : b < m) (hpm : m ≤ p) (hb : σ.get b = some (.blk cs 58 0 false)) (hp : σ.get p = some (.blk [.ptr b 0 0] 25 0 false)) (hlen : cs.length = 6) (hg : cs[3]? = some (.fn g cap))
    (h0 : cs[0]? = some (.int .u32 0)) (h1 : cs[1]? = some (.int .i32 0)) (hpt : p < σ.n) (hmk : MakesFrom k σ m b g cap v Q) :
    ∃ τm σ', Q τm ∧ aCall env (k + 5) 32 [.ptr b 0 0, .fn 33 [.ptr p 0 0]] σ = some (.tup [], σ') ∧ σ.n ≤ τm.n ∧ Done τm σ' b (made cs v) ∧ (∀ b', m ≤ b' → b' < σ.n → τm.get b' = σ.get b') := by
  obtain ⟨τm, τ', hq, e40, hn, hd, ho⟩ := call40 k (σ := { σ with tch := σ.n }) hm hpm hb hp hlen hg h0 h1 hpt hmk
  have e31 := load_call (k + 2) (σ := { σ with tch := σ.n }) (o := 0) hb h0
  have f1 := f56_1 b 0
  have hr : runBody env (aCall env (k + 4)) (callD env (aCall env (k + 4)) (k + 4)) (aDraw env (aCall env (k + 4))) (k + 4) Try.f32 (match Try.f32.body with | some c => c | none => .skip) [.ptr b 0 0, .fn 33 [.ptr p 0 0]] { σ with tch := σ.n } = some (.tup [], τ') := by
    generalize ({ σ with tch := σ.n } : St) = τ at e40 e31 ⊢
    unfold runBody Try.f32
    simp [aCode, aOps, aStep, wants, aOper, aVal, Fr.ev, Fr.put, argsAt, PT.get_set, keep, ofConst, ofCell, resultsV, resultV, aDefers, kindEq, f1, e31, e40, evs, unV]
  have hn' : σ.n ≤ τm.n := hn
  obtain ⟨σ', e1, e2, e3, e4⟩ := callW_gen (c := _) rfl Try.func32 rfl hr (by have := hd.tch; omega)
  exact ⟨τm, σ', hq, e1, hn', ⟨e2.trans hd.n, Nat.le_trans e3.1 hd.tch, (e4 b).trans hd.cell, fun b' h => (e4 b').trans (hd.other b' h)⟩, ho⟩

set_option maxRecDepth 100000 in
set_option maxHeartbeats 4000000 in
theorem get_new (k : Nat) {σ : St} {b : Nat} {cs : List V} {g : FuncId} {cap : List V} {v : Int} {Q : St → Prop} (hb : σ.get b = some (.blk cs 58 0 false)) (hlen : cs.length = 6) (hg : cs[3]? = some (.fn g cap))
    (h0 : cs[0]? = some (.int .u32 0)) (h1 : cs[1]? = some (.int .i32 0)) (hbt : b < σ.n) (hmk : MakesFrom k σ σ.n b g cap v Q) :
    ∃ τm σ', Q τm ∧ aCall env (k + 6) 13 [.ptr b 0 0] σ = some (.int .i64 v, σ') ∧ σ.n ≤ τm.n ∧ σ'.tch ≤ σ.tch ∧ Done τm σ' b (made cs v) := by
  have hb2 : (({ σ with tch := σ.n } : St).new (.blk [.ptr b 0 0] 25 0 false)).get b = some (.blk cs 58 0 false) := by rw [St.get_new, if_neg (by show b ≠ σ.n; omega)]; exact hb
  have hp2 : (({ σ with tch := σ.n } : St).new (.blk [.ptr b 0 0] 25 0 false)).get σ.n = some (.blk [.ptr b 0 0] 25 0 false) := by rw [St.get_new, if_pos rfl]
  have hn2 : (({ σ with tch := σ.n } : St).new (.blk [.ptr b 0 0] 25 0 false)).n = σ.n + 1 := rfl
  have ho2 : ∀ b', b' < σ.n → (({ σ with tch := σ.n } : St).new (.blk [.ptr b 0 0] 25 0 false)).get b' = σ.get b' := fun b' h => by rw [St.get_new, if_neg (by show b' ≠ σ.n; omega)]; rfl
  have hn0 : ({ σ with tch := σ.n } : St).n = σ.n := rfl
  have key : ∀ τ2 : St, τ2 = ({ σ with tch := σ.n } : St).new (.blk [.ptr b 0 0] 25 0 false) → ∃ τm τ', Q τm ∧ aCall env (k + 5) 32 [.ptr b 0 0, .fn 33 [.ptr σ.n 0 0]] τ2 = some (.tup [], τ') ∧ τ2.n ≤ τm.n ∧ Done τm τ' b (made cs v) ∧ (∀ b', σ.n ≤ b' → b' < τ2.n → τm.get b' = τ2.get b') := fun τ2 e => by
    subst e
    exact do_new k (m := σ.n) hbt (Nat.le_refl _) hb2 hp2 hlen hg h0 h1 (by omega) (fun τ0 h1 h2 => hmk τ0 h1 (fun b' hlt hne => (h2 b' hlt hne).trans (ho2 b' hlt)))
  obtain ⟨τm, τ', hq, e32, hn, hd, ho⟩ := key _ rfl
  have hpo : τ'.get σ.n = some (.blk [.ptr b 0 0] 25 0 false) := ((hd.other σ.n (by omega)).trans (ho σ.n (Nat.le_refl _) (by omega))).trans hp2
  have lp2 := load1 (t := 25) (o := 0) (by kernel_rfl) hp2 rfl rfl
  have lp3 := load1 (t := 25) (o := 0) (by kernel_rfl) hpo rfl rfl
  have lv := load1 (t := 3) (o := 4) (by kernel_rfl) hd.cell (made_four hlen) rfl
  have f0 := f58_0 b 0
  have f2 : fieldAt env 58 (.ptr b 0 0) 2 = some (.ptr b 0 4) := by have := f58_2 b 0; simpa using this
  have hr : runBody env (aCall env (k + 5)) (callD env (aCall env (k + 5)) (k + 5)) (aDraw env (aCall env (k + 5))) (k + 5) Try.f13 (match Try.f13.body with | some c => c | none => .skip) [.ptr b 0 0] { σ with tch := σ.n } = some (.int .i64 v, τ') := by
    rw [← hn0] at lp2 lp3 e32
    generalize ({ σ with tch := σ.n } : St) = τ at lp2 lp3 e32 ⊢
    generalize hτ : τ.new (.blk [.ptr b 0 0] 25 0 false) = τ2 at lp2 e32 ⊢
    have hne : binO env .eql 25 (.tmp 3) (.const (.pointer none)) (.ptr b 0 0) .ptr0 τ2 = some (.bool false) := by kernel_rfl
    unfold runBody Try.f13
    simp [aCode, aOps, aStep, wants, aOper, aVal, Fr.ev, Fr.put, argsAt, PT.get_set, keep, ofConst, ofCell, resultsV, resultV, aDefers, kindEq, f0, f2, e32, evs, lp2, lp3, lv, hne, V.cells, hτ]
  obtain ⟨σ', e1, e2, e3, e4⟩ := callW_gen (c := _) rfl Try.func13 rfl hr (by have := hd.tch; omega)
  exact ⟨τm, σ', hq, e1, by omega, e3.2, ⟨e2.trans hd.n, Nat.le_trans e3.1 hd.tch, (e4 b).trans hd.cell, fun b' h => (e4 b').trans (hd.other b' h)⟩⟩
end Go.Proofs.Ytiephapklpfhfaa
