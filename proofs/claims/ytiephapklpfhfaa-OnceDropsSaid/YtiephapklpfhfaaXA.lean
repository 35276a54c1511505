/-
  Cells of chapter 1: what their functions do to any heap. No condition.
-/
import Derived.Test.YtiephapklpfhfaaSSH
import Derived.KernelRfl
import Derived.Test.YtiephapklpfhfaaProg
namespace Go.Proofs.Ytiephapklpfhfaa
open Go

def extn : FuncId → Option SS.Ext
  | 39 => some (.load .u32)
  | 41 => some .store
  | 46 => some (.cas .i32)
  | 51 => some (.add .i32)
  | 45 => some .nothing
  | 47 => some .nothing
  | 48 => some .mark
  | 50 => some .mark
  | _ => none

noncomputable def env : SS.Env := ⟨Try.prog, (fun _ => none), (fun _ => 0), extn, (fun _ => false), (fun _ => false), (fun _ => false)⟩

theorem env_ok : SS.EnvOk env where
  code := SS.code_of (by kernel_rfl)
  ext := by
    intro f e he
    have he : extn f = some e := he
    unfold extn at he
    split at he <;> cases he
    · exact ⟨fun _ h => (by cases h), fun _ _ => ⟨Try.f39, _, Try.func39, by kernel_rfl, by kernel_rfl, by kernel_rfl, by kernel_rfl, rfl⟩⟩
    · exact ⟨fun _ h => (by cases h), fun _ _ => ⟨Try.f41, _, Try.func41, by kernel_rfl, by kernel_rfl, by kernel_rfl, by kernel_rfl, rfl⟩⟩
    · exact ⟨fun _ h => (by cases h), fun _ _ => ⟨Try.f46, _, Try.func46, by kernel_rfl, by kernel_rfl, by kernel_rfl, by kernel_rfl, rfl⟩⟩
    · exact ⟨fun _ h => (by cases h), fun _ _ => ⟨Try.f51, _, Try.func51, by kernel_rfl, by kernel_rfl, by kernel_rfl, by kernel_rfl, rfl⟩⟩
    · exact ⟨fun _ h => (by cases h), fun _ _ => ⟨Try.f45, _, Try.func45, by kernel_rfl, by kernel_rfl, by kernel_rfl, by kernel_rfl, .disable, rfl⟩⟩
    · exact ⟨fun _ h => (by cases h), fun _ _ => ⟨Try.f47, _, Try.func47, by kernel_rfl, by kernel_rfl, by kernel_rfl, by kernel_rfl, .enable, rfl⟩⟩
    · exact ⟨fun _ h => (by cases h), fun _ _ => ⟨Try.f48, _, Try.func48, by kernel_rfl, by kernel_rfl, by kernel_rfl, by kernel_rfl, .acquire, rfl⟩⟩
    · exact ⟨fun _ h => (by cases h), fun _ _ => ⟨Try.f50, _, Try.func50, by kernel_rfl, by kernel_rfl, by kernel_rfl, by kernel_rfl, .releaseMerge, rfl⟩⟩

theorem known_run : SS.isT (SS.aCall env 1000 5 [] .empty) = true := by kernel_rfl
end Go.Proofs.Ytiephapklpfhfaa

namespace Go.Proofs.Ytiephapklpfhfaa
open Go SS
def pickZ (n m : Int) : Int := if n.tmod m < 0 then n.tmod m + m else n.tmod m

theorem pickZ_range {n m : Int} (hm : 0 < m) : 0 ≤ pickZ n m ∧ pickZ n m < m := by
  unfold pickZ
  have h1 : -m < n.tmod m ∧ n.tmod m < m := by
    constructor
    · exact Int.lt_tmod_of_pos n hm
    · exact Int.tmod_lt_of_pos n hm
  split <;> omega

set_option maxRecDepth 100000 in
set_option maxHeartbeats 2000000 in
theorem pick_body (k : Nat) (call dcall : SS.Call) (draw : List Oper → Fr → St → Option (Fr × St)) (n m : Int) (σ : St) (hm : 0 < m) (hm2 : m ≤ 4294967296) (c : Code) (hc : Try.f11.body = some c) :
    runBody env call dcall draw k Try.f11 c [.int .i64 n, .int .i64 m] σ = some (.int .i64 (pickZ n m), σ) := by
  unfold Try.f11 at hc ⊢
  simp only [Option.some.injEq] at hc
  subst hc
  unfold runBody
  have u3 : env.P.underlying 3 = some (.int .i64) := by kernel_rfl
  have hm0 : ¬ m = 0 := by omega
  obtain ⟨r1, r2⟩ := pickZ_range (n := n) hm
  have hw : n.tmod m < 0 → IntKind.i64.wrap (n.tmod m + m) = pickZ n m := fun h => by
    have e : pickZ n m = n.tmod m + m := by unfold pickZ; rw [if_pos h]
    rw [← e]
    obtain ⟨a, ha⟩ := Int.eq_ofNat_of_zero_le r1
    rw [ha]
    exact wrap_small (by omega)
  have hp : ¬ n.tmod m < 0 → n.tmod m = pickZ n m := fun h => by unfold pickZ; rw [if_neg h]
  by_cases h : n.tmod m < 0
  · simp [aCode, aOps, aStep, wants, aOper, aVal, Fr.ev, Fr.put, argsAt, PT.get_set, PT.get_leaf, keep, ofConst, ofCell, binO, binV, u3, intOp, resultsV, resultV, aDefers, kindEq, hm0, h, hw h]
  · simp [aCode, aOps, aStep, wants, aOper, aVal, Fr.ev, Fr.put, argsAt, PT.get_set, PT.get_leaf, keep, ofConst, ofCell, binO, binV, u3, intOp, resultsV, resultV, aDefers, kindEq, hm0, h, ← hp h]
end Go.Proofs.Ytiephapklpfhfaa

namespace Go.Proofs.Ytiephapklpfhfaa
open Go SS

theorem split_f (vs : List V) : isSplit false vs = false := by
  unfold isSplit; split <;> rfl

theorem aCall_raw {f : FuncId} {fn : Func} {c : Code} (he : env.extn f = none) (hf : env.P.funcs[f]? = some fn) (hb : fn.body = some c) (k : Nat) (vs : List V) (σ : St) :
    aCall env (k + 1) f vs σ = rawCall (runBody env (aCall env k) (callD env (aCall env k) k) (aDraw env (aCall env k)) k fn c) vs σ := by
  show (match env.extn f with | some e => _ | none => _) = _
  simp only [he, hf, hb]
  unfold aBody
  have h1 : env.split f = false := rfl
  have h2 : env.pure f = 0 := rfl
  rw [h1, split_f, h2]
  simp

/-- How a call leaves the heap that was there. -/
structure After (σ σ' : St) (t : Nat) : Prop where
  n : σ.n ≤ σ'.n
  tch : σ'.tch ≤ t

theorem callW_of {f : FuncId} {fn : Func} {c : Code} (he : env.extn f = none) (hf : env.P.funcs[f]? = some fn) (hb : fn.body = some c) {k : Nat} {vs : List V} {σ : St} {v : V}
    (h : runBody env (aCall env k) (callD env (aCall env k) k) (aDraw env (aCall env k)) k fn c vs { σ with tch := σ.n } = some (v, { σ with tch := σ.n })) (hu : v.under σ.n = true) : aCall env (k + 1) f vs σ = some (v, σ) := by
  rw [aCall_raw he hf hb]
  unfold rawCall
  rw [h]
  simp [hu]

theorem callW_drop {f : FuncId} {fn : Func} {c : Code} (he : env.extn f = none) (hf : env.P.funcs[f]? = some fn) (hb : fn.body = some c) {k : Nat} {vs : List V} {σ σ1 : St} {v : V}
    (h : runBody env (aCall env k) (callD env (aCall env k) k) (aDraw env (aCall env k)) k fn c vs { σ with tch := σ.n } = some (v, σ1)) (ht : σ.n ≤ σ1.tch) (hu : v.under σ.n = true) : aCall env (k + 1) f vs σ = some (v, σ) := by
  rw [aCall_raw he hf hb]
  unfold rawCall
  rw [h]
  have : Nat.ble σ.n σ1.tch = true := Nat.ble_eq_true_of_le ht
  simp [hu, this]

/-- A call that writes what was there. -/
theorem callW_gen {f : FuncId} {fn : Func} {c : Code} (he : env.extn f = none) (hf : env.P.funcs[f]? = some fn) (hb : fn.body = some c) {k : Nat} {vs : List V} {σ σ1 : St} {v : V}
    (h : runBody env (aCall env k) (callD env (aCall env k) k) (aDraw env (aCall env k)) k fn c vs { σ with tch := σ.n } = some (v, σ1)) (ht : σ1.tch < σ.n) :
    ∃ σ', aCall env (k + 1) f vs σ = some (v, σ') ∧ σ'.n = σ1.n ∧ (σ'.tch ≤ σ1.tch ∧ σ'.tch ≤ σ.tch) ∧ ∀ b, σ'.get b = σ1.get b := by
  rw [aCall_raw he hf hb]
  unfold rawCall
  rw [h]
  have h1 : Nat.ble σ.n σ1.tch = false := by
    cases hx : Nat.ble σ.n σ1.tch with
    | false => rfl
    | true => have := Nat.le_of_ble_eq_true hx; omega
  have hmin : (bif Nat.blt σ1.tch σ.tch then σ1.tch else σ.tch) ≤ σ1.tch ∧ (bif Nat.blt σ1.tch σ.tch then σ1.tch else σ.tch) ≤ σ.tch := by
    cases hx : Nat.blt σ1.tch σ.tch with
    | true => have := (Nat.blt_eq).mp hx; simp only [cond_true]; omega
    | false =>
      have : ¬ σ1.tch < σ.tch := fun hh => by have := (Nat.blt_eq).mpr hh; rw [hx] at this; cases this
      simp only [cond_false]; omega
  simp only [h1, Bool.false_and, Bool.false_eq_true, if_false]
  exact ⟨_, rfl, rfl, hmin, fun _ => rfl⟩

/-- A call that turns nothing that was there, and whose result leads to what it made. -/
theorem callW_made {f : FuncId} {fn : Func} {c : Code} (he : env.extn f = none) (hf : env.P.funcs[f]? = some fn) (hb : fn.body = some c) {k : Nat} {vs : List V} {σ σ1 : St} {v : V}
    (h : runBody env (aCall env k) (callD env (aCall env k) k) (aDraw env (aCall env k)) k fn c vs { σ with tch := σ.n } = some (v, σ1)) (hu : v.under σ.n = false) :
    ∃ σ', aCall env (k + 1) f vs σ = some (v, σ') ∧ σ'.n = σ1.n ∧ ∀ b, σ'.get b = σ1.get b := by
  rw [aCall_raw he hf hb]
  unfold rawCall
  rw [h]
  simp only [hu, Bool.and_false, Bool.false_eq_true, if_false]
  exact ⟨_, rfl, rfl, fun _ => rfl⟩

/-- One block was turned. -/
structure Upd (σ σ' : St) (b : Nat) (o : AO) : Prop where
  n : σ'.n = σ.n
  at_ : σ'.get b = some o
  other : ∀ b', b' ≠ b → σ'.get b' = σ.get b'
  tch : σ'.tch ≤ b

theorem upd_put (σ : St) (b : Nat) (o : AO) : Upd σ (σ.put b o) b o := by
  refine ⟨rfl, by rw [St.get_put, if_pos rfl], fun b' h => by rw [St.get_put, if_neg h], ?_⟩
  show (bif Nat.blt b σ.tch then b else σ.tch) ≤ b
  cases hx : Nat.blt b σ.tch with
  | true => exact Nat.le_refl _
  | false =>
    have : ¬ b < σ.tch := fun hh => by have := (Nat.blt_eq).mpr hh; rw [hx] at this; cases this
    simp only [cond_false]; omega

theorem callW_upd {f : FuncId} {fn : Func} {c : Code} (he : env.extn f = none) (hf : env.P.funcs[f]? = some fn) (hb : fn.body = some c) {k : Nat} {vs : List V} {σ σ1 : St} {v : V} {b : Nat} {o : AO}
    (h : runBody env (aCall env k) (callD env (aCall env k) k) (aDraw env (aCall env k)) k fn c vs { σ with tch := σ.n } = some (v, σ1)) (hu : Upd { σ with tch := σ.n } σ1 b o) (hlt : b < σ.n) :
    ∃ σ', aCall env (k + 1) f vs σ = some (v, σ') ∧ Upd σ σ' b o := by
  obtain ⟨σ', h1, h2, h3, h4⟩ := callW_gen he hf hb h (by have := hu.tch; omega)
  exact ⟨σ', h1, h2.trans hu.n, (h4 b).trans hu.at_, fun b' hb' => (h4 b').trans (hu.other b' hb'), Nat.le_trans h3.1 hu.tch⟩
end Go.Proofs.Ytiephapklpfhfaa

namespace Go.Proofs.Ytiephapklpfhfaa
open Go SS

theorem pick_call (k : Nat) (n m : Int) (σ : St) (hm : 0 < m) (hm2 : m ≤ 4294967296) : aCall env (k + 1) 11 [.int .i64 n, .int .i64 m] σ = some (.int .i64 (pickZ n m), σ) :=
  callW_of rfl Try.func11 rfl (pick_body k _ _ _ n m _ hm hm2 _ rfl) rfl

theorem f50_1 (b o : Nat) : fieldAt env 50 (.ptr b 0 o) 1 = some (.ptr b 0 o) := by kernel_rfl
theorem f58_3 (b o : Nat) : fieldAt env 58 (.ptr b 0 o) 3 = some (.ptr b 0 (o + 5)) := by kernel_rfl

theorem call39 (k : Nat) {σ : St} {b o : Nat} {cs : List V} {ty : TypeId} {fz : Bool} {x : Int} (hb : σ.get b = some (.blk cs ty 0 fz)) (hx : cs[o]? = some (.int .u32 x)) : aCall env (k + 1) 39 [.ptr b 0 o] σ = some (.int .u32 x, σ) := by
  unfold aCall
  have e : env.extn 39 = some (.load .u32) := rfl
  simp [e, aExt, cellAt, hb, hx, kindEq]

set_option maxRecDepth 100000 in
set_option maxHeartbeats 2000000 in
theorem load_call (k : Nat) {σ : St} {b o : Nat} {cs : List V} {ty : TypeId} {fz : Bool} {x : Int} (hb : σ.get b = some (.blk cs ty 0 fz)) (hx : cs[o]? = some (.int .u32 x)) : aCall env (k + 2) 31 [.ptr b 0 o] σ = some (.bool (x != 0), σ) := by
  refine callW_of (c := _) rfl Try.func31 rfl ?_ rfl
  have hb' : ({ σ with tch := σ.n } : St).get b = some (.blk cs ty 0 fz) := hb
  generalize ({ σ with tch := σ.n } : St) = τ at hb' ⊢
  have h39 := call39 k hb' hx
  unfold runBody Try.f31
  simp [aCode, aOps, aStep, wants, aOper, aVal, Fr.ev, Fr.put, argsAt, PT.get_set, keep, ofConst, ofCell, binO, binV, resultsV, resultV, aDefers, kindEq, f50_1, h39, evs, intOp]
set_option maxRecDepth 100000 in
set_option maxHeartbeats 2000000 in
theorem made_call (k : Nat) {σ : St} {b : Nat} {cs : List V} {ty : TypeId} {fz : Bool} {x : Int} (hb : σ.get b = some (.blk cs ty 0 fz)) (hx : cs[5]? = some (.int .u32 x)) : aCall env (k + 3) 12 [.ptr b 0 0] σ = some (.bool (x != 0), σ) := by
  refine callW_of (c := _) rfl Try.func12 rfl ?_ rfl
  have hb' : ({ σ with tch := σ.n } : St).get b = some (.blk cs ty 0 fz) := hb
  generalize ({ σ with tch := σ.n } : St) = τ at hb' ⊢
  have h31 := load_call k (o := 5) hb' hx
  have f3 : fieldAt env 58 (.ptr b 0 0) 3 = some (.ptr b 0 5) := by have := f58_3 b 0; simpa using this
  have hne : binO env .neq 25 (.tmp 3) (.const (.pointer none)) (.ptr b 0 0) .ptr0 τ = some (.bool true) := by kernel_rfl
  unfold runBody Try.f12
  simp [aCode, aOps, aStep, wants, aOper, aVal, Fr.ev, Fr.put, argsAt, PT.get_set, keep, ofConst, ofCell, resultsV, resultV, aDefers, kindEq, f3, h31, evs, hne]
end Go.Proofs.Ytiephapklpfhfaa

namespace Go.Proofs.Ytiephapklpfhfaa
open Go SS

theorem call45 (k : Nat) (σ : St) : aCall env (k + 1) 45 [] σ = some (.tup [], σ) := rfl
theorem call47 (k : Nat) (σ : St) : aCall env (k + 1) 47 [] σ = some (.tup [], σ) := rfl
theorem call48 (k : Nat) (σ : St) (b v o : Nat) : aCall env (k + 1) 48 [.ptr b v o] σ = some (.tup [], σ) := rfl
theorem call50 (k : Nat) (σ : St) (b v o : Nat) : aCall env (k + 1) 50 [.ptr b v o] σ = some (.tup [], σ) := rfl

theorem f52_0 (b o : Nat) : fieldAt env 52 (.ptr b 0 o) 0 = some (.ptr b 0 o) := by kernel_rfl
theorem f54_1 (b o : Nat) : fieldAt env 54 (.ptr b 0 o) 1 = some (.ptr b 0 o) := by kernel_rfl

theorem cas46 (k : Nat) {σ : St} {b o : Nat} {cs : List V} {ty : TypeId} (hb : σ.get b = some (.blk cs ty 0 false)) (hx : cs[o]? = some (.int .i32 0)) :
    aCall env (k + 1) 46 [.ptr b 0 o, .int .i32 0, .int .i32 1] σ = some (.bool true, σ.put b (.blk (cs.set o (.int .i32 1)) ty 0 false)) := by
  unfold aCall
  have e : env.extn 46 = some (.cas .i32) := rfl
  obtain ⟨hlt, hg⟩ := List.getElem?_eq_some_iff.1 hx
  simp [e, aExt, numAt, setCellAt, hb, hg, kindEq, hlt, V.one]

theorem ss74 : sliceSlice env 74 78 = false := by kernel_rfl
theorem conv74 {σ : St} {b o : Nat} {cs : List V} {ty : TypeId} {fz : Bool} (hb : σ.get b = some (.blk cs ty 0 fz)) (ho : o < cs.length) : convertV env 74 78 (.ptr b 0 o) σ = some (.ptr b 0 o) := by
  have h1 : env.P.underlying 74 = some (.pointer 52) := by kernel_rfl
  have h2 : env.P.underlying 78 = some .unsafePointer := by kernel_rfl
  have h0 : (match env.P.info? 52 with | some i => Nat.blt 0 i.size | none => false) = true := by kernel_rfl
  obtain ⟨i, h3, h4⟩ : ∃ i, env.P.info? 52 = some i ∧ 0 < i.size := by
    cases hi : env.P.info? 52 with
    | none => rw [hi] at h0; cases h0
    | some i => rw [hi] at h0; exact ⟨i, rfl, (Nat.blt_eq).mp h0⟩
  unfold convertV
  simp [h1, h2, h3, h4, hb, ho]

set_option maxRecDepth 100000 in
set_option maxHeartbeats 2000000 in
theorem lock43 (k : Nat) {σ : St} {b o : Nat} {cs : List V} {ty : TypeId} (hlt : b < σ.n) (hb : σ.get b = some (.blk cs ty 0 false)) (hx : cs[o]? = some (.int .i32 0)) :
    ∃ σ', aCall env (k + 2) 43 [.ptr b 0 o] σ = some (.tup [], σ') ∧ Upd σ σ' b (.blk (cs.set o (.int .i32 1)) ty 0 false) := by
  refine callW_upd (c := _) rfl Try.func43 rfl ?_ (upd_put _ b _) hlt
  have hb' : ({ σ with tch := σ.n } : St).get b = some (.blk cs ty 0 false) := hb
  generalize ({ σ with tch := σ.n } : St) = τ at hb' ⊢
  have h46 := cas46 k hb' hx
  have hb2 : (τ.put b (.blk (cs.set o (.int .i32 1)) ty 0 false)).get b = some (.blk (cs.set o (.int .i32 1)) ty 0 false) := by rw [St.get_put, if_pos rfl]
  generalize hτ : τ.put b (.blk (cs.set o (.int .i32 1)) ty 0 false) = τ2 at h46 hb2 ⊢
  have hcv := conv74 (o := o) hb2 (by simpa using (List.getElem?_eq_some_iff.1 hx).1)
  unfold runBody Try.f43
  simp [aCode, aOps, aStep, wants, aOper, aVal, Fr.ev, Fr.put, argsAt, PT.get_set, keep, ofConst, ofCell, resultsV, resultV, aDefers, kindEq, f52_0, h46, evs, call45, call47, call48, ss74, hcv]

set_option maxRecDepth 100000 in
set_option maxHeartbeats 2000000 in
theorem lock36 (k : Nat) {σ : St} {b o : Nat} {cs : List V} {ty : TypeId} (hlt : b < σ.n) (hb : σ.get b = some (.blk cs ty 0 false)) (hx : cs[o]? = some (.int .i32 0)) :
    ∃ σ', aCall env (k + 3) 36 [.ptr b 0 o] σ = some (.tup [], σ') ∧ Upd σ σ' b (.blk (cs.set o (.int .i32 1)) ty 0 false) := by
  have hb' : ({ σ with tch := σ.n } : St).get b = some (.blk cs ty 0 false) := hb
  obtain ⟨σ1, h43, hu⟩ := lock43 k (σ := { σ with tch := σ.n }) hlt hb' hx
  refine callW_upd (c := _) rfl Try.func36 rfl ?_ hu hlt
  generalize ({ σ with tch := σ.n } : St) = τ at h43 ⊢
  unfold runBody Try.f36
  simp [aCode, aOps, aStep, wants, aOper, aVal, Fr.ev, Fr.put, argsAt, PT.get_set, keep, ofConst, ofCell, resultsV, resultV, aDefers, kindEq, f54_1, h43, evs]

theorem add51 (k : Nat) {σ : St} {b o : Nat} {cs : List V} {ty : TypeId} (hb : σ.get b = some (.blk cs ty 0 false)) (hx : cs[o]? = some (.int .i32 1)) :
    aCall env (k + 1) 51 [.ptr b 0 o, .int .i32 (-1)] σ = some (.int .i32 0, σ.put b (.blk (cs.set o (.int .i32 0)) ty 0 false)) := by
  unfold aCall
  have e : env.extn 51 = some (.add .i32) := rfl
  obtain ⟨hlt, hg⟩ := List.getElem?_eq_some_iff.1 hx
  have hw : IntKind.i32.wrap 0 = 0 := by decide
  simp [e, aExt, numAt, setCellAt, hb, hg, kindEq, hlt, V.one, hw]
end Go.Proofs.Ytiephapklpfhfaa

namespace Go.Proofs.Ytiephapklpfhfaa
open Go SS

/-- A type of one cell. -/
noncomputable def oneTy (t : TypeId) : Bool :=
  match env.P.info? t, env.P.underlying t with
  | some i, some d => Nat.beq i.size 1 && !aggD d
  | _, _ => false

theorem load1 {t : TypeId} (ht : oneTy t = true) {σ : St} {b o : Nat} {cs : List V} {ty : TypeId} {fz : Bool} {v : V} (hb : σ.get b = some (.blk cs ty 0 fz)) (hx : cs[o]? = some v) (hv : v.one = true) : loadAt env t (.ptr b 0 o) σ = some v := by
  unfold oneTy at ht
  split at ht
  · rename_i i d hi hd
    simp only [Bool.and_eq_true, Bool.not_eq_true'] at ht
    have hs := Nat.eq_of_beq_eq_true ht.1
    unfold loadAt
    simp only [hb, Nat.beq_refl, if_true]
    obtain ⟨hlt, hg⟩ := List.getElem?_eq_some_iff.1 hx
    simp [SS.part, hi, hd, hs, ht.2, hx, hv, hg, hlt]
  · cases ht

theorem store1 {t : TypeId} (ht : oneTy t = true) {σ : St} {b o : Nat} {cs : List V} {ty : TypeId} {v : V} (hb : σ.get b = some (.blk cs ty 0 false)) (ho : o < cs.length) (hv : v.one = true) (hc : v.cells = [v]) : storeAt env t (.ptr b 0 o) v σ = some (σ.put b (.blk (cs.set o v) ty 0 false)) := by
  unfold oneTy at ht
  split at ht
  · rename_i i d hi hd
    simp only [Bool.and_eq_true, Bool.not_eq_true'] at ht
    have hs := Nat.eq_of_beq_eq_true ht.1
    have ho' : o + 1 ≤ cs.length := ho
    simp [storeAt, hi, hb, hs, hc, setRow, ho, hv, ho']
  · cases ht

set_option maxRecDepth 100000 in
set_option maxHeartbeats 2000000 in
theorem unlock44 (k : Nat) {σ : St} {b o : Nat} {cs : List V} {ty : TypeId} (hlt : b < σ.n) (hb : σ.get b = some (.blk cs ty 0 false)) (hx : cs[o]? = some (.int .i32 1)) :
    ∃ σ', aCall env (k + 2) 44 [.ptr b 0 o] σ = some (.tup [], σ') ∧ Upd σ σ' b (.blk (cs.set o (.int .i32 0)) ty 0 false) := by
  refine callW_upd (c := _) rfl Try.func44 rfl ?_ (upd_put _ b _) hlt
  have hb' : ({ σ with tch := σ.n } : St).get b = some (.blk cs ty 0 false) := hb
  generalize ({ σ with tch := σ.n } : St) = τ at hb' ⊢
  have h51 := add51 k hb' hx
  have hcv := conv74 (o := o) hb' (List.getElem?_eq_some_iff.1 hx).1
  have hld := load1 (t := 21) (by kernel_rfl) hb' hx rfl
  generalize hτ : τ.put b (.blk (cs.set o (.int .i32 0)) ty 0 false) = τ2 at h51 ⊢
  have h50 := call50 k τ b 0 o
  unfold runBody Try.f44
  simp [aCode, aOps, aStep, wants, aOper, aVal, Fr.ev, Fr.put, argsAt, PT.get_set, keep, ofConst, ofCell, resultsV, resultV, aDefers, kindEq, f52_0, h51, evs, call45, call47, h50, ss74, hcv, hld, binO, binV, intOp]

set_option maxRecDepth 100000 in
set_option maxHeartbeats 2000000 in
theorem unlock37 (k : Nat) {σ : St} {b o : Nat} {cs : List V} {ty : TypeId} (hlt : b < σ.n) (hb : σ.get b = some (.blk cs ty 0 false)) (hx : cs[o]? = some (.int .i32 1)) :
    ∃ σ', aCall env (k + 3) 37 [.ptr b 0 o] σ = some (.tup [], σ') ∧ Upd σ σ' b (.blk (cs.set o (.int .i32 0)) ty 0 false) := by
  have hb' : ({ σ with tch := σ.n } : St).get b = some (.blk cs ty 0 false) := hb
  obtain ⟨σ1, h44, hu⟩ := unlock44 k (σ := { σ with tch := σ.n }) hlt hb' hx
  refine callW_upd (c := _) rfl Try.func37 rfl ?_ hu hlt
  generalize ({ σ with tch := σ.n } : St) = τ at h44 ⊢
  unfold runBody Try.f37
  simp [aCode, aOps, aStep, wants, aOper, aVal, Fr.ev, Fr.put, argsAt, PT.get_set, keep, ofConst, ofCell, resultsV, resultV, aDefers, kindEq, f54_1, h44, evs]
end Go.Proofs.Ytiephapklpfhfaa

namespace Go.Proofs.Ytiephapklpfhfaa
open Go SS

theorem late_f (o : Oper) : env.late o = false := rfl

theorem call42 (k : Nat) (σ : St) : aCall env (k + 1) 42 [.bool true] σ = some (.int .u32 1, σ) :=
  callW_of (c := _) rfl Try.func42 rfl (by kernel_rfl) rfl

theorem store41 (k : Nat) {σ : St} {b o : Nat} {cs : List V} {ty : TypeId} {x : Int} (hb : σ.get b = some (.blk cs ty 0 false)) (ho : o < cs.length) :
    aCall env (k + 1) 41 [.ptr b 0 o, .int .u32 x] σ = some (.tup [], σ.put b (.blk (cs.set o (.int .u32 x)) ty 0 false)) := by
  unfold aCall
  have e : env.extn 41 = some .store := rfl
  simp [e, aExt, setCellAt, SS.unit, hb, ho, V.one]

set_option maxRecDepth 100000 in
set_option maxHeartbeats 4000000 in
theorem store34 (k : Nat) {σ : St} {b o : Nat} {cs : List V} {ty : TypeId} (hlt : b < σ.n) (hb : σ.get b = some (.blk cs ty 0 false)) (ho : o < cs.length) :
    ∃ σ', aCall env (k + 2) 34 [.ptr b 0 o, .bool true] σ = some (.tup [], σ') ∧ Upd σ σ' b (.blk (cs.set o (.int .u32 1)) ty 0 false) := by
  refine callW_upd (c := _) rfl Try.func34 rfl ?_ (upd_put _ b _) hlt
  have hb' : ({ σ with tch := σ.n } : St).get b = some (.blk cs ty 0 false) := hb
  generalize ({ σ with tch := σ.n } : St) = τ at hb' ⊢
  have h41 := store41 k (x := 1) hb' ho
  have h42 := call42 k τ
  generalize hτ : τ.put b (.blk (cs.set o (.int .u32 1)) ty 0 false) = τ2 at h41 ⊢
  unfold runBody Try.f34
  simp [aCode, aDraw, hoist, dRun, dStep, withMasks, masks, maskOf, edgeMask, effects, kindOp, Region.binds, least, most, samePast, aOps, aStep, wants, aOper, aVal, Fr.ev, Fr.put, argsAt, PT.get_set, PT.get_leaf, keep, ofConst, ofCell, resultsV, resultV, aDefers, kindEq, f50_1, h41, h42, evs, sliceSlice, late_f, sameAt, readAt]
end Go.Proofs.Ytiephapklpfhfaa

namespace Go.Proofs.Ytiephapklpfhfaa
open Go SS

theorem f56_1 (b o : Nat) : fieldAt env 56 (.ptr b 0 o) 1 = some (.ptr b 0 o) := by kernel_rfl
theorem f56_2 (b o : Nat) : fieldAt env 56 (.ptr b 0 o) 2 = some (.ptr b 0 (o + 1)) := by kernel_rfl
theorem f58_0 (b o : Nat) : fieldAt env 58 (.ptr b 0 o) 0 = some (.ptr b 0 o) := by kernel_rfl
theorem f58_1 (b o : Nat) : fieldAt env 58 (.ptr b 0 o) 1 = some (.ptr b 0 (o + 3)) := by kernel_rfl
theorem f58_2 (b o : Nat) : fieldAt env 58 (.ptr b 0 o) 2 = some (.ptr b 0 (o + 4)) := by kernel_rfl

set_option maxRecDepth 100000 in
set_option maxHeartbeats 4000000 in
theorem do_made (k : Nat) {σ : St} {b : Nat} {cs : List V} {ty : TypeId} {fz : Bool} (hb : σ.get b = some (.blk cs ty 0 fz)) (hx : cs[0]? = some (.int .u32 1)) (g : V) : aCall env (k + 3) 32 [.ptr b 0 0, g] σ = some (.tup [], σ) := by
  refine callW_of (c := _) rfl Try.func32 rfl ?_ rfl
  have hb' : ({ σ with tch := σ.n } : St).get b = some (.blk cs ty 0 fz) := hb
  generalize ({ σ with tch := σ.n } : St) = τ at hb' ⊢
  have h31 := load_call k (o := 0) hb' hx
  have f1 := f56_1 b 0
  unfold runBody Try.f32
  simp [aCode, aOps, aStep, wants, aOper, aVal, Fr.ev, Fr.put, argsAt, PT.get_set, keep, ofConst, ofCell, resultsV, resultV, aDefers, kindEq, f1, h31, evs, unV]

set_option maxRecDepth 100000 in
set_option maxHeartbeats 4000000 in
theorem get_made (k : Nat) {σ : St} {b : Nat} {cs : List V} {ty : TypeId} {fz : Bool} {n : Int} (hlt : b < σ.n) (hb : σ.get b = some (.blk cs ty 0 fz)) (hx : cs[0]? = some (.int .u32 1)) (hv : cs[4]? = some (.int .i64 n)) : aCall env (k + 4) 13 [.ptr b 0 0] σ = some (.int .i64 n, σ) := by
  refine callW_drop (c := _) (σ1 := ({ σ with tch := σ.n } : St).new (.blk [.ptr b 0 0] 25 0 false)) rfl Try.func13 rfl ?_ (Nat.le_refl _) rfl
  have hb' : ({ σ with tch := σ.n } : St).get b = some (.blk cs ty 0 fz) := hb
  have hn : ({ σ with tch := σ.n } : St).n = σ.n := rfl
  generalize ({ σ with tch := σ.n } : St) = τ at hb' hn ⊢
  have hb2 : (τ.new (.blk [.ptr b 0 0] 25 0 false)).get b = some (.blk cs ty 0 fz) := by rw [St.get_new, if_neg (by omega)]; exact hb'
  have hbn : (τ.new (.blk [.ptr b 0 0] 25 0 false)).get τ.n = some (.blk [.ptr b 0 0] 25 0 false) := by rw [St.get_new, if_pos rfl]
  generalize hτ : τ.new (.blk [.ptr b 0 0] 25 0 false) = τ2 at hb2 hbn ⊢
  have hp := load1 (t := 25) (o := 0) (by kernel_rfl) hbn rfl rfl
  have hval := load1 (t := 3) (o := 4) (by kernel_rfl) hb2 hv rfl
  have hdo := do_made k hb2 hx (.fn 33 [.ptr τ.n 0 0])
  have f0 := f58_0 b 0
  have f2 : fieldAt env 58 (.ptr b 0 0) 2 = some (.ptr b 0 4) := by have := f58_2 b 0; simpa using this
  have hne : binO env .eql 25 (.tmp 3) (.const (.pointer none)) (.ptr b 0 0) .ptr0 τ2 = some (.bool false) := by kernel_rfl
  unfold runBody Try.f13
  simp [aCode, aOps, aStep, wants, aOper, aVal, Fr.ev, Fr.put, argsAt, PT.get_set, keep, ofConst, ofCell, resultsV, resultV, aDefers, kindEq, f0, f2, hdo, evs, hp, hval, hne, V.cells, hτ]
end Go.Proofs.Ytiephapklpfhfaa

namespace Go.Proofs.Ytiephapklpfhfaa
open Go SS

/-- What a new cell is. -/
def cell0 (mk : V) : List V := [.int .u32 0, .int .i32 0, .int .u32 0, mk, .int .i64 0, .int .u32 0]

set_option maxRecDepth 100000 in
set_option maxHeartbeats 4000000 in
theorem new_call (k : Nat) (σ : St) (g : FuncId) (cap : List V) : ∃ σ', aCall env (k + 1) 9 [.fn g cap] σ = some (.ptr σ.n 0 0, σ') ∧ σ'.n = σ.n + 1 ∧ σ'.get σ.n = some (.blk (cell0 (.fn g cap)) 58 0 false) ∧ ∀ b, b < σ.n → σ'.get b = σ.get b := by
  have hbld : buildV env 58 [(1, .fn g cap)] = some (.agg (cell0 (.fn g cap))) := by kernel_rfl
  obtain ⟨σ', h1, h2, h3⟩ := callW_made (k := k) (vs := [.fn g cap]) (σ := σ) (c := _) (v := .ptr σ.n 0 0) (σ1 := ({ σ with tch := σ.n } : St).new (.blk (cell0 (.fn g cap)) 58 0 false)) rfl Try.func9 rfl (by
    have hn : ({ σ with tch := σ.n } : St).n = σ.n := rfl
    generalize ({ σ with tch := σ.n } : St) = τ at hn ⊢
    rw [← hn]
    unfold runBody Try.f9
    simp [aCode, aOps, aStep, wants, aOper, aVal, Fr.ev, Fr.put, argsAt, PT.get_set, keep, ofConst, ofCell, resultsV, resultV, aDefers, evParts, hbld, V.cells]) (by
    show Nat.blt σ.n σ.n = false
    cases hx : Nat.blt σ.n σ.n with
    | false => rfl
    | true => have := (Nat.blt_eq).mp hx; omega)
  refine ⟨σ', h1, h2, ?_, fun b hb => ?_⟩
  · rw [h3, St.get_new, if_pos rfl]
  · rw [h3, St.get_new, if_neg (by show b ≠ σ.n; omega)]; rfl
end Go.Proofs.Ytiephapklpfhfaa

namespace Go.Proofs.Ytiephapklpfhfaa
open Go SS

theorem idx22 : ∃ inf, env.P.underlying 22 = some (.slice 3) ∧ env.P.info? 3 = some inf ∧ inf.size = 1 := by
  have h0 : (match env.P.info? 3 with | some i => Nat.beq i.size 1 | none => false) = true := by kernel_rfl
  cases hi : env.P.info? 3 with
  | none => rw [hi] at h0; cases h0
  | some i => rw [hi] at h0; exact ⟨i, by kernel_rfl, rfl, Nat.eq_of_beq_eq_true h0⟩

theorem inRange_nat {i n : Nat} (h : i < n) : inRange (i : Int) n = some i := by
  show (if Nat.blt i n then some i else none) = some i
  rw [if_pos ((Nat.blt_eq).mpr h)]

theorem idx_ref {b n c i : Nat} (hi : i < n) : indexAt env 22 (.ref b 0 0 n (some c)) (.int .i64 (i : Int)) = some (.ptr b 0 i) := by
  obtain ⟨inf, h1, h2, h3⟩ := idx22
  unfold indexAt
  simp [h1, h2, h3, inRange_nat hi]

theorem idx_lst {xs : List V} {f : Bool} {i : Nat} {v : Int} (hv : xs[i]? = some (.int .i64 v)) : indexAt env 22 (.lst xs f) (.int .i64 (i : Int)) = some (.eptr xs i 0) := by
  obtain ⟨inf, h1, h2, h3⟩ := idx22
  obtain ⟨hi, _⟩ := List.getElem?_eq_some_iff.1 hv
  unfold indexAt
  simp only [h1, h2, inRange_nat hi, hv, h3, V.cells]
  rfl

theorem load_e {σ : St} {xs : List V} {i : Nat} {v : Int} (hv : xs[i]? = some (.int .i64 v)) : loadAt env 3 (.eptr xs i 0) σ = some (.int .i64 v) := by
  have h0 : oneTy 3 = true := by kernel_rfl
  unfold oneTy at h0
  split at h0
  · rename_i j d hj hd
    simp only [Bool.and_eq_true, Bool.not_eq_true'] at h0
    simp [loadAt, hv, SS.part, hj, hd, h0.2, V.cells, V.one]
  · cases h0

set_option maxRecDepth 100000 in
set_option maxHeartbeats 4000000 in
theorem maker_call (k : Nat) {σ : St} {pc pi pv cb n c i : Nat} {xs calls : List V} {full : Bool} {m v : Int} (hlt : cb < σ.n)
    (h1 : σ.get pc = some (.blk [.ref cb 0 0 n (some c)] 22 0 false)) (h2 : σ.get pi = some (.blk [.int .i64 (i : Int)] 3 0 false)) (h3 : σ.get pv = some (.blk [.lst xs full] 22 0 false))
    (h4 : σ.get cb = some (.blk calls 3 0 false)) (hn : i < n) (hm : calls[i]? = some (.int .i64 m)) (hw : IntKind.i64.wrap (m + 1) = m + 1) (hv : xs[i]? = some (.int .i64 v)) (hpv : pv ≠ cb) (hpi : pi ≠ cb) :
    ∃ σ', aCall env (k + 1) 10 [.ptr pc 0 0, .ptr pi 0 0, .ptr pv 0 0] σ = some (.int .i64 v, σ') ∧ Upd σ σ' cb (.blk (calls.set i (.int .i64 (m + 1))) 3 0 false) := by
  refine callW_upd (c := _) rfl Try.func10 rfl ?_ (upd_put _ cb _) hlt
  have h1' : ({ σ with tch := σ.n } : St).get pc = _ := h1
  have h2' : ({ σ with tch := σ.n } : St).get pi = _ := h2
  have h3' : ({ σ with tch := σ.n } : St).get pv = _ := h3
  have h4' : ({ σ with tch := σ.n } : St).get cb = _ := h4
  generalize ({ σ with tch := σ.n } : St) = τ at h1' h2' h3' h4' ⊢
  have l1 := load1 (t := 22) (o := 0) (by kernel_rfl) h1' rfl rfl
  have l2 := load1 (t := 3) (o := 0) (by kernel_rfl) h2' rfl rfl
  have hlen : i < calls.length := (List.getElem?_eq_some_iff.1 hm).1
  have l4 := load1 (t := 3) (o := i) (by kernel_rfl) h4' hm rfl
  have st := store1 (t := 3) (o := i) (v := .int .i64 (m + 1)) (by kernel_rfl) h4' hlen rfl rfl
  have h2'' : (τ.put cb (.blk (calls.set i (.int .i64 (m + 1))) 3 0 false)).get pi = some (.blk [.int .i64 (i : Int)] 3 0 false) := by rw [St.get_put, if_neg hpi]; exact h2'
  have h3'' : (τ.put cb (.blk (calls.set i (.int .i64 (m + 1))) 3 0 false)).get pv = some (.blk [.lst xs full] 22 0 false) := by rw [St.get_put, if_neg hpv]; exact h3'
  generalize hτ : τ.put cb (.blk (calls.set i (.int .i64 (m + 1))) 3 0 false) = τ2 at st h2'' h3'' ⊢
  have l3 := load1 (t := 22) (o := 0) (by kernel_rfl) h3'' rfl rfl
  have l5 := load1 (t := 3) (o := 0) (by kernel_rfl) h2'' rfl rfl
  have i1 := idx_ref (b := cb) (c := c) hn
  have i2 := idx_lst (f := full) hv
  have le := load_e (σ := τ2) hv
  unfold runBody Try.f10
  simp [aCode, aOps, aStep, wants, aOper, aVal, Fr.ev, Fr.put, argsAt, PT.get_set, keep, ofConst, ofCell, resultsV, resultV, aDefers, kindEq, evs, l1, l2, l3, l4, l5, i1, i2, le, st, binO, binV, intOp, hw, SS.unit]
end Go.Proofs.Ytiephapklpfhfaa
