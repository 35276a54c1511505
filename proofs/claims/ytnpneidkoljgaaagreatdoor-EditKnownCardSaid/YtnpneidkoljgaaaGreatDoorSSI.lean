/-
  The iterator of slices.Backward at integers: its contract. No condition.
-/
import Derived.Test.YtnpneidkoljgaaaGreatDoorSSH
import Derived.RangeFuncBox
import Derived.RangeFuncLeaves
import Derived.Shelf.Abstract
import Derived.Shelf.AbstractIn
import Derived.WalkKit
import Derived.OwnWalkIn
import Derived.TacticsInMore
import Derived.LoopNIn
import Derived.LoopIn
namespace SS
open Go Go.RowKit

section
variable (p : Nat → String × Array Edge)
def bop (i d : Nat) (o : Op) (t : TypeId) : Oper := { dst := some d, op := o, type := t, pos := (p i).1, after := (p i).2, guard := none }

def backCode (tS tI tB tY tT : TypeId) (r : Nat → Nat) : Code :=
  .seq (.region (r 0) #[bop p 0 4 (.load tS (.tmp 1)) tS, bop p 1 5 (.call { callee := .builtin .len, args := #[.tmp 4], argTypes := #[tS] }) tI, bop p 2 6 (.binOp .sub tI (.tmp 5) (.const (.int .i64 1)) tI) tI, bop p 3 3 (.assign (.tmp 6)) tI] false)
    (.block 0 (.loop (.seq
      (.seq (.region (r 1) #[bop p 4 7 (.move (.tmp 3)) tI, bop p 5 8 (.binOp .geq tI (.tmp 7) (.const (.int .i64 0)) tI) tB] false) (.cond (.tmp 8) .skip (.exit 0)))
      (.seq (.block 1 (.seq (.region (r 2) #[bop p 6 11 (.move (.tmp 0)) tY, bop p 7 12 (.move (.tmp 3)) tI, bop p 8 13 (.load tS (.tmp 1)) tS, bop p 9 14 (.move (.tmp 3)) tI, bop p 10 15 (.indexAddr tS (.tmp 13) (.tmp 14)) tT,
            bop p 11 16 (.load tI (.tmp 15)) tI, bop p 12 17 (.call { callee := .value (.tmp 11), args := #[.tmp 12, .tmp 16], argTypes := #[tI, tI] }) tB, bop p 13 18 (.unOp .not tB (.tmp 17)) tB] false)
          (.cond (.tmp 18) .ret .skip)))
        (.region (r 3) #[bop p 14 9 (.move (.tmp 3)) tI, bop p 15 10 (.binOp .sub tI (.tmp 9) (.const (.int .i64 1)) tI) tI, bop p 16 3 (.assign (.tmp 10)) tI] false)))))

structure BackTypes (P : Program) (tS tI tB : TypeId) : Prop where
  mixed : P.follows .mixedOrders = true
  iu : P.underlying tI = some (.int .i64)
  ia : ∀ w, (isAgg tI).run P w = .ok false w
  iz : ∀ w, (Go.sizeOf tI).run P w = .ok 1 w
  su : P.underlying tS = some (.slice tI)
  sa : ∀ w, (isAgg tS).run P w = .ok false w
  sz : ∀ w, (Go.sizeOf tS).run P w = .ok 1 w
  bu : P.underlying tB = some .bool

set_option maxRecDepth 100000 in
set_option maxHeartbeats 4000000 in
theorem back_calls {P : Program} {f : FuncId} {fn : Func} {tS tI tB tY tT : TypeId} {r : Nat → Nat} (hf : P.funcs[f]? = some fn) (hb : fn.body = some (backCode p tS tI tB tY tT r)) (hn : fn.ntmps = 19) (hr : fn.results = #[]) (T : BackTypes P tS tI tB)
    (l : Nat) (q : Addr) (n : Nat) (J : Nat → World → Prop) (W : World) (hsmall : n < 4294967296)
    (hh : ∃ a cap, W.cell? q = some (.slice a n cap))
    (hY : ∀ k W, J (k + 1) W → k < n → ∃ b off n' cap κ x, W.cell? q = some (.slice (some ⟨b, off, none⟩) n' cap) ∧ k < n' ∧ n' ≤ cap ∧ W.cell? ⟨b, off + k, none⟩ = some (.int κ x) ∧
      YieldAt Fence.wide 0 P l #[.int .i64 k, .int κ x] W fun e W' => e = .returned (.bool true) ∧ J k W')
    (h0 : J n W) : CallsIn Fence.wide 0 P f #[.func (.yield l) #[] #[], .pointer (some q)] W fun e W' => (∃ v, e = .returned v) ∧ J 0 W' := by
  obtain ⟨a, cap, hW⟩ := hh
  have hro : (Fence.wide).round = none := rfl
  have mixed := T.mixed; have tIu := T.iu; have aI := T.ia; have zI := T.iz; have tSu := T.su; have aS := T.sa; have zS := T.sz; have tBu := T.bu
  have uI := run_underlying T.iu; have uS := run_underlying T.su; have uB := run_underlying T.bu
  refine callsIn_of_wp hf hb trivial ?_ hro
  rw [hn]
  simp only [List.size_toArray, List.length_cons, List.length_nil, Nat.reduceAdd, Nat.reduceSub, Array.replicate_succ, Array.replicate_zero, List.push_toArray, List.append_toArray, List.nil_append, List.cons_append]
  unfold backCode
  simp only [bop]
  gi_wp2
  have hw0 : wrap64 ((n : Int) - 1) = (n : Int) - 1 := by unfold wrap64; omega
  gi_loopw [3] (fun i wr => ∃ k : Nat, k ≤ n ∧ i = .int .i64 ((k : Int) - 1) ∧ J k wr) (fun i _ => (intOf i + 1).toNat)
  case atStart => exact ⟨n, Nat.le_refl _, by first | rfl | rw [hw0], h0⟩
  case round =>
    obtain ⟨k, hk, rfl, hJs⟩ := hrel
    cases k with
    | zero =>
      gi_wp2
      exact ⟨rfl, _, results_none hr _ _ _, ⟨_, rfl⟩, hJs⟩
    | succ k =>
      obtain ⟨b, off, n', cap', κ, x, hq, hkn, hnc, hx, hy0⟩ := hY k wr hJs (by omega)
      obtain ⟨fn', tmps, assign, body, hy, hR⟩ := hy0
      have hwk : (((k + 1 : Nat) : Int) - 1) = (k : Int) := by omega
      rw [hwk]
      gi_wp2
      refine ⟨rfl, hR.mono ?_⟩
      rintro e W3 ⟨rfl, hJ3⟩
      have hw1 : wrap64 ((k : Int) - 1) = (k : Int) - 1 := by unfold wrap64; omega
      gi_wp2
      go_roundw
      case rel => exact ⟨k, by omega, by first | rfl | rw [hw1], hJ3⟩
      case measure => first | (simp [intOf]; done) | (simp [intOf]; omega)

/-- All operations of a code, in order. -/
def opersOf : Code → List Oper
  | .region _ ops _ => ops.toList
  | .seq a b | .cond _ a b => opersOf a ++ opersOf b
  | .block _ a | .loop a => opersOf a
  | _ => []
def posOf (c : Code) (i : Nat) : String × Array Edge := match (opersOf c)[i]? with | some o => (o.pos, o.after) | none => ("", #[])

/-- The function is an iterator of slices.Backward at []int. -/
structure BackIs (P : Program) (f : FuncId) (fn : Func) (tS tI tB tY tT : TypeId) (r : Nat → Nat) : Prop where
  at_ : P.funcs[f]? = some fn
  name : (fn.name == "runtime.NumGoroutine") = false
  body : ∃ p, fn.body = some (backCode p tS tI tB tY tT r)
  ntmps : fn.ntmps = 19
  results : fn.results = #[]
  types : BackTypes P tS tI tB

theorem BackIs.ok {P : Program} {f : FuncId} {fn : Func} {tS tI tB tY tT : TypeId} {r : Nat → Nat} (h : BackIs P f fn tS tI tB tY tT r) : BackOk P f := by
  obtain ⟨p, hb⟩ := h.body
  refine ⟨fun args w => ?_, fun l q n J W hs hd hh hY h0 => back_calls p h.at_ hb h.ntmps h.results h.types l q n J W hs hh hY h0⟩
  have h1 : fn.name ≠ "runtime.NumGoroutine" := by have := h.name; simpa using this
  simp [callFunc, h.at_, h1, hb]
end
end SS
