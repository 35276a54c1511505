/-
  slices.Insert and slices.Backward's iterator in this program keep their contracts. No condition.
-/
import Derived.Test.YtnpneidkoljgaaaGreatDoorXE
import Derived.Test.YtnpneidkoljgaaaGreatDoorSSH
import Derived.Test.YtnpneidkoljgaaaGreatDoorSSI
import Derived.ProofKit
namespace Go.Proofs.YtnpneidkoljgaaaGreatDoor
open Go Go.Proofs Go.Shelf

def rhoN : Ren where
  f := fun n => bif Nat.beq n 22 then 90 else bif Nat.beq n 29 then 181 else bif Nat.beq n 30 then 182 else n
  t := fun n => bif Nat.beq n 24 then 28 else bif Nat.beq n 9 then 40 else bif Nat.beq n 3 then 3 else bif Nat.beq n 4 then 4 else n
  g := fun _ => 0

theorem insIs : InsIs Tryz.prog rhoN 7 Tryz.f90 where
  at_ := Tryz.func90
  body := by kernel_rfl
  ntmps := by kernel_rfl
  results := by kernel_rfl
  mixed := Eq.refl true
  t3 := Tryz.underlying3
  a3 := Tryz.isAgg3
  z3 := Tryz.sizeOf3
  t4 := Tryz.underlying4
  a4 := Tryz.isAgg4
  z4 := Tryz.sizeOf4
  z9 := Tryz.sizeOf40
  t24 := Tryz.underlying28
  a24 := Tryz.isAgg28
  z24 := Tryz.sizeOf28

theorem info_of {P : Program} {t : TypeId} {k : Nat} (h : (match P.info? t, SS.zeroOf P t with | some i, some z => Nat.beq i.size k && (Nat.ble i.bytes 16384 && Nat.beq z.cells.length k) | _, _ => false) = true) :
    ∃ inf z, P.info? t = some inf ∧ inf.size = k ∧ inf.bytes ≤ 16384 ∧ SS.zeroOf P t = some z ∧ z.cells.length = k := by
  split at h
  · rename_i i z h1 h2
    simp only [Bool.and_eq_true] at h
    exact ⟨i, z, h1, Nat.eq_of_beq_eq_true h.1, Nat.le_of_ble_eq_true h.2.1, h2, Nat.eq_of_beq_eq_true h.2.2⟩
  · cases h

theorem insMore : InsMore Tryz.prog rhoN 7 Tryz.f90 Tryz.f181 where
  name := by kernel_rfl
  big := by decide
  info := info_of (by kernel_rfl)
  foAt := Tryz.func181
  foBody := by kernel_rfl
  foName := by kernel_rfl
  foNext := by kernel_rfl
  foIs := by kernel_rfl

theorem insert_ok : SS.InsertOk env.P 90 28 3 40 7 := insIs.ok insMore

/-- The body of a function, or nothing. -/
def bodyOf (f : Func) : Code := match f.body with | some c => c | none => .skip

theorem back_is : SS.BackIs Tryz.prog 387 Tryz.f387 23 3 4 260 0 (fun i => [0, 1, 3, 2].getD i 0) where
  at_ := Tryz.func387
  name := by kernel_rfl
  body := ⟨SS.posOf (bodyOf Tryz.f387), by kernel_rfl⟩
  ntmps := by kernel_rfl
  results := by kernel_rfl
  types := ⟨Eq.refl true, Tryz.underlying3, Tryz.isAgg3, Tryz.sizeOf3, Tryz.underlying23, Tryz.isAgg23, Tryz.sizeOf23, Tryz.underlying4⟩

theorem back_ok (f : FuncId) (h : env.back f = true) : SS.BackOk env.P f := by
  have e : f = 387 := Nat.eq_of_beq_eq_true h
  subst e
  exact back_is.ok
end Go.Proofs.YtnpneidkoljgaaaGreatDoor
