/-
  strings.Index of this program: the library's own law, laid at this program's numbers. No condition.
-/
import Derived.Test.YtalbkknckepnjaaGreatDoorXE
import Derived.Test.YtalbkknckepnjaaGreatDoorSSG
import Derived.Shelf.Strings.Search2
import Derived.ProofKit
namespace Go.Proofs.YtalbkknckepnjaaGreatDoor
open Go Go.Proofs Go.Shelf

def rhoI : Ren where
  f := fun n => bif Nat.beq n 217 then 351 else bif Nat.beq n 219 then 294 else bif Nat.beq n 224 then 353 else bif Nat.beq n 225 then 352 else bif Nat.beq n 266 then 377 else bif Nat.beq n 267 then 354 else bif Nat.beq n 314 then 378 else n
  t := fun n => bif Nat.beq n 46 then 260 else bif Nat.beq n 51 then 396 else bif Nat.beq n 146 then 444 else n
  g := fun _ => 0

theorem laysI : Lays.n219 Tryz.prog rhoI :=
  { mixed := Eq.refl true, f217 := Eq.trans Tryz.func351 (congrArg some (Eq.refl (Body.n217 rhoI))),
    f219 := Eq.trans Tryz.func294 (congrArg some (Eq.refl (Body.n219 rhoI))),
    f224 := Eq.trans Tryz.func353 (congrArg some (Eq.refl (Body.n224 rhoI))),
    f225 := Eq.trans Tryz.func352 (congrArg some (Eq.refl (Body.n225 rhoI))),
    f266 := Eq.trans Tryz.func377 (congrArg some (Eq.refl (Body.n266 rhoI))),
    f267 := Eq.trans Tryz.func354 (congrArg some (Eq.refl (Body.n267 rhoI))),
    f314 := Eq.trans Tryz.func378 (congrArg some (Eq.refl (Body.n314 rhoI))), t3 := Tryz.underlying3,
    a3 := Tryz.isAgg3, z3 := Tryz.sizeOf3, v3 := Tryz.zeroValue3, t4 := Tryz.underlying4, a4 := Tryz.isAgg4,
    z4 := Tryz.sizeOf4, v4 := Tryz.zeroValue4, t5 := Tryz.underlying5, a5 := Tryz.isAgg5, z5 := Tryz.sizeOf5,
    v5 := Tryz.zeroValue5, t9 := Tryz.underlying9, a9 := Tryz.isAgg9, z9 := Tryz.sizeOf9, v9 := Tryz.zeroValue9,
    t46 := Tryz.underlying260, a46 := Tryz.isAgg260, z46 := Tryz.sizeOf260, v46 := Tryz.zeroValue260,
    t51 := Tryz.underlying396, a51 := Tryz.isAgg396, z51 := Tryz.sizeOf396, v51 := Tryz.zeroValue396,
    t146 := Tryz.underlying444, a146 := Tryz.isAgg444, z146 := Tryz.sizeOf444, v146 := Tryz.zeroValue444,
    g1 := by kernel_rfl }

theorem index_ok : SS.IndexOk env.P 294 0 := fun s sub m w hs hm => by
  refine ⟨?_, Any.stringslite_Index laysI s sub m w hs hm⟩
  have hf : env.P.funcs[294]? = some Tryz.f294 := Tryz.func294
  have hb : ∃ c, Tryz.f294.body = some c := ⟨_, rfl⟩
  obtain ⟨c, hb⟩ := hb
  have hn : Tryz.f294.name ≠ "runtime.NumGoroutine" := by
    have : (Tryz.f294.name == "runtime.NumGoroutine") = false := by kernel_rfl
    simpa using this
  simp [callFunc, hf, hn, hb]
end Go.Proofs.YtalbkknckepnjaaGreatDoor
