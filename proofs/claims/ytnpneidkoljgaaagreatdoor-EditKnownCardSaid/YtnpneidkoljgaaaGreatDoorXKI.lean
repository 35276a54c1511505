/-
  strings.Index of this program: the library's own law, laid at this program's numbers. No condition.
-/
import Derived.Test.YtnpneidkoljgaaaGreatDoorXE
import Derived.Test.YtnpneidkoljgaaaGreatDoorSSG
import Derived.Shelf.Strings.Search2
import Derived.ProofKit
namespace Go.Proofs.YtnpneidkoljgaaaGreatDoor
open Go Go.Proofs Go.Shelf

def rhoI : Ren :=
  {
    f := fun x =>
      match x with
      | 219 => 214
      | 217 => 287
      | 225 => 288
      | 224 => 289
      | 267 => 290
      | 266 => 351
      | 314 => 352
      | n => n,
    t := fun x =>
      match x with
      | 9 => 9
      | 3 => 3
      | 4 => 4
      | 5 => 5
      | 46 => 149
      | 146 => 440
      | 51 => 171
      | n => n,
    g := fun x =>
      match x with
      | 1 => 2
      | n => n }

theorem laysI : Lays.n219 Tryz.prog rhoI :=
  { mixed := Eq.refl true, f217 := Eq.trans Tryz.func287 (congrArg some (Eq.refl (Body.n217 rhoI))),
    f219 := Eq.trans Tryz.func214 (congrArg some (Eq.refl (Body.n219 rhoI))),
    f224 := Eq.trans Tryz.func289 (congrArg some (Eq.refl (Body.n224 rhoI))),
    f225 := Eq.trans Tryz.func288 (congrArg some (Eq.refl (Body.n225 rhoI))),
    f266 := Eq.trans Tryz.func351 (congrArg some (Eq.refl (Body.n266 rhoI))),
    f267 := Eq.trans Tryz.func290 (congrArg some (Eq.refl (Body.n267 rhoI))),
    f314 := Eq.trans Tryz.func352 (congrArg some (Eq.refl (Body.n314 rhoI))), t3 := Tryz.underlying3,
    a3 := Tryz.isAgg3, z3 := Tryz.sizeOf3, v3 := Tryz.zeroValue3, t4 := Tryz.underlying4, a4 := Tryz.isAgg4,
    z4 := Tryz.sizeOf4, v4 := Tryz.zeroValue4, t5 := Tryz.underlying5, a5 := Tryz.isAgg5, z5 := Tryz.sizeOf5,
    v5 := Tryz.zeroValue5, t9 := Tryz.underlying9, a9 := Tryz.isAgg9, z9 := Tryz.sizeOf9, v9 := Tryz.zeroValue9,
    t46 := Tryz.underlying149, a46 := Tryz.isAgg149, z46 := Tryz.sizeOf149, v46 := Tryz.zeroValue149,
    t51 := Tryz.underlying171, a51 := Tryz.isAgg171, z51 := Tryz.sizeOf171, v51 := Tryz.zeroValue171,
    t146 := Tryz.underlying440, a146 := Tryz.isAgg440, z146 := Tryz.sizeOf440, v146 := Tryz.zeroValue440,
    g1 := by kernel_rfl }

theorem index_ok : SS.IndexOk env.P 214 2 := fun s sub m w hs hm => by
  refine ⟨?_, Any.stringslite_Index laysI s sub m w hs hm⟩
  have hf : env.P.funcs[214]? = some Tryz.f214 := Tryz.func214
  have hb : ∃ c, Tryz.f214.body = some c := ⟨_, rfl⟩
  obtain ⟨c, hb⟩ := hb
  have hn : Tryz.f214.name ≠ "runtime.NumGoroutine" := by
    have : (Tryz.f214.name == "runtime.NumGoroutine") = false := by kernel_rfl
    simpa using this
  simp [callFunc, hf, hn, hb]
end Go.Proofs.YtnpneidkoljgaaaGreatDoor
