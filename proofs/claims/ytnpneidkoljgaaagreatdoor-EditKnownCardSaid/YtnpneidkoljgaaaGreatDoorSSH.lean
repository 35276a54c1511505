/-
  slices.Insert, road by road, and its contract. No condition.
-/
import Derived.Test.YtnpneidkoljgaaaGreatDoorSSG
import Derived.Shelf.Bodies2
import Derived.Shelf.RegionOpenPlain
import Derived.WalkKit
import Derived.Lib.Walk
import Derived.Lib.SliceRun
import Derived.Lib.JoinLaws
import Derived.Lib.AppendZeros
import Derived.Lib.Overlaps
import Derived.Laws.Externs
import Derived.Laws.IdiomCopy
import Derived.Shelf.Spec.SlicesInsert
namespace Go.Proofs
open Go.Shelf Go.RowKit Go.Lib

/-- The function is slices.Insert at some element type of k cells. -/
structure InsIs (P : Program) (ρ : Ren) (k : Nat) (fn : Func) : Prop where
  at_ : P.funcs[ρ.f 22]? = some fn
  body : fn.body = (Body2.n22 ρ).body
  ntmps : fn.ntmps = 95
  results : fn.results = (Body2.n22 ρ).results
  mixed : P.follows .mixedOrders = true
  t3 : P.underlying (ρ.t 3) = some (TypeDesc.int IntKind.i64)
  a3 : ∀ w, (isAgg (ρ.t 3)).run P w = .ok false w
  z3 : ∀ w, (Go.sizeOf (ρ.t 3)).run P w = .ok 1 w
  t4 : P.underlying (ρ.t 4) = some (TypeDesc.bool)
  a4 : ∀ w, (isAgg (ρ.t 4)).run P w = .ok false w
  z4 : ∀ w, (Go.sizeOf (ρ.t 4)).run P w = .ok 1 w
  z9 : ∀ w, (Go.sizeOf (ρ.t 9)).run P w = .ok k w
  t24 : P.underlying (ρ.t 24) = some (TypeDesc.slice (ρ.t 9))
  a24 : ∀ w, (isAgg (ρ.t 24)).run P w = .ok false w
  z24 : ∀ w, (Go.sizeOf (ρ.t 24)).run P w = .ok 1 w

variable {P : Program} {ρ : Ren}

set_option maxHeartbeats 4000000 in
set_option maxRecDepth 100000 in
theorem ins_room {k : Nat} {fn : Func} (L : InsIs P ρ k fn) (b off n c i : Nat) (xa : Option Addr) (m vc : Nat) (w W1 W2 : World) (hi : i < n) (hm : 0 < m) (hroom : n + m ≤ c) (hbig : n + m ≤ 4294967296)
    (hov : ∀ a lb cb, (callFunc (ρ.f 29) #[.slice xa m vc, .slice (some ⟨b, a, none⟩) lb cb]).run P w = .ok (.value (.bool false)) w)
    (q1 q2 : Nat)
    (hcp1 : ∀ ty dc sc, (Builtin.copy_ #[(ρ.t 24), (ρ.t 24)] ty #[.slice (some ⟨b, off + (i + m) * k, none⟩) (n + m - (i + m)) dc, .slice (some ⟨b, off + i * k, none⟩) (n + m - i) sc]).run P w.drew = .ok (goInt q1) W1)
    (hcp2 : ∀ ty dc, (Builtin.copy_ #[(ρ.t 24), (ρ.t 24)] ty #[.slice (some ⟨b, off + i * k, none⟩) (n + m - i) dc, .slice xa m vc]).run P W1 = .ok (goInt q2) W2) :
    Calls P (ρ.f 22) #[.slice (some ⟨b, off, none⟩) n c, .int .i64 i, .slice xa m vc] w fun e w' =>
      e = .returned (.slice (some ⟨b, off, none⟩) (n + m) c) ∧ w' = W2 := by
  have t3 := L.t3; have a3 := L.a3; have z3 := L.z3; have t4 := L.t4; have a4 := L.a4; have z4 := L.z4; have z9 := L.z9; have t24 := L.t24; have a24 := L.a24; have z24 := L.z24
  have u3 := run_underlying L.t3; have u4 := run_underlying L.t4; have u24 := run_underlying L.t24
  have hz1 : ¬ ((m : Int) = 0) := by omega
  have hz2 : ¬ ((i : Int) = (n : Int)) := by omega
  have mixed := L.mixed
  have hw1 : IntKind.i64.wrap ((i : Int) + (m : Int)) = (i : Int) + (m : Int) := by rw [IntKind.wrap_i64]; omega
  have hb1 : (0 : Int) ≤ (i : Int) + (m : Int) := by omega
  have hin : i ≤ n := by omega
  have htn : ((i : Int) + (m : Int)).toNat = i + m := by omega
  have hb2 : ¬ (c = i + m) := by omega
  have hb3 : (i : Int) ≤ (n : Int) + (m : Int) := by omega
  have hb4 : ¬ (c = i) := by omega
  refine calls_of_wp L.at_ L.body ?_
  rw [L.ntmps]
  simp only [List.size_toArray, List.length_cons, List.length_nil, Nat.reduceAdd, Nat.reduceSub, Array.replicate_succ, Array.replicate_zero, List.push_toArray, List.append_toArray, List.nil_append, List.cons_append]
  go_wp2_with (simp only [hov])
  go_region_law_o (refine step_copy_runI rfl _ _ (ρ.t 24) (ρ.t 24) rfl _ _ (by simp [Act.eval, Act.put]) (by simp [Act.eval, Act.put]) (hcp1 _ _ _) ?_)
  go_wp2_with (at_builtin; refine wpList_copy_runI _ rfl _ _ (ρ.t 24) (ρ.t 24) rfl _ _ rfl rfl (hcp2 _ _) ?_)
  exact ⟨rfl, _, by simp [results, L.results, Body2.n22, go_sem], rfl, rfl⟩

set_option maxHeartbeats 4000000 in
set_option maxRecDepth 100000 in
theorem ins_end {k : Nat} {fn : Func} (L : InsIs P ρ k fn) (s : Option Addr) (n c : Nat) (xa : Option Addr) (m vc : Nat) (w w' : World) (v : Value) (hm : 0 < m) (hnc : n ≤ c)
    (hap : ∀ ty, (Builtin.append_ #[(ρ.t 24), (ρ.t 24)] ty #[.slice s n c, .slice xa m vc]).run P w = .ok v w') :
    Calls P (ρ.f 22) #[.slice s n c, .int .i64 n, .slice xa m vc] w fun e w'' => e = .returned v ∧ w'' = w' := by
  have t3 := L.t3; have a3 := L.a3; have z3 := L.z3; have t4 := L.t4; have a4 := L.a4; have z4 := L.z4; have z9 := L.z9; have t24 := L.t24; have a24 := L.a24; have z24 := L.z24
  have u3 := run_underlying L.t3; have u4 := run_underlying L.t4; have u24 := run_underlying L.t24
  have hz1 : ¬ ((m : Int) = 0) := by omega
  have mixed := L.mixed
  refine calls_of_wp L.at_ L.body ?_
  rw [L.ntmps]
  simp only [List.size_toArray, List.length_cons, List.length_nil, Nat.reduceAdd, Nat.reduceSub, Array.replicate_succ, Array.replicate_zero, List.push_toArray, List.append_toArray, List.nil_append, List.cons_append]
  cases s with
  | none =>
    go_wp2_with (at_builtin; refine Lib.wpList_append_run _ rfl _ _ _ _ rfl _ _ rfl rfl _ _ (hap _) ?_)
    exact ⟨rfl, _, by simp [results, L.results, Body2.n22, go_sem], rfl, rfl⟩
  | some a =>
    obtain ⟨b, off, sub⟩ := a
    go_wp2_with (at_builtin; refine Lib.wpList_append_run _ rfl _ _ _ _ rfl _ _ rfl rfl _ _ (hap _) ?_)
    all_goals exact ⟨rfl, _, by simp [results, L.results, Body2.n22, go_sem], rfl, rfl⟩

set_option maxHeartbeats 4000000 in
set_option maxRecDepth 100000 in
theorem ins_grow {k : Nat} {fn : Func} (L : InsIs P ρ k fn) (b off n c i : Nat) (xa : Option Addr) (m vc : Nat) (w W1 W2 W3 : World) (hi : i < n) (hm : 0 < m) (hnc : n ≤ c) (hroom : c < n + m) (hbig : n + m < 4611686018427387904)
    (g : Nat) (G : Nat) (hG : n + m ≤ G) (q1 q2 : Nat)
    (hap : ∀ ty, (Builtin.append_ #[(ρ.t 24), (ρ.t 3)] ty #[.slice (some ⟨b, off, none⟩) i c, .int .i64 ((n : Int) + (m : Int) - (i : Int))]).run P w = .ok (.slice (some ⟨g, 0, none⟩) (n + m) G) W1)
    (hcp1 : ∀ ty dc, (Builtin.copy_ #[(ρ.t 24), (ρ.t 24)] ty #[.slice (some ⟨g, i * k, none⟩) (n + m - i) dc, .slice xa m vc]).run P W1 = .ok (goInt q1) W2)
    (hcp2 : ∀ ty dc sc, (Builtin.copy_ #[(ρ.t 24), (ρ.t 24)] ty #[.slice (some ⟨g, (i + m) * k, none⟩) (n + m - (i + m)) dc, .slice (some ⟨b, off + i * k, none⟩) (n - i) sc]).run P W2.drew = .ok (goInt q2) W3) :
    Calls P (ρ.f 22) #[.slice (some ⟨b, off, none⟩) n c, .int .i64 i, .slice xa m vc] w fun e w' => e = .returned (.slice (some ⟨g, 0, none⟩) (n + m) G) ∧ w' = W3 := by
  have t3 := L.t3; have a3 := L.a3; have z3 := L.z3; have t4 := L.t4; have a4 := L.a4; have z4 := L.z4; have z9 := L.z9; have t24 := L.t24; have a24 := L.a24; have z24 := L.z24
  have u3 := run_underlying L.t3; have u4 := run_underlying L.t4; have u24 := run_underlying L.t24
  have hz1 : ¬ ((m : Int) = 0) := by omega
  have hz2 : ¬ ((i : Int) = (n : Int)) := by omega
  have hz3 : (c : Int) < (n : Int) + (m : Int) := by omega
  have mixed := L.mixed
  have hGi : ¬ (G = i) := by omega
  have hGim : ¬ (G = i + m) := by omega
  have hci : ¬ (c = i) := by omega
  have hw1 : IntKind.i64.wrap ((i : Int) + (m : Int)) = (i : Int) + (m : Int) := by rw [IntKind.wrap_i64]; omega
  have hb1 : (0 : Int) ≤ (i : Int) + (m : Int) := by omega
  have hin : i ≤ n := by omega
  have htn : ((i : Int) + (m : Int)).toNat = i + m := by omega
  have hb3 : (i : Int) ≤ (n : Int) := by omega
  refine calls_of_wp L.at_ L.body ?_
  rw [L.ntmps]
  simp only [List.size_toArray, List.length_cons, List.length_nil, Nat.reduceAdd, Nat.reduceSub, Array.replicate_succ, Array.replicate_zero, List.push_toArray, List.append_toArray, List.nil_append, List.cons_append]
  go_wp2_with (first
    | (at_builtin; refine Lib.wpList_append_run _ rfl _ _ _ _ rfl _ _ rfl rfl _ _ (hap _) ?_)
    | (at_builtin; refine wpList_copy_runI _ rfl _ _ (ρ.t 24) (ρ.t 24) rfl _ _ rfl rfl (hcp1 _ _) ?_))

  go_region_law_o (refine step_copy_runI rfl _ _ (ρ.t 24) (ρ.t 24) rfl _ _ (by simp [Act.eval, Act.put]) (by simp [Act.eval, Act.put]) (hcp2 _ _ _) ?_)
  go_wp2

  exact ⟨rfl, _, by simp [results, L.results, Body2.n22, go_sem], rfl, rfl⟩
end Go.Proofs

namespace Go.Proofs
open Go.Shelf Go.RowKit Go.Lib
variable {P : Program} {ρ : Go.Shelf.Ren}

/-- overlaps tells no, where the second slice's block bears no mark and the blocks are two. -/
theorem overlaps_no (w : World) (tS tR e : TypeId) (ht : P.underlying tS = some (.slice e)) (size : Nat) (hz : ∀ w, (Go.sizeOf e).run P w = .ok size w)
    (a b : Addr) (la ca lb cb : Nat) (hne : a.block ≠ b.block) {cs cs2 : Array Value} {t t2 : TypeId} {fr fr2 : Nat × Nat} (hb : w.heap[b.block]? = some (.cells cs t fr)) (hfr : fr.1 = fr.2) (hsz : 0 < cs.size) (ha : w.heap[a.block]? = some (.cells cs2 t2 fr2)) (hsz2 : 0 < cs2.size) :
    (Extern.SlicesOverlaps.overlaps #[tS, tS] #[tR] #[.slice (some a) la ca, .slice (some b) lb cb]).run P w = .ok (.bool false) w := by
  have hnb : (a.block != b.block) = true := by simpa using hne
  have hnb' : (a.block == b.block) = false := by simpa using hne
  have hsa : w.shape? a.block = some (t2, cs2.size) := by simp [World.shape?, ha]
  have hsb : w.shape? b.block = some (t, cs.size) := by simp [World.shape?, hb]
  have hfb : w.frozen? b = false := by
    obtain ⟨lo, hi⟩ := fr
    simp only at hfr; subst hfr
    simp [World.frozen?, hb]
  have hfe : w.frozen? { block := b.block, off := cs.size } = false := by
    obtain ⟨lo, hi⟩ := fr
    simp only at hfr; subst hfr
    simp [World.frozen?, hb]
  obtain ⟨kB, hkB⟩ : ∃ kB, cs.size = kB + 1 := ⟨cs.size - 1, by omega⟩
  obtain ⟨kA, hkA⟩ : ∃ kA, cs2.size = kA + 1 := ⟨cs2.size - 1, by omega⟩
  rw [hkB] at hsb hfe
  rw [hkA] at hsa
  change Sem.run P (α := Value) (do
    let some t := (#[tS, tS] : Array TypeId)[0]? | stuck "slices.overlaps: no parameter types"
    let .slice elem ← underlying t | stuck "slices.overlaps: slice type expected"
    let size ← sizeOf elem
    match (some a : Option Addr), (some b : Option Addr) with
    | some a, some b =>
      if la = 0 ∨ lb = 0 ∨ size = 0 then pure (Value.bool false)
      else if a.block != b.block && (← frozen a) && (← frozen b) then unsupported .addressObserved
      else do
        if a.block != b.block then do
          noView a; noView b
          if ← mayBeOne a b then return Value.bool ((← choose (.extern "sameAddr.stringBytes" 2)) == 1)
        pure (Value.bool (a.block == b.block && a.off < b.off + lb * size && b.off < a.off + la * size))
    | _, _ => pure (Value.bool false)) w = _
  by_cases h0 : la = 0 ∨ lb = 0 ∨ size = 0
  · simp [run_underlying ht, hz, h0]
  · cases hfa : w.frozen? a <;> cases hfe2 : w.frozen? { block := a.block, off := kA + 1 } <;>
      simp [run_underlying ht, hz, h0, hnb, hnb', frozen, noView, viewAt, mayBeOne, stringish, shape, Sem.run, hsa, hsb, hfa, hfb, hfe, hfe2]

/-- What else is to be known of the program: the element type, and who tells of overlaps. -/
structure InsMore (P : Program) (ρ : Go.Shelf.Ren) (k : Nat) (fn fo : Func) : Prop where
  name : (fn.name == "runtime.NumGoroutine") = false
  big : 1 < k
  info : ∃ inf z, P.info? (ρ.t 9) = some inf ∧ inf.size = k ∧ inf.bytes ≤ 16384 ∧ SS.zeroOf P (ρ.t 9) = some z ∧ z.cells.length = k
  foAt : P.funcs[ρ.f 29]? = some fo
  foBody : fo.body.isNone = true
  foName : (fo.name == "runtime.NumGoroutine") = false
  foNext : Extern.findNext fo = none
  foIs : Extern.find fo = some (Extern.SlicesOverlaps.overlaps #[ρ.t 24, ρ.t 24] #[ρ.t 4])

theorem InsIs.ok {k : Nat} {fn fo : Func} (L : InsIs P ρ k fn) (M : InsMore P ρ k fn fo) : SS.InsertOk P (ρ.f 22) (ρ.t 24) (ρ.t 3) (ρ.t 9) k where
  enters := fun args w => by
    have h1 : fn.name ≠ "runtime.NumGoroutine" := by have := M.name; simpa using this
    have hb : ∃ c, fn.body = some c := ⟨_, L.body⟩
    obtain ⟨c, hb⟩ := hb
    simp [callFunc, L.at_, h1, hb]
  big := M.big
  slice := L.t24
  int := L.t3
  info := M.info
  end_ := fun s n c xa m vc w w' v hm hnc hap => ins_end L s n c xa m vc w w' v hm hnc hap
  room := fun b off n c i b2 o2 m vc w W1 W2 cs cs2 t t2 fr fr2 q1 q2 hi hm hroom hbig hne hb hfr hsz hb2 hsz2 h1 h2 =>
    ins_room L b off n c i (some ⟨b2, o2, none⟩) m vc w W1 W2 hi hm hroom hbig (fun a lb cb => by
      rw [run_callFunc_extern M.foAt M.foName M.foBody M.foNext M.foIs, overlaps_no w _ _ _ L.t24 k L.z9 ⟨b2, o2, none⟩ ⟨b, a, none⟩ m vc lb cb hne hb hfr hsz hb2 hsz2]
      rfl) q1 q2 h1 h2
  grow := fun b off n c i xa m vc w W1 W2 W3 g G q1 q2 hi hm hnc hroom hbig hG hap h1 h2 => ins_grow L b off n c i xa m vc w W1 W2 W3 hi hm hnc hroom hbig g G hG q1 q2 hap h1 h2
end Go.Proofs
