/-
  From a run to what is claimed: with arguments of data. No condition.
-/
import Derived.Test.YtiephapklpfhfaaXE
import Derived.Test.YtiephapklpfhfaaRows
namespace Go.Proofs.Ytiephapklpfhfaa
open Go Go.ChangeShapes Go.WideShapes Go.ChangeAt Go.RowKit

theorem Try.own : ownKnob Try.prog.godebug = none := by kernel_rfl
theorem Try.laidOut : laidOutB Try.prog = true := by kernel_rfl

/-- A run that answers true: so the call does, and what was there stays. -/
theorem run_calls {f : FuncId} {fn : Func} (hf : Try.prog.funcs[f]? = some fn) (he : env.extn f = none) (hb : fn.body = some (SS.bodyOf fn)) {t : SS.Call → Nat → List SS.V → SS.St → Option (SS.V × SS.St)} {h : SS.CH} {O : List (Nat × List Nat)} {n : Nat} (ht : ∀ call k, t call k = SS.unL n (SS.kFun env call pu k fn (SS.bodyOf fn) h O))
    {k : Nat} {us : List SS.V} {σ' : SS.St} (hr : t (SS.aCall env k) k us .empty = some (.bool true, σ')) {w : World} {args : List Value} (hv : SS.VRL (fun _ => none) (SS.memOf w) us args) :
    Calls Try.prog f args.toArray w fun | .returned v, w' => v = .bool true ∧ w'.os = w.os ∧ w'.output = w.output ∧ ∀ i, i < w.heap.size → w'.heap[i]? = w.heap[i]? | _, _ => False := by
  obtain ⟨hok, _⟩ := env_ok.code f fn _ he hf hb
  have ih : SS.CallOk env (SS.aCall env k) := SS.aCall_sound env_ok SS.val_ok SS.builtin_ok k
  have hg : SS.GOk env (SS.memOf w) := by
    refine ⟨fun g cs h => (by cases h), fun f g h => ?_⟩
    have h : extn f = some (.indexStr g) := h
    unfold extn at h
    split at h <;> cases h
  refine (SS.runBody_sound SS.val_ok SS.builtin_ok ih (SS.callD_sound env_ok SS.val_ok SS.builtin_ok ih k) hf hb hok (run_txt ht hr) (SS.sr_mem _ w _) hg hv).mono fun e w' hh => ?_
  cases e with
  | panicked _ => exact hh.elim
  | outgrown => exact hh.elim
  | returned v =>
    obtain ⟨ρ', M', s, hv⟩ := hh
    cases hv
    exact ⟨rfl, s.os, s.output, fun i hi => s.frame i hi fun _ _ h => by cases h⟩

theorem cells_of_one {v v0 : Value} (h : v.cells = #[v0]) (hv : v.oneCell' = true) : v = v0 := by
  cases v <;> simp_all [Value.cells, Value.oneCell']

/-- An integer that comes in. -/
theorem int_in {H : Type} {enc : TypeId × Value → H} {w : World} {sp : Nat → Bool} {held : Bool} {r : Reach} {base base' : Nat} {v : Value} {d : DataW H} {p : List MemPlace} (h : DataW.Trod enc Try.prog w base sp held 3 v d p) (ho : Value.okWide Try.prog w r base' 3 v) :
    ∃ n : Int, IntKind.i64.min ≤ n ∧ n ≤ IntKind.i64.max ∧ v = .int .i64 n := by
  obtain ⟨n, rfl⟩ := okWide_int Try.underlying3 ho
  obtain ⟨fuel, h⟩ := h
  obtain ⟨vs, h1, h2⟩ := SS.typed_of 2 fuel 3 _ _ (by kernel_rfl) h
  unfold SS.Typed at h1
  rw [Try.underlying3] at h1
  obtain ⟨z, rfl, h3, h4⟩ := h1
  have h2 : SS.VRL _ _ [.int .i64 z] [.int .i64 n] := h2
  cases h2 with
  | cons _ _ _ _ h5 h6 => cases h5; exact ⟨_, h3, h4, rfl⟩

/-- A slice of integers that comes in. -/
theorem ints_in {H : Type} {enc : TypeId × Value → H} {w : World} {sp : Nat → Bool} {held : Bool} {r : Reach} {base base' : Nat} {v : Value} {d : DataW H} {p : List MemPlace} (h : DataW.Trod enc Try.prog w base sp held 22 v d p) (ho : Value.okWide Try.prog w r base' 22 v) :
    ∃ (u : SS.V) (xs : List Int), ((u = .nilS ∧ xs = []) ∨ ∃ f, u = .lst (xs.map (SS.V.int .i64)) f) ∧ (∀ x ∈ xs, IntKind.i64.min ≤ x ∧ x ≤ IntKind.i64.max) ∧ SS.VR (fun _ => none) (SS.memOf w) u v := by
  obtain ⟨a, len, cap, rfl⟩ := okWide_slice Try.underlying22 ho
  obtain ⟨fuel, h⟩ := h
  obtain ⟨vs, h1, h2⟩ := SS.typed_of 3 fuel 22 _ _ (by kernel_rfl) h
  unfold SS.Typed at h1
  rw [Try.underlying22] at h1
  simp only at h1
  have h2 : SS.VRL _ _ vs [.slice a len cap] := h2
  rcases h1 with rfl | ⟨cells, rfl, _, h3⟩
  · cases h2 with
    | cons _ _ _ _ h5 h6 => exact ⟨_, [], .inl ⟨rfl, rfl⟩, fun x hx => by simp at hx, h5⟩
  · cases h2 with
    | cons _ _ _ _ h5 h6 =>
      have key : ∀ cells : List (List SS.V), (∀ c ∈ cells, SS.Typed Try.prog 2 3 c) → ∃ xs : List Int, cells.map (SS.packE Try.prog 3) = xs.map (SS.V.int .i64) ∧ ∀ x ∈ xs, IntKind.i64.min ≤ x ∧ x ≤ IntKind.i64.max := by
        intro cells
        induction cells with
        | nil => intro _; exact ⟨[], rfl, fun x hx => by simp at hx⟩
        | cons c cells ih =>
          intro h
          obtain ⟨xs, e1, e2⟩ := ih (fun c' hc' => h c' (by simp [hc']))
          have h1 := h c (by simp)
          unfold SS.Typed at h1
          rw [Try.underlying3] at h1
          obtain ⟨z, rfl, h3, h4⟩ := h1
          refine ⟨z :: xs, ?_, fun x hx => ?_⟩
          · simp only [List.map_cons, e1]
            congr 1
          · rcases List.mem_cons.1 hx with rfl | hx
            · exact ⟨h3, h4⟩
            · exact e2 x hx
      obtain ⟨xs, e1, e2⟩ := key cells h3
      rw [e1] at h5
      exact ⟨_, xs, .inr ⟨false, rfl⟩, e2, h5⟩
end Go.Proofs.Ytiephapklpfhfaa
