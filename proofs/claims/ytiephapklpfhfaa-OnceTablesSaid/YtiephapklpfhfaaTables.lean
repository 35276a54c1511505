/-
  'lariatlaw1.OnceTables' returns true for every input; the argument reads as it did. No condition.
-/
import Derived.Test.YtiephapklpfhfaaXH
namespace Go.Proofs.Ytiephapklpfhfaa
open Go Go.ChangeShapes Go.WideShapes Go.ChangeAt Go.RowKit

theorem ask_typed {c : List SS.V} (h : SS.Typed Try.prog 3 42 c) : ∃ a : AskT, SS.packE Try.prog 42 c = askV a := by
  unfold SS.Typed at h
  rw [Try.underlying42] at h
  obtain ⟨parts, rfl, h1, h2⟩ := h
  obtain ⟨p0, p1, p2, p3, rfl⟩ : ∃ p0 p1 p2 p3, parts = [p0, p1, p2, p3] := by
    have h1 : parts.length = 4 := h1
    rcases parts with _ | ⟨p0, _ | ⟨p1, _ | ⟨p2, _ | ⟨p3, _ | ⟨p4, z⟩⟩⟩⟩⟩ <;> simp at h1
    exact ⟨_, _, _, _, rfl⟩
  have one : ∀ (i : Nat) (p : List SS.V) (f : Field), ([p0, p1, p2, p3])[i]? = some p → (match Try.prog.underlying 42 with | some (.struct fs) => fs[i]? | _ => none) = some f → f.type = 3 → ∃ z : Int, p = [.int .i64 z] := by
    intro i p f hp hf ht
    rw [Try.underlying42] at hf
    have := h2 i f p hf hp
    rw [ht] at this
    unfold SS.Typed at this
    rw [Try.underlying3] at this
    obtain ⟨z, e, _⟩ := this
    exact ⟨z, e⟩
  have h42 : ∀ i, i < 4 → ∃ f : Field, (match Try.prog.underlying 42 with | some (.struct fs) => fs[i]? | _ => none) = some f ∧ f.type = 3 := by
    intro i hi
    rw [Try.underlying42]
    match i, hi with
    | 0, _ => exact ⟨_, rfl, rfl⟩
    | 1, _ => exact ⟨_, rfl, rfl⟩
    | 2, _ => exact ⟨_, rfl, rfl⟩
    | 3, _ => exact ⟨_, rfl, rfl⟩
  obtain ⟨f0, a0, b0⟩ := h42 0 (by omega)
  obtain ⟨f1, a1, b1⟩ := h42 1 (by omega)
  obtain ⟨f2, a2, b2⟩ := h42 2 (by omega)
  obtain ⟨f3, a3, b3⟩ := h42 3 (by omega)
  obtain ⟨z0, rfl⟩ := one 0 p0 f0 rfl a0 b0
  obtain ⟨z1, rfl⟩ := one 1 p1 f1 rfl a1 b1
  obtain ⟨z2, rfl⟩ := one 2 p2 f2 rfl a2 b2
  obtain ⟨z3, rfl⟩ := one 3 p3 f3 rfl a3 b3
  refine ⟨(z0, z1, z2, z3), ?_⟩
  unfold SS.packE
  rw [Try.underlying42]
  rfl

theorem asks_in {H : Type} {enc : TypeId × Value → H} {w : World} {sp : Nat → Bool} {held : Bool} {r : Reach} {base base' : Nat} {v : Value} {d : DataW H} {p : List MemPlace} (h : DataW.Trod enc Try.prog w base sp held 39 v d p) (ho : Value.okWide Try.prog w r base' 39 v) :
    ∃ (u : SS.V) (xs : List AskT), AsksV u xs ∧ SS.VR (fun _ => none) (SS.memOf w) u v := by
  obtain ⟨a, len, cap, rfl⟩ := okWide_slice Try.underlying39 ho
  obtain ⟨fuel, h⟩ := h
  obtain ⟨vs, h1, h2⟩ := SS.typed_of 4 fuel 39 _ _ (by kernel_rfl) h
  unfold SS.Typed at h1
  rw [Try.underlying39] at h1
  simp only at h1
  have h2 : SS.VRL _ _ vs [.slice a len cap] := h2
  rcases h1 with rfl | ⟨cells, rfl, _, h3⟩
  · cases h2 with
    | cons _ _ _ _ h5 h6 => exact ⟨_, [], .inl ⟨rfl, rfl⟩, h5⟩
  · cases h2 with
    | cons _ _ _ _ h5 h6 =>
      have key : ∀ cells : List (List SS.V), (∀ c ∈ cells, SS.Typed Try.prog 3 42 c) → ∃ xs : List AskT, cells.map (SS.packE Try.prog 42) = xs.map askV := by
        intro cells
        induction cells with
        | nil => intro _; exact ⟨[], rfl⟩
        | cons c cells ih =>
          intro h
          obtain ⟨xs, e1⟩ := ih (fun c' hc' => h c' (by simp [hc']))
          obtain ⟨a, ha⟩ := ask_typed (h c (by simp))
          exact ⟨a :: xs, by simp only [List.map_cons, e1, ha]⟩
      obtain ⟨xs, e1⟩ := key cells h3
      rw [e1] at h5
      exact ⟨_, xs, .inr ⟨false, rfl⟩, h5⟩

set_option maxRecDepth 100000 in
theorem tables_lifted (os : Os) (started : os.Started) (H : Type) (enc : TypeId × Value → H) :
    ReturnsInHanded {} Try.checked os 6 .any (Rows.onceTablesSpec.pre6 enc Try.prog Try.f6 Rows.onceTablesRow.domain false) (Rows.onceTablesSpec.post enc Try.prog Try.f6 false true false false) := by
  refine returnsInHanded_of_change (C := Try.checked) Try.own started (by kernel_rfl) Try.func6
    (ChangeSpec.witness6 (enc := enc) (C := Try.checked) false ⟨#[], #[.slice none 0 0], []⟩ 8 (by kernel_rfl) (by kernel_rfl) (by kernel_rfl) (by kernel_rfl)) ?_
  intro W base args ds gs before hval hW hcnd _
  have hW' := hW
  obtain ⟨p, q, hA0, hV, rfl, hfz, hnd⟩ := hW
  have hA : DataW.TrodAll enc Try.prog W 0 (fun _ => true) true Try.f6.params.toList args.toList ds p := hA0
  obtain ⟨rfl, rfl⟩ := trodVars_none hV
  simp only [List.append_nil] at hW'
  have hlt := hW'.lt
  have hback : ∀ W' : World, (∀ i, i < W.heap.size → W'.heap[i]? = W.heap[i]?) → ∀ sp : Nat → Bool, (∀ x ∈ p, sp x.block = true) → DataW.TrodAll enc Try.prog W' 0 sp true Try.f6.params.toList args.toList ds p :=
    fun W' hk sp hs => SS.trodAll_back (n := 4) hk (by kernel_rfl) hA hlt hs
  have hA2 := hA
  rw [Try.params6] at hA2
  obtain ⟨v1, d1, rfl, rfl, t1⟩ := trodAll_one hA2
  obtain ⟨u1, xs, hu1, hv1⟩ := asks_in t1 (hval 0 39 _ rfl rfl)
  obtain ⟨σ', hr⟩ := tables_run (a0 := u1) (xs := xs) hu1
  refine (run_calls (args := [v1]) Try.func6 rfl rfl u6_ok hr (.cons _ _ _ _ hv1 .nil)).mono fun e W' he => ?_
  cases e with
  | panicked _ => exact he.elim
  | outgrown => exact he.elim
  | returned v =>
    obtain ⟨rfl, hos, hout, hk⟩ := he
    exact ⟨_, rfl, post_of_old (pa := p) (pv := []) hW' (fun _ _ _ => trodAll_mk1 (shut_bool Try.underlying4 true)) (fun sp hs => hback W' hk sp hs) (fun _ _ => rfl) (by simp) hos hout hk (ok_one (by kernel_rfl) rfl (okWide_bool_mk Try.underlying4 _))⟩

theorem tables_holds : Rows.OnceTablesSaid :=
  OpenClaim.holds_of_wide 6 Try.f6 rfl rfl rfl rfl rfl rfl rfl ⟨rfl, rfl, rfl, rfl, rfl⟩ rfl rfl rfl rfl rfl (by kernel_rfl) Try.func6 (by kernel_rfl)
    (of_decide_eq_true (by kernel_rfl)) (by unfold Func.isWrapper; first | (rw [if_pos (by decide +kernel)]; kernel_rfl) | (rw [if_neg (by decide +kernel)]; exact ⟨rfl, rfl⟩))
    (fun os started H enc _ => tables_lifted os started H enc)
end Go.Proofs.Ytiephapklpfhfaa
