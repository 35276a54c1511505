/-
  'lariatlaw1.OnceDrops' returns true for every input; the arguments read as they did. No condition.
-/
import Derived.Test.YtiephapklpfhfaaXH
namespace Go.Proofs.Ytiephapklpfhfaa
open Go Go.ChangeShapes Go.WideShapes Go.ChangeAt Go.RowKit

set_option maxRecDepth 100000 in
theorem drops_lifted (os : Os) (started : os.Started) (H : Type) (enc : TypeId × Value → H) :
    ReturnsInHanded {} Try.checked os 7 .any (Rows.onceDropsSpec.pre6 enc Try.prog Try.f7 Rows.onceDropsRow.domain false) (Rows.onceDropsSpec.post enc Try.prog Try.f7 false true false false) := by
  refine returnsInHanded_of_change (C := Try.checked) Try.own started (by kernel_rfl) Try.func7
    (ChangeSpec.witness6 (enc := enc) (C := Try.checked) false ⟨#[], #[.slice none 0 0, .slice none 0 0], []⟩ 8 (by kernel_rfl) (by kernel_rfl) (by kernel_rfl) (by kernel_rfl)) ?_
  intro W base args ds gs before hval hW hcnd _
  have hW' := hW
  obtain ⟨p, q, hA0, hV, rfl, hfz, hnd⟩ := hW
  have hA : DataW.TrodAll enc Try.prog W 0 (fun _ => true) true Try.f7.params.toList args.toList ds p := hA0
  obtain ⟨rfl, rfl⟩ := trodVars_none hV
  simp only [List.append_nil] at hW'
  have hlt := hW'.lt
  have hback : ∀ W' : World, (∀ i, i < W.heap.size → W'.heap[i]? = W.heap[i]?) → ∀ sp : Nat → Bool, (∀ x ∈ p, sp x.block = true) → DataW.TrodAll enc Try.prog W' 0 sp true Try.f7.params.toList args.toList ds p :=
    fun W' hk sp hs => SS.trodAll_back (n := 3) hk (by kernel_rfl) hA hlt hs
  have hA2 := hA
  rw [Try.params7] at hA2
  obtain ⟨v1, v2, d1, d2, p1, p2, rfl, rfl, rfl, t1, t2⟩ := trodAll_two hA2
  obtain ⟨u1, xs, hu1, _, hv1⟩ := ints_in t1 (hval 0 22 _ rfl rfl)
  obtain ⟨u2, ys, hu2, _, hv2⟩ := ints_in t2 (hval 1 22 _ rfl rfl)
  obtain ⟨σ', hr⟩ := drops_run (a0 := u1) (a1 := u2) (xs := xs) (ys := ys) hu1 hu2
  refine (run_calls (args := [v1, v2]) Try.func7 rfl rfl u7_ok hr (.cons _ _ _ _ hv1 (.cons _ _ _ _ hv2 .nil))).mono fun e W' he => ?_
  cases e with
  | panicked _ => exact he.elim
  | outgrown => exact he.elim
  | returned v =>
    obtain ⟨rfl, hos, hout, hk⟩ := he
    exact ⟨_, rfl, post_of_old (pa := p1 ++ p2) (pv := []) hW' (fun _ _ _ => trodAll_mk1 (shut_bool Try.underlying4 true)) (fun sp hs => hback W' hk sp hs) (fun _ _ => rfl) (by simp) hos hout hk (ok_one (by kernel_rfl) rfl (okWide_bool_mk Try.underlying4 _))⟩

theorem drops_holds : Rows.OnceDropsSaid :=
  OpenClaim.holds_of_wide 7 Try.f7 rfl rfl rfl rfl rfl rfl rfl ⟨rfl, rfl, rfl, rfl, rfl⟩ rfl rfl rfl rfl rfl (by kernel_rfl) Try.func7 (by kernel_rfl)
    (of_decide_eq_true (by kernel_rfl)) (by unfold Func.isWrapper; first | (rw [if_pos (by decide +kernel)]; kernel_rfl) | (rw [if_neg (by decide +kernel)]; exact ⟨rfl, rfl⟩))
    (fun os started H enc _ => drops_lifted os started H enc)
end Go.Proofs.Ytiephapklpfhfaa
