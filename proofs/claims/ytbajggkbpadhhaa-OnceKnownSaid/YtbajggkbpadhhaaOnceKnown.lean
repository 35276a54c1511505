/-
  'lariatlaw1.OnceKnown' returns true, whatever the start of the run; nothing that was there is changed. No condition.
-/
import Derived.Test.YtbajggkbpadhhaaSSE
import Derived.Test.YtbajggkbpadhhaaRows
namespace Go.Proofs.Ytbajggkbpadhhaa
open Go Go.ChangeShapes Go.WideShapes Go.ChangeAt Go.RowKit

theorem Try.own : ownKnob Try.prog.godebug = none := by kernel_rfl
theorem Try.laidOut : laidOutB Try.prog = true := by kernel_rfl

def extn : FuncId → Option SS.Ext
  | 39 => some (.load .u32)
  | 41 => some .store
  | 46 => some (.cas .i32)
  | 51 => some (.add .i32)
  | 45 => some .nothing
  | 47 => some .nothing
  | 48 => some .mark
  | 50 => some .mark
  | _ => none

noncomputable def env : SS.Env := ⟨Try.prog, (fun _ => none), (fun _ => 0), extn, (fun _ => false), (fun _ => false)⟩

theorem env_ok : SS.EnvOk env where
  code := SS.code_of (by kernel_rfl)
  pure := fun _ => rfl
  split := fun _ => rfl
  ext := by
    intro f e he
    have he : extn f = some e := he
    unfold extn at he
    split at he <;> cases he
    · exact ⟨fun _ => ⟨Try.f39, _, Try.func39, by kernel_rfl, by kernel_rfl, by kernel_rfl, by kernel_rfl, rfl⟩⟩
    · exact ⟨fun _ => ⟨Try.f41, _, Try.func41, by kernel_rfl, by kernel_rfl, by kernel_rfl, by kernel_rfl, rfl⟩⟩
    · exact ⟨fun _ => ⟨Try.f46, _, Try.func46, by kernel_rfl, by kernel_rfl, by kernel_rfl, by kernel_rfl, rfl⟩⟩
    · exact ⟨fun _ => ⟨Try.f51, _, Try.func51, by kernel_rfl, by kernel_rfl, by kernel_rfl, by kernel_rfl, rfl⟩⟩
    · exact ⟨fun _ => ⟨Try.f45, _, Try.func45, by kernel_rfl, by kernel_rfl, by kernel_rfl, by kernel_rfl, .disable, rfl⟩⟩
    · exact ⟨fun _ => ⟨Try.f47, _, Try.func47, by kernel_rfl, by kernel_rfl, by kernel_rfl, by kernel_rfl, .enable, rfl⟩⟩
    · exact ⟨fun _ => ⟨Try.f48, _, Try.func48, by kernel_rfl, by kernel_rfl, by kernel_rfl, by kernel_rfl, .acquire, rfl⟩⟩
    · exact ⟨fun _ => ⟨Try.f50, _, Try.func50, by kernel_rfl, by kernel_rfl, by kernel_rfl, by kernel_rfl, .releaseMerge, rfl⟩⟩

theorem known_true : SS.isT (SS.aCall env 1000 5 [] .empty) = true := by kernel_rfl

set_option maxRecDepth 100000 in
theorem known_lifted (os : Os) (started : os.Started) (H : Type) (enc : TypeId × Value → H) :
    ReturnsInHanded {} Try.checked os 5 .any (Rows.onceKnownSpec.pre6 enc Try.prog Try.f5 Rows.onceKnownRow.domain false) (Rows.onceKnownSpec.post enc Try.prog Try.f5 false true false false) := by
  refine returnsInHanded_of_change (C := Try.checked) Try.own started (by kernel_rfl) Try.func5
    (ChangeSpec.witness6 (enc := enc) (C := Try.checked) false ⟨#[], #[], []⟩ 8 (by kernel_rfl) (by kernel_rfl) (by kernel_rfl) (by kernel_rfl)) ?_
  intro W base args ds gs before hval0 hW hcnd _
  have hW' := hW
  obtain ⟨p, q, hA0, hV, rfl, hfz, hnd⟩ := hW
  have hA : DataW.TrodAll enc Try.prog W 0 (fun _ => true) true Try.f5.params.toList args.toList ds p := hA0
  rw [Try.params5] at hA
  obtain ⟨rfl, rfl, rfl⟩ := trodAll_none hA
  obtain ⟨rfl, rfl⟩ := trodVars_none hV
  clear hA0 hval0
  simp only [List.append_nil] at hW'
  refine (SS.closed_calls env_ok (fun _ => rfl) rfl Try.func5 rfl known_true W).mono fun e W' he => ?_
  cases e with
  | panicked _ => exact he.elim
  | outgrown => exact he.elim
  | returned v =>
    obtain ⟨rfl, hos, hout, hk⟩ := he
    exact ⟨_, rfl, post_of_old (pa := []) (pv := []) hW' (fun _ _ _ => trodAll_mk1 (shut_bool Try.underlying4 true)) (fun sp _ => trodAll_mk0) (fun _ _ => rfl) rfl hos hout hk (ok_one (by kernel_rfl) rfl (okWide_bool_mk Try.underlying4 _))⟩

theorem known_holds : Rows.OnceKnownSaid :=
  OpenClaim.holds_of_wide 5 Try.f5 rfl rfl rfl rfl rfl rfl rfl ⟨rfl, rfl, rfl, rfl, rfl⟩ rfl rfl rfl rfl rfl (by kernel_rfl) Try.func5 (by kernel_rfl)
    (of_decide_eq_true (by kernel_rfl)) (by unfold Func.isWrapper; first | (rw [if_pos (by decide +kernel)]; kernel_rfl) | (rw [if_neg (by decide +kernel)]; exact ⟨rfl, rfl⟩))
    (fun os started H enc _ => known_lifted os started H enc)

end Go.Proofs.Ytbajggkbpadhhaa
