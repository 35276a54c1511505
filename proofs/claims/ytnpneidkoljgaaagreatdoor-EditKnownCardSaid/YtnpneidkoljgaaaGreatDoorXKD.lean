/-
  The sentence, lifted: it returns true. The condition: the row's own.
-/
import Derived.Test.YtnpneidkoljgaaaGreatDoorXKA
import Derived.Test.YtnpneidkoljgaaaGreatDoorXKC
import Derived.Test.YtnpneidkoljgaaaGreatDoorSSG
import Derived.Test.YtnpneidkoljgaaaGreatDoorSSG
import Derived.Test.YtnpneidkoljgaaaGreatDoorTie
import Derived.Test.YtnpneidkoljgaaaGreatDoorCards
import Derived.ProofKit
import Derived.OpenShut
import Derived.LaidMore
import Derived.Lay
import Derived.SevenTiedAt
import Derived.Stop.Joined
namespace Go.Proofs.YtnpneidkoljgaaaGreatDoor
open Go Go.ChangeShapes Go.WideShapes Go.ChangeAt Go.RowKit

set_option maxRecDepth 100000 in
theorem known_lifted (os : Os) (started : os.Started) (H : Type) (enc : TypeId × Value → H) :
    ReturnsInHanded {} Tryz.checked os 3 .any (fun w args => (Rows.editKnownSpec.pre enc Tryz.prog Tryz.f3 Rows.editKnownRow.domain false w args ∧ laidMetH Tryz.prog Rows.editKnownRow.laid w) ∧ sizedMet enc Tryz.prog Tryz.f3 (OpenSpec.ofChange Rows.editKnownSpec) false w args)
      (Rows.editKnownSpec.post enc Tryz.prog Tryz.f3 false true false false) := by
  refine SS.returns_both (C := Tryz.checked) (X := fun w _ => laidMetH Tryz.prog Rows.editKnownRow.laid w) (fun _ _ _ hh h => h.of_heap hh) own started (by kernel_rfl) Tryz.func3
    (ChangeSpec.witness_shaped (enc := enc) (C := Tryz.checked) (os := os) (X := fun w _ => laidMetH Tryz.prog Rows.editKnownRow.laid w) false (World.laidAll Tryz.prog os Rows.editKnownRow.laid) #[] 8 (World.laidAll_os _ _ _)
      (World.shaped_of_ZipB (by kernel_rfl) (by kernel_rfl)) (by kernel_rfl) (by kernel_rfl) (by kernel_rfl)
      (by rw [MakeChecks.laidMetH_plain _ _ _ (by kernel_rfl)]; exact laidMet_laidAll _ (by kernel_rfl) (by kernel_rfl))) ?_
  intro W args ds gs before hW hL hsh
  have hW' := hW
  obtain ⟨p, q, hA0, hV, rfl, _, _⟩ := hW
  have hA : DataW.TrodAll enc Tryz.prog W 0 (fun _ => true) true Tryz.f3.params.toList args.toList ds p := hA0
  rw [Tryz.params3] at hA
  obtain ⟨rfl, rfl, rfl⟩ := trodAll_none hA
  obtain ⟨rfl, rfl⟩ := trodVars_none hV
  clear hA0
  simp only [List.append_nil] at hW'
  refine (SS.closedO env_ok tabOk (by kernel_rfl) Tryz.func3 rfl run3 W (env_tabs hL) (fun g => Nat.beq g 2) (idx hsh)).mono fun e W' he => ?_
  cases e with
  | panicked _ => exact he.elim
  | outgrown => exact he.elim
  | returned v =>
    obtain ⟨rfl, hos, hout, hk⟩ := he
    exact ⟨_, rfl, post_of_old (pa := []) (pv := []) hW' (fun _ _ _ => trodAll_mk1 (shut_bool Tryz.underlying4 true)) (fun sp _ => trodAll_mk0) (fun _ _ => rfl) rfl hos hout hk (ok_one (by kernel_rfl) rfl (okWide_bool_mk Tryz.underlying4 _))⟩


end Go.Proofs.YtnpneidkoljgaaaGreatDoor
