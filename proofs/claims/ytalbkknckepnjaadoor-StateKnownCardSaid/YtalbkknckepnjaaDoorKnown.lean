/-
  'lariatlaw10.StateKnown' returns true, whatever the start of the run; nothing that was there is changed. The condition: the row's own, that the listed tables read as listed.
-/
import Derived.Test.YtalbkknckepnjaaDoorXM
import Derived.Test.YtalbkknckepnjaaDoorSSG
import Derived.Test.YtalbkknckepnjaaDoorTie
import Derived.Test.YtalbkknckepnjaaDoorCards
import Derived.ProofKit
import Derived.OpenShut
import Derived.LaidMore
import Derived.Lay
import Derived.SevenTiedAt
import Derived.Stop.Joined
namespace Go.Proofs.YtalbkknckepnjaaDoor
open Go Go.ChangeShapes Go.WideShapes Go.ChangeAt Go.RowKit

set_option maxRecDepth 1000000 in
theorem run3 : SS.isT (SS.callT env tab 1000000 3 [] .empty) = true := by kernel_rfl

theorem own : ownKnob Tryd.prog.godebug = none := by kernel_rfl

theorem env_ok : SS.EnvOk env where
  code := SS.code_of (by kernel_rfl)
  ext := by
    intro f e he
    have hm : (f, e) ∈ [(56, SS.Ext.countStr), (65, .same), (66, .makeNoZero 5), (88, .indexByteStr)] := SS.PT.ofL_mem _ he
    simp only [List.mem_cons, List.not_mem_nil, or_false, Prod.mk.injEq] at hm
    rcases hm with ⟨rfl, rfl⟩ | ⟨rfl, rfl⟩ | ⟨rfl, rfl⟩ | ⟨rfl, rfl⟩
    · exact ⟨fun _ => ⟨Tryd.f56, _, Tryd.func56, by kernel_rfl, by kernel_rfl, by kernel_rfl, by kernel_rfl, rfl⟩⟩
    · exact ⟨fun _ => ⟨Tryd.f65, _, Tryd.func65, by kernel_rfl, by kernel_rfl, by kernel_rfl, (show Extern.find Tryd.f65 = some Extern.AbiNoEscape.same by kernel_rfl), fun _ _ _ => rfl⟩⟩
    · exact ⟨fun _ => ⟨Tryd.f66, Extern.BytealgMakeNoZero.makeNoZero #[3] #[64], Tryd.func66, by kernel_rfl, by kernel_rfl, by kernel_rfl, by kernel_rfl, #[3], 64, by kernel_rfl, by kernel_rfl, rfl⟩⟩
    · exact ⟨fun _ => ⟨Tryd.f88, _, Tryd.func88, by kernel_rfl, by kernel_rfl, by kernel_rfl, by kernel_rfl, rfl⟩⟩

noncomputable def dbZ : List Int := [0, 1, 56, 2, 57, 49, 28, 3, 61, 58, 42, 50, 38, 29, 17, 4, 62, 47, 59, 36, 45, 43, 51, 22, 53, 39, 33, 30, 24, 18, 12, 5, 63, 55, 48, 27, 60, 41, 37, 16, 46, 35, 44, 21, 52, 32, 23, 11, 54, 26, 40, 15, 34, 20, 31, 10, 25, 14, 19, 9, 13, 8, 7, 6]
noncomputable def powZ : List Int := [1, 10, 100, 1000, 10000, 100000, 1000000, 10000000, 100000000, 1000000000, 10000000000, 100000000000, 1000000000000, 10000000000000, 100000000000000, 1000000000000000, 10000000000000000, 100000000000000000, 1000000000000000000, 10000000000000000000]
theorem env_tabs {W : World} (hL : laidMetH Tryd.prog Rows.stateKnownRow.laid W) (g : Nat) (cs : List SS.V) (hg : env.G g = some cs) : ∃ kd zs, cs = zs.map (SS.V.int kd) ∧ SS.TabAt W g kd zs := by
  rw [MakeChecks.laidMetH_plain _ _ _ (by kernel_rfl)] at hL
  have hm := SS.PT.ofL_mem _ (show SS.PT.getF gT g = some cs from hg)
  simp only [List.mem_cons, List.not_mem_nil, or_false, Prod.mk.injEq] at hm
  rcases hm with ⟨rfl, rfl⟩ | ⟨rfl, rfl⟩
  · refine ⟨.u8, dbZ, rfl, SS.tabAt_of_reads (t := 140) (e := 5) (n := 64) (d := Rows.laid_math_bits_deBruijn64tab) (by kernel_rfl) (by kernel_rfl) (by kernel_rfl) (by kernel_rfl) (by kernel_rfl) (by kernel_rfl) rfl (Lib.laidMet.reads hL (.tail _ (.head _)))⟩
  · refine ⟨.u64, powZ, rfl, SS.tabAt_of_reads (t := 127) (e := 100) (n := 20) (d := Rows.laid_internal_strconv_uint64pow10) (by kernel_rfl) (by kernel_rfl) (by kernel_rfl) (by kernel_rfl) (by kernel_rfl) (by kernel_rfl) rfl (Lib.laidMet.reads hL (.tail _ (.tail _ (.head _))))⟩

set_option maxRecDepth 100000 in
theorem known_lifted (os : Os) (started : os.Started) (H : Type) (enc : TypeId × Value → H) :
    ReturnsInHanded {} Tryd.checked os 3 .any (fun w args => (Rows.stateKnownSpec.pre enc Tryd.prog Tryd.f3 Rows.stateKnownRow.domain false w args ∧ laidMetH Tryd.prog Rows.stateKnownRow.laid w) ∧ sizedMet enc Tryd.prog Tryd.f3 (OpenSpec.ofChange Rows.stateKnownSpec) false w args)
      (Rows.stateKnownSpec.post enc Tryd.prog Tryd.f3 false true false false) := by
  refine returnsInHanded_of_change_and (C := Tryd.checked) (X := fun w _ => laidMetH Tryd.prog Rows.stateKnownRow.laid w) (fun _ _ _ hh h => h.of_heap hh) own started (by kernel_rfl) Tryd.func3
    (ChangeSpec.witness_shaped (enc := enc) (C := Tryd.checked) (os := os) (X := fun w _ => laidMetH Tryd.prog Rows.stateKnownRow.laid w) false (World.laidAll Tryd.prog os Rows.stateKnownRow.laid) #[] 8 (World.laidAll_os _ _ _)
      (World.shaped_of_ZipB (by kernel_rfl) (by kernel_rfl)) (by kernel_rfl) (by kernel_rfl) (by kernel_rfl)
      (by rw [MakeChecks.laidMetH_plain _ _ _ (by kernel_rfl)]; exact laidMet_laidAll _ (by kernel_rfl) (by kernel_rfl))) ?_
  intro W base args ds gs before hval0 hW hc _ hL _
  have hW' := hW
  obtain ⟨p, q, hA0, hV, rfl, _, _⟩ := hW
  have hA : DataW.TrodAll enc Tryd.prog W 0 (fun _ => true) true Tryd.f3.params.toList args.toList ds p := hA0
  rw [Tryd.params3] at hA
  obtain ⟨rfl, rfl, rfl⟩ := trodAll_none hA
  obtain ⟨rfl, rfl⟩ := trodVars_none hV
  clear hA0 hval0
  simp only [List.append_nil] at hW'
  refine (SS.closedG env_ok tabOk (by kernel_rfl) Tryd.func3 rfl run3 W (env_tabs hL)).mono fun e W' he => ?_
  cases e with
  | panicked _ => exact he.elim
  | outgrown => exact he.elim
  | returned v =>
    obtain ⟨rfl, hos, hout, hk⟩ := he
    exact ⟨_, rfl, post_of_old (pa := []) (pv := []) hW' (fun _ _ _ => trodAll_mk1 (shut_bool Tryd.underlying4 true)) (fun sp _ => trodAll_mk0) (fun _ _ => rfl) rfl hos hout hk (ok_one (by kernel_rfl) rfl (okWide_bool_mk Tryd.underlying4 _))⟩

theorem known_holds : Rows.StateKnownSaid :=
  OpenClaim.holds_of_wide 3 Tryd.f3 rfl rfl rfl rfl rfl rfl rfl ⟨rfl, rfl, rfl, rfl, rfl⟩ rfl rfl rfl rfl rfl (by kernel_rfl) Tryd.func3 (by kernel_rfl)
    (of_decide_eq_true (by kernel_rfl)) (by unfold Func.isWrapper; first | (rw [if_pos (by decide +kernel)]; kernel_rfl) | (rw [if_neg (by decide +kernel)]; exact ⟨rfl, rfl⟩))
    (fun os started H enc _ => known_lifted os started H enc)

theorem known_card : Rows.StateKnownCardSaid :=
  Claim7.holds_tied_plain_at .later [] [.data, .data, .data, .data, .sentinel, .sentinel, .pinned] true (true, "ae3b00d98fd48b53cc1534b6f4372b2991fc1685db9b19801e3f381fefff9b61") true known_holds (fun _ h => by cases h) (by kernel_rfl) (fun _ h => by cases h) stateKnown_row_tie rfl ⟨rfl, rfl⟩ (by kernel_rfl) rfl
    (fun f fn hf hfn => by
      obtain rfl : f = 3 := Option.some.inj ((show Tryd.prog.funcNamed "lariat/lariatlaw10.StateKnown" = some 3 by kernel_rfl).symm.trans hf) |>.symm
      obtain rfl : fn = Tryd.f3 := (Option.some.inj (Tryd.func3.symm.trans hfn)).symm
      exact ⟨by kernel_rfl, fun j t ht => by
        rw [Tryd.params3] at ht
        simp at ht⟩)
    (by kernel_rfl)
#print axioms known_card

end Go.Proofs.YtalbkknckepnjaaDoor
