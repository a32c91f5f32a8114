/-
  'chamferlaw11.SolidKnown' answers true from whatever world it is called in, and leaves what was there as it was; the listed tables of Go's library are laid in the witness, the call does not read them: the tied card.
  The walk is the evaluator's run, in pieces (the texts Ev .. EvMachOk of this folder hold its soundness); the rest follows the guide's worked examples (Pinup) and the template of the given skeleton.
-/
import Derived.Test.YtpaljbjbpibgeaaGreatDoorRows
import Derived.Test.YtpaljbjbpibgeaaGreatDoorTie
import Derived.Test.YtpaljbjbpibgeaaGreatDoorCards
import Derived.WalkKit
import Derived.ProofKit
import Derived.OpenShut
import Derived.LaidMore
import Derived.Lay
import Derived.SevenTiedAt
import Derived.Stop.Joined
import Derived.Test.YtpaljbjbpibgeaaGreatDoorSolidAll
namespace Go.Proofs.YtpaljbjbpibgeaaGreatDoor.solidKnown
open Go.ChangeShapes Go.WideShapes Go.ChangeAt Go.RowKit
set_option linter.unusedVariables false

theorem own : ownKnob Tryz.prog.godebug = none := by kernel_rfl

/-! ### The walk: the evaluator's run -/

open Go.Proofs.YtpaljbjbpibgeaaGreatDoor.solidRun in
theorem entered : Go.Abs.funcOf cx 3 = some (Tryz.f3, (Tryz.f3.body).getD .skip) := by kernel_rfl

theorem walk (w : World) : Calls Tryz.prog 3 #[] w fun e w' => e = .returned (.bool true) ∧ Grown w w' :=
  let ⟨_, h⟩ := Go.Proofs.YtpaljbjbpibgeaaGreatDoor.solidRun.ran
  Go.Abs.law_of_call (C := Go.Proofs.YtpaljbjbpibgeaaGreatDoor.solidRun.cx) Go.Proofs.YtpaljbjbpibgeaaGreatDoor.num.mixed Go.Proofs.YtpaljbjbpibgeaaGreatDoor.solidRun.extX entered h w

/-! ### The row -/
abbrev laid : List (String × DataW Unit) := Rows.solidKnownRow.laid
set_option maxRecDepth 100000 in
theorem lifted (os : Os) (started : os.Started) (H : Type) (enc : TypeId × Value → H) :
    ReturnsInHanded {} Tryz.checked os 3 .any (fun w args => (Rows.solidKnownSpec.pre enc Tryz.prog Tryz.f3 Rows.solidKnownRow.domain false w args ∧ laidMetH Tryz.prog laid w) ∧ sizedMet enc Tryz.prog Tryz.f3 (OpenSpec.ofChange Rows.solidKnownSpec) false w args)
      (Rows.solidKnownSpec.post enc Tryz.prog Tryz.f3 false true false false) := by
  refine returnsInHanded_of_change_and (C := Tryz.checked) (X := fun w _ => laidMetH Tryz.prog laid w) (fun _ _ _ hh h => h.of_heap hh) own started (by kernel_rfl) Tryz.func3
    (ChangeSpec.witness_shaped (enc := enc) (C := Tryz.checked) (os := os) (X := fun w _ => laidMetH Tryz.prog laid w) false (World.laidAll Tryz.prog os laid) #[] 8 (World.laidAll_os _ _ _)
      (World.shaped_of_ZipB (by kernel_rfl) (by kernel_rfl)) (by kernel_rfl) (by kernel_rfl) (by kernel_rfl)
      (by rw [MakeChecks.laidMetH_plain _ _ _ (by kernel_rfl)]; exact laidMet_laidAll _ (by kernel_rfl) (by kernel_rfl))) ?_
  intro W base args ds gs before hval0 hW hc _ hL _
  have hW' := hW
  obtain ⟨p, q, hA0, hV, rfl, _, _⟩ := hW
  have hA : DataW.TrodAll enc Tryz.prog W 0 (fun _ => true) true Tryz.f3.params.toList args.toList ds p := hA0
  rw [Tryz.params3] at hA
  obtain ⟨rfl, rfl, rfl⟩ := trodAll_none hA
  obtain ⟨rfl, rfl⟩ := trodVars_none hV
  clear hA0 hval0
  simp only [List.append_nil] at hW'
  refine (walk W).mono fun e W' ⟨he, hg⟩ => ?_
  subst he
  exact ⟨_, rfl, post_of_same (pa := []) (pv := []) hW' (fun _ _ _ => (trodAll_cons_mk (shut_bool Tryz.underlying4 _) trodAll_mk0)) (fun sp _ => rfl) (fun _ _ => rfl) rfl
    (hg.frame _) hg.2.1 (ok_one (by kernel_rfl) rfl (okWide_bool_mk Tryz.underlying4 _))⟩

theorem over : Rows.solidKnownRow.holds Tryz.pinned (OpenSpec.ofChange Rows.solidKnownSpec) :=
  OpenClaim.holds_of_wide 3 Tryz.f3 rfl rfl rfl rfl rfl rfl rfl ⟨rfl, rfl, rfl, rfl, rfl⟩ rfl rfl rfl rfl rfl (by kernel_rfl) Tryz.func3 (by kernel_rfl)
    (of_decide_eq_true (by kernel_rfl)) (by unfold Func.isWrapper; first | (rw [if_pos (by decide +kernel)]; kernel_rfl) | (rw [if_neg (by decide +kernel)]; exact ⟨rfl, rfl⟩))
    (fun os started H enc _ => lifted os started H enc)

/-- The statement. -/
theorem proved : Rows.SolidKnownCardSaid :=
  Claim7.holds_tied_plain_at .later [] [.data, .pinned] true (true, "5e74d89b71f9901105ed3dd3501f29ac6cbc0e1859c6d109dd10f2a8694b5fc7") false over (fun _ h => by cases h) (by kernel_rfl) (fun _ h => by cases h) solidKnown_row_tie rfl ⟨rfl, rfl⟩ (by kernel_rfl) rfl
    (fun f fn hf hfn => by
      obtain rfl : f = 3 := Option.some.inj ((show Tryz.prog.funcNamed "chamfer/chamferlaw11.SolidKnown" = some 3 by kernel_rfl).symm.trans hf) |>.symm
      obtain rfl : fn = Tryz.f3 := (Option.some.inj (Tryz.func3.symm.trans hfn)).symm
      exact ⟨by kernel_rfl, fun j t ht => by
        rw [Tryz.params3] at ht
        simp at ht⟩)
    (by kernel_rfl)
#print axioms proved
end Go.Proofs.YtpaljbjbpibgeaaGreatDoor.solidKnown
