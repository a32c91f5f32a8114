/-
  'chamferlaw21.CutKnown' answers true from whatever world it is called in, and leaves what was there as it was; the listed tables of Go's library are laid in the witness, the call does not read them: the tied card.
  The walk is the evaluator's run, in pieces (the texts Ev .. EvMachOk of this folder hold its soundness); the rest follows the guide's worked examples (Pinup) and the template of the given skeleton.
-/
import Derived.Test.YtdomagdnaohpbaaGreatDoorRows
import Derived.Test.YtdomagdnaohpbaaGreatDoorTie
import Derived.Test.YtdomagdnaohpbaaGreatDoorCards
import Derived.WalkKit
import Derived.ProofKit
import Derived.OpenShut
import Derived.LaidMore
import Derived.Lay
import Derived.SevenTiedAt
import Derived.Stop.Joined
import Derived.Test.YtdomagdnaohpbaaGreatDoorCutP0
import Derived.Test.YtdomagdnaohpbaaGreatDoorCutP1
import Derived.Test.YtdomagdnaohpbaaGreatDoorCutP2
import Derived.Test.YtdomagdnaohpbaaGreatDoorCutP3
import Derived.Test.YtdomagdnaohpbaaGreatDoorMid432All
import Derived.Test.YtdomagdnaohpbaaGreatDoorMid737All
import Derived.Test.YtdomagdnaohpbaaGreatDoorMid1088All
set_option maxRecDepth 100000
set_option linter.unusedVariables false
namespace Go.Proofs.YtdomagdnaohpbaaGreatDoor.cutRun
open Go Go.Abs
theorem ok0:AllVals cx L0:=vals_nil
theorem ok1:AllVals cx L1:=chk_ok (fs:=fs) Go.Proofs.YtdomagdnaohpbaaGreatDoor.num.mixed extX ok0 _ gr0 c0
theorem ok2:AllVals cx L2:=chk_ok (fs:=fs) Go.Proofs.YtdomagdnaohpbaaGreatDoor.num.mixed extX ok1 _ gr1 c1
theorem ok3:AllVals cx L3:=chk_ok (fs:=fs) Go.Proofs.YtdomagdnaohpbaaGreatDoor.num.mixed extX ok2 _ gr2 c2
theorem ok4:AllVals cx L4:=chk_ok (fs:=fs) Go.Proofs.YtdomagdnaohpbaaGreatDoor.num.mixed extX ok3 _ gr3 c3
theorem ok5:AllVals cx L5:=chk_ok (fs:=fs) Go.Proofs.YtdomagdnaohpbaaGreatDoor.num.mixed extX ok4 _ gr4 c4
theorem ok6:AllVals cx L6:=Go.Proofs.YtdomagdnaohpbaaGreatDoor.mid432Run.one_ok Go.Proofs.YtdomagdnaohpbaaGreatDoor.num.mixed extX ok5 _ en432 Go.Proofs.YtdomagdnaohpbaaGreatDoor.mid432Run.ran Go.Proofs.YtdomagdnaohpbaaGreatDoor.mid432Run.fl Go.Proofs.YtdomagdnaohpbaaGreatDoor.mid432Run.fv
theorem ok7:AllVals cx L7:=chk_ok (fs:=fs) Go.Proofs.YtdomagdnaohpbaaGreatDoor.num.mixed extX ok6 _ gr6 c6
theorem ok8:AllVals cx L8:=chk_ok (fs:=fs) Go.Proofs.YtdomagdnaohpbaaGreatDoor.num.mixed extX ok7 _ gr7 c7
theorem ok9:AllVals cx L9:=chk_ok (fs:=fs) Go.Proofs.YtdomagdnaohpbaaGreatDoor.num.mixed extX ok8 _ gr8 c8
theorem ok10:AllVals cx L10:=chk_ok (fs:=fs) Go.Proofs.YtdomagdnaohpbaaGreatDoor.num.mixed extX ok9 _ gr9 c9
theorem ok11:AllVals cx L11:=chk_ok (fs:=fs) Go.Proofs.YtdomagdnaohpbaaGreatDoor.num.mixed extX ok10 _ gr10 c10
theorem ok12:AllVals cx L12:=chk_ok (fs:=fs) Go.Proofs.YtdomagdnaohpbaaGreatDoor.num.mixed extX ok11 _ gr11 c11
theorem ok13:AllVals cx L13:=Go.Proofs.YtdomagdnaohpbaaGreatDoor.mid737Run.one_ok Go.Proofs.YtdomagdnaohpbaaGreatDoor.num.mixed extX ok12 _ en737 Go.Proofs.YtdomagdnaohpbaaGreatDoor.mid737Run.ran Go.Proofs.YtdomagdnaohpbaaGreatDoor.mid737Run.fl Go.Proofs.YtdomagdnaohpbaaGreatDoor.mid737Run.fv
theorem ok14:AllVals cx L14:=chk_ok (fs:=fs) Go.Proofs.YtdomagdnaohpbaaGreatDoor.num.mixed extX ok13 _ gr13 c13
theorem ok15:AllVals cx L15:=chk_ok (fs:=fs) Go.Proofs.YtdomagdnaohpbaaGreatDoor.num.mixed extX ok14 _ gr14 c14
theorem ok16:AllVals cx L16:=chk_ok (fs:=fs) Go.Proofs.YtdomagdnaohpbaaGreatDoor.num.mixed extX ok15 _ gr15 c15
theorem ok17:AllVals cx L17:=Go.Proofs.YtdomagdnaohpbaaGreatDoor.mid1088Run.one_ok Go.Proofs.YtdomagdnaohpbaaGreatDoor.num.mixed extX ok16 _ en1088 Go.Proofs.YtdomagdnaohpbaaGreatDoor.mid1088Run.ran Go.Proofs.YtdomagdnaohpbaaGreatDoor.mid1088Run.fl Go.Proofs.YtdomagdnaohpbaaGreatDoor.mid1088Run.fv
theorem ok18:AllVals cx L18:=chk_ok (fs:=fs) Go.Proofs.YtdomagdnaohpbaaGreatDoor.num.mixed extX ok17 _ gr17 c17
theorem ok19:AllVals cx L19:=range_ok (fs:=fs) Go.Proofs.YtdomagdnaohpbaaGreatDoor.num.mixed extX ok18 _ en1096 rr18 ra18 rf18
theorem ok20:AllVals cx L20:=chk_ok (fs:=fs) Go.Proofs.YtdomagdnaohpbaaGreatDoor.num.mixed extX ok19 _ gr19 c19
theorem ok21:AllVals cx L21:=range_ok (fs:=fs) Go.Proofs.YtdomagdnaohpbaaGreatDoor.num.mixed extX ok20 _ en1100 rr20 ra20 rf20
theorem ok22:AllVals cx L22:=range_ok (fs:=fs) Go.Proofs.YtdomagdnaohpbaaGreatDoor.num.mixed extX ok21 _ en1101 rr21 ra21 rf21
theorem ok23:AllVals cx L23:=chk_ok (fs:=fs) Go.Proofs.YtdomagdnaohpbaaGreatDoor.num.mixed extX ok22 _ gr22 c22
theorem ok24:AllVals cx L24:=range_ok (fs:=fs) Go.Proofs.YtdomagdnaohpbaaGreatDoor.num.mixed extX ok23 _ en1105 rr23 ra23 rf23
theorem ok25:AllVals cx L25:=range_ok (fs:=fs) Go.Proofs.YtdomagdnaohpbaaGreatDoor.num.mixed extX ok24 _ en1106 rr24 ra24 rf24
theorem ok26:AllVals cx L26:=chk_ok (fs:=fs) Go.Proofs.YtdomagdnaohpbaaGreatDoor.num.mixed extX ok25 _ gr25 c25
theorem ok27:AllVals cx L27:=range_ok (fs:=fs) Go.Proofs.YtdomagdnaohpbaaGreatDoor.num.mixed extX ok26 _ en1125 rr26 ra26 rf26
theorem ok28:AllVals cx L28:=chk_ok (fs:=fs) Go.Proofs.YtdomagdnaohpbaaGreatDoor.num.mixed extX ok27 _ gr27 c27
theorem ok29:AllVals cx L29:=range_ok (fs:=fs) Go.Proofs.YtdomagdnaohpbaaGreatDoor.num.mixed extX ok28 _ en1127 rr28 ra28 rf28
theorem ok30:AllVals cx L30:=chk_ok (fs:=fs) Go.Proofs.YtdomagdnaohpbaaGreatDoor.num.mixed extX ok29 _ gr29 c29
theorem ok31:AllVals cx L31:=range_ok (fs:=fs) Go.Proofs.YtdomagdnaohpbaaGreatDoor.num.mixed extX ok30 _ en1129 rr30 ra30 rf30
theorem ok32:AllVals cx L32:=range_ok (fs:=fs) Go.Proofs.YtdomagdnaohpbaaGreatDoor.num.mixed extX ok31 _ en1130 rr31 ra31 rf31
theorem ok33:AllVals cx L33:=chk_ok (fs:=fs) Go.Proofs.YtdomagdnaohpbaaGreatDoor.num.mixed extX ok32 _ gr32 c32
theorem ok34:AllVals cx L34:=range_ok (fs:=fs) Go.Proofs.YtdomagdnaohpbaaGreatDoor.num.mixed extX ok33 _ en1133 rr33 ra33 rf33
theorem ok35:AllVals cx L35:=chk_ok (fs:=fs) Go.Proofs.YtdomagdnaohpbaaGreatDoor.num.mixed extX ok34 _ gr34 c34
noncomputable abbrev cxL:Cx:=memoC cx fs L35 []
theorem extL:ExtOk cxL:=memo_ext fs extX ok35 (fun e he=>by cases he)
theorem ran:∃ n,Go.Abs.call cxL n 3 []=.value (.v (.bool true)) ((some [])):=⟨3000,by rw [← Fast.call_e]; exact last⟩
end Go.Proofs.YtdomagdnaohpbaaGreatDoor.cutRun
namespace Go.Proofs.YtdomagdnaohpbaaGreatDoor.cutKnown
open Go.ChangeShapes Go.WideShapes Go.ChangeAt Go.RowKit
set_option linter.unusedVariables false

theorem own : ownKnob Tryz.prog.godebug = none := by kernel_rfl

/-! ### The walk: the evaluator's run -/

open Go.Proofs.YtdomagdnaohpbaaGreatDoor.cutRun in
theorem entered : Go.Abs.funcOf cxL 3 = some (Tryz.f3, (Tryz.f3.body).getD .skip) := by kernel_rfl

theorem walk (w : World) : Calls Tryz.prog 3 #[] w fun e w' => e = .returned (.bool true) ∧ Grown w w' :=
  let ⟨_, h⟩ := Go.Proofs.YtdomagdnaohpbaaGreatDoor.cutRun.ran
  Go.Abs.law_of_call (C := Go.Proofs.YtdomagdnaohpbaaGreatDoor.cutRun.cxL) Go.Proofs.YtdomagdnaohpbaaGreatDoor.num.mixed Go.Proofs.YtdomagdnaohpbaaGreatDoor.cutRun.extL entered h w

/-! ### The row -/
abbrev laid : List (String × DataW Unit) := Rows.cutKnownRow.laid
set_option maxRecDepth 100000 in
theorem lifted (os : Os) (started : os.Started) (H : Type) (enc : TypeId × Value → H) :
    ReturnsInHanded {} Tryz.checked os 3 .any (fun w args => (Rows.cutKnownSpec.pre enc Tryz.prog Tryz.f3 Rows.cutKnownRow.domain false w args ∧ laidMetH Tryz.prog laid w) ∧ sizedMet enc Tryz.prog Tryz.f3 (OpenSpec.ofChange Rows.cutKnownSpec) false w args)
      (Rows.cutKnownSpec.post enc Tryz.prog Tryz.f3 false true false false) := by
  refine returnsInHanded_of_change_and (C := Tryz.checked) (X := fun w _ => laidMetH Tryz.prog laid w) (fun _ _ _ hh h => h.of_heap hh) own started (by kernel_rfl) Tryz.func3
    (ChangeSpec.witness_shaped (enc := enc) (C := Tryz.checked) (os := os) (X := fun w _ => laidMetH Tryz.prog laid w) false (World.laidAll Tryz.prog os laid) #[] 8 (World.laidAll_os _ _ _)
      (World.shaped_of_ZipB (by kernel_rfl) (by kernel_rfl)) (by kernel_rfl) (by kernel_rfl) (by kernel_rfl)
      (by rw [MakeChecks.laidMetH_plain _ _ _ (by kernel_rfl)]; exact laidMet_laidAll _ (by kernel_rfl) (by kernel_rfl))) ?_
  intro W base args ds gs before hval0 hW hc _ hL _
  have hW' := hW
  obtain ⟨p, q, hA0, hV, rfl, _, _⟩ := hW
  have hA : DataW.TrodAll enc Tryz.prog W 0 (fun _ => true) true Tryz.f3.params.toList args.toList ds p := hA0
  rw [Tryz.params3] at hA
  obtain ⟨rfl, rfl, rfl⟩ := trodAll_none hA
  obtain ⟨rfl, rfl⟩ := trodVars_none hV
  clear hA0 hval0
  simp only [List.append_nil] at hW'
  refine (walk W).mono fun e W' ⟨he, hg⟩ => ?_
  subst he
  exact ⟨_, rfl, post_of_same (pa := []) (pv := []) hW' (fun _ _ _ => (trodAll_cons_mk (shut_bool Tryz.underlying4 _) trodAll_mk0)) (fun sp _ => rfl) (fun _ _ => rfl) rfl
    (hg.frame _) hg.2.1 (ok_one (by kernel_rfl) rfl (okWide_bool_mk Tryz.underlying4 _))⟩

theorem over : Rows.cutKnownRow.holds Tryz.pinned (OpenSpec.ofChange Rows.cutKnownSpec) :=
  OpenClaim.holds_of_wide 3 Tryz.f3 rfl rfl rfl rfl rfl rfl rfl ⟨rfl, rfl, rfl, rfl, rfl⟩ rfl rfl rfl rfl rfl (by kernel_rfl) Tryz.func3 (by kernel_rfl)
    (of_decide_eq_true (by kernel_rfl)) (by unfold Func.isWrapper; first | (rw [if_pos (by decide +kernel)]; kernel_rfl) | (rw [if_neg (by decide +kernel)]; exact ⟨rfl, rfl⟩))
    (fun os started H enc _ => lifted os started H enc)

/-- The statement. -/
theorem proved : Rows.CutKnownCardSaid :=
  Claim7.holds_tied_plain_at .later [] [.data, .pinned] true (true, "ff496554ec0da4641c39a5a7238b47c1dab02cf47808d6d92d7161d75c8278be") false over (fun _ h => by cases h) (by kernel_rfl) (fun _ h => by cases h) cutKnown_row_tie rfl ⟨rfl, rfl⟩ (by kernel_rfl) rfl
    (fun f fn hf hfn => by
      obtain rfl : f = 3 := Option.some.inj ((show Tryz.prog.funcNamed "chamfer/chamferlaw21.CutKnown" = some 3 by kernel_rfl).symm.trans hf) |>.symm
      obtain rfl : fn = Tryz.f3 := (Option.some.inj (Tryz.func3.symm.trans hfn)).symm
      exact ⟨by kernel_rfl, fun j t ht => by
        rw [Tryz.params3] at ht
        simp at ht⟩)
    (by kernel_rfl)
#print axioms proved
end Go.Proofs.YtdomagdnaohpbaaGreatDoor.cutKnown
