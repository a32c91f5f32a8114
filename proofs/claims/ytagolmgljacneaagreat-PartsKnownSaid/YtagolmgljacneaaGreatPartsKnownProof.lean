/-
  'chamferlaw17.PartsKnown' answers true from whatever world it is called in, and leaves what was there as it was. No condition.
  The walk is the evaluator's run (the texts Ev .. EvLast of this folder hold its soundness); the rest is the template of the given skeleton.
-/
import Derived.Test.YtagolmgljacneaaGreatRows
import Derived.WalkKit
import Derived.ProofKit
import Derived.OpenShut
import Derived.Test.YtagolmgljacneaaGreatPartsP0
import Derived.Test.YtagolmgljacneaaGreatPartsP1
import Derived.Test.YtagolmgljacneaaGreatPartsP2
import Derived.Test.YtagolmgljacneaaGreatPartsP3
import Derived.Test.YtagolmgljacneaaGreatPartsP4
import Derived.Test.YtagolmgljacneaaGreatMid428All
import Derived.Test.YtagolmgljacneaaGreatMid811All
import Derived.Test.YtagolmgljacneaaGreatMid2172All
import Derived.Test.YtagolmgljacneaaGreatMid2859All
import Derived.Test.YtagolmgljacneaaGreatMid2862All
set_option maxRecDepth 100000
set_option linter.unusedVariables false
namespace Go.Proofs.YtagolmgljacneaaGreat.partsRun
open Go Go.Abs
theorem ok0:AllVals cx L0:=vals_nil
theorem ok1:AllVals cx L1:=chk_ok (fs:=fs) num.mixed extX ok0 _ gr0 c0
theorem ok2:AllVals cx L2:=chk_ok (fs:=fs) num.mixed extX ok1 _ gr1 c1
theorem ok3:AllVals cx L3:=chk_ok (fs:=fs) num.mixed extX ok2 _ gr2 c2
theorem ok4:AllVals cx L4:=chk_ok (fs:=fs) num.mixed extX ok3 _ gr3 c3
theorem ok5:AllVals cx L5:=chk_ok (fs:=fs) num.mixed extX ok4 _ gr4 c4
theorem ok6:AllVals cx L6:=mid428Run.one_ok num.mixed extX ok5 _ en428 mid428Run.ran mid428Run.fl mid428Run.fv
theorem ok7:AllVals cx L7:=chk_ok (fs:=fs) num.mixed extX ok6 _ gr6 c6
theorem ok8:AllVals cx L8:=chk_ok (fs:=fs) num.mixed extX ok7 _ gr7 c7
theorem ok9:AllVals cx L9:=chk_ok (fs:=fs) num.mixed extX ok8 _ gr8 c8
theorem ok10:AllVals cx L10:=chk_ok (fs:=fs) num.mixed extX ok9 _ gr9 c9
theorem ok11:AllVals cx L11:=chk_ok (fs:=fs) num.mixed extX ok10 _ gr10 c10
theorem ok12:AllVals cx L12:=chk_ok (fs:=fs) num.mixed extX ok11 _ gr11 c11
theorem ok13:AllVals cx L13:=chk_ok (fs:=fs) num.mixed extX ok12 _ gr12 c12
theorem ok14:AllVals cx L14:=mid811Run.one_ok num.mixed extX ok13 _ en811 mid811Run.ran mid811Run.fl mid811Run.fv
theorem ok15:AllVals cx L15:=chk_ok (fs:=fs) num.mixed extX ok14 _ gr14 c14
theorem ok16:AllVals cx L16:=chk_ok (fs:=fs) num.mixed extX ok15 _ gr15 c15
theorem ok17:AllVals cx L17:=chk_ok (fs:=fs) num.mixed extX ok16 _ gr16 c16
theorem ok18:AllVals cx L18:=chk_ok (fs:=fs) num.mixed extX ok17 _ gr17 c17
theorem ok19:AllVals cx L19:=chk_ok (fs:=fs) num.mixed extX ok18 _ gr18 c18
theorem ok20:AllVals cx L20:=chk_ok (fs:=fs) num.mixed extX ok19 _ gr19 c19
theorem ok21:AllVals cx L21:=chk_ok (fs:=fs) num.mixed extX ok20 _ gr20 c20
theorem ok22:AllVals cx L22:=chk_ok (fs:=fs) num.mixed extX ok21 _ gr21 c21
theorem ok23:AllVals cx L23:=chk_ok (fs:=fs) num.mixed extX ok22 _ gr22 c22
theorem ok24:AllVals cx L24:=chk_ok (fs:=fs) num.mixed extX ok23 _ gr23 c23
theorem ok25:AllVals cx L25:=chk_ok (fs:=fs) num.mixed extX ok24 _ gr24 c24
theorem ok26:AllVals cx L26:=chk_ok (fs:=fs) num.mixed extX ok25 _ gr25 c25
theorem ok27:AllVals cx L27:=chk_ok (fs:=fs) num.mixed extX ok26 _ gr26 c26
theorem ok28:AllVals cx L28:=chk_ok (fs:=fs) num.mixed extX ok27 _ gr27 c27
theorem ok29:AllVals cx L29:=chk_ok (fs:=fs) num.mixed extX ok28 _ gr28 c28
theorem ok30:AllVals cx L30:=chk_ok (fs:=fs) num.mixed extX ok29 _ gr29 c29
theorem ok31:AllVals cx L31:=chk_ok (fs:=fs) num.mixed extX ok30 _ gr30 c30
theorem ok32:AllVals cx L32:=chk_ok (fs:=fs) num.mixed extX ok31 _ gr31 c31
theorem ok33:AllVals cx L33:=chk_ok (fs:=fs) num.mixed extX ok32 _ gr32 c32
theorem ok34:AllVals cx L34:=mid2172Run.one_ok num.mixed extX ok33 _ en2172 mid2172Run.ran mid2172Run.fl mid2172Run.fv
theorem ok35:AllVals cx L35:=chk_ok (fs:=fs) num.mixed extX ok34 _ gr34 c34
theorem ok36:AllVals cx L36:=chk_ok (fs:=fs) num.mixed extX ok35 _ gr35 c35
theorem ok37:AllVals cx L37:=chk_ok (fs:=fs) num.mixed extX ok36 _ gr36 c36
theorem ok38:AllVals cx L38:=chk_ok (fs:=fs) num.mixed extX ok37 _ gr37 c37
theorem ok39:AllVals cx L39:=chk_ok (fs:=fs) num.mixed extX ok38 _ gr38 c38
theorem ok40:AllVals cx L40:=chk_ok (fs:=fs) num.mixed extX ok39 _ gr39 c39
theorem ok41:AllVals cx L41:=chk_ok (fs:=fs) num.mixed extX ok40 _ gr40 c40
theorem ok42:AllVals cx L42:=mid2859Run.one_ok num.mixed extX ok41 _ en2859 mid2859Run.ran mid2859Run.fl mid2859Run.fv
theorem ok43:AllVals cx L43:=chk_ok (fs:=fs) num.mixed extX ok42 _ gr42 c42
theorem ok44:AllVals cx L44:=mid2862Run.one_ok num.mixed extX ok43 _ en2862 mid2862Run.ran mid2862Run.fl mid2862Run.fv
theorem ok45:AllVals cx L45:=chk_ok (fs:=fs) num.mixed extX ok44 _ gr44 c44
theorem ok46:AllVals cx L46:=chk_ok (fs:=fs) num.mixed extX ok45 _ gr45 c45
theorem ok46a:AllVals cx L46a:=chk_ok (fs:=fs) num.mixed extX ok46 _ gr46 c46
theorem ok46b:AllVals cx L46b:=chk_ok (fs:=fs) num.mixed extX ok46a _ gr46a c46a
theorem ok47:AllVals cx L47:=chk_ok (fs:=fs) num.mixed extX ok46b _ gr46b c46b
theorem ok48:AllVals cx L48:=chk_ok (fs:=fs) num.mixed extX ok47 _ gr47 c47
theorem ok49:AllVals cx L49:=chk_ok (fs:=fs) num.mixed extX ok48 _ gr48 c48
theorem ok50:AllVals cx L50:=chk_ok (fs:=fs) num.mixed extX ok49 _ gr49 c49
theorem ok51:AllVals cx L51:=chk_ok (fs:=fs) num.mixed extX ok50 _ gr50 c50
noncomputable abbrev cxL:Cx:=memoC cx fs L51 []
theorem extL:ExtOk cxL:=memo_ext fs extX ok51 (fun e he=>by cases he)
theorem ran:∃ n,Go.Abs.call cxL n 3 []=.value (.v (.bool true)) ((some [])):=⟨3000,by rw [← Fast.call_e]; exact last⟩
end Go.Proofs.YtagolmgljacneaaGreat.partsRun
namespace Go.Proofs.YtagolmgljacneaaGreat.partsKnown
open Go.ChangeShapes Go.WideShapes Go.ChangeAt Go.RowKit
set_option linter.unusedVariables false

theorem own : ownKnob Tryz.prog.godebug = none := by kernel_rfl

/-! ### The walk: the evaluator's run -/

open Go.Proofs.YtagolmgljacneaaGreat.partsRun in
theorem entered : Go.Abs.funcOf cxL 3 = some (Tryz.f3, (Tryz.f3.body).getD .skip) := by kernel_rfl

theorem walk (w : World) : Calls Tryz.prog 3 #[] w fun e w' => e = .returned (.bool true) ∧ Grown w w' :=
  let ⟨_, h⟩ := Go.Proofs.YtagolmgljacneaaGreat.partsRun.ran
  Go.Abs.law_of_call (C := Go.Proofs.YtagolmgljacneaaGreat.partsRun.cxL) Go.Proofs.YtagolmgljacneaaGreat.num.mixed Go.Proofs.YtagolmgljacneaaGreat.partsRun.extL entered h w

/-! ### The row's step (the skeleton's) -/
set_option maxRecDepth 100000 in
theorem lifted (os : Os) (started : os.Started) (H : Type) (enc : TypeId × Value → H) :
    ReturnsInHanded {} Tryz.checked os 3 .any (Rows.partsKnownSpec.pre6 enc Tryz.prog Tryz.f3 Rows.partsKnownRow.domain false) (Rows.partsKnownSpec.post enc Tryz.prog Tryz.f3 false true false false) := by
  refine returnsInHanded_of_change (C := Tryz.checked) own started (by kernel_rfl) Tryz.func3
    (ChangeSpec.witness6 (enc := enc) (C := Tryz.checked) false ⟨#[], #[], []⟩ 8 (by kernel_rfl) (by kernel_rfl) (by kernel_rfl) (by kernel_rfl)) ?_
  intro W base args ds gs before hval0 hW hcnd _
  have hval : ∀ (j : Nat) t v, Tryz.f3.params[j]? = some t → args[j]? = some v → Value.okWide Tryz.prog W .any base t v := hval0
  have hW' := hW
  obtain ⟨p, q, hA0, hV, rfl, hfz, hnd⟩ := hW
  have hA : DataW.TrodAll enc Tryz.prog W 0 (fun _ => true) true Tryz.f3.params.toList args.toList ds p := hA0
  rw [Tryz.params3] at hA hval
  obtain ⟨rfl, rfl, rfl⟩ := trodAll_none hA
  obtain ⟨rfl, rfl⟩ := trodVars_none hV
  clear hA0 hval0
  simp only [List.append_nil] at hW'
  refine (walk W).mono fun e W' ⟨he, hg⟩ => ?_
  subst he
  exact ⟨_, rfl, post_of_same (pa := []) (pv := []) hW' (fun _ _ _ => (trodAll_cons_mk (shut_bool Tryz.underlying4 _) trodAll_mk0)) (fun sp _ => rfl) (fun _ _ => rfl) rfl
    (hg.frame _) hg.2.1 (ok_one (by kernel_rfl) rfl (okWide_bool_mk Tryz.underlying4 _))⟩

theorem over : Rows.partsKnownRow.holds Tryz.pinned (OpenSpec.ofChange Rows.partsKnownSpec) :=
  OpenClaim.holds_of_wide 3 Tryz.f3 rfl rfl rfl rfl rfl rfl rfl ⟨rfl, rfl, rfl, rfl, rfl⟩ rfl rfl rfl rfl rfl (by kernel_rfl) Tryz.func3 (by kernel_rfl)
    (of_decide_eq_true (by kernel_rfl)) (by unfold Func.isWrapper; first | (rw [if_pos (by decide +kernel)]; kernel_rfl) | (rw [if_neg (by decide +kernel)]; exact ⟨rfl, rfl⟩))
    (fun os started H enc _ => lifted os started H enc)

/-- The statement. -/
theorem proved : Rows.PartsKnownSaid :=
  over
#print axioms proved
end Go.Proofs.YtagolmgljacneaaGreat.partsKnown
