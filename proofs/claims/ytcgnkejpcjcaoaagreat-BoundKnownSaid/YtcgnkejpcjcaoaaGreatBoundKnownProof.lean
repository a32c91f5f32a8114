/-
  'chamferlaw18.BoundKnown' answers true from whatever world it is called in, and leaves what was there as it was. No condition.
  The walk is the evaluator's run (the texts Ev .. EvLast of this folder hold its soundness); the rest is the template of the given skeleton.
-/
import Derived.Test.YtcgnkejpcjcaoaaGreatRows
import Derived.WalkKit
import Derived.ProofKit
import Derived.OpenShut
import Derived.Test.YtcgnkejpcjcaoaaGreatBoundAll
namespace Go.Proofs.YtcgnkejpcjcaoaaGreat.boundKnown
open Go.ChangeShapes Go.WideShapes Go.ChangeAt Go.RowKit
set_option linter.unusedVariables false

theorem own : ownKnob Tryz.prog.godebug = none := by kernel_rfl

/-! ### The walk: the evaluator's run -/

open Go.Proofs.YtcgnkejpcjcaoaaGreat.boundRun in
theorem entered : Go.Abs.funcOf cxL 4 = some (Tryz.f4, (Tryz.f4.body).getD .skip) := by kernel_rfl

theorem walk (w : World) : Calls Tryz.prog 4 #[] w fun e w' => e = .returned (.bool true) ∧ Grown w w' :=
  let ⟨_, h⟩ := Go.Proofs.YtcgnkejpcjcaoaaGreat.boundRun.ran
  Go.Abs.law_of_call (C := Go.Proofs.YtcgnkejpcjcaoaaGreat.boundRun.cxL) Go.Proofs.YtcgnkejpcjcaoaaGreat.num.mixed Go.Proofs.YtcgnkejpcjcaoaaGreat.boundRun.extL entered h w

/-! ### The row's step (the skeleton's) -/
set_option maxRecDepth 100000 in
theorem lifted (os : Os) (started : os.Started) (H : Type) (enc : TypeId × Value → H) :
    ReturnsInHanded {} Tryz.checked os 4 .any (Rows.boundKnownSpec.pre6 enc Tryz.prog Tryz.f4 Rows.boundKnownRow.domain false) (Rows.boundKnownSpec.post enc Tryz.prog Tryz.f4 false true false false) := by
  refine returnsInHanded_of_change (C := Tryz.checked) own started (by kernel_rfl) Tryz.func4
    (ChangeSpec.witness6 (enc := enc) (C := Tryz.checked) false ⟨#[], #[], []⟩ 8 (by kernel_rfl) (by kernel_rfl) (by kernel_rfl) (by kernel_rfl)) ?_
  intro W base args ds gs before hval0 hW hcnd _
  have hval : ∀ (j : Nat) t v, Tryz.f4.params[j]? = some t → args[j]? = some v → Value.okWide Tryz.prog W .any base t v := hval0
  have hW' := hW
  obtain ⟨p, q, hA0, hV, rfl, hfz, hnd⟩ := hW
  have hA : DataW.TrodAll enc Tryz.prog W 0 (fun _ => true) true Tryz.f4.params.toList args.toList ds p := hA0
  rw [Tryz.params4] at hA hval
  obtain ⟨rfl, rfl, rfl⟩ := trodAll_none hA
  obtain ⟨rfl, rfl⟩ := trodVars_none hV
  clear hA0 hval0
  simp only [List.append_nil] at hW'
  refine (walk W).mono fun e W' ⟨he, hg⟩ => ?_
  subst he
  exact ⟨_, rfl, post_of_same (pa := []) (pv := []) hW' (fun _ _ _ => (trodAll_cons_mk (shut_bool Tryz.underlying4 _) trodAll_mk0)) (fun sp _ => rfl) (fun _ _ => rfl) rfl
    (hg.frame _) hg.2.1 (ok_one (by kernel_rfl) rfl (okWide_bool_mk Tryz.underlying4 _))⟩

theorem over : Rows.boundKnownRow.holds Tryz.pinned (OpenSpec.ofChange Rows.boundKnownSpec) :=
  OpenClaim.holds_of_wide 4 Tryz.f4 rfl rfl rfl rfl rfl rfl rfl ⟨rfl, rfl, rfl, rfl, rfl⟩ rfl rfl rfl rfl rfl (by kernel_rfl) Tryz.func4 (by kernel_rfl)
    (of_decide_eq_true (by kernel_rfl)) (by unfold Func.isWrapper; first | (rw [if_pos (by decide +kernel)]; kernel_rfl) | (rw [if_neg (by decide +kernel)]; exact ⟨rfl, rfl⟩))
    (fun os started H enc _ => lifted os started H enc)

/-- The statement. -/
theorem proved : Rows.BoundKnownSaid :=
  over
#print axioms proved
end Go.Proofs.YtcgnkejpcjcaoaaGreat.boundKnown
