/- THE EVALUATOR's CONTEXT for this program: the functions on small numbers, the product of rows and slices.Clip of bytes are answered; which functions hand back what a caller writes. -/
import Derived.Test.YtcgnkejpcjcaoaaGreatLook
import Derived.Test.YtcgnkejpcjcaoaaGreatClip
set_option linter.unusedVariables false
namespace Go.Proofs.YtcgnkejpcjcaoaaGreat.known
open Go.Abs
noncomputable def nf : Nat → Bool:=fun f => memN f [40,164,72,165,118,159,49,106]
noncomputable def clipX (f:FuncId) (l:List AV) : Option AV:=ifB (Nat.beq f 139) (clip l) none
noncomputable def cx0 : Cx:={ P:=Tryz.prog,ext:=fun f l => elimO (clipX f l) (extOf look.E3 f l) some,nf:=nf,hb:=fun t => Nat.beq t 168 }
theorem ext0 : ExtOk cx0:=by
  intro f l v h X j w args hX hr
  change elimO (clipX f l) (extOf look.E3 f l) some = some v at h
  cases hc : clipX f l with
  | none =>
    rw [hc,elimO_none] at h
    exact look.all_ok3 f l v (extOf_some.1 h) X j w args hX hr
  | some u =>
    rw [hc,elimO_some] at h
    cases h
    unfold clipX at hc
    cases hf : Nat.beq f 139 with
    | false => rw [hf] at hc; cases hc
    | true =>
      rw [hf,ifB_true] at hc
      obtain rfl:=Abs.beq_true.1 hf
      obtain ⟨p,hp⟩:=Option.isSome_iff_exists.1 (show (funcOf cx0 139).isSome = true by kernel_rfl)
      exact clip_ok (C:=cx0) (P:=Tryz.prog) rfl hp (fun B o len c h w => tryz_clip B o len c h w) hc hr
end Go.Proofs.YtcgnkejpcjcaoaaGreat.known
