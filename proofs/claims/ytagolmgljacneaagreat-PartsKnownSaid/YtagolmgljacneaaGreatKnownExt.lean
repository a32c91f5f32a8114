/- THE EVALUATOR's CONTEXT for this program: the functions on small numbers, the product of rows and slices.Clip of bytes are answered; which functions hand back what a caller writes. -/
import Derived.Test.YtagolmgljacneaaGreatNear
import Derived.Test.YtagolmgljacneaaGreatClip
set_option linter.unusedVariables false
namespace Go.Proofs.YtagolmgljacneaaGreat.known
open Go.Abs
noncomputable def nf:Nat→Bool:=fun f=>memN f [30,99,103,84,93,39,71]
noncomputable def clipX (f:FuncId) (l:List AV):Option AV:=ifB (Nat.beq f 122) (clip l) none
noncomputable def cx0:Cx:={ P:=Tryz.prog,ext:=fun f l=>elimO (clipX f l) (extOf near.E5 f l) some,nf:=nf,hb:=fun t=>Nat.beq t 139 }
theorem ext0:ExtOk cx0:=by
  intro f l v h X j w args hX hr
  change elimO (clipX f l) (extOf near.E5 f l) some=some v at h
  cases hc:clipX f l with
  |
    none =>
    rw [hc,elimO_none] at h
    exact near.all_ok5 f l v (extOf_some.1 h) X j w args hX hr
  |
    some u =>
    rw [hc,elimO_some] at h
    cases h
    unfold clipX at hc
    cases hf:Nat.beq f 122 with
    | false=>rw [hf] at hc; cases hc
    |
      true =>
      rw [hf,ifB_true] at hc
      obtain rfl:=Abs.beq_true.1 hf
      obtain ⟨p,hp⟩:=Option.isSome_iff_exists.1 (show (funcOf cx0 122).isSome=true by kernel_rfl)
      exact zcL (C:=cx0) (P:=Tryz.prog) rfl hp (fun B o len c h w=>Jc B o len c h w) hc hr
end Go.Proofs.YtagolmgljacneaaGreat.known
