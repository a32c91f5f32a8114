/- THE EVALUATOR's CONTEXT for this program: the functions on small numbers, the product of rows and slices.Clip of bytes are answered; which functions hand back what a caller writes. -/
import Derived.Test.YtdomagdnaohpbaaGreatDoorNear
import Derived.Test.YtdomagdnaohpbaaGreatDoorClip
import Derived.Test.YtdomagdnaohpbaaGreatDoorIndex
set_option linter.unusedVariables false
namespace Go.Proofs.YtdomagdnaohpbaaGreatDoor.known
open Go.Abs
noncomputable def nf:Nat→Bool:=fun f=>memN f [51,37,158,143,113,138,45,99]
noncomputable def clipX (f:FuncId) (l:List AV):Option AV:=ifB (Nat.beq f 153) (clip l) none
noncomputable def idxX (f:FuncId) (l:List AV):Option AV:=ifB (Nat.beq f 208) (byModel Tryz.prog Extern.BytealgIndexByte.indexByte l) none
noncomputable def cx0:Cx:={ P:=Tryz.prog,ext:=fun f l=>elimO (clipX f l) (elimO (idxX f l) (extOf near.E5 f l) some) some,nf:=nf,hb:=fun t=>Nat.beq t 159 }
theorem ext0:ExtOk cx0:=by
  intro f l v h X j w args hX hr
  change elimO (clipX f l) (elimO (idxX f l) (extOf near.E5 f l) some) some=some v at h
  cases hc:clipX f l with
  |
    none =>
    rw [hc,elimO_none] at h
    cases hi:idxX f l with
    |
      none =>
      rw [hi,elimO_none] at h
      exact near.all_ok5 f l v (extOf_some.1 h) X j w args hX hr
    |
      some u =>
      rw [hi,elimO_some] at h
      cases h
      unfold idxX at hi
      cases hf:Nat.beq f 208 with
      | false=>rw [hf] at hi; cases hi
      |
        true =>
        rw [hf,ifB_true] at hi
        obtain rfl:=Abs.beq_true.1 hf
        exact byModel_ok run_index hi hr
  |
    some u =>
    rw [hc,elimO_some] at h
    cases h
    unfold clipX at hc
    cases hf:Nat.beq f 153 with
    | false=>rw [hf] at hc; cases hc
    |
      true =>
      rw [hf,ifB_true] at hc
      obtain rfl:=Abs.beq_true.1 hf
      obtain ⟨p,hp⟩:=Option.isSome_iff_exists.1 (show (funcOf cx0 153).isSome=true by kernel_rfl)
      exact zdm (C:=cx0) (P:=Tryz.prog) rfl hp (fun B o len c h w=>JS B o len c h w) hc hr
end Go.Proofs.YtdomagdnaohpbaaGreatDoor.known
