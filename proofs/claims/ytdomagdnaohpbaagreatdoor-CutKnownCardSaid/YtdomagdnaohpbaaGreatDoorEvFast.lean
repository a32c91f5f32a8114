/- The evaluator's own definitions under the names of the quick ones (a shorter text, in place of EvFast). -/
import Derived.Test.YtdomagdnaohpbaaGreatDoorEvLast
set_option linter.unusedVariables false
namespace Go.Abs.Fast
noncomputable section
open Go.Abs
abbrev run:=@Go.Abs.run
abbrev stepOp:=@Go.Abs.stepOp
abbrev loadT:=@Go.Abs.loadT
abbrev call:=@Go.Abs.call
abbrev finPure:=@Go.Abs.finPure
abbrev finHeap:=@Go.Abs.finHeap
abbrev finFresh:=@Go.Abs.finFresh
theorem run_e:@run=@Go.Abs.run:=rfl
theorem stepOp_e:@stepOp=@Go.Abs.stepOp:=rfl
theorem loadT_e:@loadT=@Go.Abs.loadT:=rfl
theorem call_e:@call=@Go.Abs.call:=rfl
theorem finPure_e:@finPure=@Go.Abs.finPure:=rfl
theorem finHeap_e:@finHeap=@Go.Abs.finHeap:=rfl
theorem finFresh_e:@finFresh=@Go.Abs.finFresh:=rfl
def str:Nat→List AV→List AV
  | _,[]=>[]
  | 0,x::r=>x::str 7 r
  | k + 1,_::r=>str k r
def deal {β:Type} (r:List AV) (k:List AV→List AV→List AV→List AV→List AV→List AV→List AV→List AV→β):β:=
  List.rec (motive:=fun _=>(List AV→List AV→List AV→List AV→List AV→List AV→List AV→List AV→β)→β) (fun k=>k [] [] [] [] [] [] [] [])
    (fun x _ ih k=>ih fun a0 a1 a2 a3 a4 a5 a6 a7=>k (x::a7) a0 a1 a2 a3 a4 a5 a6) r k
def bld (f:Nat):List AV→T AV:=
  Nat.rec (fun _=>T.nil) (fun _ ih l=>List.rec T.nil (fun x r _=>deal r fun a0 a1 a2 a3 a4 a5 a6 a7=>⟨.mk (some x) (ih a0) (ih a1) (ih a2) (ih a3) (ih a4) (ih a5) (ih a6) (ih a7)⟩) l) f
def fillN {β:Type} (l:List AV) (k:T AV→β):β:=fill 0 T.nil l k
theorem fillN_eq {β:Type} (l:List AV) (k:T AV→β):fillN l k=fill 0 T.nil l k:=rfl
end
end Go.Abs.Fast
