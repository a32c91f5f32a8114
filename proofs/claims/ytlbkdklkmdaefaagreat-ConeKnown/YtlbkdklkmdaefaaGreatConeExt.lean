/- The context in which the evaluator runs this program: the two functions without a body stand for themselves. -/
import Derived.Test.YtlbkdklkmdaefaaGreatProg
import Derived.Test.YtlbkdklkmdaefaaGreatEvLast
import Derived.WalkKit
namespace Go.Proofs.YtlbkdklkmdaefaaGreat.cone
open Go.Abs

noncomputable def nf (f : FuncId) : Bool := orB (Nat.beq f 54) (orB (Nat.beq f 89) (orB (Nat.beq f 137) (Nat.beq f 156)))
noncomputable def cx0 : Cx := { P := Tryz.prog, ext := fun f l => ifB (Nat.beq f 114) (add64 l) (ifB (Nat.beq f 177) (sub64 l) none), nf := nf }

theorem mixed : Tryz.prog.follows .mixedOrders = true := by kernel_rfl

theorem call_add (args : Array Value) (w : World) : (callFunc 114 args).run Tryz.prog w = ((add64Entry args).run Tryz.prog w).andThen fun v w' => .ok (.value v) w' :=
  run_callFunc_extern Tryz.func114 (by kernel_rfl) (by kernel_rfl) (by kernel_rfl) (by kernel_rfl) args w
theorem call_sub (args : Array Value) (w : World) : (callFunc 177 args).run Tryz.prog w = ((sub64Entry args).run Tryz.prog w).andThen fun v w' => .ok (.value v) w' :=
  run_callFunc_extern Tryz.func177 (by kernel_rfl) (by kernel_rfl) (by kernel_rfl) (by kernel_rfl) args w

theorem ext0 : ExtOk cx0 := by
  intro f l v h X j w args hX hr
  change ifB (Nat.beq f 114) (add64 l) (ifB (Nat.beq f 177) (sub64 l) none) = some v at h
  cases h1 : Nat.beq f 114 with
  | true =>
    rw [h1, ifB_true] at h
    obtain rfl := beq_true.1 h1
    exact add64_ok (C := cx0) call_add h hr
  | false =>
    rw [h1, ifB_false] at h
    cases h2 : Nat.beq f 177 with
    | true =>
      rw [h2, ifB_true] at h
      obtain rfl := beq_true.1 h2
      exact sub64_ok (C := cx0) call_sub h hr
    | false => rw [h2, ifB_false] at h; cases h

/-- The same, and 'chamferlaw09.works' answers true. -/
noncomputable def cx1 : Cx := { P := Tryz.prog, ext := fun f l => ifB (Nat.beq f 20) (ifB (emptyB (l.map fun _ => 0)) (some (.v (.bool true))) none) (ifB (Nat.beq f 114) (add64 l) (ifB (Nat.beq f 177) (sub64 l) none)), nf := nf }

end Go.Proofs.YtlbkdklkmdaefaaGreat.cone
