/- 'chamferlaw09.ConeKnown' answers true where 'works' does: the evaluator's run. -/
import Derived.Test.YtlbkdklkmdaefaaGreatConeExt
namespace Go.Proofs.YtlbkdklkmdaefaaGreat.cone
open Go.Abs

set_option maxRecDepth 100000 in
theorem cone_true : Go.Abs.call cx1 5000 3 [] = .value (.v (.bool true)) (some []) := by kernel_rfl

end Go.Proofs.YtlbkdklkmdaefaaGreat.cone
