/- 'chamferlaw09.works' answers true: the evaluator's run. -/
import Derived.Test.YtlbkdklkmdaefaaGreatConeExt
namespace Go.Proofs.YtlbkdklkmdaefaaGreat.cone
open Go.Abs

set_option maxRecDepth 100000 in
theorem works_true : Go.Abs.call cx0 5000 20 [] = .value (.v (.bool true)) (some []) := by kernel_rfl

end Go.Proofs.YtlbkdklkmdaefaaGreat.cone
