/- 'chamferlaw13.TopoKnown' answers true: the evaluator's run. -/
import Derived.Test.YtemnnjamgnhgaaaGreatKnownExt
namespace Go.Proofs.YtemnnjamgnhgaaaGreat.known
open Go.Abs

set_option maxRecDepth 100000 in
theorem topo_true : Go.Abs.call cx0 5000 6 [] = .value (.v (.bool true)) (some []) := by kernel_rfl

end Go.Proofs.YtemnnjamgnhgaaaGreat.known
