/- Pieces of a run. (Printed by a program.) -/
import Derived.Test.YtcgnkejpcjcaoaaGreatMid373St1
set_option maxRecDepth 100000
namespace Go.Proofs.YtcgnkejpcjcaoaaGreat.mid373Run
open Go Go.Abs
theorem c1:ms 5350 m1=m2:=by kernel_rfl
end Go.Proofs.YtcgnkejpcjcaoaaGreat.mid373Run
