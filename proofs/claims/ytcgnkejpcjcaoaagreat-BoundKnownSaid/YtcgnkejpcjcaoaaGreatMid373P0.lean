/- Pieces of a run. (Printed by a program.) -/
import Derived.Test.YtcgnkejpcjcaoaaGreatMid373St1
set_option maxRecDepth 100000
namespace Go.Proofs.YtcgnkejpcjcaoaaGreat.mid373Run
open Go Go.Abs
theorem c0:ms 14825 m0=m1:=by kernel_rfl
end Go.Proofs.YtcgnkejpcjcaoaaGreat.mid373Run
