/- Pieces of a run. (Printed by a program.) -/
import Derived.Test.YtcgnkejpcjcaoaaGreatMid373St1
set_option maxRecDepth 100000
namespace Go.Proofs.YtcgnkejpcjcaoaaGreat.mid373Run
open Go Go.Abs
theorem c2:ms 4100 m2=.fin (.value (entV Go.Proofs.YtcgnkejpcjcaoaaGreat.boundRun.en373) ((some []))):=by kernel_rfl
end Go.Proofs.YtcgnkejpcjcaoaaGreat.mid373Run
