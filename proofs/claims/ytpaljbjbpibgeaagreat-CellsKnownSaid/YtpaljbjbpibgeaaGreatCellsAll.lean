/- The pieces of the run together: what the call comes to. (Printed by a program.) -/
import Derived.Test.YtpaljbjbpibgeaaGreatCellsC0
import Derived.Test.YtpaljbjbpibgeaaGreatCellsC1
import Derived.Test.YtpaljbjbpibgeaaGreatCellsC2
import Derived.Test.YtpaljbjbpibgeaaGreatCellsC3
import Derived.Test.YtpaljbjbpibgeaaGreatCellsC4
import Derived.Test.YtpaljbjbpibgeaaGreatCellsC5
import Derived.Test.YtpaljbjbpibgeaaGreatCellsC6
import Derived.Test.YtpaljbjbpibgeaaGreatCellsC7
import Derived.Test.YtpaljbjbpibgeaaGreatCellsC8
set_option maxRecDepth 100000
namespace Go.Proofs.YtpaljbjbpibgeaaGreat.cellsRun
open Go Go.Abs
def R : CR := .value (.v (.bool true)) (some [])
theorem d9 : Den Go.Proofs.YtpaljbjbpibgeaaGreat.known.cx0 m9 R := Eq.mpr (show Den Go.Proofs.YtpaljbjbpibgeaaGreat.known.cx0 m9 R = (R = R) by kernel_rfl) rfl
theorem d8 : Den Go.Proofs.YtpaljbjbpibgeaaGreat.known.cx0 m8 R := piece c8 d9
theorem d7 : Den Go.Proofs.YtpaljbjbpibgeaaGreat.known.cx0 m7 R := piece c7 d8
theorem d6 : Den Go.Proofs.YtpaljbjbpibgeaaGreat.known.cx0 m6 R := piece c6 d7
theorem d5 : Den Go.Proofs.YtpaljbjbpibgeaaGreat.known.cx0 m5 R := piece c5 d6
theorem d4 : Den Go.Proofs.YtpaljbjbpibgeaaGreat.known.cx0 m4 R := piece c4 d5
theorem d3 : Den Go.Proofs.YtpaljbjbpibgeaaGreat.known.cx0 m3 R := piece c3 d4
theorem d2 : Den Go.Proofs.YtpaljbjbpibgeaaGreat.known.cx0 m2 R := piece c2 d3
theorem d1 : Den Go.Proofs.YtpaljbjbpibgeaaGreat.known.cx0 m1 R := piece c1 d2
theorem d0 : Den Go.Proofs.YtpaljbjbpibgeaaGreat.known.cx0 m0 R := piece c0 d1
theorem ran : ∃ n, Go.Abs.call Go.Proofs.YtpaljbjbpibgeaaGreat.known.cx0 n 3 [] = .value (.v (.bool true)) (some []) := start_ok (by kernel_rfl) d0
end Go.Proofs.YtpaljbjbpibgeaaGreat.cellsRun
