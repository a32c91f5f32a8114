/- The pieces of the run together: what the call comes to. (Printed by a program.) -/
import Derived.Test.YtfcnpmiaglmjmaaGreatLocalC0
import Derived.Test.YtfcnpmiaglmjmaaGreatLocalC1
import Derived.Test.YtfcnpmiaglmjmaaGreatLocalC2
import Derived.Test.YtfcnpmiaglmjmaaGreatLocalC3
import Derived.Test.YtfcnpmiaglmjmaaGreatLocalC4
import Derived.Test.YtfcnpmiaglmjmaaGreatLocalC5
import Derived.Test.YtfcnpmiaglmjmaaGreatLocalC6
import Derived.Test.YtfcnpmiaglmjmaaGreatLocalC7
import Derived.Test.YtfcnpmiaglmjmaaGreatLocalC8
import Derived.Test.YtfcnpmiaglmjmaaGreatLocalC9
set_option maxRecDepth 100000
namespace Go.Proofs.YtfcnpmiaglmjmaaGreat.localRun
open Go Go.Abs
def R : CR := .value (.v (.bool true)) (some [])
theorem d10 : Den cx m10 R := Eq.mpr (show Den cx m10 R = (R = R) by kernel_rfl) rfl
theorem d9 : Den cx m9 R := piece c9 d10
theorem d8 : Den cx m8 R := piece c8 d9
theorem d7 : Den cx m7 R := piece c7 d8
theorem d6 : Den cx m6 R := piece c6 d7
theorem d5 : Den cx m5 R := piece c5 d6
theorem d4 : Den cx m4 R := piece c4 d5
theorem d3 : Den cx m3 R := piece c3 d4
theorem d2 : Den cx m2 R := piece c2 d3
theorem d1 : Den cx m1 R := piece c1 d2
theorem d0 : Den cx m0 R := piece c0 d1
theorem ran : ∃ n, Go.Abs.call cx n 3 [] = .value (.v (.bool true)) (some []) := start_ok (by kernel_rfl) d0
end Go.Proofs.YtfcnpmiaglmjmaaGreat.localRun
