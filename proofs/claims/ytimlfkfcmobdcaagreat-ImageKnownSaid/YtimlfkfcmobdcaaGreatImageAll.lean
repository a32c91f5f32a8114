/- The pieces of the run together: what the call comes to. (Printed by a program.) -/
import Derived.Test.YtimlfkfcmobdcaaGreatImageP0
import Derived.Test.YtimlfkfcmobdcaaGreatImageP1
import Derived.Test.YtimlfkfcmobdcaaGreatImageP2
import Derived.Test.YtimlfkfcmobdcaaGreatImageP3
import Derived.Test.YtimlfkfcmobdcaaGreatImageP4
import Derived.Test.YtimlfkfcmobdcaaGreatImageP5
import Derived.Test.YtimlfkfcmobdcaaGreatImageP6
import Derived.Test.YtimlfkfcmobdcaaGreatImageP7
import Derived.Test.YtimlfkfcmobdcaaGreatImageP8
import Derived.Test.YtimlfkfcmobdcaaGreatImageP9
import Derived.Test.YtimlfkfcmobdcaaGreatImageP10
import Derived.Test.YtimlfkfcmobdcaaGreatImageP11
import Derived.Test.YtimlfkfcmobdcaaGreatImageP12
set_option maxRecDepth 100000
namespace Go.Proofs.YtimlfkfcmobdcaaGreat.imageRun
open Go Go.Abs
def R : CR := .value (.v (.bool true)) (some [])
theorem d25 : Den cx m25 R := Eq.mpr (show Den cx m25 R = (R = R) by kernel_rfl) rfl
theorem d24 : Den cx m24 R := piece c24 d25
theorem d23 : Den cx m23 R := piece c23 d24
theorem d22 : Den cx m22 R := piece c22 d23
theorem d21 : Den cx m21 R := piece c21 d22
theorem d20 : Den cx m20 R := piece c20 d21
theorem d19 : Den cx m19 R := piece c19 d20
theorem d18 : Den cx m18 R := piece c18 d19
theorem d17 : Den cx m17 R := piece c17 d18
theorem d16 : Den cx m16 R := piece c16 d17
theorem d15 : Den cx m15 R := piece c15 d16
theorem d14 : Den cx m14 R := piece c14 d15
theorem d13 : Den cx m13 R := piece c13 d14
theorem d12 : Den cx m12 R := piece c12 d13
theorem d11 : Den cx m11 R := piece c11 d12
theorem d10 : Den cx m10 R := piece c10 d11
theorem d9 : Den cx m9 R := piece c9 d10
theorem d8 : Den cx m8 R := piece c8 d9
theorem d7 : Den cx m7 R := piece c7 d8
theorem d6 : Den cx m6 R := piece c6 d7
theorem d5 : Den cx m5 R := piece c5 d6
theorem d4 : Den cx m4 R := piece c4 d5
theorem d3 : Den cx m3 R := piece c3 d4
theorem d2 : Den cx m2 R := piece c2 d3
theorem d1 : Den cx m1 R := piece c1 d2
theorem d0 : Den cx m0 R := piece c0 d1
theorem ran : ∃ n, Go.Abs.call cx n 3 [] = .value (.v (.bool true)) (some []) := start_ok (by kernel_rfl) d0
end Go.Proofs.YtimlfkfcmobdcaaGreat.imageRun
