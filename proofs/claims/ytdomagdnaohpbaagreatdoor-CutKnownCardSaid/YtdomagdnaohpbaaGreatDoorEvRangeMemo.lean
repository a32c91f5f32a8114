/- A table of calls: an entry whose function ranges over a function (it is run by callR). -/
import Derived.Test.YtdomagdnaohpbaaGreatDoorEvRound
import Derived.Test.YtdomagdnaohpbaaGreatDoorEvMemo
set_option linter.unusedVariables false
namespace Go.Abs
theorem range_ok {C:Cx} {fs:List Nat} {G:List (Nat×List Ent)} {n:Nat} (hm:C.P.follows .mixedOrders=true) (h:ExtOk C) (hG:AllVals C G) (m:Nat) (e:Ent) (hc:∀ l,callR (memoC C fs G []) n (entF e) (entL e) l=some (entV e))
    (ha:∀ l,callAsk (memoC C fs G []) n (entF e) (entL e) l=(callAsk (memoC C fs G []) n (entF e) (entL e) l).map fun _=>l) (h2:allB (flat 4) (entL e)=true):AllVals C ((m,[e])::G):=by
  intro g hg
  rcases List.mem_cons.1 hg with rfl | hg
  ·
    intro e' he'
    rcases List.mem_cons.1 he' with rfl | he'
    · exact fun X j w args hX hr=>zbD (C:=memoC C fs G []) hm (memo_ext fs h hG (fun e he=>by cases he)) hc (fun l=>zbE (ha l)) h2 hX hr
    · cases he'
  · exact hG g hg
end Go.Abs
