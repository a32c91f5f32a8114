/- One call of the table, run in pieces: the context, the pieces, what the call comes to. (Printed by a program.) -/
import Derived.Test.YtagolmgljacneaaGreatPartsTab
import Derived.Test.YtagolmgljacneaaGreatEvMachOk
import Derived.Test.YtagolmgljacneaaGreatEvEqM
set_option linter.unusedVariables false
set_option maxRecDepth 100000
namespace Go.Proofs.YtagolmgljacneaaGreat.mid2172Run
open Go Go.Abs
noncomputable abbrev cx:Cx:={memoC Go.Proofs.YtagolmgljacneaaGreat.partsRun.cx Go.Proofs.YtagolmgljacneaaGreat.partsRun.fs Go.Proofs.YtagolmgljacneaaGreat.partsRun.L33 [] with dr:=true}
/-- The functions that the machine itself enters. -/
noncomputable def sp:Nat→Bool:=fun f=>memN f [50, 84, 85, 123, 155, 183, 185, 186, 187, 188, 189, 190]
noncomputable def ms (n:Nat) (m:M):M:=msteps cx (Fast.run cx 3000) sp n m
noncomputable def m0:M:=startM cx (entF Go.Proofs.YtagolmgljacneaaGreat.partsRun.en2172) (entL Go.Proofs.YtagolmgljacneaaGreat.partsRun.en2172)
theorem piece {n:Nat} {a b:M} {r:CR} (h:ms n a=b) (hb:Den cx b r):Den cx a r:=msteps_ok n (h ▸ hb)
theorem c0:ms 24625 m0=Go.Proofs.YtagolmgljacneaaGreat.partsRun.m217201:=viewM_t (s0:=Go.Proofs.YtagolmgljacneaaGreat.partsRun.s3450) (f:=84) (p:=[1, 1, 1, 1, 1, 0, 0, 1, 1, 0, 0, 1, 1, 1, 0, 1, 0, 0, 1, 1, 0, 0, 1, 0, 1, 1]) (k:=Go.Proofs.YtagolmgljacneaaGreat.partsRun.k3440) (by kernel_rfl)
theorem c1:ms 26500 Go.Proofs.YtagolmgljacneaaGreat.partsRun.m217201=Go.Proofs.YtagolmgljacneaaGreat.partsRun.m217202:=viewM_t (s0:=Go.Proofs.YtagolmgljacneaaGreat.partsRun.s3476) (f:=84) (p:=[1, 0, 1, 0, 0, 1, 1, 0, 0, 1, 1, 1, 0, 1, 0, 0, 1, 1, 0, 0, 1, 0, 1, 1]) (k:=Go.Proofs.YtagolmgljacneaaGreat.partsRun.k3467) (by kernel_rfl)
theorem c2:ms 23750 Go.Proofs.YtagolmgljacneaaGreat.partsRun.m217202=Go.Proofs.YtagolmgljacneaaGreat.partsRun.m217203:=viewO_t (s0:=Go.Proofs.YtagolmgljacneaaGreat.partsRun.s3511) (k:=Go.Proofs.YtagolmgljacneaaGreat.partsRun.k3507) (by kernel_rfl)
theorem c3:ms 1725 Go.Proofs.YtagolmgljacneaaGreat.partsRun.m217203=Go.Proofs.YtagolmgljacneaaGreat.partsRun.m217204:=viewO_t (s0:=Go.Proofs.YtagolmgljacneaaGreat.partsRun.s3516) (k:=Go.Proofs.YtagolmgljacneaaGreat.partsRun.k3512) (by kernel_rfl)
theorem c4:ms 1725 Go.Proofs.YtagolmgljacneaaGreat.partsRun.m217204=Go.Proofs.YtagolmgljacneaaGreat.partsRun.m217205:=viewO_t (s0:=Go.Proofs.YtagolmgljacneaaGreat.partsRun.s3521) (k:=Go.Proofs.YtagolmgljacneaaGreat.partsRun.k3517) (by kernel_rfl)
theorem c5:ms 2575 Go.Proofs.YtagolmgljacneaaGreat.partsRun.m217205=Go.Proofs.YtagolmgljacneaaGreat.partsRun.m217206:=viewM_t (s0:=Go.Proofs.YtagolmgljacneaaGreat.partsRun.s3529) (f:=50) (p:=[1, 0, 0, 1, 0, 1, 1, 1, 1, 1, 1, 1]) (k:=Go.Proofs.YtagolmgljacneaaGreat.partsRun.k3524) (by kernel_rfl)
theorem c6:ms 2800 Go.Proofs.YtagolmgljacneaaGreat.partsRun.m217206=Go.Proofs.YtagolmgljacneaaGreat.partsRun.m217207:=viewO_t (s0:=Go.Proofs.YtagolmgljacneaaGreat.partsRun.s3536) (k:=Go.Proofs.YtagolmgljacneaaGreat.partsRun.k3531) (by kernel_rfl)
theorem c7:ms 2575 Go.Proofs.YtagolmgljacneaaGreat.partsRun.m217207=Go.Proofs.YtagolmgljacneaaGreat.partsRun.m217208:=viewO_t (s0:=Go.Proofs.YtagolmgljacneaaGreat.partsRun.s3542) (k:=Go.Proofs.YtagolmgljacneaaGreat.partsRun.k3537) (by kernel_rfl)
theorem c8:ms 950 Go.Proofs.YtagolmgljacneaaGreat.partsRun.m217208=.fin (.value (entV Go.Proofs.YtagolmgljacneaaGreat.partsRun.en2172) ((some []))):=by kernel_rfl
theorem one_ok {C:Cx} {fs:List Nat} {G:List (Nat×List Ent)} (hm:C.P.follows .mixedOrders=true) (h:ExtOk C) (hG:AllVals C G) (m:Nat) (e:Ent) {rd:Option (List Nat)} (hc:∃ n,Go.Abs.call {memoC C fs G [] with dr:=true} n (entF e) (entL e)=.value (entV e) rd)
    (h2:allB (flat 4) (entL e)=true) (h3:flat 4 (entV e)=true):AllVals C ((m,[e])::G) := by
  obtain ⟨n,hc⟩:=hc
  intro g hg
  rcases List.mem_cons.1 hg with rfl | hg
  · intro e' he'
    rcases List.mem_cons.1 he' with rfl | he'
    · exact fun X j w args hX hr => call_soundX (C:={memoC C fs G [] with dr:=true}) hm (fun f l v hx X j w args hX hr => memo_ext fs h hG (fun e he => by cases he) f l v hx X j w args hX hr) hc h2 h3 hX hr
    · cases he'
  · exact hG g hg
noncomputable def R:CR:=.value (entV Go.Proofs.YtagolmgljacneaaGreat.partsRun.en2172) ((some []))
theorem d9:Den cx (.fin (.value (entV Go.Proofs.YtagolmgljacneaaGreat.partsRun.en2172) ((some [])))) R:=rfl
theorem d8:Den cx Go.Proofs.YtagolmgljacneaaGreat.partsRun.m217208 R:=piece c8 d9
theorem d7:Den cx Go.Proofs.YtagolmgljacneaaGreat.partsRun.m217207 R:=piece c7 d8
theorem d6:Den cx Go.Proofs.YtagolmgljacneaaGreat.partsRun.m217206 R:=piece c6 d7
theorem d5:Den cx Go.Proofs.YtagolmgljacneaaGreat.partsRun.m217205 R:=piece c5 d6
theorem d4:Den cx Go.Proofs.YtagolmgljacneaaGreat.partsRun.m217204 R:=piece c4 d5
theorem d3:Den cx Go.Proofs.YtagolmgljacneaaGreat.partsRun.m217203 R:=piece c3 d4
theorem d2:Den cx Go.Proofs.YtagolmgljacneaaGreat.partsRun.m217202 R:=piece c2 d3
theorem d1:Den cx Go.Proofs.YtagolmgljacneaaGreat.partsRun.m217201 R:=piece c1 d2
theorem d0:Den cx m0 R:=piece c0 d1
theorem ran:∃ n,Go.Abs.call cx n (entF Go.Proofs.YtagolmgljacneaaGreat.partsRun.en2172) (entL Go.Proofs.YtagolmgljacneaaGreat.partsRun.en2172)=.value (entV Go.Proofs.YtagolmgljacneaaGreat.partsRun.en2172) ((some [])):=start_ok (by kernel_rfl) d0
theorem fl:allB (flat 4) (entL Go.Proofs.YtagolmgljacneaaGreat.partsRun.en2172)=true:=by kernel_rfl
theorem fv:flat 4 (entV Go.Proofs.YtagolmgljacneaaGreat.partsRun.en2172)=true:=by kernel_rfl
end Go.Proofs.YtagolmgljacneaaGreat.mid2172Run
