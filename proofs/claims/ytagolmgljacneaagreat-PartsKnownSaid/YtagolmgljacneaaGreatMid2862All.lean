/- One call of the table, run in pieces: the context, the pieces, what the call comes to. (Printed by a program.) -/
import Derived.Test.YtagolmgljacneaaGreatPartsTab
import Derived.Test.YtagolmgljacneaaGreatEvMachOk
import Derived.Test.YtagolmgljacneaaGreatMid2859All
set_option linter.unusedVariables false
set_option maxRecDepth 100000
namespace Go.Proofs.YtagolmgljacneaaGreat.mid2862Run
open Go Go.Abs Go.Abs.Cmpd Go.Proofs.YtagolmgljacneaaGreat.partsRun
noncomputable abbrev cx:Cx:={memoC Go.Proofs.YtagolmgljacneaaGreat.partsRun.cx Go.Proofs.YtagolmgljacneaaGreat.partsRun.fs Go.Proofs.YtagolmgljacneaaGreat.partsRun.L43 [] with dr:=true}
/-- The functions that the machine itself enters. -/
noncomputable def sp:Nat→Bool:=fun f=>memN f [46, 49, 81, 114]
noncomputable def ms (n:Nat) (m:M):M:=msteps cx (Fast.run cx 3000) sp n m
noncomputable def m0:M:=startM cx (entF Go.Proofs.YtagolmgljacneaaGreat.partsRun.en2862) (entL Go.Proofs.YtagolmgljacneaaGreat.partsRun.en2862)
theorem piece {n:Nat} {a b:M} {r:CR} (h:ms n a=b) (hb:Den cx b r):Den cx a r:=msteps_ok n (h ▸ hb)
theorem c0:ms 29350 m0=m286201:=viewM_t (s0:=s3630) (f:=46) (p:=[1, 1, 1, 0, 0, 1, 0, 1, 1, 0, 0, 1, 1, 0, 0, 1, 0, 1, 1, 1]) (k:=k3623) (by kernel_rfl)
theorem c1:ms 19175 m286201=m286202:=viewM_t (s0:=s3645) (f:=49) (p:=[0, 0, 1, 0, 0, 1, 0, 1, 1, 1]) (k:=k3639) (by kernel_rfl)
theorem c2:ms 650 m286202=m286203:=viewM_t (s0:=s3651) (f:=49) (p:=[0, 1, 0, 0, 1, 0, 1, 1, 1]) (k:=k3639) (by kernel_rfl)
theorem c3:ms 4250 m286203=m286204:=viewP_t (s0:=s3677) (k0:=k3674) [mid2859Run.PA,mid2859Run.PA,mid2859Run.PA,mid2859Run.PA,mid2859Run.PA,mid2859Run.PA,mid2859Run.PA,mid2859Run.PA,mid2859Run.PA,mid2859Run.PA,mid2859Run.PA,mid2859Run.PA,mid2859Run.PD,mid2859Run.PA,mid2859Run.PA] (by kernel_rfl)
theorem c4:ms 30825 m286204=m286205:=viewK_t (s0:=s3690) (f:=114) (p:=[1, 0, 0, 1, 1, 0, 0, 1, 0, 1, 1, 1]) (k0:=k3685) [mid2859Run.PA,mid2859Run.PA,mid2859Run.PA,mid2859Run.PA,mid2859Run.PA,mid2859Run.PA,mid2859Run.PA,mid2859Run.PA,mid2859Run.PA,mid2859Run.PA,mid2859Run.PA,mid2859Run.PA,mid2859Run.PD,mid2859Run.PA,mid2859Run.PA] (by kernel_rfl)
theorem c5:ms 26100 m286205=.fin (.value (entV en2862) (some [])):=viewF_t (by kernel_rfl) (by kernel_rfl)
theorem one_ok {C:Cx} {fs:List Nat} {G:List (Nat×List Ent)} (hm:C.P.follows .mixedOrders=true) (h:ExtOk C) (hG:AllVals C G) (m:Nat) (e:Ent) {rd:Option (List Nat)} (hc:∃ n,Go.Abs.call {memoC C fs G [] with dr:=true} n (entF e) (entL e)=.value (entV e) rd)
    (h2:allB (flat 4) (entL e)=true) (h3:flat 4 (entV e)=true):AllVals C ((m,[e])::G) := by
  obtain ⟨n,hc⟩:=hc
  intro g hg
  rcases List.mem_cons.1 hg with rfl | hg
  · intro e' he'
    rcases List.mem_cons.1 he' with rfl | he'
    · exact fun X j w args hX hr => call_soundX (C:={memoC C fs G [] with dr:=true}) hm (fun f l v hx X j w args hX hr => memo_ext fs h hG (fun e he => by cases he) f l v hx X j w args hX hr) hc h2 h3 hX hr
    · cases he'
  · exact hG g hg
noncomputable def R:CR:=.value (entV en2862) ((some []))
theorem d6:Den cx (.fin (.value (entV en2862) ((some [])))) R:=rfl
theorem d5:Den cx m286205 R:=piece c5 d6
theorem d4:Den cx m286204 R:=piece c4 d5
theorem d3:Den cx m286203 R:=piece c3 d4
theorem d2:Den cx m286202 R:=piece c2 d3
theorem d1:Den cx m286201 R:=piece c1 d2
theorem d0:Den cx m0 R:=piece c0 d1
theorem ran:∃ n,Go.Abs.call cx n (entF en2862) (entL en2862)=.value (entV en2862) ((some [])):=start_ok (by kernel_rfl) d0
theorem fl:allB (flat 4) (entL en2862)=true:=by kernel_rfl
theorem fv:flat 4 (entV en2862)=true:=by kernel_rfl
end Go.Proofs.YtagolmgljacneaaGreat.mid2862Run
