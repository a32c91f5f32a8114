/- One call of the table, run in pieces: the context, words for states. (Printed by a program.) -/
import Derived.Test.YtcgnkejpcjcaoaaGreatBoundTab
import Derived.Test.YtcgnkejpcjcaoaaGreatEvMachOk
set_option linter.unusedVariables false
namespace Go.Proofs.YtcgnkejpcjcaoaaGreat.mid373Run
open Go Go.Abs
noncomputable abbrev cx : Cx := memoC Go.Proofs.YtcgnkejpcjcaoaaGreat.boundRun.cx Go.Proofs.YtcgnkejpcjcaoaaGreat.boundRun.fs Go.Proofs.YtcgnkejpcjcaoaaGreat.boundRun.L5 []
/-- The functions that the machine itself enters. -/
noncomputable def sp : Nat → Bool := fun f => memN f [60, 118, 119, 180, 202, 225, 226, 227, 228, 229, 230, 231, 232, 241, 242, 243, 246]
noncomputable def ms (n : Nat) (m : M) : M := msteps cx (Fast.run cx 3000) sp n m

noncomputable def mk (l : List AV) : T AV := Fast.bld (lenL l) l
noncomputable def sets (l : List (Nat × AV)) : T AV := List.rec T.nil (fun p _ ih => T.setA p.1 p.2 ih fun t => t) l
noncomputable def upsL (H : T Blk) (l : List (Nat × Blk)) : T Blk := Go.Abs.ups H l fun H => H
def tt : AV := .v (.bool true)
def ff : AV := .v (.bool false)
def nS : AV := .v (.slice none 0 0)
def nP : AV := .v (.pointer none)
def nM : AV := .v (.map none)
def nF : AV := .v .nilFunc
def nI : AV := .v .nilIface
def t0 : AV := .tuple []
def str (l : List Nat) : AV := .v (.string ⟨⟨l.map UInt8.ofNat⟩⟩)
def i8 (n : Nat) : AV := .v (.int .i8 (.ofNat n))
def i8n (n : Nat) : AV := .v (.int .i8 (.negSucc n))
def i16 (n : Nat) : AV := .v (.int .i16 (.ofNat n))
def i16n (n : Nat) : AV := .v (.int .i16 (.negSucc n))
def i32 (n : Nat) : AV := .v (.int .i32 (.ofNat n))
def i32n (n : Nat) : AV := .v (.int .i32 (.negSucc n))
def i64 (n : Nat) : AV := .v (.int .i64 (.ofNat n))
def i64n (n : Nat) : AV := .v (.int .i64 (.negSucc n))
def u8 (n : Nat) : AV := .v (.int .u8 (.ofNat n))
def u8n (n : Nat) : AV := .v (.int .u8 (.negSucc n))
def u16 (n : Nat) : AV := .v (.int .u16 (.ofNat n))
def u16n (n : Nat) : AV := .v (.int .u16 (.negSucc n))
def u32 (n : Nat) : AV := .v (.int .u32 (.ofNat n))
def u32n (n : Nat) : AV := .v (.int .u32 (.negSucc n))
def u64 (n : Nat) : AV := .v (.int .u64 (.ofNat n))
def u64n (n : Nat) : AV := .v (.int .u64 (.negSucc n))
def c (x : AV) (l : List AV) : List AV := x :: l
def W (s : AV) (n : Nat) (l : List AV) : List AV := s :: u64 n :: nS :: l
def w (n : Nat) (l : List AV) : List AV := ff :: u64 n :: nS :: l
def y (n : Nat) (l : List AV) : List AV := tt :: u64 n :: nS :: l
def w0 (l : List AV) : List AV := ff :: u64 0 :: nS :: l
def w3 (l : List AV) : List AV := w0 (w0 (w0 l))
def f (n : Nat) (l : List AV) : List AV := ff :: u64 n :: nS :: u64 0 :: nS :: l
def g (n : Nat) (l : List AV) : List AV := tt :: u64 n :: nS :: u64 0 :: nS :: l
def f0 (l : List AV) : List AV := ff :: u64 0 :: nS :: u64 0 :: nS :: l
def f3 (l : List AV) : List AV := f0 (f0 (f0 l))
def p (l : List AV) : List AV := i8 1 :: l
def o (l : List AV) : List AV := i8 0 :: l
def q (l : List AV) : List AV := i8n 0 :: l
def v (t : T AV) (n es : Nat) : AV := .vs t 0 n es n false
def v_ (t : T AV) (n es : Nat) (l : List AV) : List AV := .vs t 0 n es n false :: l
def u (t : T AV) (n es : Nat) : AV := .vs t 0 n es n true
def hs (b n es : Nat) : AV := .hs b 0 n es n false
def hp (b : Nat) : AV := .hp b 0
def F (s : AV) (n d : Nat) (l : List AV) : List AV := s :: u64 n :: nS :: u64 d :: nS :: l

noncomputable def m0 : M := startM cx (entF Go.Proofs.YtcgnkejpcjcaoaaGreat.boundRun.en373) (entL Go.Proofs.YtcgnkejpcjcaoaaGreat.boundRun.en373)
theorem piece {n : Nat} {a b : M} {r : CR} (h : ms n a = b) (hb : Den cx b r) : Den cx a r := msteps_ok n (h ▸ hb)
end Go.Proofs.YtcgnkejpcjcaoaaGreat.mid373Run
