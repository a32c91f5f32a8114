/- A run in pieces: the context, words for states. (Printed by a program.) -/
import Derived.Test.YtdomagdnaohpbaaGreatDoorKnownExt
import Derived.Test.YtdomagdnaohpbaaGreatDoorEvMachOk
set_option linter.unusedVariables false
namespace Go.Proofs.YtdomagdnaohpbaaGreatDoor.cutRun
open Go Go.Abs
/-- The context. -/
noncomputable abbrev cx : Cx := Go.Proofs.YtdomagdnaohpbaaGreatDoor.known.cx0
theorem extX : ExtOk cx := Go.Proofs.YtdomagdnaohpbaaGreatDoor.known.ext0
/-- The functions that the machine itself enters. -/
noncomputable def sp : Nat → Bool := fun f => memN f [3]
noncomputable def ms (n : Nat) (m : M) : M := msteps cx (Fast.run cx 3000) sp n m

noncomputable def mk (l : List AV) : T AV := Fast.bld (lenL l) l
noncomputable def sets (l : List (Nat × AV)) : T AV := List.rec T.nil (fun p _ ih => T.setA p.1 p.2 ih fun t => t) l
noncomputable def upsL (H : T Blk) (l : List (Nat × Blk)) : T Blk := Go.Abs.ups H l fun H => H
def tt : AV := .v (.bool true)
def ff : AV := .v (.bool false)
def nS : AV := .v (.slice none 0 0)
def nP : AV := .v (.pointer none)
def nM : AV := .v (.map none)
def nF : AV := .v .nilFunc
def nI : AV := .v .nilIface
def t0 : AV := .tuple []
noncomputable def str (l : List Nat) : AV := .v (.string ⟨⟨List.rec [] (fun x _ ih => UInt8.ofNat x :: ih) l⟩⟩)
noncomputable def dgB (b n : Nat) : Nat → List UInt8 → List UInt8 :=
  Nat.rec (fun _ l => l) (fun _ ih c l => force (Nat.mod c 3) fun d => force (Nat.div c 3) fun q => force (Nat.add b d) fun e => ih q (UInt8.ofNat e :: l)) n
noncomputable def sg (n c : Nat) : AV := .v (.string ⟨⟨dgB 48 n c []⟩⟩)
noncomputable def sz (n c : Nat) : AV := .v (.string ⟨⟨dgB 0 n c []⟩⟩)
noncomputable def kvs (b n i : Nat) (l : List Nat) : List (AV × AV) := List.rec (fun _ => []) (fun c _ ih i => (.v (.string ⟨⟨dgB b n c []⟩⟩), .v (.int .i64 (.ofNat i))) :: force (Nat.succ i) ih) l i
noncomputable def kvb (b n : Nat) (l : List Nat) : List (AV × AV) := List.rec [] (fun c _ ih => force (Nat.div c 2) fun d => (.v (.string ⟨⟨dgB b n d []⟩⟩), .v (.bool (Nat.beq (Nat.mod c 2) 1))) :: ih) l
def i8 (n : Nat) : AV := .v (.int .i8 (.ofNat n))
def i8n (n : Nat) : AV := .v (.int .i8 (.negSucc n))
def i16 (n : Nat) : AV := .v (.int .i16 (.ofNat n))
def i16n (n : Nat) : AV := .v (.int .i16 (.negSucc n))
def i32 (n : Nat) : AV := .v (.int .i32 (.ofNat n))
def i32n (n : Nat) : AV := .v (.int .i32 (.negSucc n))
def i64 (n : Nat) : AV := .v (.int .i64 (.ofNat n))
def i64n (n : Nat) : AV := .v (.int .i64 (.negSucc n))
def u8 (n : Nat) : AV := .v (.int .u8 (.ofNat n))
def u8n (n : Nat) : AV := .v (.int .u8 (.negSucc n))
def u16 (n : Nat) : AV := .v (.int .u16 (.ofNat n))
def u16n (n : Nat) : AV := .v (.int .u16 (.negSucc n))
def u32 (n : Nat) : AV := .v (.int .u32 (.ofNat n))
def u32n (n : Nat) : AV := .v (.int .u32 (.negSucc n))
def u64 (n : Nat) : AV := .v (.int .u64 (.ofNat n))
def u64n (n : Nat) : AV := .v (.int .u64 (.negSucc n))
def c (x : AV) (l : List AV) : List AV := x :: l
def W (s : AV) (n : Nat) (l : List AV) : List AV := s :: u64 n :: nS :: l
def w (n : Nat) (l : List AV) : List AV := ff :: u64 n :: nS :: l
def y (n : Nat) (l : List AV) : List AV := tt :: u64 n :: nS :: l
def w0 (l : List AV) : List AV := ff :: u64 0 :: nS :: l
def w3 (l : List AV) : List AV := w0 (w0 (w0 l))
def f (n : Nat) (l : List AV) : List AV := ff :: u64 n :: nS :: u64 0 :: nS :: l
def g (n : Nat) (l : List AV) : List AV := tt :: u64 n :: nS :: u64 0 :: nS :: l
def f0 (l : List AV) : List AV := ff :: u64 0 :: nS :: u64 0 :: nS :: l
def f3 (l : List AV) : List AV := f0 (f0 (f0 l))
def p (l : List AV) : List AV := i8 1 :: l
def o (l : List AV) : List AV := i8 0 :: l
def q (l : List AV) : List AV := i8n 0 :: l
noncomputable def rsL (n : Nat) : Nat → List AV → List AV :=
  Nat.rec (fun _ l => l) (fun _ ih c l => force (Nat.mod c 3) fun d => force (Nat.div c 3) fun q => ih q (ifB (Nat.beq d 0) (i8n 0) (force (Nat.sub d 1) fun e => i8 e) :: l)) n
noncomputable def rs (n c : Nat) : T AV := mk (rsL n c [])
def v (t : T AV) (n es : Nat) : AV := .vs t 0 n es n false
def v_ (t : T AV) (n es : Nat) (l : List AV) : List AV := .vs t 0 n es n false :: l
def u (t : T AV) (n es : Nat) : AV := .vs t 0 n es n true
def hs (b n es : Nat) : AV := .hs b 0 n es n false
def hp (b : Nat) : AV := .hp b 0
def F (s : AV) (n d : Nat) (l : List AV) : List AV := s :: u64 n :: nS :: u64 d :: nS :: l

noncomputable def m0 : M := startM cx 3 []
theorem piece {n : Nat} {a b : M} {r : CR} (h : ms n a = b) (hb : Den cx b r) : Den cx a r := msteps_ok n (h ▸ hb)
end Go.Proofs.YtdomagdnaohpbaaGreatDoor.cutRun
