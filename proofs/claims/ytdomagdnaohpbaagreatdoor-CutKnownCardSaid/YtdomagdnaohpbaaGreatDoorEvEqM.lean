/- A PIECE'S END COMPARED BY RECKONING: a machine's state is that one, if its code, its frames are and its state agrees by a boolean test. -/
import Derived.Test.YtdomagdnaohpbaaGreatDoorEvMachOk
set_option linter.unusedSimpArgs false
set_option linter.unusedVariables false
namespace Go.Abs
noncomputable section
def eqPair (p q:AV×AV):Bool:=ifB (eqA 12 p.1 q.1) (eqA 12 p.2 q.2) false
def eqBlk (a b:Blk):Bool:=
  Blk.rec (fun t n=>Blk.rec (fun u m=>ifB (Nat.beq n m) (eqT (eqA 12) 12 t u) false) (fun _=>false) false (fun _ _=>false) b)
    (fun l=>Blk.rec (fun _ _=>false) (fun l'=>xL eqPair l l') false (fun _ _=>false) b)
    (Blk.rec (fun _ _=>false) (fun _=>false) true (fun _ _=>false) b)
    (fun t n=>Blk.rec (fun _ _=>false) (fun _=>false) false (fun u m=>ifB (Nat.beq n m) (eqT (eqA 12) 12 t u) false) b) a
def eqO9B (k:T Blk→T Blk→Bool) (a b:O9 (Option Blk) (T Blk)):Bool:=
  O9.rec (O9.rec true (fun _ _ _ _ _ _ _ _ _=>false) b)
    (fun v c0 c1 c2 c3 c4 c5 c6 c7=>O9.rec false (fun w d0 d1 d2 d3 d4 d5 d6 d7 =>
      ifB (zaH eqBlk v w) (ifB (k c0 d0) (ifB (k c1 d1) (ifB (k c2 d2) (ifB (k c3 d3) (ifB (k c4 d4) (ifB (k c5 d5) (ifB (k c6 d6) (k c7 d7) false) false) false) false) false) false) false) false) b) a
def eqTB (d:Nat):T Blk→T Blk→Bool:=Nat.rec (fun _ _=>false) (fun _ ih a b=>eqO9B ih (T.o a) (T.o b)) d
def eqS (a b:S):Bool:=S.rec (fun env H nx low=>S.rec (fun env' H' nx' low' =>
  ifB (Nat.beq nx nx') (ifB (Nat.beq low low') (ifB (eqT (eqA 40) 12 env env') (eqTB 12 H H') false) false) false) b) a
def viewM (m:M) (s0:S):Option (FuncId×List Nat×List Fr×Bool):=M.rec (fun f p s k=>some (f,p,k,eqS s s0)) (fun _ _=>none) (fun _=>none) (fun _=>none) m
def viewO (m:M) (s0:S):Option (List Fr×Bool):=M.rec (fun _ _ _ _=>none) (fun o k=>Out.rec (motive:=fun _=>Option (List Fr×Bool)) (fun s=>some (k,eqS s s0)) (fun _ _=>none) (fun _=>none) (fun _=>none) o) (fun _=>none) (fun _=>none) m
theorem eqPair_t (p q:AV×AV) (h:eqPair p q=true):p=q:=by
  obtain ⟨h1,h2⟩:=z8.1 h
  exact Prod.ext (Kj 12 _ _ h1) (Kj 12 _ _ h2)
theorem eqBlk_t (a b:Blk) (h:eqBlk a b=true):a=b:=by
  cases a with
  | cells t n=>cases b <;> first | (obtain ⟨h1,h2⟩:=z8.1 (show ifB (Nat.beq _ _) (eqT (eqA 12) 12 _ _) false=true from h); rw [Abs.beq_true.1 h1,Ki (Kj 12) _ _ _ h2]) | cases h
  | map l=>cases b <;> first | (rw [w8 eqPair_t _ _ (show xL eqPair _ _=true from h)]) | cases h
  | gone=>cases b <;> first | rfl | cases h
  | ro t n=>cases b <;> first | (obtain ⟨h1,h2⟩:=z8.1 (show ifB (Nat.beq _ _) (eqT (eqA 12) 12 _ _) false=true from h); rw [Abs.beq_true.1 h1,Ki (Kj 12) _ _ _ h2]) | cases h
theorem eqO9B_t {k:T Blk→T Blk→Bool} (hk:∀ x y,k x y=true→x=y) {a b:O9 (Option Blk) (T Blk)} (h:eqO9B k a b=true):a=b:=by
  cases a with
  | nil=>cases b <;> first | rfl | cases h
  |
    mk v c0 c1 c2 c3 c4 c5 c6 c7 =>
    cases b with
    | nil=>cases h
    |
      mk w d0 d1 d2 d3 d4 d5 d6 d7 =>
      obtain ⟨g,h⟩:=z8.1 (show ifB (zaH eqBlk v w) _ false=true from h)
      obtain ⟨g0,h⟩:=z8.1 h
      obtain ⟨g1,h⟩:=z8.1 h
      obtain ⟨g2,h⟩:=z8.1 h
      obtain ⟨g3,h⟩:=z8.1 h
      obtain ⟨g4,h⟩:=z8.1 h
      obtain ⟨g5,h⟩:=z8.1 h
      obtain ⟨g6,g7⟩:=z8.1 h
      rw [zc1 eqBlk_t g,hk _ _ g0,hk _ _ g1,hk _ _ g2,hk _ _ g3,hk _ _ g4,hk _ _ g5,hk _ _ g6,hk _ _ g7]
theorem eqTB_t:∀ (d:Nat) (a b:T Blk),eqTB d a b=true→a=b
  | 0,_,_,h=>by cases h
  | d + 1,⟨a⟩,⟨b⟩,h=>congrArg T.mk (eqO9B_t (eqTB_t d) (show eqO9B (eqTB d) a b=true from h))
theorem eqS_t {a b:S} (h:eqS a b=true):a=b:=by
  obtain ⟨env,H,nx,low⟩:=a
  obtain ⟨env',H',nx',low'⟩:=b
  obtain ⟨h1,h⟩:=z8.1 (show ifB (Nat.beq nx nx') _ false=true from h)
  obtain ⟨h2,h⟩:=z8.1 h
  obtain ⟨h3,h4⟩:=z8.1 h
  rw [Abs.beq_true.1 h1,Abs.beq_true.1 h2,Ki (Kj 40) _ _ _ h3,eqTB_t 12 _ _ h4]
theorem viewM_t {m:M} {s0:S} {f:FuncId} {p:List Nat} {k:List Fr} (h:viewM m s0=some (f,p,k,true)):m=.code f p s0 k:=by
  cases m with
  |
    code g q s l =>
    replace h:some (g,q,l,eqS s s0)=some (f,p,k,true):=h
    injection h with h
    injection h with h1 h
    injection h with h2 h
    injection h with h3 h4
    rw [h1,h2,h3,eqS_t h4]
  | _=>cases h
theorem viewO_t {m:M} {s0:S} {k:List Fr} (h:viewO m s0=some (k,true)):m=.out (.nrm s0) k:=by
  cases m with
  |
    out o l =>
    cases o with
    |
      nrm s =>
      replace h:some (l,eqS s s0)=some (k,true):=h
      injection h with h
      injection h with h1 h2
      rw [h1,eqS_t h2]
    | _=>cases h
  | _=>cases h
end
end Go.Abs
