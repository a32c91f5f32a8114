/- SMALL NUMBERS: naturals, whole numbers, fractions of one digit: what the functions on them answer; how it is shown. -/
import Derived.Test.YtcgnkejpcjcaoaaGreatEvSym
set_option linter.unusedSimpArgs false
set_option linter.unusedVariables false
namespace Go.Abs
abbrev nilS : AV:=.v (.slice none 0 0)
abbrev u64A (x:Nat) : AV:=.v (.int .u64 (.ofNat x))
abbrev i64A (x:Int) : AV:=.v (.int .i64 x)
abbrev boolA (b:Bool) : AV:=.v (.bool b)
abbrev natA (x:Nat) : AV:=.agg [u64A x,nilS]
abbrev wholeA (s:Bool) (x:Nat) : AV:=.agg [boolA s,u64A x,nilS]
abbrev fracA (s:Bool) (n e:Nat) : AV:=.agg [boolA s,u64A n,nilS,u64A e,nilS]
section
variable {β:Type}
noncomputable def u64Of (x:AV) : Option Nat:=onInt x none fun k n => guardB (Nat.beq (kindNo k) 7) (Int.rec (fun a => force a some) (fun _ => none) n)
noncomputable def isNilS (x:AV) : Bool:=(@AV.rec (fun _ => Bool) (fun _ => Unit) (fun _ => Unit) (fun _ => Unit) (fun _ => Unit) (fun _ => Unit) (fun _ => Unit) (fun z => nilSl z) (fun _ _ => false) (fun _ _ _ => false) (fun _ _ _ _ _ _ => false) (fun _ _ _ _ _ _ _ => false) (fun _ _ _ _ _ => false) (fun _ _ => false) (fun _ _ => false) (fun _ => false) (fun _ _ => false) (fun _ _ => ()) () (fun _ _ _ _ => ()) () (fun _ _ _ _ => ()) () (fun _ _ _ _ _ _ _ _ _ _ _ _ _ _ _ _ _ _ => ()) (fun _ _ _ _ => ()) () (fun _ _ => ()) (x))
noncomputable def uncons (l:List AV) (k:AV → List AV → Option β) : Option β:=List.rec none (fun x r _ => k x r) l
noncomputable def endL (l:List AV) (y:Option β) : Option β:=List.rec y (fun _ _ _ => none) l
noncomputable def natCells (l:List AV) (k:Nat → List AV → Option β) : Option β:=uncons l fun a l => uncons l fun b l => bindO (u64Of a) fun x => guardB (isNilS b) (k x l)
noncomputable def natP (x:AV) (k:Nat → Option β) : Option β:=(@AV.rec (fun _ => Option β) (fun _ => Unit) (fun _ => Unit) (fun _ => Unit) (fun _ => Unit) (fun _ => Unit) (fun _ => Unit) (fun _ => none) (fun _ _ => none) (fun _ _ _ => none) (fun _ _ _ _ _ _ => none) (fun _ _ _ _ _ _ _ => none) (fun _ _ _ _ _ => none) (fun l _ => natCells l fun x l => endL l (k x)) (fun _ _ => none) (fun _ => none) (fun _ _ => none) (fun _ _ => ()) () (fun _ _ _ _ => ()) () (fun _ _ _ _ => ()) () (fun _ _ _ _ _ _ _ _ _ _ _ _ _ _ _ _ _ _ => ()) (fun _ _ _ _ => ()) () (fun _ _ => ()) (x))
noncomputable def wholeP (x:AV) (k:Bool → Nat → Option β) : Option β:=(@AV.rec (fun _ => Option β) (fun _ => Unit) (fun _ => Unit) (fun _ => Unit) (fun _ => Unit) (fun _ => Unit) (fun _ => Unit) (fun _ => none) (fun _ _ => none) (fun _ _ _ => none) (fun _ _ _ _ _ _ => none) (fun _ _ _ _ _ _ _ => none) (fun _ _ _ _ _ => none) (fun l _ => uncons l fun a l => bindO (boolOf a) fun s => natCells l fun n l => endL l (k s n)) (fun _ _ => none) (fun _ => none) (fun _ _ => none) (fun _ _ => ()) () (fun _ _ _ _ => ()) () (fun _ _ _ _ => ()) () (fun _ _ _ _ _ _ _ _ _ _ _ _ _ _ _ _ _ _ => ()) (fun _ _ _ _ => ()) () (fun _ _ => ()) (x))
noncomputable def fracP (x:AV) (k:Bool → Nat → Nat → Option β) : Option β:=(@AV.rec (fun _ => Option β) (fun _ => Unit) (fun _ => Unit) (fun _ => Unit) (fun _ => Unit) (fun _ => Unit) (fun _ => Unit) (fun _ => none) (fun _ _ => none) (fun _ _ _ => none) (fun _ _ _ _ _ _ => none) (fun _ _ _ _ _ _ _ => none) (fun _ _ _ _ _ => none) (fun l _ => uncons l fun a l => bindO (boolOf a) fun s => natCells l fun n l => natCells l fun e l => endL l (k s n e)) (fun _ _ => none) (fun _ => none) (fun _ _ => none) (fun _ _ => ()) () (fun _ _ _ _ => ()) () (fun _ _ _ _ => ()) () (fun _ _ _ _ _ _ _ _ _ _ _ _ _ _ _ _ _ _ => ()) (fun _ _ _ _ => ()) () (fun _ _ => ()) (x))
noncomputable def boolP (x:AV) (k:Bool → Option β) : Option β:=bindO (boolOf x) k
noncomputable def u64P (x:AV) (k:Nat → Option β) : Option β:=bindO (u64Of x) k
noncomputable def fnP (x:AV) (k:Nat → List AV → List AV → Option β) : Option β:=(@AV.rec (fun _ => Option β) (fun _ => Unit) (fun _ => Unit) (fun _ => Unit) (fun _ => Unit) (fun _ => Unit) (fun _ => Unit) (fun _ => none) (fun _ _ => none) (fun _ _ _ => none) (fun _ _ _ _ _ _ => none) (fun _ _ _ _ _ _ _ => none) (fun f a b _ _ => (@Fn.rec (fun _ => Option β) (fun g => k g a b) (fun _ => none) (fun _ _ => none) (fun _ _ _ _ => none) (fun _ => none) (f))) (fun _ _ => none) (fun _ _ => none) (fun _ => none) (fun _ _ => none) (fun _ _ => ()) () (fun _ _ _ _ => ()) () (fun _ _ _ _ => ()) () (fun _ _ _ _ _ _ _ _ _ _ _ _ _ _ _ _ _ _ => ()) (fun _ _ _ _ => ()) () (fun _ _ => ()) (x))
noncomputable def arg1 (l:List AV) (k:AV → Option β) : Option β:=uncons l fun a l => endL l (k a)
noncomputable def arg2 (l:List AV) (k:AV → AV → Option β) : Option β:=uncons l fun a l => uncons l fun b l => endL l (k a b)
noncomputable def arg3 (l:List AV) (k:AV → AV → AV → Option β) : Option β:=uncons l fun a l => uncons l fun b l => uncons l fun c l => endL l (k a b c)
theorem u64Of_some {x:AV} {n:Nat} (h:u64Of x = some n) : x = u64A n:=by
  cases x <;> try (cases h; done)
  rename_i z
  cases z <;> try (cases h; done)
  rename_i k m
  replace h : guardB (Nat.beq (kindNo k) 7) (Int.rec (fun a => force a some) (fun _ => none) m) = some n:=h
  replace h:=guardB_some.1 h; obtain ⟨hk,h⟩:=h
  have hk' : k = .u64:=by cases k <;> first | rfl | cases hk
  subst hk'
  cases m with
  | ofNat a => replace h : force a some = some n:=h; rw [force_eq] at h; cases h; rfl
  | negSucc _ => cases h
theorem boolOf_boolA {x:AV} {b:Bool} (h:boolOf x = some b) : x = boolA b:=by
  cases x <;> try (cases h; done)
  rename_i z
  cases z <;> try (cases h; done)
  cases h; rfl
theorem isNilS_true {x:AV} (h:isNilS x = true) : x = nilS:=by
  cases x <;> try (cases h; done)
  rename_i z
  cases z <;> try (cases h; done)
  rename_i a n c
  cases a with
  | some _ => cases h
  | none =>
    replace h : andB (Nat.beq n 0) (Nat.beq c 0) = true:=h
    obtain ⟨h1,h2⟩:=andB_true.1 h
    rw [beq_true.1 h1,beq_true.1 h2]
theorem uncons_some {l:List AV} {k:AV → List AV → Option β} {y : β} (h:uncons l k = some y) : ∃ x r,l = x::r ∧ k x r = some y:=by
  cases l with
  | nil => cases h
  | cons x r => exact ⟨x,r,rfl,h⟩
theorem endL_some {l:List AV} {z:Option β} {y : β} (h:endL l z = some y) : l = [] ∧ z = some y:=by
  cases l with
  | nil => exact ⟨rfl,h⟩
  | cons x r => cases h
theorem natCells_some {l:List AV} {k:Nat → List AV → Option β} {y : β} (h:natCells l k = some y) : ∃ n r,l = u64A n::nilS::r ∧ k n r = some y:=by
  replace h:=uncons_some h; obtain ⟨a,l1,rfl,h⟩:=h
  replace h:=uncons_some h; obtain ⟨b,l2,rfl,h⟩:=h
  replace h:=bindO_some.1 h; obtain ⟨n,h1,h⟩:=h
  replace h:=guardB_some.1 h; obtain ⟨h2,h⟩:=h
  obtain rfl:=u64Of_some h1
  obtain rfl:=isNilS_true h2
  exact ⟨n,l2,rfl,h⟩
theorem natP_some {x:AV} {k:Nat → Option β} {y : β} (h:natP x k = some y) : ∃ n,x = natA n ∧ k n = some y:=by
  cases x <;> try (cases h; done)
  replace h:=natCells_some h; obtain ⟨n,r,rfl,h⟩:=h
  replace h:=endL_some h; obtain ⟨rfl,h⟩:=h
  exact ⟨n,rfl,h⟩
theorem wholeP_some {x:AV} {k:Bool → Nat → Option β} {y : β} (h:wholeP x k = some y) : ∃ s n,x = wholeA s n ∧ k s n = some y:=by
  cases x <;> try (cases h; done)
  replace h:=uncons_some h; obtain ⟨a,l1,rfl,h⟩:=h
  replace h:=bindO_some.1 h; obtain ⟨s,h1,h⟩:=h
  obtain rfl:=boolOf_boolA h1
  replace h:=natCells_some h; obtain ⟨n,r,rfl,h⟩:=h
  replace h:=endL_some h; obtain ⟨rfl,h⟩:=h
  exact ⟨s,n,rfl,h⟩
theorem fracP_some {x:AV} {k:Bool → Nat → Nat → Option β} {y : β} (h:fracP x k = some y) : ∃ s n e,x = fracA s n e ∧ k s n e = some y:=by
  cases x <;> try (cases h; done)
  replace h:=uncons_some h; obtain ⟨a,l1,rfl,h⟩:=h
  replace h:=bindO_some.1 h; obtain ⟨s,h1,h⟩:=h
  obtain rfl:=boolOf_boolA h1
  replace h:=natCells_some h; obtain ⟨n,r,rfl,h⟩:=h
  replace h:=natCells_some h; obtain ⟨e,r,rfl,h⟩:=h
  replace h:=endL_some h; obtain ⟨rfl,h⟩:=h
  exact ⟨s,n,e,rfl,h⟩
theorem boolP_some {x:AV} {k:Bool → Option β} {y : β} (h:boolP x k = some y) : ∃ b,x = boolA b ∧ k b = some y:=by
  replace h:=bindO_some.1 h; obtain ⟨b,h1,h⟩:=h
  exact ⟨b,boolOf_boolA h1,h⟩
theorem u64P_some {x:AV} {k:Nat → Option β} {y : β} (h:u64P x k = some y) : ∃ n,x = u64A n ∧ k n = some y:=by
  replace h:=bindO_some.1 h; obtain ⟨b,h1,h⟩:=h
  exact ⟨b,u64Of_some h1,h⟩
theorem fnP_some {x:AV} {k:Nat → List AV → List AV → Option β} {y : β} (h:fnP x k = some y) : ∃ g a b,x = .fn (.func g) a b ∧ k g a b = some y:=by
  cases x <;> try (cases h; done)
  rename_i f a b
  cases f <;> try (cases h; done)
  exact ⟨_,a,b,rfl,h⟩
theorem arg1_some {l:List AV} {k:AV → Option β} {y : β} (h:arg1 l k = some y) : ∃ a,l = [a] ∧ k a = some y:=by
  replace h:=uncons_some h; obtain ⟨a,l1,rfl,h⟩:=h
  replace h:=endL_some h; obtain ⟨rfl,h⟩:=h
  exact ⟨a,rfl,h⟩
theorem arg2_some {l:List AV} {k:AV → AV → Option β} {y : β} (h:arg2 l k = some y) : ∃ a b,l = [a,b] ∧ k a b = some y:=by
  replace h:=uncons_some h; obtain ⟨a,l1,rfl,h⟩:=h
  replace h:=uncons_some h; obtain ⟨b,l1,rfl,h⟩:=h
  replace h:=endL_some h; obtain ⟨rfl,h⟩:=h
  exact ⟨a,b,rfl,h⟩
theorem arg3_some {l:List AV} {k:AV → AV → AV → Option β} {y : β} (h:arg3 l k = some y) : ∃ a b c,l = [a,b,c] ∧ k a b c = some y:=by
  replace h:=uncons_some h; obtain ⟨a,l1,rfl,h⟩:=h
  replace h:=uncons_some h; obtain ⟨b,l1,rfl,h⟩:=h
  replace h:=uncons_some h; obtain ⟨c,l1,rfl,h⟩:=h
  replace h:=endL_some h; obtain ⟨rfl,h⟩:=h
  exact ⟨a,b,c,rfl,h⟩
end
abbrev Q:=Option (AV × Bool)
noncomputable def pos (x:Nat) : Bool:=notB (Nat.beq x 0)
noncomputable def lt (x y:Nat) : Bool:=Nat.ble (Nat.succ x) y
noncomputable def cmpN (x y:Nat) : Int:=ifB (lt x y) (.negSucc 0) (ifB (lt y x) (.ofNat 1) (.ofNat 0))
noncomputable def len64 (x:Nat) : Nat:=ifB (Nat.beq x 0) 0 (Nat.succ (Nat.log2 x))
noncomputable def signI (s:Bool) (x:Nat) : Int:=ifB (Nat.beq x 0) (.ofNat 0) (ifB s (.negSucc 0) (.ofNat 1))
noncomputable def xorB (a b:Bool) : Bool:=ifB a (notB b) b
noncomputable def mk (s:Bool) (x:Nat) : Bool:=andB s (pos x)
abbrev ok : AV:=.v (.int .i64 (.ofNat 0))
noncomputable def eLen64 (l:List AV) : Q:=arg1 l fun a => u64P a fun x => some (i64A (.ofNat (len64 x)),small x)
noncomputable def eMul64 (l:List AV) : Q:=arg2 l fun a b => u64P a fun x => u64P b fun y => some (.tuple [u64A (Nat.div (Nat.mul x y) 18446744073709551616),u64A (Nat.mod (Nat.mul x y) 18446744073709551616)],andB (small x) (small y))
noncomputable def eAdd64 (l:List AV) : Q:=bindO (add64 l) fun v => some (v,true)
noncomputable def eSub64 (l:List AV) : Q:=bindO (sub64 l) fun v => some (v,true)
noncomputable def eNatOf (l:List AV) : Q:=arg1 l fun a => u64P a fun x => some (natA x,true)
noncomputable def eBits (l:List AV) : Q:=arg1 l fun a => natP a fun x => some (i64A (.ofNat (len64 x)),small x)
noncomputable def eNatCmp (l:List AV) : Q:=arg2 l fun a b => natP a fun x => natP b fun y => some (i64A (cmpN x y),true)
noncomputable def eNatAdd (l:List AV) : Q:=arg2 l fun a b => natP a fun x => natP b fun y => some (natA (Nat.add x y),small (Nat.add x y))
noncomputable def eNatSub (ok:AV) (l:List AV) : Q:=arg2 l fun a b => natP a fun x => natP b fun y => some (.tuple [natA (Nat.sub x y),ok],andB (Nat.ble y x) (small x))
noncomputable def eNatMul (l:List AV) : Q:=arg2 l fun a b => natP a fun x => natP b fun y => some (natA (Nat.mul x y),andB (small x) (andB (small y) (small (Nat.mul x y))))
noncomputable def eNatDiv (ok:AV) (l:List AV) : Q:=arg2 l fun a b => natP a fun x => natP b fun y => some (.tuple [natA (Nat.div x y),natA (Nat.mod x y),ok],andB (pos y) (andB (small x) (small y)))
noncomputable def eGcd (l:List AV) : Q:=arg2 l fun a b => natP a fun x => natP b fun y => some (natA (Nat.gcd x y),andB (small x) (small y))
noncomputable def eMake (l:List AV) : Q:=arg2 l fun a b => boolP a fun s => natP b fun x => some (wholeA (mk s x) x,small x)
noncomputable def eSign (l:List AV) : Q:=arg1 l fun a => wholeP a fun s x => some (i64A (signI s x),small x)
noncomputable def eAbs (l:List AV) : Q:=arg1 l fun a => wholeP a fun s x => some (natA x,true)
noncomputable def eCmp (l:List AV) : Q:=arg2 l fun a b => wholeP a fun s x => wholeP b fun t y => some (i64A (ifB s (ifB t (cmpN y x) (.negSucc 0)) (ifB t (.ofNat 1) (cmpN x y))),true)
noncomputable def eNeg (l:List AV) : Q:=arg1 l fun a => wholeP a fun s x => some (wholeA (mk (notB s) x) x,small x)
noncomputable def sumN (s:Bool) (x:Nat) (t:Bool) (y:Nat) : Nat:=ifB (xorB s t) (ifB (lt x y) (Nat.sub y x) (Nat.sub x y)) (Nat.add x y)
noncomputable def sumS (s:Bool) (x:Nat) (t:Bool) (y:Nat) : Bool:=mk (ifB (xorB s t) (ifB (lt x y) t s) s) (sumN s x t y)
noncomputable def sumC (s:Bool) (x:Nat) (t:Bool) (y:Nat) : Bool:=andB (small x) (andB (small y) (small (sumN s x t y)))
noncomputable def eAdd (l:List AV) : Q:=arg2 l fun a b => wholeP a fun s x => wholeP b fun t y => some (wholeA (sumS s x t y) (sumN s x t y),sumC s x t y)
noncomputable def eSub (l:List AV) : Q:=arg2 l fun a b => wholeP a fun s x => wholeP b fun t y => some (wholeA (sumS s x (mk (notB t) y) y) (sumN s x (mk (notB t) y) y),sumC s x (mk (notB t) y) y)
noncomputable def mulC (x y:Nat) : Bool:=andB (small x) (andB (small y) (small (Nat.mul x y)))
noncomputable def eMul (l:List AV) : Q:=arg2 l fun a b => wholeP a fun s x => wholeP b fun t y => some (wholeA (mk (xorB s t) (Nat.mul x y)) (Nat.mul x y),mulC x y)
noncomputable def lowN (n d:Nat) : Nat:=ifB (Nat.beq d 1) n (ifB (lt 1 (Nat.gcd n d)) (Nat.div n (Nat.gcd n d)) n)
noncomputable def lowS (s:Bool) (n d:Nat) : Bool:=ifB (Nat.beq d 1) s (ifB (lt 1 (Nat.gcd n d)) (mk (andB s (pos n)) (Nat.div n (Nat.gcd n d))) s)
noncomputable def lowE (n d:Nat) : Nat:=ifB (Nat.beq d 1) 0 (Nat.sub (ifB (lt 1 (Nat.gcd n d)) (Nat.div d (Nat.gcd n d)) d) 1)
noncomputable def lowC (n d:Nat) : Bool:=andB (pos d) (andB (small n) (small d))
noncomputable def lowA (s:Bool) (n d:Nat) : AV:=fracA (lowS s n d) (lowN n d) (lowE n d)
noncomputable def eLow (l:List AV) : Q:=arg2 l fun a b => wholeP a fun s n => natP b fun d => some (lowA s n d,lowC n d)
noncomputable def ePart (l:List AV) : Q:=arg2 l fun a b => natP a fun x => natP b fun y => some (natA (Nat.div x y),andB (pos y) (andB (small x) (small y)))
noncomputable def eOne (l:List AV) : Q:=endL l (some (natA 1,true))
noncomputable def eOf (l:List AV) : Q:=arg1 l fun a => wholeP a fun s x => some (fracA s x 0,true)
noncomputable def eNum (l:List AV) : Q:=arg1 l fun a => fracP a fun s n e => some (wholeA s n,true)
noncomputable def eDen (l:List AV) : Q:=arg1 l fun a => fracP a fun s n e => some (natA (Nat.add e 1),small (Nat.add e 1))
noncomputable def eFSign (l:List AV) : Q:=arg1 l fun a => fracP a fun s n e => some (i64A (signI s n),small n)
noncomputable def eEntire (l:List AV) : Q:=arg1 l fun a => fracP a fun s n e => some (boolA (Nat.beq e 0),small e)
noncomputable def eBy (l:List AV) : Q:=arg2 l fun a b => wholeP a fun s n => natP b fun d => some (wholeA (mk s (Nat.mul n d)) (Nat.mul n d),mulC n d)
noncomputable def eFNeg (l:List AV) : Q:=arg1 l fun a => fracP a fun s n e => some (fracA (mk (notB s) n) n e,small n)
noncomputable def joinQ (fN:Bool → Nat → Bool → Nat → Nat) (fS:Bool → Nat → Bool → Nat → Bool) (fC:Bool → Nat → Bool → Nat → Bool) (s:Bool) (n e:Nat) (t:Bool) (m f:Nat) : Q:=
  let n':=Nat.mul n (Nat.add f 1)
  let m':=Nat.mul m (Nat.add e 1)
  let s':=mk s n'
  let t':=mk t m'
  let d:=Nat.mul (Nat.add e 1) (Nat.add f 1)
  let ent:=andB (Nat.beq e 0) (Nat.beq f 0)
  some (fracA (ifB ent (fS s n t m) (lowS (fS s' n' t' m') (fN s' n' t' m') d)) (ifB ent (fN s n t m) (lowN (fN s' n' t' m') d)) (ifB ent 0 (lowE (fN s' n' t' m') d)),
    andB (small e) (andB (small f) (ifB ent (fC s n t m) (andB (small (Nat.add e 1)) (andB (small (Nat.add f 1)) (andB (mulC n (Nat.add f 1)) (andB (mulC m (Nat.add e 1)) (andB (fC s' n' t' m') (andB (mulC (Nat.add e 1) (Nat.add f 1)) (lowC (fN s' n' t' m') d))))))))))
noncomputable def subN (s:Bool) (x:Nat) (t:Bool) (y:Nat) : Nat:=sumN s x (mk (notB t) y) y
noncomputable def subS (s:Bool) (x:Nat) (t:Bool) (y:Nat) : Bool:=sumS s x (mk (notB t) y) y
noncomputable def subC (s:Bool) (x:Nat) (t:Bool) (y:Nat) : Bool:=sumC s x (mk (notB t) y) y
noncomputable def eFAdd (l:List AV) : Q:=arg2 l fun a b => fracP a fun s n e => fracP b fun t m f => joinQ sumN sumS sumC s n e t m f
noncomputable def eFSub (l:List AV) : Q:=arg2 l fun a b => fracP a fun s n e => fracP b fun t m f => joinQ subN subS subC s n e t m f
noncomputable def eJoin (fAdd fSub:Nat) (l:List AV) : Q:=arg3 l fun a b h => fracP a fun s n e => fracP b fun t m f => fnP h fun g p q => endL p (endL q
  (ifB (Nat.beq g fAdd) (joinQ sumN sumS sumC s n e t m f) (ifB (Nat.beq g fSub) (joinQ subN subS subC s n e t m f) none)))
noncomputable def eFMul (l:List AV) : Q:=arg2 l fun a b => fracP a fun s n e => fracP b fun t m f =>
  let p:=Nat.mul n m
  let d:=Nat.mul (Nat.add e 1) (Nat.add f 1)
  let ent:=andB (Nat.beq e 0) (Nat.beq f 0)
  some (fracA (ifB ent (mk (xorB s t) p) (lowS (mk (xorB s t) p) p d)) (ifB ent p (lowN p d)) (ifB ent 0 (lowE p d)),
    andB (small e) (andB (small f) (andB (mulC n m) (ifB ent true (andB (small (Nat.add e 1)) (andB (small (Nat.add f 1)) (andB (mulC (Nat.add e 1) (Nat.add f 1)) (lowC p d))))))))
noncomputable def eFCmp (l:List AV) : Q:=arg2 l fun a b => fracP a fun s n e => fracP b fun t m f =>
  let n':=Nat.mul n (Nat.add f 1)
  let m':=Nat.mul m (Nat.add e 1)
  let s':=mk s n'
  let t':=mk t m'
  let ent:=andB (Nat.beq e 0) (Nat.beq f 0)
  some (i64A (ifB ent (ifB s (ifB t (cmpN m n) (.negSucc 0)) (ifB t (.ofNat 1) (cmpN n m))) (ifB s' (ifB t' (cmpN m' n') (.negSucc 0)) (ifB t' (.ofNat 1) (cmpN n' m')))),
    andB (small e) (andB (small f) (ifB ent true (andB (small (Nat.add e 1)) (andB (small (Nat.add f 1)) (andB (mulC n (Nat.add f 1)) (mulC m (Nat.add e 1))))))))
noncomputable def eFMake (ok:AV) (l:List AV) : Q:=arg2 l fun a b => wholeP a fun s n => wholeP b fun t m =>
  some (.tuple [lowA (ifB t (mk (notB s) n) s) n m,ok],andB (pos m) (andB (small m) (lowC n m)))
noncomputable def eFDiv (ok:AV) (l:List AV) : Q:=arg2 l fun a b => fracP a fun s n e => fracP b fun t m f =>
  let p:=Nat.mul n (Nat.add f 1)
  let d:=Nat.mul (Nat.add e 1) m
  some (.tuple [lowA (mk (mk (xorB s t) n) p) p d,ok],andB (pos m) (andB (small m) (andB (small n) (andB (small (Nat.add e 1)) (andB (small (Nat.add f 1)) (andB (mulC n (Nat.add f 1)) (andB (mulC (Nat.add e 1) m) (lowC p d))))))))
def Ok (P:Program) (E:Es) (f:FuncId) : Prop:=∀ (l:List AV) (v:AV),E f l = some (v,true) → ∀ (X:Nat → Prop) (j:J) (w:World) (args:Array Value),(∀ B,X B → B < w.heap.size) → RelL X j w l args →
  Answers P f args w fun rv w' => Still w w' ∧ w.heap.size ≤ w'.heap.size ∧ (∀ B,B < w.heap.size → w'.heap[B]? = w.heap[B]?) ∧ Rel X j w' v rv
noncomputable def only (S:FuncId → Bool) (E:Es) : Es:=fun f l => guardB (S f) (E f l)
noncomputable def cxOf (P:Program) (E:Es) : Cx:={ P:=P,ext:=extOf E,nf:=fun _ => false,hb:=fun _ => false }
theorem extOk_of {P:Program} {E:Es} {S:FuncId → Bool} (h : ∀ f,S f = true → Ok P E f) : ExtOk (cxOf P (only S E)):=by
  intro f l v hx X j w args hX hr
  obtain ⟨h1,h2⟩:=guardB_some.1 (extOf_some.1 hx)
  exact h f h1 l v h2 X j w args hX hr
noncomputable def bare (d:Nat) : AV → Bool:=
  Nat.rec (fun _ => false) (fun _ ih x => (@AV.rec (fun _ => Bool) (fun _ => Unit) (fun _ => Unit) (fun _ => Unit) (fun _ => Unit) (fun _ => Unit) (fun _ => Unit) (fun _ => true) (fun _ _ => false) (fun _ _ _ => false) (fun _ _ _ _ _ _ => false) (fun _ _ _ _ _ _ _ => false) (fun _ a b _ _ => andB (allB ih a) (allB ih b)) (fun l _ => allB ih l) (fun l _ => allB ih l) (fun _ => false) (fun _ _ => false) (fun _ _ => ()) () (fun _ _ _ _ => ()) () (fun _ _ _ _ => ()) () (fun _ _ _ _ _ _ _ _ _ _ _ _ _ _ _ _ _ _ => ()) (fun _ _ _ _ => ()) () (fun _ _ => ()) (x))) d
theorem bare_succ (d:Nat) (x:AV) : bare (d + 1) x = (match x with | .v _ => true | .agg l => allB (bare d) l | .tuple l => allB (bare d) l | .fn _ a b => andB (allB (bare d) a) (allB (bare d) b) | _ => false):=by cases x <;> rfl
theorem Rel.bare (d:Nat) : ∀ {X X' : Nat → Prop} {j j' : J} {w w' : World} {x:AV} {v:Value},Rel X j w x v → Go.Abs.bare d x = true → Rel X' j' w' x v:=by
  induction d with
  | zero => intro X X' j j' w w' x v h hf; cases hf
  | succ d ih =>
    intro X X' j j' w w' x v h hf
    rw [bare_succ] at hf
    cases h with
    | v hp => exact .v hp
    | fn h1 r1 h2 r2 =>
      obtain ⟨f1,f2⟩:=andB_true.1 hf
      exact .fn h1 (fun i x y hx hy => ih (r1 i x y hx hy) (allB_true.1 f1 x (List.mem_of_getElem? hx))) h2 (fun i x y hx hy => ih (r2 i x y hx hy) (allB_true.1 f2 x (List.mem_of_getElem? hx)))
    | agg h1 r1 => exact .agg h1 (fun i x y hx hy => ih (r1 i x y hx hy) (allB_true.1 hf x (List.mem_of_getElem? hx)))
    | tuple h1 r1 => exact .tuple h1 (fun i x y hx hy => ih (r1 i x y hx hy) (allB_true.1 hf x (List.mem_of_getElem? hx)))
    | hp _ => cases hf
    | hs _ _ _ _ _ => cases hf
    | vp f a b c e => cases hf
    | vs f a b c e g k m => cases hf
    | hm _ => cases hf
    | vm a b c e g k => cases hf
theorem ok_of {P:Program} {E:Es} {C:Cx} (hP:C.P = P) (hm:P.follows .mixedOrders = true) (hext:ExtOk C) {f:FuncId}
    (h : ∀ l v,E f l = some (v,true) → allB (bare 4) l = true ∧ bare 4 v = true ∧ ∃ n rd,Go.Abs.call C n f l = .value v rd) : Ok P E f:=by
  subst hP
  intro l v hv X j w args hX hr
  obtain ⟨h1,h2,n,rd,h3⟩:=h l v hv
  refine (call_sound hm hext h3 w args ⟨hr.1,fun i x y hx hy => (hr.2 i x y hx hy).bare 4 (allB_true.1 h1 x (List.mem_of_getElem? hx))⟩).mono fun rv w' ⟨g0,g1,g2,g3⟩ => ⟨g0,g1,g2,g3.bare 4 h2⟩
theorem ok_sym {P:Program} {E:Es} {S:FuncId → Bool} (hm:P.follows .mixedOrders = true) (hS : ∀ f,S f = true → Ok P E f) {f:FuncId} (hf:S f = false)
    (h : ∀ l v,E f l = some (v,true) → allB (bare 4) l = true ∧ bare 4 v = true ∧ ∃ n ds ds' ob,symCall (cxOf P (only S E)) (only S E) n f l ds = some (.value v (some []),ds',ob) ∧ Met ob) : Ok P E f:=
  ok_of (C:=cxOf P (only S E)) rfl hm (extOk_of hS) fun l v hv => by
    obtain ⟨h1,h2,n,ds,ds',ob,h3,h4⟩:=h l v hv
    exact ⟨h1,h2,n,_,symCall_ok rfl (by show extOf _ f l = none; unfold extOf only; rw [hf]; rfl) h3 h4⟩
abbrev B64 : Nat:=18446744073709551616
theorem small_t {x:Nat} : small x = true ↔ x < 18446744073709551616:=by unfold small; rw [ble_true]; omega
theorem ble_f {a b:Nat} : Nat.ble a b = false ↔ b < a:=by
  cases h : Nat.ble a b with
  | true => have:=ble_true.1 h; simp; omega
  | false => simp; apply Nat.lt_of_not_le; intro hle; rw [ble_true.2 hle] at h; cases h
theorem beq_f {a b:Nat} : Nat.beq a b = false ↔ a ≠ b:=by
  cases h : Nat.beq a b with
  | true => have:=beq_true.1 h; simp [this]
  | false => simp; intro e; rw [beq_true.2 e] at h; cases h
theorem notB_t {b:Bool} : notB b = true ↔ b = false:=by cases b <;> simp [notB]
theorem notB_f {b:Bool} : notB b = false ↔ b = true:=by cases b <;> simp [notB]
theorem pos_t {x:Nat} : pos x = true ↔ x ≠ 0:=by unfold pos; rw [notB_t,beq_f]
theorem pos_f {x:Nat} : pos x = false ↔ x = 0:=by unfold pos; rw [notB_f,beq_true]
theorem lt_t {x y:Nat} : lt x y = true ↔ x < y:=by unfold lt; rw [ble_true]; omega
theorem lt_f {x y:Nat} : lt x y = false ↔ y ≤ x:=by unfold lt; rw [ble_f]; omega
theorem eqI_t {a b:Nat} : eqI (Int.ofNat a) (Int.ofNat b) = true ↔ a = b:=beq_true
theorem eqI_f {a b:Nat} : eqI (Int.ofNat a) (Int.ofNat b) = false ↔ a ≠ b:=beq_f
theorem eqI0_t {a:Nat} : eqI (Int.ofNat a) 0 = true ↔ a = 0:=beq_true
theorem eqI0_f {a:Nat} : eqI (Int.ofNat a) 0 = false ↔ a ≠ 0:=beq_f
theorem eqI1_t {a:Nat} : eqI (Int.ofNat a) 1 = true ↔ a = 1:=beq_true
theorem eqI1_f {a:Nat} : eqI (Int.ofNat a) 1 = false ↔ a ≠ 1:=beq_f
theorem ltI_t {a b:Nat} : ltI (Int.ofNat a) (Int.ofNat b) = true ↔ a < b:=lt_t
theorem ltI_f {a b:Nat} : ltI (Int.ofNat a) (Int.ofNat b) = false ↔ b ≤ a:=lt_f
theorem ltI0_t {b:Nat} : ltI 0 (Int.ofNat b) = true ↔ 0 < b:=lt_t
theorem ltI0_f {b:Nat} : ltI 0 (Int.ofNat b) = false ↔ b ≤ 0:=lt_f
theorem ltI1_t {b:Nat} : ltI 1 (Int.ofNat b) = true ↔ 1 < b:=lt_t
theorem ltI1_f {b:Nat} : ltI 1 (Int.ofNat b) = false ↔ b ≤ 1:=lt_f
theorem cmpN_lt {x y:Nat} (h:x < y) : cmpN x y = .negSucc 0:=by unfold cmpN; rw [lt_t.2 h]; rfl
theorem cmpN_gt {x y:Nat} (h:y < x) : cmpN x y = .ofNat 1:=by unfold cmpN; rw [lt_f.2 (by omega),lt_t.2 h]; rfl
theorem cmpN_eq {x y:Nat} (h:x = y) : cmpN x y = .ofNat 0:=by unfold cmpN; rw [lt_f.2 (by omega),lt_f.2 (by omega)]; rfl
theorem cmpN_t {x y:Nat} : ltI (cmpN x y) 0 = true ↔ x < y:=by
  rcases Nat.lt_trichotomy x y with h | h | h
  · rw [cmpN_lt h]; exact ⟨fun _ => h,fun _ => rfl⟩
  · rw [cmpN_eq h]; exact ⟨fun e => (by cases e),fun e => by omega⟩
  · rw [cmpN_gt h]; exact ⟨fun e => (by cases e),fun e => by omega⟩
theorem cmpN_f {x y:Nat} : ltI (cmpN x y) 0 = false ↔ y ≤ x:=by
  have:=@cmpN_t x y
  cases h : ltI (cmpN x y) 0 <;> simp [h] at this ⊢ <;> omega
theorem len64_zero {x:Nat} : len64 x = 0 ↔ x = 0:=by
  unfold len64
  cases h : Nat.beq x 0 with
  | true => have:=beq_true.1 h; simp [ifB_true,this]
  | false => have:=beq_f.1 h; rw [ifB_false]; omega
theorem len64_le_one {x:Nat} : len64 x ≤ 1 ↔ x ≤ 1:=by
  unfold len64
  cases h : Nat.beq x 0 with
  | true => have:=beq_true.1 h; rw [ifB_true]; omega
  | false =>
    have:=beq_f.1 h
    rw [ifB_false]
    have h2 : Nat.log2 x < 1 ↔ x < 2:=by
      rw [Nat.log2_lt this]
    omega
theorem len64_one {x:Nat} : len64 x = 1 ↔ x = 1:=by
  have h1:=@len64_zero x
  have h2:=@len64_le_one x
  omega
theorem len64_pos {x:Nat} : 0 < len64 x ↔ x ≠ 0:=by have:=@len64_zero x; omega
theorem len64_one_lt {x:Nat} : 1 < len64 x ↔ 1 < x:=by have:=@len64_le_one x; omega
theorem len64_le_zero {x:Nat} : len64 x ≤ 0 ↔ x = 0:=by have:=@len64_zero x; omega
theorem signI_neg (s:Bool) (x:Nat) : ltI (signI s x) 0 = andB s (pos x):=by
  unfold signI pos
  cases Nat.beq x 0 <;> cases s <;> rfl
theorem signI_zero (s:Bool) (x:Nat) : eqI (signI s x) 0 = Nat.beq x 0:=by
  unfold signI
  cases Nat.beq x 0 <;> cases s <;> rfl
theorem pos_len (x:Nat) : ltI 0 (Int.ofNat (len64 x)) = pos x:=by
  cases h : pos x with
  | true => rw [ltI0_t,len64_pos]; exact pos_t.1 h
  | false => rw [ltI0_f,len64_le_zero]; exact pos_f.1 h
theorem mk_true (x:Nat) : mk true x = pos x:=rfl
theorem mk_false (x:Nat) : mk false x = false:=rfl
theorem met_cons {a b:Bool} {l:Ob} (h:a = b) (hl:Met l) : Met ((a,b)::l):=⟨h,hl⟩
theorem met_nil : Met []:=trivial
theorem q_some {v v' : AV} {c:Bool} (h:(some (v,c) : Q) = some (v',true)) : v = v' ∧ c = true:=by cases h; exact ⟨rfl,rfl⟩
theorem leaf_ok {C:Cx} {E:Es} {f:FuncId} {l:List AV} {v v' : AV} {n:Nat} {ds ds' : List Dc} {ob:Ob} (h:symCall C E n f l ds = some (.value v' (some []),ds',ob)) (hv:v = v') (hm:Met ob) :
    ∃ n ds ds' ob,symCall C E n f l ds = some (.value v (some []),ds',ob) ∧ Met ob:=⟨n,ds,ds',ob,by rw [hv]; exact h,hm⟩
theorem natA_c {x x' : Nat} (h:x = x') : natA x = natA x':=by rw [h]
theorem wholeA_c {s s' : Bool} {x x' : Nat} (h1:s = s') (h:x = x') : wholeA s x = wholeA s' x':=by rw [h,h1]
theorem fracA_c {s s' : Bool} {x x' e e' : Nat} (h1:s = s') (h:x = x') (h2:e = e') : fracA s x e = fracA s' x' e':=by rw [h,h1,h2]
theorem i64A_c {x x' : Int} (h:x = x') : i64A x = i64A x':=by rw [h]
theorem boolA_c {x x' : Bool} (h:x = x') : boolA x = boolA x':=by rw [h]
theorem tuple2_c {a a' b b' : AV} (h1:a = a') (h2:b = b') : AV.tuple [a,b] = AV.tuple [a',b']:=by rw [h1,h2]
theorem tuple3_c {a a' b b' c c' : AV} (h1:a = a') (h2:b = b') (h3:c = c') : AV.tuple [a,b,c] = AV.tuple [a',b',c']:=by rw [h1,h2,h3]
theorem mem_step {P:Program} {E:Es} {L:List Nat} {f:Nat} (h : ∀ g,memN g L = true → Ok P E g) (hf:Ok P E f) : ∀ g,memN g (f::L) = true → Ok P E g:=by
  intro g hg
  replace hg : ifB (Nat.beq g f) true (memN g L) = true:=hg
  cases e : Nat.beq g f with
  | true => rw [beq_true.1 e]; exact hf
  | false => rw [e,ifB_false] at hg; exact h g hg
theorem ok_carry {P:Program} {E:Es} {f:FuncId} {g:List AV → Option AV} (he : ∀ l,E f l = bindO (g l) fun v => some (v,true))
    (h : ∀ (X:Nat → Prop) (j:J) (w:World) (l:List AV) (v:AV) (args:Array Value),g l = some v → RelL X j w l args → Answers P f args w fun rv w' => Still w w' ∧ w.heap.size ≤ w'.heap.size ∧ (∀ B,B < w.heap.size → w'.heap[B]? = w.heap[B]?) ∧ Rel X j w' v rv) : Ok P E f:=by
  intro l v hv X j w args _ hr
  rw [he] at hv
  obtain ⟨u,h1,h2⟩:=bindO_some.1 hv
  cases h2
  exact h X j w l _ args h1 hr
theorem RelL_one {X:Nat → Prop} {j:J} {w:World} {x:AV} {args:Array Value} (h:RelL X j w [x] args) : ∃ v,args = #[v] ∧ Rel X j w x v:=by
  rcases args with ⟨args⟩
  match args,(show args.length = 1 by have:=h.1; simpa using this.symm) with
  | [v],_ => exact ⟨v,rfl,h.2 0 x v rfl rfl⟩
theorem RelL_two {X:Nat → Prop} {j:J} {w:World} {x y:AV} {args:Array Value} (h:RelL X j w [x,y] args) : ∃ v u,args = #[v,u] ∧ Rel X j w x v ∧ Rel X j w y u:=by
  rcases args with ⟨args⟩
  match args,(show args.length = 2 by have:=h.1; simpa using this.symm) with
  | [v,u],_ => exact ⟨v,u,rfl,h.2 0 x v rfl rfl,h.2 1 y u rfl rfl⟩
theorem ok_len64 {P:Program} {E:Es} {f:FuncId} {C:Cx} {p:Func × Code} (hP:C.P = P) (hp:funcOf C f = some p) (he : ∀ l,E f l = eLen64 l)
    (h : ∀ (x:Nat) (w:World),x < 18446744073709551616 → Calls P f #[.int .u64 x] w fun e w' => e = .returned (.int .i64 (len64 x)) ∧ w' = w) : Ok P E f:=by
  subst hP
  intro l v hv X j w args _ hr
  rw [he] at hv
  replace hv:=arg1_some hv; obtain ⟨a,rfl,hv⟩:=hv
  replace hv:=u64P_some hv; obtain ⟨x,rfl,hv⟩:=hv
  obtain ⟨rfl,hc⟩:=q_some hv
  obtain ⟨u,rfl,hu⟩:=RelL_one hr
  obtain ⟨rfl,_⟩:=hu.v_eq
  obtain ⟨hfn,hen⟩:=funcOf_some hp
  refine .inr ⟨run_callFunc hfn hen,Calls.mono (h x w (small_t.1 hc)) ?_⟩
  rintro e w' ⟨rfl,rfl⟩
  exact ⟨_,rfl,Still.refl _,Nat.le_refl _,fun _ _ => rfl,.v rfl⟩
theorem ok_mul64 {P:Program} {E:Es} {f:FuncId} {C:Cx} {p:Func × Code} (hP:C.P = P) (hp:funcOf C f = some p) (he : ∀ l,E f l = eMul64 l)
    (h : ∀ (x y:Nat) (_:x < 18446744073709551616) (_:y < 18446744073709551616) (w:World),Calls P f #[.int .u64 x,.int .u64 y] w fun e w' =>
      e = .returned (.tuple #[.int .u64 ((x * y / 18446744073709551616 : Nat) : Int),.int .u64 ((x * y % 18446744073709551616 : Nat) : Int)]) ∧ w' = w) : Ok P E f:=by
  subst hP
  intro l v hv X j w args _ hr
  rw [he] at hv
  replace hv:=arg2_some hv; obtain ⟨a,b,rfl,hv⟩:=hv
  replace hv:=u64P_some hv; obtain ⟨x,rfl,hv⟩:=hv
  replace hv:=u64P_some hv; obtain ⟨y,rfl,hv⟩:=hv
  obtain ⟨rfl,hc⟩:=q_some hv
  obtain ⟨c1,c2⟩:=andB_true.1 hc
  obtain ⟨u,t,rfl,hu,ht⟩:=RelL_two hr
  obtain ⟨rfl,_⟩:=hu.v_eq
  obtain ⟨rfl,_⟩:=ht.v_eq
  obtain ⟨hfn,hen⟩:=funcOf_some hp
  refine .inr ⟨run_callFunc hfn hen,Calls.mono (h x y (small_t.1 c1) (small_t.1 c2) w) ?_⟩
  rintro e w' ⟨rfl,rfl⟩
  exact ⟨_,rfl,Still.refl _,Nat.le_refl _,fun _ _ => rfl,pair_rel⟩
noncomputable def tblOf : List (Nat × (List AV → Q)) → T (List AV → Q)
  | [] => T.nil
  | p::l => T.set p.1 p.2 (tblOf l)
theorem tblOf_none {f:Nat} : ∀ {l:List (Nat × (List AV → Q))},memN f (l.map (·.1)) = false → (tblOf l).get f = none
  | [],_ => T.get_nil ..
  | p::l,h => by
    replace h : ifB (Nat.beq f p.1) true (memN f (l.map (·.1))) = false:=h
    show (T.set p.1 p.2 (tblOf l)).get f = none
    cases e : Nat.beq f p.1 with
    | true => rw [e] at h; cases h
    | false =>
      rw [e,ifB_false] at h
      rw [T.get_set,if_neg (beq_f.1 e)]
      exact tblOf_none h
theorem extOk_all {P:Program} {E:Es} {C:Cx} (hP:C.P = P) (hx:C.ext = extOf E) (h : ∀ f,Ok P E f) : ExtOk C:=by
  subst hP
  intro f l v hv X j w args hX hr
  rw [hx] at hv
  exact h f l v (extOf_some.1 hv) X j w args hX hr
section
variable {β:Type}
noncomputable def fracCells (l:List AV) (k:Bool → Nat → Nat → List AV → Option β) : Option β:=uncons l fun a l => bindO (boolOf a) fun s => natCells l fun n l => natCells l fun e l => k s n e l
theorem fracCells_some {l:List AV} {k:Bool → Nat → Nat → List AV → Option β} {y : β} (h:fracCells l k = some y) : ∃ s n e r,l = boolA s::u64A n::nilS::u64A e::nilS::r ∧ k s n e r = some y:=by
  replace h:=uncons_some h; obtain ⟨a,l1,rfl,h⟩:=h
  replace h:=bindO_some.1 h; obtain ⟨s,h1,h⟩:=h
  obtain rfl:=boolOf_boolA h1
  replace h:=natCells_some h; obtain ⟨n,r,rfl,h⟩:=h
  replace h:=natCells_some h; obtain ⟨e,r,rfl,h⟩:=h
  exact ⟨s,n,e,r,rfl,h⟩
abbrev vecA (s:Bool) (x d:Nat) (s1:Bool) (x1 d1:Nat) (s2:Bool) (x2 d2:Nat) : AV:=
  .agg [boolA s,u64A x,nilS,u64A d,nilS,boolA s1,u64A x1,nilS,u64A d1,nilS,boolA s2,u64A x2,nilS,u64A d2,nilS]
abbrev planeA (s:Bool) (x d:Nat) (s1:Bool) (x1 d1:Nat) (s2:Bool) (x2 d2:Nat) (s3:Bool) (x3 d3:Nat) : AV:=
  .agg [boolA s,u64A x,nilS,u64A d,nilS,boolA s1,u64A x1,nilS,u64A d1,nilS,boolA s2,u64A x2,nilS,u64A d2,nilS,boolA s3,u64A x3,nilS,u64A d3,nilS]
noncomputable def vecP (x:AV) (k:Bool → Nat → Nat → Bool → Nat → Nat → Bool → Nat → Nat → Option β) : Option β:=
  (@AV.rec (fun _ => Option β) (fun _ => Unit) (fun _ => Unit) (fun _ => Unit) (fun _ => Unit) (fun _ => Unit) (fun _ => Unit) (fun _ => none) (fun _ _ => none) (fun _ _ _ => none) (fun _ _ _ _ _ _ => none) (fun _ _ _ _ _ _ _ => none) (fun _ _ _ _ _ => none) (fun l _ => fracCells l fun s x d l => fracCells l fun s1 x1 d1 l => fracCells l fun s2 x2 d2 l => endL l (k s x d s1 x1 d1 s2 x2 d2)) (fun _ _ => none) (fun _ => none) (fun _ _ => none) (fun _ _ => ()) () (fun _ _ _ _ => ()) () (fun _ _ _ _ => ()) () (fun _ _ _ _ _ _ _ _ _ _ _ _ _ _ _ _ _ _ => ()) (fun _ _ _ _ => ()) () (fun _ _ => ()) (x))
noncomputable def planeP (x:AV) (k:Bool → Nat → Nat → Bool → Nat → Nat → Bool → Nat → Nat → Bool → Nat → Nat → Option β) : Option β:=
  (@AV.rec (fun _ => Option β) (fun _ => Unit) (fun _ => Unit) (fun _ => Unit) (fun _ => Unit) (fun _ => Unit) (fun _ => Unit) (fun _ => none) (fun _ _ => none) (fun _ _ _ => none) (fun _ _ _ _ _ _ => none) (fun _ _ _ _ _ _ _ => none) (fun _ _ _ _ _ => none) (fun l _ => fracCells l fun s x d l => fracCells l fun s1 x1 d1 l => fracCells l fun s2 x2 d2 l => fracCells l fun s3 x3 d3 l => endL l (k s x d s1 x1 d1 s2 x2 d2 s3 x3 d3)) (fun _ _ => none) (fun _ => none) (fun _ _ => none) (fun _ _ => ()) () (fun _ _ _ _ => ()) () (fun _ _ _ _ => ()) () (fun _ _ _ _ _ _ _ _ _ _ _ _ _ _ _ _ _ _ => ()) (fun _ _ _ _ => ()) () (fun _ _ => ()) (x))
theorem vecP_some {x:AV} {k:Bool → Nat → Nat → Bool → Nat → Nat → Bool → Nat → Nat → Option β} {y : β} (h:vecP x k = some y) : ∃ s x0 d s1 x1 d1 s2 x2 d2,x = vecA s x0 d s1 x1 d1 s2 x2 d2 ∧ k s x0 d s1 x1 d1 s2 x2 d2 = some y:=by
  cases x <;> try (cases h; done)
  replace h:=fracCells_some h; obtain ⟨s,x0,d,r,rfl,h⟩:=h
  replace h:=fracCells_some h; obtain ⟨s1,x1,d1,r,rfl,h⟩:=h
  replace h:=fracCells_some h; obtain ⟨s2,x2,d2,r,rfl,h⟩:=h
  replace h:=endL_some h; obtain ⟨rfl,h⟩:=h
  exact ⟨s,x0,d,s1,x1,d1,s2,x2,d2,rfl,h⟩
theorem planeP_some {x:AV} {k:Bool → Nat → Nat → Bool → Nat → Nat → Bool → Nat → Nat → Bool → Nat → Nat → Option β} {y : β} (h:planeP x k = some y) :
    ∃ s x0 d s1 x1 d1 s2 x2 d2 s3 x3 d3,x = planeA s x0 d s1 x1 d1 s2 x2 d2 s3 x3 d3 ∧ k s x0 d s1 x1 d1 s2 x2 d2 s3 x3 d3 = some y:=by
  cases x <;> try (cases h; done)
  replace h:=fracCells_some h; obtain ⟨s,x0,d,r,rfl,h⟩:=h
  replace h:=fracCells_some h; obtain ⟨s1,x1,d1,r,rfl,h⟩:=h
  replace h:=fracCells_some h; obtain ⟨s2,x2,d2,r,rfl,h⟩:=h
  replace h:=fracCells_some h; obtain ⟨s3,x3,d3,r,rfl,h⟩:=h
  replace h:=endL_some h; obtain ⟨rfl,h⟩:=h
  exact ⟨s,x0,d,s1,x1,d1,s2,x2,d2,s3,x3,d3,rfl,h⟩
noncomputable def intP (x:AV) (k:Int → Option β) : Option β:=onInt x none fun i n => guardB (Nat.beq (kindNo i) 3) (k n)
theorem intP_some {x:AV} {k:Int → Option β} {y : β} (h:intP x k = some y) : ∃ n,x = i64A n ∧ k n = some y:=by
  cases x <;> try (cases h; done)
  rename_i z
  cases z <;> try (cases h; done)
  rename_i i n
  obtain ⟨h1,h⟩:=guardB_some.1 (show guardB (Nat.beq (kindNo i) 3) (k n) = some y from h)
  have hk : i = .i64:=by cases i <;> first | rfl | cases h1
  subst hk
  exact ⟨n,rfl,h⟩
noncomputable def callQ (q:Q) (k:AV → Option β) : Option β:=bindO q fun p => Prod.rec (fun v c => guardB c (forceV v k)) p
theorem callQ_some {q:Q} {k:AV → Option β} {y : β} (h:callQ q k = some y) : ∃ v,q = some (v,true) ∧ k v = some y:=by
  replace h:=bindO_some.1 h; obtain ⟨⟨v,c⟩,rfl,h⟩:=h
  replace h : guardB c (forceV v k) = some y:=h
  rw [forceV_eq] at h
  obtain ⟨rfl,h⟩:=guardB_some.1 h
  exact ⟨v,rfl,h⟩
noncomputable def callF (q:Q) (k:Bool → Nat → Nat → Option β) : Option β:=callQ q fun v => fracP v k
noncomputable def callW (q:Q) (k:Bool → Nat → Option β) : Option β:=callQ q fun v => wholeP v k
noncomputable def callN (q:Q) (k:Nat → Option β) : Option β:=callQ q fun v => natP v k
noncomputable def callI (q:Q) (k:Int → Option β) : Option β:=callQ q fun v => intP v k
noncomputable def callB (q:Q) (k:Bool → Option β) : Option β:=callQ q fun v => boolP v k
noncomputable def callV (q:Q) (k:Bool → Nat → Nat → Bool → Nat → Nat → Bool → Nat → Nat → Option β) : Option β:=callQ q fun v => vecP v k
noncomputable def callT (q:Q) (k:Nat → Nat → Option β) : Option β:=callQ q fun v => (@AV.rec (fun _ => Option β) (fun _ => Unit) (fun _ => Unit) (fun _ => Unit) (fun _ => Unit) (fun _ => Unit) (fun _ => Unit) (fun _ => none) (fun _ _ => none) (fun _ _ _ => none) (fun _ _ _ _ _ _ => none) (fun _ _ _ _ _ _ _ => none) (fun _ _ _ _ _ => none) (fun _ _ => none) (fun l _ => arg3 l fun a b c => natP a fun x => natP b fun y => intP c fun z => guardB (eqI z 0) (k x y)) (fun _ => none) (fun _ _ => none) (fun _ _ => ()) () (fun _ _ _ _ => ()) () (fun _ _ _ _ => ()) () (fun _ _ _ _ _ _ _ _ _ _ _ _ _ _ _ _ _ _ => ()) (fun _ _ _ _ => ()) () (fun _ _ => ()) (v))
theorem callF_some {q:Q} {k:Bool → Nat → Nat → Option β} {y : β} (h:callF q k = some y) : ∃ s n e,q = some (fracA s n e,true) ∧ k s n e = some y:=by
  obtain ⟨v,h1,h⟩:=callQ_some h; obtain ⟨s,n,e,rfl,h⟩:=fracP_some h; exact ⟨s,n,e,h1,h⟩
theorem callW_some {q:Q} {k:Bool → Nat → Option β} {y : β} (h:callW q k = some y) : ∃ s n,q = some (wholeA s n,true) ∧ k s n = some y:=by
  obtain ⟨v,h1,h⟩:=callQ_some h; obtain ⟨s,n,rfl,h⟩:=wholeP_some h; exact ⟨s,n,h1,h⟩
theorem callN_some {q:Q} {k:Nat → Option β} {y : β} (h:callN q k = some y) : ∃ n,q = some (natA n,true) ∧ k n = some y:=by
  obtain ⟨v,h1,h⟩:=callQ_some h; obtain ⟨n,rfl,h⟩:=natP_some h; exact ⟨n,h1,h⟩
theorem callI_some {q:Q} {k:Int → Option β} {y : β} (h:callI q k = some y) : ∃ n,q = some (i64A n,true) ∧ k n = some y:=by
  obtain ⟨v,h1,h⟩:=callQ_some h; obtain ⟨n,rfl,h⟩:=intP_some h; exact ⟨n,h1,h⟩
theorem callB_some {q:Q} {k:Bool → Option β} {y : β} (h:callB q k = some y) : ∃ b,q = some (boolA b,true) ∧ k b = some y:=by
  obtain ⟨v,h1,h⟩:=callQ_some h; obtain ⟨b,rfl,h⟩:=boolP_some h; exact ⟨b,h1,h⟩
theorem callV_some {q:Q} {k:Bool → Nat → Nat → Bool → Nat → Nat → Bool → Nat → Nat → Option β} {y : β} (h:callV q k = some y) : ∃ s x0 d s1 x1 d1 s2 x2 d2,q = some (vecA s x0 d s1 x1 d1 s2 x2 d2,true) ∧ k s x0 d s1 x1 d1 s2 x2 d2 = some y:=by
  obtain ⟨v,h1,h⟩:=callQ_some h; obtain ⟨s,x0,d,s1,x1,d1,s2,x2,d2,rfl,h⟩:=vecP_some h; exact ⟨s,x0,d,s1,x1,d1,s2,x2,d2,h1,h⟩
theorem callT_some {q:Q} {k:Nat → Nat → Option β} {y : β} (h:callT q k = some y) : ∃ n m,q = some (.tuple [natA n,natA m,i64A (.ofNat 0)],true) ∧ k n m = some y:=by
  obtain ⟨v,h1,h⟩:=callQ_some h
  cases v <;> try (cases h; done)
  replace h:=arg3_some h; obtain ⟨a,b,c,rfl,h⟩:=h
  replace h:=natP_some h; obtain ⟨n,rfl,h⟩:=h
  replace h:=natP_some h; obtain ⟨m,rfl,h⟩:=h
  replace h:=intP_some h; obtain ⟨z,rfl,h⟩:=h
  obtain ⟨h2,h⟩:=guardB_some.1 h
  have hz : z = .ofNat 0:=by
    cases z with
    | ofNat a => rw [show a = 0 from beq_true.1 h2]
    | negSucc a => cases h2
  subst hz
  exact ⟨n,m,h1,h⟩
end
noncomputable def clip (l:List AV) : Option AV:=arg1 l fun a => (@AV.rec (fun _ => Option AV) (fun _ => Unit) (fun _ => Unit) (fun _ => Unit) (fun _ => Unit) (fun _ => Unit) (fun _ => Unit) (fun _ => none) (fun _ _ => none) (fun _ _ _ => none) (fun b off len es _ _ => some (.hs b off len es len true)) (fun _ _ _ _ _ _ _ => none) (fun _ _ _ _ _ => none) (fun _ _ => none) (fun _ _ => none) (fun _ => none) (fun _ _ => none) (fun _ _ => ()) () (fun _ _ _ _ => ()) () (fun _ _ _ _ => ()) () (fun _ _ _ _ _ _ _ _ _ _ _ _ _ _ _ _ _ _ => ()) (fun _ _ _ _ => ()) () (fun _ _ => ()) (a))
theorem clip_ok {P:Program} {f:FuncId} {C:Cx} {p:Func × Code} (hP:C.P = P) (hp:funcOf C f = some p)
    (h : ∀ (B o len c:Nat),len ≤ c → ∀ w,Calls P f #[.slice (some ⟨B,o,none⟩) len c] w fun e w' => e = .returned (.slice (some ⟨B,o,none⟩) len len) ∧ w' = w)
    {l:List AV} {v:AV} (hv:clip l = some v) {X:Nat → Prop} {j:J} {w:World} {args:Array Value} (hr:RelL X j w l args) :
    Answers P f args w fun rv w' => Still w w' ∧ w.heap.size ≤ w'.heap.size ∧ (∀ B,B < w.heap.size → w'.heap[B]? = w.heap[B]?) ∧ Rel X j w' v rv:=by
  subst hP
  replace hv:=arg1_some hv; obtain ⟨a,rfl,hv⟩:=hv
  cases a <;> try (cases hv; done)
  rename_i b off len es lo ex
  cases hv
  obtain ⟨u,rfl,hu⟩:=RelL_one hr
  obtain ⟨hfn,hen⟩:=funcOf_some hp
  cases hu with
  | hs hb k1 k2 k3 k4 =>
    rename_i B S o c
    refine .inr ⟨run_callFunc hfn hen,Calls.mono (h B o len c (by omega) w) ?_⟩
    rintro e w' ⟨rfl,rfl⟩
    refine ⟨_,rfl,Still.refl _,Nat.le_refl _,fun _ _ => rfl,.hs hb (Nat.le_refl _) (Nat.le_refl _) (fun _ => rfl) (fun hl => ?_)⟩
    obtain ⟨q1,q2⟩:=k4 (by omega)
    exact ⟨q1,Nat.le_trans (Nat.add_le_add_left (Nat.mul_le_mul_right es (by omega)) off) q2⟩
abbrev rowA (s0:Bool) (x0:Nat) (s1:Bool) (x1:Nat) (s2:Bool) (x2:Nat) (s3:Bool) (x3:Nat) : AV:=
  .agg [boolA s0,u64A x0,nilS,boolA s1,u64A x1,nilS,boolA s2,u64A x2,nilS,boolA s3,u64A x3,nilS]
section
variable {β:Type}
noncomputable def wholeCells (l:List AV) (k:Bool → Nat → List AV → Option β) : Option β:=uncons l fun a l => bindO (boolOf a) fun s => natCells l fun n l => k s n l
noncomputable def rowP (x:AV) (k:Bool → Nat → Bool → Nat → Bool → Nat → Bool → Nat → Option β) : Option β:=
  (@AV.rec (fun _ => Option β) (fun _ => Unit) (fun _ => Unit) (fun _ => Unit) (fun _ => Unit) (fun _ => Unit) (fun _ => Unit) (fun _ => none) (fun _ _ => none) (fun _ _ _ => none) (fun _ _ _ _ _ _ => none) (fun _ _ _ _ _ _ _ => none) (fun _ _ _ _ _ => none) (fun l _ => wholeCells l fun s0 x0 l => wholeCells l fun s1 x1 l => wholeCells l fun s2 x2 l => wholeCells l fun s3 x3 l => endL l (k s0 x0 s1 x1 s2 x2 s3 x3)) (fun _ _ => none) (fun _ => none) (fun _ _ => none) (fun _ _ => ()) () (fun _ _ _ _ => ()) () (fun _ _ _ _ => ()) () (fun _ _ _ _ _ _ _ _ _ _ _ _ _ _ _ _ _ _ => ()) (fun _ _ _ _ => ()) () (fun _ _ => ()) (x))
theorem wholeCells_some {l:List AV} {k:Bool → Nat → List AV → Option β} {y : β} (h:wholeCells l k = some y) : ∃ s n r,l = boolA s::u64A n::nilS::r ∧ k s n r = some y:=by
  replace h:=uncons_some h; obtain ⟨a,l1,rfl,h⟩:=h
  replace h:=bindO_some.1 h; obtain ⟨s,h1,h⟩:=h
  obtain rfl:=boolOf_boolA h1
  replace h:=natCells_some h; obtain ⟨n,r,rfl,h⟩:=h
  exact ⟨s,n,r,rfl,h⟩
theorem rowP_some {x:AV} {k:Bool → Nat → Bool → Nat → Bool → Nat → Bool → Nat → Option β} {y : β} (h:rowP x k = some y) :
    ∃ s0 x0 s1 x1 s2 x2 s3 x3,x = rowA s0 x0 s1 x1 s2 x2 s3 x3 ∧ k s0 x0 s1 x1 s2 x2 s3 x3 = some y:=by
  cases x <;> try (cases h; done)
  replace h:=wholeCells_some h; obtain ⟨s0,x0,r,rfl,h⟩:=h
  replace h:=wholeCells_some h; obtain ⟨s1,x1,r,rfl,h⟩:=h
  replace h:=wholeCells_some h; obtain ⟨s2,x2,r,rfl,h⟩:=h
  replace h:=wholeCells_some h; obtain ⟨s3,x3,r,rfl,h⟩:=h
  replace h:=endL_some h; obtain ⟨rfl,h⟩:=h
  exact ⟨s0,x0,s1,x1,s2,x2,s3,x3,rfl,h⟩
end
noncomputable def dstep (s:Bool) (x:Nat) (t:Bool) (y:Nat) (S:Bool) (N:Nat) (C:Bool) (k:Bool → Nat → Bool → Q) : Q:=
  ifB (pos x) (ifB (pos y) (k (sumS S N (mk (xorB s t) (Nat.mul x y)) (Nat.mul x y)) (sumN S N (mk (xorB s t) (Nat.mul x y)) (Nat.mul x y))
      (andB C (andB (small x) (andB (small y) (andB (mulC x y) (sumC S N (mk (xorB s t) (Nat.mul x y)) (Nat.mul x y)))))))
    (k S N (andB C (andB (small x) (small y))))) (k S N (andB C (small x)))
noncomputable def eDot (l:List AV) : Q:=arg2 l fun a b => rowP a fun s0 x0 s1 x1 s2 x2 s3 x3 => rowP b fun t0 y0 t1 y1 t2 y2 t3 y3 =>
  dstep s0 x0 t0 y0 false 0 true fun S N C => dstep s1 x1 t1 y1 S N C fun S N C => dstep s2 x2 t2 y2 S N C fun S N C => dstep s3 x3 t3 y3 S N C fun S N C => some (wholeA S N,C)
end Go.Abs
