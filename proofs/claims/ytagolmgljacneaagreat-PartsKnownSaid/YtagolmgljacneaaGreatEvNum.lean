/- SMALL NUMBERS: naturals, whole numbers, fractions of one digit: what the functions on them answer; how it is shown. -/
import Derived.Test.YtagolmgljacneaaGreatEvSym
set_option linter.unusedSimpArgs false
set_option linter.unusedVariables false
namespace Go.Abs
noncomputable section
abbrev zb:AV:=.v (.slice none 0 0)
abbrev zd (x:Nat):AV:=.v (.int .u64 (.ofNat x))
abbrev zt (x:Int):AV:=.v (.int .i64 x)
abbrev ze (b:Bool):AV:=.v (.bool b)
abbrev zn (x:Nat):AV:=.agg [zd x,zb]
abbrev zh (s:Bool) (x:Nat):AV:=.agg [ze s,zd x,zb]
abbrev zg (s:Bool) (n e:Nat):AV:=.agg [ze s,zd n,zb,zd e,zb]
section
variable {β:Type}
def zaC (x:AV):Option Nat:=xu x none fun k n=>zm (Nat.beq (xw k) 7) (Int.rec (fun a=>force a some) (fun _=>none) n)
def Y7 (x:AV):Bool:=(@AV.rec (fun _=>Bool) U1 U1 U1 U1 U1 U1 (fun z=>Z4 z) (fun _ _=>false) (fun _ _ _=>false) (fun _ _ _ _ _ _=>false) (fun _ _ _ _ _ _ _=>false) (fun _ _ _ _ _=>false) (fun _ _=>false) (fun _ _=>false) (fun _=>false) (fun _ _=>false) K2 () K4 () K4 () K8 K4 () K2 (x))
def yz (l:List AV) (k:AV→List AV→Option β):Option β:=List.rec none (fun x r _=>k x r) l
def ut (l:List AV) (y:Option β):Option β:=List.rec y (fun _ _ _=>none) l
def wz (l:List AV) (k:Nat→List AV→Option β):Option β:=yz l fun a l=>yz l fun b l=>zf (zaC a) fun x=>zm (Y7 b) (k x l)
def w9 (x:AV) (k:Nat→Option β):Option β:=(@AV.rec (fun _=>Option β) U1 U1 U1 U1 U1 U1 (fun _=>none) (fun _ _=>none) (fun _ _ _=>none) (fun _ _ _ _ _ _=>none) (fun _ _ _ _ _ _ _=>none) (fun _ _ _ _ _=>none) (fun l _=>wz l fun x l=>ut l (k x)) (fun _ _=>none) (fun _=>none) (fun _ _=>none) K2 () K4 () K4 () K8 K4 () K2 (x))
def yT (x:AV) (k:Bool→Nat→Option β):Option β:=(@AV.rec (fun _=>Option β) U1 U1 U1 U1 U1 U1 (fun _=>none) (fun _ _=>none) (fun _ _ _=>none) (fun _ _ _ _ _ _=>none) (fun _ _ _ _ _ _ _=>none) (fun _ _ _ _ _=>none) (fun l _=>yz l fun a l=>zf (z9 a) fun s=>wz l fun n l=>ut l (k s n)) (fun _ _=>none) (fun _=>none) (fun _ _=>none) K2 () K4 () K4 () K8 K4 () K2 (x))
def xO (x:AV) (k:Bool→Nat→Nat→Option β):Option β:=(@AV.rec (fun _=>Option β) U1 U1 U1 U1 U1 U1 (fun _=>none) (fun _ _=>none) (fun _ _ _=>none) (fun _ _ _ _ _ _=>none) (fun _ _ _ _ _ _ _=>none) (fun _ _ _ _ _=>none) (fun l _=>yz l fun a l=>zf (z9 a) fun s=>wz l fun n l=>wz l fun e l=>ut l (k s n e)) (fun _ _=>none) (fun _=>none) (fun _ _=>none) K2 () K4 () K4 () K8 K4 () K2 (x))
def zaD (x:AV) (k:Bool→Option β):Option β:=zf (z9 x) k
def zaE (x:AV) (k:Nat→Option β):Option β:=zf (zaC x) k
def fnP (x:AV) (k:Nat→List AV→List AV→Option β):Option β:=(@AV.rec (fun _=>Option β) U1 U1 U1 U1 U1 U1 (fun _=>none) (fun _ _=>none) (fun _ _ _=>none) (fun _ _ _ _ _ _=>none) (fun _ _ _ _ _ _ _=>none) (fun f a b _ _=>(@Fn.rec (fun _=>Option β) (fun g=>k g a b) (fun _=>none) (fun _ _=>none) (fun _ _ _ _=>none) (fun _=>none) (f))) (fun _ _=>none) (fun _ _=>none) (fun _=>none) (fun _ _=>none) K2 () K4 () K4 () K8 K4 () K2 (x))
def w4 (l:List AV) (k:AV→Option β):Option β:=yz l fun a l=>ut l (k a)
def xx (l:List AV) (k:AV→AV→Option β):Option β:=yz l fun a l=>yz l fun b l=>ut l (k a b)
def zfe (l:List AV) (k:AV→AV→AV→Option β):Option β:=yz l fun a l=>yz l fun b l=>yz l fun c l=>ut l (k a b c)
theorem Zu {x:AV} {n:Nat} (h:zaC x=some n):x=zd n:=by
  cases x <;> try (cases h; done)
  rename_i z
  cases z <;> try (cases h; done)
  rename_i k m
  replace h:zm (Nat.beq (xw k) 7) (Int.rec (fun a=>force a some) (fun _=>none) m)=some n:=h
  replace h:=zi.1 h; obtain ⟨hk,h⟩:=h
  have hk':k=.u64:=by cases k <;> first | rfl | cases hk
  subst hk'
  cases m with
  | ofNat a=>replace h:force a some=some n:=h; rw [zr] at h; cases h; rfl
  | negSucc _=>cases h
theorem wb {x:AV} {b:Bool} (h:z9 x=some b):x=ze b:=by
  cases x <;> try (cases h; done)
  rename_i z
  cases z <;> try (cases h; done)
  cases h; rfl
theorem jc {x:AV} (h:Y7 x=true):x=zb:=by
  cases x <;> try (cases h; done)
  rename_i z
  cases z <;> try (cases h; done)
  rename_i a n c
  cases a with
  | some _=>cases h
  |
    none =>
    replace h:andB (Nat.beq n 0) (Nat.beq c 0)=true:=h
    obtain ⟨h1,h2⟩:=zl.1 h
    rw [beq_true.1 h1,beq_true.1 h2]
theorem zF {l:List AV} {k:AV→List AV→Option β} {y:β} (h:yz l k=some y):∃ x r,l=x::r∧k x r=some y:=by
  cases l with
  | nil=>cases h
  | cons x r=>exact ⟨x,r,rfl,h⟩
theorem yx {l:List AV} {z:Option β} {y:β} (h:ut l z=some y):l=[]∧z=some y:=by
  cases l with
  | nil=>exact ⟨rfl,h⟩
  | cons x r=>cases h
theorem yM {l:List AV} {k:Nat→List AV→Option β} {y:β} (h:wz l k=some y):∃ n r,l=zd n::zb::r∧k n r=some y:=by
  replace h:=zF h; obtain ⟨a,l1,rfl,h⟩:=h
  replace h:=zF h; obtain ⟨b,l2,rfl,h⟩:=h
  replace h:=za.1 h; obtain ⟨n,h1,h⟩:=h
  replace h:=zi.1 h; obtain ⟨h2,h⟩:=h
  obtain rfl:=Zu h1
  obtain rfl:=jc h2
  exact ⟨n,l2,rfl,h⟩
theorem z_ {x:AV} {k:Nat→Option β} {y:β} (h:w9 x k=some y):∃ n,x=zn n∧k n=some y:=by
  cases x <;> try (cases h; done)
  replace h:=yM h; obtain ⟨n,r,rfl,h⟩:=h
  replace h:=yx h; obtain ⟨rfl,h⟩:=h
  exact ⟨n,rfl,h⟩
theorem zQ {x:AV} {k:Bool→Nat→Option β} {y:β} (h:yT x k=some y):∃ s n,x=zh s n∧k s n=some y:=by
  cases x <;> try (cases h; done)
  replace h:=zF h; obtain ⟨a,l1,rfl,h⟩:=h
  replace h:=za.1 h; obtain ⟨s,h1,h⟩:=h
  obtain rfl:=wb h1
  replace h:=yM h; obtain ⟨n,r,rfl,h⟩:=h
  replace h:=yx h; obtain ⟨rfl,h⟩:=h
  exact ⟨s,n,rfl,h⟩
theorem yb {x:AV} {k:Bool→Nat→Nat→Option β} {y:β} (h:xO x k=some y):∃ s n e,x=zg s n e∧k s n e=some y:=by
  cases x <;> try (cases h; done)
  replace h:=zF h; obtain ⟨a,l1,rfl,h⟩:=h
  replace h:=za.1 h; obtain ⟨s,h1,h⟩:=h
  obtain rfl:=wb h1
  replace h:=yM h; obtain ⟨n,r,rfl,h⟩:=h
  replace h:=yM h; obtain ⟨e,r,rfl,h⟩:=h
  replace h:=yx h; obtain ⟨rfl,h⟩:=h
  exact ⟨s,n,e,rfl,h⟩
theorem Zv {x:AV} {k:Bool→Option β} {y:β} (h:zaD x k=some y):∃ b,x=ze b∧k b=some y:=by
  replace h:=za.1 h; obtain ⟨b,h1,h⟩:=h
  exact ⟨b,wb h1,h⟩
theorem uI {x:AV} {k:Nat→Option β} {y:β} (h:zaE x k=some y):∃ n,x=zd n∧k n=some y:=by
  replace h:=za.1 h; obtain ⟨b,h1,h⟩:=h
  exact ⟨b,Zu h1,h⟩
theorem zaF {x:AV} {k:Nat→List AV→List AV→Option β} {y:β} (h:fnP x k=some y):∃ g a b,x=.fn (.func g) a b∧k g a b=some y:=by
  cases x <;> try (cases h; done)
  rename_i f a b
  cases f <;> try (cases h; done)
  exact ⟨_,a,b,rfl,h⟩
theorem z0 {l:List AV} {k:AV→Option β} {y:β} (h:w4 l k=some y):∃ a,l=[a]∧k a=some y:=by
  replace h:=zF h; obtain ⟨a,l1,rfl,h⟩:=h
  replace h:=yx h; obtain ⟨rfl,h⟩:=h
  exact ⟨a,rfl,h⟩
theorem zE {l:List AV} {k:AV→AV→Option β} {y:β} (h:xx l k=some y):∃ a b,l=[a,b]∧k a b=some y:=by
  replace h:=zF h; obtain ⟨a,l1,rfl,h⟩:=h
  replace h:=zF h; obtain ⟨b,l1,rfl,h⟩:=h
  replace h:=yx h; obtain ⟨rfl,h⟩:=h
  exact ⟨a,b,rfl,h⟩
theorem Yi {l:List AV} {k:AV→AV→AV→Option β} {y:β} (h:zfe l k=some y):∃ a b c,l=[a,b,c]∧k a b c=some y:=by
  replace h:=zF h; obtain ⟨a,l1,rfl,h⟩:=h
  replace h:=zF h; obtain ⟨b,l1,rfl,h⟩:=h
  replace h:=zF h; obtain ⟨c,l1,rfl,h⟩:=h
  replace h:=yx h; obtain ⟨rfl,h⟩:=h
  exact ⟨a,b,c,rfl,h⟩
end
abbrev Q:=Option (AV×Bool)
def pos (x:Nat):Bool:=notB (Nat.beq x 0)
def lt (x y:Nat):Bool:=Nat.ble (Nat.succ x) y
def xT (x y:Nat):Int:=ifB (lt x y) (.negSucc 0) (ifB (lt y x) (.ofNat 1) (.ofNat 0))
def yt (x:Nat):Nat:=ifB (Nat.beq x 0) 0 (Nat.succ (Nat.log2 x))
def yG (s:Bool) (x:Nat):Int:=ifB (Nat.beq x 0) (.ofNat 0) (ifB s (.negSucc 0) (.ofNat 1))
def xU (a b:Bool):Bool:=ifB a (notB b) b
def mk (s:Bool) (x:Nat):Bool:=andB s (pos x)
abbrev ok:AV:=.v (.int .i64 (.ofNat 0))
def Zw (l:List AV):Q:=w4 l fun a=>zaE a fun x=>some (zt (.ofNat (yt x)),small x)
def Zx (l:List AV):Q:=xx l fun a b=>zaE a fun x=>zaE b fun y=>some (.tuple [zd (Nat.div (Nat.mul x y) 18446744073709551616),zd (Nat.mod (Nat.mul x y) 18446744073709551616)],andB (small x) (small y))
def Y8 (l:List AV):Q:=zf (add64 l) fun v=>some (v,true)
def Y9 (l:List AV):Q:=zf (sub64 l) fun v=>some (v,true)
def Y_ (l:List AV):Q:=w4 l fun a=>zaE a fun x=>some (zn x,true)
def QQ (l:List AV):Q:=w4 l fun a=>w9 a fun x=>some (zt (.ofNat (yt x)),small x)
def jt (l:List AV):Q:=xx l fun a b=>w9 a fun x=>w9 b fun y=>some (zt (xT x y),true)
def ju (l:List AV):Q:=xx l fun a b=>w9 a fun x=>w9 b fun y=>some (zn (Nat.add x y),small (Nat.add x y))
def jv (ok:AV) (l:List AV):Q:=xx l fun a b=>w9 a fun x=>w9 b fun y=>some (.tuple [zn (Nat.sub x y),ok],andB (Nat.ble y x) (small x))
def jw (l:List AV):Q:=xx l fun a b=>w9 a fun x=>w9 b fun y=>some (zn (Nat.mul x y),andB (small x) (andB (small y) (small (Nat.mul x y))))
def jx (ok:AV) (l:List AV):Q:=xx l fun a b=>w9 a fun x=>w9 b fun y=>some (.tuple [zn (Nat.div x y),zn (Nat.mod x y),ok],andB (pos y) (andB (small x) (small y)))
def zcz (l:List AV):Q:=xx l fun a b=>w9 a fun x=>w9 b fun y=>some (zn (Nat.gcd x y),andB (small x) (small y))
def QR (l:List AV):Q:=xx l fun a b=>zaD a fun s=>w9 b fun x=>some (zh (mk s x) x,small x)
def QS (l:List AV):Q:=w4 l fun a=>yT a fun s x=>some (zt (yG s x),small x)
def zcA (l:List AV):Q:=w4 l fun a=>yT a fun s x=>some (zn x,true)
def zcB (l:List AV):Q:=xx l fun a b=>yT a fun s x=>yT b fun t y=>some (zt (ifB s (ifB t (xT y x) (.negSucc 0)) (ifB t (.ofNat 1) (xT x y))),true)
def zcC (l:List AV):Q:=w4 l fun a=>yT a fun s x=>some (zh (mk (notB s) x) x,small x)
def yu (s:Bool) (x:Nat) (t:Bool) (y:Nat):Nat:=ifB (xU s t) (ifB (lt x y) (Nat.sub y x) (Nat.sub x y)) (Nat.add x y)
def xc (s:Bool) (x:Nat) (t:Bool) (y:Nat):Bool:=mk (ifB (xU s t) (ifB (lt x y) t s) s) (yu s x t y)
def yN (s:Bool) (x:Nat) (t:Bool) (y:Nat):Bool:=andB (small x) (andB (small y) (small (yu s x t y)))
def zcD (l:List AV):Q:=xx l fun a b=>yT a fun s x=>yT b fun t y=>some (zh (xc s x t y) (yu s x t y),yN s x t y)
def zcE (l:List AV):Q:=xx l fun a b=>yT a fun s x=>yT b fun t y=>some (zh (xc s x (mk (notB t) y) y) (yu s x (mk (notB t) y) y),yN s x (mk (notB t) y) y)
def zA (x y:Nat):Bool:=andB (small x) (andB (small y) (small (Nat.mul x y)))
def zcF (l:List AV):Q:=xx l fun a b=>yT a fun s x=>yT b fun t y=>some (zh (mk (xU s t) (Nat.mul x y)) (Nat.mul x y),zA x y)
def yP (n d:Nat):Nat:=ifB (Nat.beq d 1) n (ifB (lt 1 (Nat.gcd n d)) (Nat.div n (Nat.gcd n d)) n)
def xy (s:Bool) (n d:Nat):Bool:=ifB (Nat.beq d 1) s (ifB (lt 1 (Nat.gcd n d)) (mk (andB s (pos n)) (Nat.div n (Nat.gcd n d))) s)
def yQ (n d:Nat):Nat:=ifB (Nat.beq d 1) 0 (Nat.sub (ifB (lt 1 (Nat.gcd n d)) (Nat.div d (Nat.gcd n d)) d) 1)
def zK (n d:Nat):Bool:=andB (pos d) (andB (small n) (small d))
def zff (s:Bool) (n d:Nat):AV:=zg (xy s n d) (yP n d) (yQ n d)
def zcG (l:List AV):Q:=xx l fun a b=>yT a fun s n=>w9 b fun d=>some (zff s n d,zK n d)
def ePart (l:List AV):Q:=xx l fun a b=>w9 a fun x=>w9 b fun y=>some (zn (Nat.div x y),andB (pos y) (andB (small x) (small y)))
def zcH (l:List AV):Q:=ut l (some (zn 1,true))
def eOf (l:List AV):Q:=w4 l fun a=>yT a fun s x=>some (zg s x 0,true)
def zcI (l:List AV):Q:=w4 l fun a=>xO a fun s n e=>some (zh s n,true)
def zcJ (l:List AV):Q:=w4 l fun a=>xO a fun s n e=>some (zn (Nat.add e 1),small (Nat.add e 1))
def Xa (l:List AV):Q:=w4 l fun a=>xO a fun s n e=>some (zt (yG s n),small n)
def jy (l:List AV):Q:=w4 l fun a=>xO a fun s n e=>some (ze (Nat.beq e 0),small e)
def eBy (l:List AV):Q:=xx l fun a b=>yT a fun s n=>w9 b fun d=>some (zh (mk s (Nat.mul n d)) (Nat.mul n d),zA n d)
def eFNeg (l:List AV):Q:=w4 l fun a=>xO a fun s n e=>some (zg (mk (notB s) n) n e,small n)
def Yj (fN:Bool→Nat→Bool→Nat→Nat) (fS:Bool→Nat→Bool→Nat→Bool) (fC:Bool→Nat→Bool→Nat→Bool) (s:Bool) (n e:Nat) (t:Bool) (m f:Nat):Q:=
  let n':=Nat.mul n (Nat.add f 1)
  let m':=Nat.mul m (Nat.add e 1)
  let s':=mk s n'
  let t':=mk t m'
  let d:=Nat.mul (Nat.add e 1) (Nat.add f 1)
  let ent:=andB (Nat.beq e 0) (Nat.beq f 0)
  some (zg (ifB ent (fS s n t m) (xy (fS s' n' t' m') (fN s' n' t' m') d)) (ifB ent (fN s n t m) (yP (fN s' n' t' m') d)) (ifB ent 0 (yQ (fN s' n' t' m') d)),
    andB (small e) (andB (small f) (ifB ent (fC s n t m) (andB (small (Nat.add e 1)) (andB (small (Nat.add f 1)) (andB (zA n (Nat.add f 1)) (andB (zA m (Nat.add e 1)) (andB (fC s' n' t' m') (andB (zA (Nat.add e 1) (Nat.add f 1)) (zK (fN s' n' t' m') d))))))))))
def zR (s:Bool) (x:Nat) (t:Bool) (y:Nat):Nat:=yu s x (mk (notB t) y) y
def zT (s:Bool) (x:Nat) (t:Bool) (y:Nat):Bool:=xc s x (mk (notB t) y) y
def zU (s:Bool) (x:Nat) (t:Bool) (y:Nat):Bool:=yN s x (mk (notB t) y) y
def QT (l:List AV):Q:=xx l fun a b=>xO a fun s n e=>xO b fun t m f=>Yj yu xc yN s n e t m f
def QU (l:List AV):Q:=xx l fun a b=>xO a fun s n e=>xO b fun t m f=>Yj zR zT zU s n e t m f
def QV (fAdd fSub:Nat) (l:List AV):Q:=zfe l fun a b h=>xO a fun s n e=>xO b fun t m f=>fnP h fun g p q=>ut p (ut q
  (ifB (Nat.beq g fAdd) (Yj yu xc yN s n e t m f) (ifB (Nat.beq g fSub) (Yj zR zT zU s n e t m f) none)))
def QW (l:List AV):Q:=xx l fun a b=>xO a fun s n e=>xO b fun t m f =>
  let p:=Nat.mul n m
  let d:=Nat.mul (Nat.add e 1) (Nat.add f 1)
  let ent:=andB (Nat.beq e 0) (Nat.beq f 0)
  some (zg (ifB ent (mk (xU s t) p) (xy (mk (xU s t) p) p d)) (ifB ent p (yP p d)) (ifB ent 0 (yQ p d)),
    andB (small e) (andB (small f) (andB (zA n m) (ifB ent true (andB (small (Nat.add e 1)) (andB (small (Nat.add f 1)) (andB (zA (Nat.add e 1) (Nat.add f 1)) (zK p d))))))))
def QX (l:List AV):Q:=xx l fun a b=>xO a fun s n e=>xO b fun t m f =>
  let n':=Nat.mul n (Nat.add f 1)
  let m':=Nat.mul m (Nat.add e 1)
  let s':=mk s n'
  let t':=mk t m'
  let ent:=andB (Nat.beq e 0) (Nat.beq f 0)
  some (zt (ifB ent (ifB s (ifB t (xT m n) (.negSucc 0)) (ifB t (.ofNat 1) (xT n m))) (ifB s' (ifB t' (xT m' n') (.negSucc 0)) (ifB t' (.ofNat 1) (xT n' m')))),
    andB (small e) (andB (small f) (ifB ent true (andB (small (Nat.add e 1)) (andB (small (Nat.add f 1)) (andB (zA n (Nat.add f 1)) (zA m (Nat.add e 1))))))))
def Xb (ok:AV) (l:List AV):Q:=xx l fun a b=>yT a fun s n=>yT b fun t m =>
  some (.tuple [zff (ifB t (mk (notB s) n) s) n m,ok],andB (pos m) (andB (small m) (zK n m)))
def eFDiv (ok:AV) (l:List AV):Q:=xx l fun a b=>xO a fun s n e=>xO b fun t m f =>
  let p:=Nat.mul n (Nat.add f 1)
  let d:=Nat.mul (Nat.add e 1) m
  some (.tuple [zff (mk (mk (xU s t) n) p) p d,ok],andB (pos m) (andB (small m) (andB (small n) (andB (small (Nat.add e 1)) (andB (small (Nat.add f 1)) (andB (zA n (Nat.add f 1)) (andB (zA (Nat.add e 1) m) (zK p d))))))))
def Ok (P:Program) (E:Es) (f:FuncId):Prop:=∀ (l:List AV) (v:AV),E f l=some (v,true)→∀ (X:Nat→Prop) (j:J) (w:World) (args:Array Value),(∀ B,X B→B < w.heap.size)→vq X j w l args →
  Answers P f args w fun rv w'=>Still w w'∧w.heap.size≤w'.heap.size∧(∀ B,B < w.heap.size→w'.heap[B]? = w.heap[B]?)∧Rel X j w' v rv
def only (S:FuncId→Bool) (E:Es):Es:=fun f l=>zm (S f) (E f l)
def cxOf (P:Program) (E:Es):Cx:={ P:=P,ext:=extOf E,nf:=fun _=>false,hb:=fun _=>false }
theorem vH {P:Program} {E:Es} {S:FuncId→Bool} (h:∀ f,S f=true→Ok P E f):ExtOk (cxOf P (only S E)):=by
  intro f l v hx X j w args hX hr
  obtain ⟨h1,h2⟩:=zi.1 (extOf_some.1 hx)
  exact h f h1 l v h2 X j w args hX hr
def bare (d:Nat):AV→Bool:=
  Nat.rec (fun _=>false) (fun _ ih x=>(@AV.rec (fun _=>Bool) U1 U1 U1 U1 U1 U1 (fun _=>true) (fun _ _=>false) (fun _ _ _=>false) (fun _ _ _ _ _ _=>false) (fun _ _ _ _ _ _ _=>false) (fun _ a b _ _=>andB (allB ih a) (allB ih b)) (fun l _=>allB ih l) (fun l _=>allB ih l) (fun _=>false) (fun _ _=>false) K2 () K4 () K4 () K8 K4 () K2 (x))) d
theorem K_ (d:Nat) (x:AV):bare (d + 1) x=(match x with | .v _=>true | .agg l=>allB (bare d) l | .tuple l=>allB (bare d) l | .fn _ a b=>andB (allB (bare d) a) (allB (bare d) b) | _=>false):=by cases x <;> rfl
theorem Rel.bare (d:Nat):∀ {X X':Nat→Prop} {j j':J} {w w':World} {x:AV} {v:Value},Rel X j w x v→Go.Abs.bare d x=true→Rel X' j' w' x v:=by
  induction d with
  | zero=>intro X X' j j' w w' x v h hf; cases hf
  |
    succ d ih =>
    intro X X' j j' w w' x v h hf
    rw [K_] at hf
    cases h with
    | v hp=>exact .v hp
    |
      fn h1 r1 h2 r2 =>
      obtain ⟨f1,f2⟩:=zl.1 hf
      exact .fn h1 (fun i x y hx hy=>ih (r1 i x y hx hy) (z6.1 f1 x (List.mem_of_getElem? hx))) h2 (fun i x y hx hy=>ih (r2 i x y hx hy) (z6.1 f2 x (List.mem_of_getElem? hx)))
    | agg h1 r1=>exact .agg h1 (fun i x y hx hy=>ih (r1 i x y hx hy) (z6.1 hf x (List.mem_of_getElem? hx)))
    | tuple h1 r1=>exact .tuple h1 (fun i x y hx hy=>ih (r1 i x y hx hy) (z6.1 hf x (List.mem_of_getElem? hx)))
    | hp _=>cases hf
    | hs _ _ _ _ _=>cases hf
    | vp f a b c e=>cases hf
    | vs f a b c e g k m=>cases hf
    | hm _=>cases hf
    | vm a b c e g k=>cases hf
theorem zeh {P:Program} {E:Es} {C:Cx} (hP:C.P=P) (hm:P.follows .mixedOrders=true) (hext:ExtOk C) {f:FuncId}
    (h:∀ l v,E f l=some (v,true)→allB (bare 4) l=true∧bare 4 v=true∧∃ n rd,Go.Abs.call C n f l=.value v rd):Ok P E f:=by
  subst hP
  intro l v hv X j w args hX hr
  obtain ⟨h1,h2,n,rd,h3⟩:=h l v hv
  refine (qk hm hext h3 w args ⟨hr.1,fun i x y hx hy=>(hr.2 i x y hx hy).bare 4 (z6.1 h1 x (List.mem_of_getElem? hx))⟩).mono fun rv w' ⟨g0,g1,g2,g3⟩=>⟨g0,g1,g2,g3.bare 4 h2⟩
theorem zM {P:Program} {E:Es} {S:FuncId→Bool} (hm:P.follows .mixedOrders=true) (hS:∀ f,S f=true→Ok P E f) {f:FuncId} (hf:S f=false)
    (h:∀ l v,E f l=some (v,true)→allB (bare 4) l=true∧bare 4 v=true∧∃ n ds ds' ob,symCall (cxOf P (only S E)) (only S E) n f l ds=some (.value v (some []),ds',ob)∧Met ob):Ok P E f:=
  zeh (C:=cxOf P (only S E)) rfl hm (vH hS) fun l v hv=>by
    obtain ⟨h1,h2,n,ds,ds',ob,h3,h4⟩:=h l v hv
    exact ⟨h1,h2,n,_,qn rfl (by show extOf _ f l=none; unfold extOf only; rw [hf]; rfl) h3 h4⟩
abbrev B64:Nat:=18446744073709551616
theorem wn {x:Nat}:small x=true↔x < 18446744073709551616:=by unfold small; rw [zp]; omega
theorem zaG {a b:Nat}:Nat.ble a b=false↔b < a:=by
  cases h:Nat.ble a b with
  | true=>have:=zp.1 h; simp; omega
  | false=>simp; apply Nat.lt_of_not_le; intro hle; rw [zp.2 hle] at h; cases h
theorem zO {a b:Nat}:Nat.beq a b=false↔a≠b:=by
  cases h:Nat.beq a b with
  | true=>have:=beq_true.1 h; simp [this]
  | false=>simp; intro e; rw [beq_true.2 e] at h; cases h
theorem Zy {b:Bool}:notB b=true↔b=false:=by cases b <;> simp [notB]
theorem UI {b:Bool}:notB b=false↔b=true:=by cases b <;> simp [notB]
theorem zaH {x:Nat}:pos x=true↔x≠0:=by unfold pos; rw [Zy,zO]
theorem zaI {x:Nat}:pos x=false↔x=0:=by unfold pos; rw [UI,beq_true]
theorem qo {x y:Nat}:lt x y=true↔x < y:=by unfold lt; rw [zp]; omega
theorem vT {x y:Nat}:lt x y=false↔y≤x:=by unfold lt; rw [zaG]; omega
theorem zei {a b:Nat}:eqI (Int.ofNat a) (Int.ofNat b)=true↔a=b:=beq_true
theorem zej {a b:Nat}:eqI (Int.ofNat a) (Int.ofNat b)=false↔a≠b:=zO
theorem UJ {a:Nat}:eqI (Int.ofNat a) 0=true↔a=0:=beq_true
theorem UK {a:Nat}:eqI (Int.ofNat a) 0=false↔a≠0:=zO
theorem zaJ {a:Nat}:eqI (Int.ofNat a) 1=true↔a=1:=beq_true
theorem zaK {a:Nat}:eqI (Int.ofNat a) 1=false↔a≠1:=zO
theorem Yk {a b:Nat}:ltI (Int.ofNat a) (Int.ofNat b)=true↔a < b:=qo
theorem zek {a b:Nat}:ltI (Int.ofNat a) (Int.ofNat b)=false↔b≤a:=vT
theorem kK {b:Nat}:ltI 0 (Int.ofNat b)=true↔0 < b:=qo
theorem Xc {b:Nat}:ltI 0 (Int.ofNat b)=false↔b≤0:=vT
theorem zaL {b:Nat}:ltI 1 (Int.ofNat b)=true↔1 < b:=qo
theorem zaM {b:Nat}:ltI 1 (Int.ofNat b)=false↔b≤1:=vT
theorem Xd {x y:Nat} (h:x < y):xT x y=.negSucc 0:=by unfold xT; rw [qo.2 h]; rfl
theorem Xe {x y:Nat} (h:y < x):xT x y=.ofNat 1:=by unfold xT; rw [vT.2 (by omega),qo.2 h]; rfl
theorem Xf {x y:Nat} (h:x=y):xT x y=.ofNat 0:=by unfold xT; rw [vT.2 (by omega),vT.2 (by omega)]; rfl
theorem UL {x y:Nat}:ltI (xT x y) 0=true↔x < y:=by
  rcases Nat.lt_trichotomy x y with h | h | h
  · rw [Xd h]; exact ⟨fun _=>h,fun _=>rfl⟩
  · rw [Xf h]; exact ⟨fun e=>(by cases e),fun e=>by omega⟩
  · rw [Xe h]; exact ⟨fun e=>(by cases e),fun e=>by omega⟩
theorem zaN {x y:Nat}:ltI (xT x y) 0=false↔y≤x:=by
  have:=@UL x y
  cases h:ltI (xT x y) 0 <;> simp [h] at this ⊢ <;> omega
theorem xH {x:Nat}:yt x=0↔x=0:=by
  unfold yt
  cases h:Nat.beq x 0 with
  | true=>have:=beq_true.1 h; simp [ifB_true,this]
  | false=>have:=zO.1 h; rw [zk]; omega
theorem wL {x:Nat}:yt x≤1↔x≤1:=by
  unfold yt
  cases h:Nat.beq x 0 with
  | true=>have:=beq_true.1 h; rw [ifB_true]; omega
  |
    false =>
    have:=zO.1 h
    rw [zk]
    have h2:Nat.log2 x < 1↔x < 2:=by
      rw [Nat.log2_lt this]
    omega
theorem Yl {x:Nat}:yt x=1↔x=1:=by
  have h1:=@xH x
  have h2:=@wL x
  omega
theorem uJ {x:Nat}:0 < yt x↔x≠0:=by have:=@xH x; omega
theorem qU {x:Nat}:1 < yt x↔1 < x:=by have:=@wL x; omega
theorem vr {x:Nat}:yt x≤0↔x=0:=by have:=@xH x; omega
theorem uK (s:Bool) (x:Nat):ltI (yG s x) 0=andB s (pos x):=by
  unfold yG pos
  cases Nat.beq x 0 <;> cases s <;> rfl
theorem qp (s:Bool) (x:Nat):eqI (yG s x) 0=Nat.beq x 0:=by
  unfold yG
  cases Nat.beq x 0 <;> cases s <;> rfl
theorem zcK (x:Nat):ltI 0 (Int.ofNat (yt x))=pos x:=by
  cases h:pos x with
  | true=>rw [kK,uJ]; exact zaH.1 h
  | false=>rw [Xc,vr]; exact zaI.1 h
theorem mk_true (x:Nat):mk true x=pos x:=rfl
theorem mk_false (x:Nat):mk false x=false:=rfl
theorem met_cons {a b:Bool} {l:Ob} (h:a=b) (hl:Met l):Met ((a,b)::l):=⟨h,hl⟩
theorem met_nil:Met []:=trivial
theorem zB {v v':AV} {c:Bool} (h:(some (v,c):Q)=some (v',true)):v=v'∧c=true:=by cases h; exact ⟨rfl,rfl⟩
theorem yi {C:Cx} {E:Es} {f:FuncId} {l:List AV} {v v':AV} {n:Nat} {ds ds':List Dc} {ob:Ob} (h:symCall C E n f l ds=some (.value v' (some []),ds',ob)) (hv:v=v') (hm:Met ob) :
    ∃ n ds ds' ob,symCall C E n f l ds=some (.value v (some []),ds',ob)∧Met ob:=⟨n,ds,ds',ob,by rw [hv]; exact h,hm⟩
theorem Xg {x x':Nat} (h:x=x'):zn x=zn x':=by rw [h]
theorem zaO {s s':Bool} {x x':Nat} (h1:s=s') (h:x=x'):zh s x=zh s' x':=by rw [h,h1]
theorem uL {s s':Bool} {x x' e e':Nat} (h1:s=s') (h:x=x') (h2:e=e'):zg s x e=zg s' x' e':=by rw [h,h1,h2]
theorem uu {x x':Int} (h:x=x'):zt x=zt x':=by rw [h]
theorem QY {x x':Bool} (h:x=x'):ze x=ze x':=by rw [h]
theorem tuple2_c {a a' b b':AV} (h1:a=a') (h2:b=b'):AV.tuple [a,b]=AV.tuple [a',b']:=by rw [h1,h2]
theorem zaP {a a' b b' c c':AV} (h1:a=a') (h2:b=b') (h3:c=c'):AV.tuple [a,b,c]=AV.tuple [a',b',c']:=by rw [h1,h2,h3]
theorem zI {P:Program} {E:Es} {L:List Nat} {f:Nat} (h:∀ g,memN g L=true→Ok P E g) (hf:Ok P E f):∀ g,memN g (f::L)=true→Ok P E g:=by
  intro g hg
  replace hg:ifB (Nat.beq g f) true (memN g L)=true:=hg
  cases e:Nat.beq g f with
  | true=>rw [beq_true.1 e]; exact hf
  | false=>rw [e,zk] at hg; exact h g hg
theorem WZ {P:Program} {E:Es} {f:FuncId} {g:List AV→Option AV} (he:∀ l,E f l=zf (g l) fun v=>some (v,true))
    (h:∀ (X:Nat→Prop) (j:J) (w:World) (l:List AV) (v:AV) (args:Array Value),g l=some v→vq X j w l args→Answers P f args w fun rv w'=>Still w w'∧w.heap.size≤w'.heap.size∧(∀ B,B < w.heap.size→w'.heap[B]? = w.heap[B]?)∧Rel X j w' v rv):Ok P E f:=by
  intro l v hv X j w args _ hr
  rw [he] at hv
  obtain ⟨u,h1,h2⟩:=za.1 hv
  cases h2
  exact h X j w l _ args h1 hr
theorem W0 {X:Nat→Prop} {j:J} {w:World} {x:AV} {args:Array Value} (h:vq X j w [x] args):∃ v,args = #[v]∧Rel X j w x v:=by
  rcases args with ⟨args⟩
  match args,(show args.length=1 by have:=h.1; simpa using this.symm) with
  | [v],_=>exact ⟨v,rfl,h.2 0 x v rfl rfl⟩
theorem zaQ {X:Nat→Prop} {j:J} {w:World} {x y:AV} {args:Array Value} (h:vq X j w [x,y] args):∃ v u,args = #[v,u]∧Rel X j w x v∧Rel X j w y u:=by
  rcases args with ⟨args⟩
  match args,(show args.length=2 by have:=h.1; simpa using this.symm) with
  | [v,u],_=>exact ⟨v,u,rfl,h.2 0 x v rfl rfl,h.2 1 y u rfl rfl⟩
theorem zaR {P:Program} {E:Es} {f:FuncId} {C:Cx} {p:Func×Code} (hP:C.P=P) (hp:funcOf C f=some p) (he:∀ l,E f l=Zw l)
    (h:∀ (x:Nat) (w:World),x < 18446744073709551616→Calls P f #[.int .u64 x] w fun e w'=>e=.returned (.int .i64 (yt x))∧w'=w):Ok P E f:=by
  subst hP
  intro l v hv X j w args _ hr
  rw [he] at hv
  replace hv:=z0 hv; obtain ⟨a,rfl,hv⟩:=hv
  replace hv:=uI hv; obtain ⟨x,rfl,hv⟩:=hv
  obtain ⟨rfl,hc⟩:=zB hv
  obtain ⟨u,rfl,hu⟩:=W0 hr
  obtain ⟨rfl,_⟩:=hu.v_eq
  obtain ⟨hfn,hen⟩:=ww hp
  refine .inr ⟨x_ hfn hen,Calls.mono (h x w (wn.1 hc)) ?_⟩
  rintro e w' ⟨rfl,rfl⟩
  exact ⟨_,rfl,Still.refl _,Nat.le_refl _,fun _ _=>rfl,.v rfl⟩
theorem zaS {P:Program} {E:Es} {f:FuncId} {C:Cx} {p:Func×Code} (hP:C.P=P) (hp:funcOf C f=some p) (he:∀ l,E f l=Zx l)
    (h:∀ (x y:Nat) (_:x < 18446744073709551616) (_:y < 18446744073709551616) (w:World),Calls P f #[.int .u64 x,.int .u64 y] w fun e w' =>
      e=.returned (.tuple #[.int .u64 ((x * y / 18446744073709551616:Nat):Int),.int .u64 ((x * y % 18446744073709551616:Nat):Int)])∧w'=w):Ok P E f:=by
  subst hP
  intro l v hv X j w args _ hr
  rw [he] at hv
  replace hv:=zE hv; obtain ⟨a,b,rfl,hv⟩:=hv
  replace hv:=uI hv; obtain ⟨x,rfl,hv⟩:=hv
  replace hv:=uI hv; obtain ⟨y,rfl,hv⟩:=hv
  obtain ⟨rfl,hc⟩:=zB hv
  obtain ⟨c1,c2⟩:=zl.1 hc
  obtain ⟨u,t,rfl,hu,ht⟩:=zaQ hr
  obtain ⟨rfl,_⟩:=hu.v_eq
  obtain ⟨rfl,_⟩:=ht.v_eq
  obtain ⟨hfn,hen⟩:=ww hp
  refine .inr ⟨x_ hfn hen,Calls.mono (h x y (wn.1 c1) (wn.1 c2) w) ?_⟩
  rintro e w' ⟨rfl,rfl⟩
  exact ⟨_,rfl,Still.refl _,Nat.le_refl _,fun _ _=>rfl,Zs⟩
def W1:List (Nat×(List AV→Q))→T (List AV→Q)
  | []=>T.nil
  | p::l=>T.set p.1 p.2 (W1 l)
theorem qr {f:Nat}:∀ {l:List (Nat×(List AV→Q))},memN f (l.map (·.1))=false→(W1 l).get f=none
  | [],_=>T.get_nil ..
  |
    p::l,h=>by
    replace h:ifB (Nat.beq f p.1) true (memN f (l.map (·.1)))=false:=h
    show (T.set p.1 p.2 (W1 l)).get f=none
    cases e:Nat.beq f p.1 with
    | true=>rw [e] at h; cases h
    |
      false =>
      rw [e,zk] at h
      rw [T.get_set,if_neg (zO.1 e)]
      exact qr h
theorem extOk_all {P:Program} {E:Es} {C:Cx} (hP:C.P=P) (hx:C.ext=extOf E) (h:∀ f,Ok P E f):ExtOk C:=by
  subst hP
  intro f l v hv X j w args hX hr
  rw [hx] at hv
  exact h f l v (extOf_some.1 hv) X j w args hX hr
section
variable {β:Type}
def xP (l:List AV) (k:Bool→Nat→Nat→List AV→Option β):Option β:=yz l fun a l=>zf (z9 a) fun s=>wz l fun n l=>wz l fun e l=>k s n e l
theorem yE {l:List AV} {k:Bool→Nat→Nat→List AV→Option β} {y:β} (h:xP l k=some y):∃ s n e r,l=ze s::zd n::zb::zd e::zb::r∧k s n e r=some y:=by
  replace h:=zF h; obtain ⟨a,l1,rfl,h⟩:=h
  replace h:=za.1 h; obtain ⟨s,h1,h⟩:=h
  obtain rfl:=wb h1
  replace h:=yM h; obtain ⟨n,r,rfl,h⟩:=h
  replace h:=yM h; obtain ⟨e,r,rfl,h⟩:=h
  exact ⟨s,n,e,r,rfl,h⟩
abbrev vecA (s:Bool) (x d:Nat) (s1:Bool) (x1 d1:Nat) (s2:Bool) (x2 d2:Nat):AV:=
  .agg [ze s,zd x,zb,zd d,zb,ze s1,zd x1,zb,zd d1,zb,ze s2,zd x2,zb,zd d2,zb]
abbrev zfg (s:Bool) (x d:Nat) (s1:Bool) (x1 d1:Nat) (s2:Bool) (x2 d2:Nat) (s3:Bool) (x3 d3:Nat):AV:=
  .agg [ze s,zd x,zb,zd d,zb,ze s1,zd x1,zb,zd d1,zb,ze s2,zd x2,zb,zd d2,zb,ze s3,zd x3,zb,zd d3,zb]
def vZ (x:AV) (k:Bool→Nat→Nat→Bool→Nat→Nat→Bool→Nat→Nat→Option β):Option β:=
  (@AV.rec (fun _=>Option β) U1 U1 U1 U1 U1 U1 (fun _=>none) (fun _ _=>none) (fun _ _ _=>none) (fun _ _ _ _ _ _=>none) (fun _ _ _ _ _ _ _=>none) (fun _ _ _ _ _=>none) (fun l _=>xP l fun s x d l=>xP l fun s1 x1 d1 l=>xP l fun s2 x2 d2 l=>ut l (k s x d s1 x1 d1 s2 x2 d2)) (fun _ _=>none) (fun _=>none) (fun _ _=>none) K2 () K4 () K4 () K8 K4 () K2 (x))
def qs (x:AV) (k:Bool→Nat→Nat→Bool→Nat→Nat→Bool→Nat→Nat→Bool→Nat→Nat→Option β):Option β:=
  (@AV.rec (fun _=>Option β) U1 U1 U1 U1 U1 U1 (fun _=>none) (fun _ _=>none) (fun _ _ _=>none) (fun _ _ _ _ _ _=>none) (fun _ _ _ _ _ _ _=>none) (fun _ _ _ _ _=>none) (fun l _=>xP l fun s x d l=>xP l fun s1 x1 d1 l=>xP l fun s2 x2 d2 l=>xP l fun s3 x3 d3 l=>ut l (k s x d s1 x1 d1 s2 x2 d2 s3 x3 d3)) (fun _ _=>none) (fun _=>none) (fun _ _=>none) K2 () K4 () K4 () K8 K4 () K2 (x))
theorem yg {x:AV} {k:Bool→Nat→Nat→Bool→Nat→Nat→Bool→Nat→Nat→Option β} {y:β} (h:vZ x k=some y):∃ s x0 d s1 x1 d1 s2 x2 d2,x=vecA s x0 d s1 x1 d1 s2 x2 d2∧k s x0 d s1 x1 d1 s2 x2 d2=some y:=by
  cases x <;> try (cases h; done)
  replace h:=yE h; obtain ⟨s,x0,d,r,rfl,h⟩:=h
  replace h:=yE h; obtain ⟨s1,x1,d1,r,rfl,h⟩:=h
  replace h:=yE h; obtain ⟨s2,x2,d2,r,rfl,h⟩:=h
  replace h:=yx h; obtain ⟨rfl,h⟩:=h
  exact ⟨s,x0,d,s1,x1,d1,s2,x2,d2,rfl,h⟩
theorem xQ {x:AV} {k:Bool→Nat→Nat→Bool→Nat→Nat→Bool→Nat→Nat→Bool→Nat→Nat→Option β} {y:β} (h:qs x k=some y) :
    ∃ s x0 d s1 x1 d1 s2 x2 d2 s3 x3 d3,x=zfg s x0 d s1 x1 d1 s2 x2 d2 s3 x3 d3∧k s x0 d s1 x1 d1 s2 x2 d2 s3 x3 d3=some y:=by
  cases x <;> try (cases h; done)
  replace h:=yE h; obtain ⟨s,x0,d,r,rfl,h⟩:=h
  replace h:=yE h; obtain ⟨s1,x1,d1,r,rfl,h⟩:=h
  replace h:=yE h; obtain ⟨s2,x2,d2,r,rfl,h⟩:=h
  replace h:=yE h; obtain ⟨s3,x3,d3,r,rfl,h⟩:=h
  replace h:=yx h; obtain ⟨rfl,h⟩:=h
  exact ⟨s,x0,d,s1,x1,d1,s2,x2,d2,s3,x3,d3,rfl,h⟩
def zfh (x:AV) (k:Int→Option β):Option β:=xu x none fun i n=>zm (Nat.beq (xw i) 3) (k n)
theorem Ym {x:AV} {k:Int→Option β} {y:β} (h:zfh x k=some y):∃ n,x=zt n∧k n=some y:=by
  cases x <;> try (cases h; done)
  rename_i z
  cases z <;> try (cases h; done)
  rename_i i n
  obtain ⟨h1,h⟩:=zi.1 (show zm (Nat.beq (xw i) 3) (k n)=some y from h)
  have hk:i=.i64:=by cases i <;> first | rfl | cases h1
  subst hk
  exact ⟨n,rfl,h⟩
def jd (q:Q) (k:AV→Option β):Option β:=zf q fun p=>Prod.rec (fun v c=>zm c (kG v k)) p
theorem xI {q:Q} {k:AV→Option β} {y:β} (h:jd q k=some y):∃ v,q=some (v,true)∧k v=some y:=by
  replace h:=za.1 h; obtain ⟨⟨v,c⟩,rfl,h⟩:=h
  replace h:zm c (kG v k)=some y:=h
  rw [kH] at h
  obtain ⟨rfl,h⟩:=zi.1 h
  exact ⟨v,rfl,h⟩
def yX (q:Q) (k:Bool→Nat→Nat→Option β):Option β:=jd q fun v=>xO v k
def yq (q:Q) (k:Bool→Nat→Option β):Option β:=jd q fun v=>yT v k
def xa (q:Q) (k:Nat→Option β):Option β:=jd q fun v=>w9 v k
def uZ (q:Q) (k:Int→Option β):Option β:=jd q fun v=>zfh v k
def zel (q:Q) (k:Bool→Option β):Option β:=jd q fun v=>zaD v k
def QZ (q:Q) (k:Bool→Nat→Nat→Bool→Nat→Nat→Bool→Nat→Nat→Option β):Option β:=jd q fun v=>vZ v k
def vf (q:Q) (k:Nat→Nat→Option β):Option β:=jd q fun v=>(@AV.rec (fun _=>Option β) U1 U1 U1 U1 U1 U1 (fun _=>none) (fun _ _=>none) (fun _ _ _=>none) (fun _ _ _ _ _ _=>none) (fun _ _ _ _ _ _ _=>none) (fun _ _ _ _ _=>none) (fun _ _=>none) (fun l _=>zfe l fun a b c=>w9 a fun x=>w9 b fun y=>zfh c fun z=>zm (eqI z 0) (k x y)) (fun _=>none) (fun _ _=>none) K2 () K4 () K4 () K8 K4 () K2 (v))
theorem zJ {q:Q} {k:Bool→Nat→Nat→Option β} {y:β} (h:yX q k=some y):∃ s n e,q=some (zg s n e,true)∧k s n e=some y:=by
  obtain ⟨v,h1,h⟩:=xI h; obtain ⟨s,n,e,rfl,h⟩:=yb h; exact ⟨s,n,e,h1,h⟩
theorem zy {q:Q} {k:Bool→Nat→Option β} {y:β} (h:yq q k=some y):∃ s n,q=some (zh s n,true)∧k s n=some y:=by
  obtain ⟨v,h1,h⟩:=xI h; obtain ⟨s,n,rfl,h⟩:=zQ h; exact ⟨s,n,h1,h⟩
theorem zN {q:Q} {k:Nat→Option β} {y:β} (h:xa q k=some y):∃ n,q=some (zn n,true)∧k n=some y:=by
  obtain ⟨v,h1,h⟩:=xI h; obtain ⟨n,rfl,h⟩:=z_ h; exact ⟨n,h1,h⟩
theorem y5 {q:Q} {k:Int→Option β} {y:β} (h:uZ q k=some y):∃ n,q=some (zt n,true)∧k n=some y:=by
  obtain ⟨v,h1,h⟩:=xI h; obtain ⟨n,rfl,h⟩:=Ym h; exact ⟨n,h1,h⟩
theorem UM {q:Q} {k:Bool→Option β} {y:β} (h:zel q k=some y):∃ b,q=some (ze b,true)∧k b=some y:=by
  obtain ⟨v,h1,h⟩:=xI h; obtain ⟨b,rfl,h⟩:=Zv h; exact ⟨b,h1,h⟩
theorem qt {q:Q} {k:Bool→Nat→Nat→Bool→Nat→Nat→Bool→Nat→Nat→Option β} {y:β} (h:QZ q k=some y):∃ s x0 d s1 x1 d1 s2 x2 d2,q=some (vecA s x0 d s1 x1 d1 s2 x2 d2,true)∧k s x0 d s1 x1 d1 s2 x2 d2=some y:=by
  obtain ⟨v,h1,h⟩:=xI h; obtain ⟨s,x0,d,s1,x1,d1,s2,x2,d2,rfl,h⟩:=yg h; exact ⟨s,x0,d,s1,x1,d1,s2,x2,d2,h1,h⟩
theorem ym {q:Q} {k:Nat→Nat→Option β} {y:β} (h:vf q k=some y):∃ n m,q=some (.tuple [zn n,zn m,zt (.ofNat 0)],true)∧k n m=some y:=by
  obtain ⟨v,h1,h⟩:=xI h
  cases v <;> try (cases h; done)
  replace h:=Yi h; obtain ⟨a,b,c,rfl,h⟩:=h
  replace h:=z_ h; obtain ⟨n,rfl,h⟩:=h
  replace h:=z_ h; obtain ⟨m,rfl,h⟩:=h
  replace h:=Ym h; obtain ⟨z,rfl,h⟩:=h
  obtain ⟨h2,h⟩:=zi.1 h
  have hz:z=.ofNat 0:=by
    cases z with
    | ofNat a=>rw [show a=0 from beq_true.1 h2]
    | negSucc a=>cases h2
  subst hz
  exact ⟨n,m,h1,h⟩
end
def clip (l:List AV):Option AV:=w4 l fun a=>(@AV.rec (fun _=>Option AV) U1 U1 U1 U1 U1 U1 (fun _=>none) (fun _ _=>none) (fun _ _ _=>none) (fun b off len es _ _=>some (.hs b off len es len true)) (fun _ _ _ _ _ _ _=>none) (fun _ _ _ _ _=>none) (fun _ _=>none) (fun _ _=>none) (fun _=>none) (fun _ _=>none) K2 () K4 () K4 () K8 K4 () K2 (a))
theorem zcL {P:Program} {f:FuncId} {C:Cx} {p:Func×Code} (hP:C.P=P) (hp:funcOf C f=some p)
    (h:∀ (B o len c:Nat),len≤c→∀ w,Calls P f #[.slice (some ⟨B,o,none⟩) len c] w fun e w'=>e=.returned (.slice (some ⟨B,o,none⟩) len len)∧w'=w)
    {l:List AV} {v:AV} (hv:clip l=some v) {X:Nat→Prop} {j:J} {w:World} {args:Array Value} (hr:vq X j w l args) :
    Answers P f args w fun rv w'=>Still w w'∧w.heap.size≤w'.heap.size∧(∀ B,B < w.heap.size→w'.heap[B]? = w.heap[B]?)∧Rel X j w' v rv:=by
  subst hP
  replace hv:=z0 hv; obtain ⟨a,rfl,hv⟩:=hv
  cases a <;> try (cases hv; done)
  rename_i b off len es lo ex
  cases hv
  obtain ⟨u,rfl,hu⟩:=W0 hr
  obtain ⟨hfn,hen⟩:=ww hp
  cases hu with
  |
    hs hb k1 k2 k3 k4 =>
    rename_i B S o c
    refine .inr ⟨x_ hfn hen,Calls.mono (h B o len c (by omega) w) ?_⟩
    rintro e w' ⟨rfl,rfl⟩
    refine ⟨_,rfl,Still.refl _,Nat.le_refl _,fun _ _=>rfl,.hs hb (Nat.le_refl _) (Nat.le_refl _) (fun _=>rfl) (fun hl => ?_)⟩
    obtain ⟨q1,q2⟩:=k4 (by omega)
    exact ⟨q1,Nat.le_trans (Nat.add_le_add_left (Nat.mul_le_mul_right es (by omega)) off) q2⟩
abbrev UN (s0:Bool) (x0:Nat) (s1:Bool) (x1:Nat) (s2:Bool) (x2:Nat) (s3:Bool) (x3:Nat):AV:=
  .agg [ze s0,zd x0,zb,ze s1,zd x1,zb,ze s2,zd x2,zb,ze s3,zd x3,zb]
section
variable {β:Type}
def w5 (l:List AV) (k:Bool→Nat→List AV→Option β):Option β:=yz l fun a l=>zf (z9 a) fun s=>wz l fun n l=>k s n l
def W4 (x:AV) (k:Bool→Nat→Bool→Nat→Bool→Nat→Bool→Nat→Option β):Option β:=
  (@AV.rec (fun _=>Option β) U1 U1 U1 U1 U1 U1 (fun _=>none) (fun _ _=>none) (fun _ _ _=>none) (fun _ _ _ _ _ _=>none) (fun _ _ _ _ _ _ _=>none) (fun _ _ _ _ _=>none) (fun l _=>w5 l fun s0 x0 l=>w5 l fun s1 x1 l=>w5 l fun s2 x2 l=>w5 l fun s3 x3 l=>ut l (k s0 x0 s1 x1 s2 x2 s3 x3)) (fun _ _=>none) (fun _=>none) (fun _ _=>none) K2 () K4 () K4 () K8 K4 () K2 (x))
theorem xD {l:List AV} {k:Bool→Nat→List AV→Option β} {y:β} (h:w5 l k=some y):∃ s n r,l=ze s::zd n::zb::r∧k s n r=some y:=by
  replace h:=zF h; obtain ⟨a,l1,rfl,h⟩:=h
  replace h:=za.1 h; obtain ⟨s,h1,h⟩:=h
  obtain rfl:=wb h1
  replace h:=yM h; obtain ⟨n,r,rfl,h⟩:=h
  exact ⟨s,n,r,rfl,h⟩
theorem wh {x:AV} {k:Bool→Nat→Bool→Nat→Bool→Nat→Bool→Nat→Option β} {y:β} (h:W4 x k=some y) :
    ∃ s0 x0 s1 x1 s2 x2 s3 x3,x=UN s0 x0 s1 x1 s2 x2 s3 x3∧k s0 x0 s1 x1 s2 x2 s3 x3=some y:=by
  cases x <;> try (cases h; done)
  replace h:=xD h; obtain ⟨s0,x0,r,rfl,h⟩:=h
  replace h:=xD h; obtain ⟨s1,x1,r,rfl,h⟩:=h
  replace h:=xD h; obtain ⟨s2,x2,r,rfl,h⟩:=h
  replace h:=xD h; obtain ⟨s3,x3,r,rfl,h⟩:=h
  replace h:=yx h; obtain ⟨rfl,h⟩:=h
  exact ⟨s0,x0,s1,x1,s2,x2,s3,x3,rfl,h⟩
end
def uv (s:Bool) (x:Nat) (t:Bool) (y:Nat) (S:Bool) (N:Nat) (C:Bool) (k:Bool→Nat→Bool→Q):Q:=
  ifB
      (pos x) (ifB (pos y) (k (xc S N (mk (xU s t) (Nat.mul x y)) (Nat.mul x y)) (yu S N (mk (xU s t) (Nat.mul x y)) (Nat.mul x y))
      (andB C (andB (small x) (andB (small y) (andB (zA x y) (yN S N (mk (xU s t) (Nat.mul x y)) (Nat.mul x y)))))))
    (k S N (andB C (andB (small x) (small y))))) (k S N (andB C (small x)))
def eDot (l:List AV):Q:=xx l fun a b=>W4 a fun s0 x0 s1 x1 s2 x2 s3 x3=>W4 b fun t0 y0 t1 y1 t2 y2 t3 y3 =>
  uv s0 x0 t0 y0 false 0 true fun S N C=>uv s1 x1 t1 y1 S N C fun S N C=>uv s2 x2 t2 y2 S N C fun S N C=>uv s3 x3 t3 y3 S N C fun S N C=>some (zh S N,C)
end
end Go.Abs
