/- SMALL NUMBERS: naturals, whole numbers, fractions of one digit: what the functions on them answer; how it is shown. -/
import Derived.Test.YtdomagdnaohpbaaGreatDoorEvSym
set_option linter.unusedSimpArgs false
set_option linter.unusedVariables false
namespace Go.Abs
noncomputable section
abbrev zb:AV:=.v (.slice none 0 0)
abbrev zd (x:Nat):AV:=.v (.int .u64 (.ofNat x))
abbrev zw (x:Int):AV:=.v (.int .i64 x)
abbrev ze (b:Bool):AV:=.v (.bool b)
abbrev zn (x:Nat):AV:=.agg [zd x,zb]
abbrev zh (s:Bool) (x:Nat):AV:=.agg [ze s,zd x,zb]
abbrev zg (s:Bool) (n e:Nat):AV:=.agg [ze s,zd n,zb,zd e,zb]
section
variable {β:Type}
def zbg (x:AV):Option Nat:=xi x none fun k n=>zm (Nat.beq (xD k) 7) (Int.rec (fun a=>force a some) (fun _=>none) n)
def Xp (x:AV):Bool:=(@AV.rec (fun _=>Bool) U1 U1 U1 U1 U1 U1 (fun z=>Yg z) (fun _ _=>false) (fun _ _ _=>false) (fun _ _ _ _ _ _=>false) (fun _ _ _ _ _ _ _=>false) (fun _ _ _ _ _=>false) (fun _ _=>false) (fun _ _=>false) (fun _=>false) (fun _ _=>false) K2 () K4 () K4 () K8 K4 () K2 (x))
def yB (l:List AV) (k:AV→List AV→Option β):Option β:=List.rec none (fun x r _=>k x r) l
def uD (l:List AV) (y:Option β):Option β:=List.rec y (fun _ _ _=>none) l
def wE (l:List AV) (k:Nat→List AV→Option β):Option β:=yB l fun a l=>yB l fun b l=>zf (zbg a) fun x=>zm (Xp b) (k x l)
def vh (x:AV) (k:Nat→Option β):Option β:=(@AV.rec (fun _=>Option β) U1 U1 U1 U1 U1 U1 (fun _=>none) (fun _ _=>none) (fun _ _ _=>none) (fun _ _ _ _ _ _=>none) (fun _ _ _ _ _ _ _=>none) (fun _ _ _ _ _=>none) (fun l _=>wE l fun x l=>uD l (k x)) (fun _ _=>none) (fun _=>none) (fun _ _=>none) K2 () K4 () K4 () K8 K4 () K2 (x))
def yV (x:AV) (k:Bool→Nat→Option β):Option β:=(@AV.rec (fun _=>Option β) U1 U1 U1 U1 U1 U1 (fun _=>none) (fun _ _=>none) (fun _ _ _=>none) (fun _ _ _ _ _ _=>none) (fun _ _ _ _ _ _ _=>none) (fun _ _ _ _ _=>none) (fun l _=>yB l fun a l=>zf (z9 a) fun s=>wE l fun n l=>uD l (k s n)) (fun _ _=>none) (fun _=>none) (fun _ _=>none) K2 () K4 () K4 () K8 K4 () K2 (x))
def xT (x:AV) (k:Bool→Nat→Nat→Option β):Option β:=(@AV.rec (fun _=>Option β) U1 U1 U1 U1 U1 U1 (fun _=>none) (fun _ _=>none) (fun _ _ _=>none) (fun _ _ _ _ _ _=>none) (fun _ _ _ _ _ _ _=>none) (fun _ _ _ _ _=>none) (fun l _=>yB l fun a l=>zf (z9 a) fun s=>wE l fun n l=>wE l fun e l=>uD l (k s n e)) (fun _ _=>none) (fun _=>none) (fun _ _=>none) K2 () K4 () K4 () K8 K4 () K2 (x))
def zbh (x:AV) (k:Bool→Option β):Option β:=zf (z9 x) k
def zbi (x:AV) (k:Nat→Option β):Option β:=zf (zbg x) k
def fnP (x:AV) (k:Nat→List AV→List AV→Option β):Option β:=(@AV.rec (fun _=>Option β) U1 U1 U1 U1 U1 U1 (fun _=>none) (fun _ _=>none) (fun _ _ _=>none) (fun _ _ _ _ _ _=>none) (fun _ _ _ _ _ _ _=>none) (fun f a b _ _=>(@Fn.rec (fun _=>Option β) (fun g=>k g a b) (fun _=>none) (fun _ _=>none) (fun _ _ _ _=>none) (fun _=>none) (f))) (fun _ _=>none) (fun _ _=>none) (fun _=>none) (fun _ _=>none) K2 () K4 () K4 () K8 K4 () K2 (x))
def vc (l:List AV) (k:AV→Option β):Option β:=yB l fun a l=>uD l (k a)
def xI (l:List AV) (k:AV→AV→Option β):Option β:=yB l fun a l=>yB l fun b l=>uD l (k a b)
def zfW (l:List AV) (k:AV→AV→AV→Option β):Option β:=yB l fun a l=>yB l fun b l=>yB l fun c l=>uD l (k a b c)
theorem ZE {x:AV} {n:Nat} (h:zbg x=some n):x=zd n:=by
  cases x <;> try (cases h; done)
  rename_i z
  cases z <;> try (cases h; done)
  rename_i k m
  replace h:zm (Nat.beq (xD k) 7) (Int.rec (fun a=>force a some) (fun _=>none) m)=some n:=h
  replace h:=zi.1 h; obtain ⟨hk,h⟩:=h
  have hk':k=.u64:=by cases k <;> first | rfl | cases hk
  subst hk'
  cases m with
  | ofNat a=>replace h:force a some=some n:=h; rw [zr] at h; cases h; rfl
  | negSucc _=>cases h
theorem wf {x:AV} {b:Bool} (h:z9 x=some b):x=ze b:=by
  cases x <;> try (cases h; done)
  rename_i z
  cases z <;> try (cases h; done)
  cases h; rfl
theorem jo {x:AV} (h:Xp x=true):x=zb:=by
  cases x <;> try (cases h; done)
  rename_i z
  cases z <;> try (cases h; done)
  rename_i a n c
  cases a with
  | some _=>cases h
  |
    none =>
    replace h:andB (Nat.beq n 0) (Nat.beq c 0)=true:=h
    obtain ⟨h1,h2⟩:=zl.1 h
    rw [beq_true.1 h1,beq_true.1 h2]
theorem zG {l:List AV} {k:AV→List AV→Option β} {y:β} (h:yB l k=some y):∃ x r,l=x::r∧k x r=some y:=by
  cases l with
  | nil=>cases h
  | cons x r=>exact ⟨x,r,rfl,h⟩
theorem yy {l:List AV} {z:Option β} {y:β} (h:uD l z=some y):l=[]∧z=some y:=by
  cases l with
  | nil=>exact ⟨rfl,h⟩
  | cons x r=>cases h
theorem yO {l:List AV} {k:Nat→List AV→Option β} {y:β} (h:wE l k=some y):∃ n r,l=zd n::zb::r∧k n r=some y:=by
  replace h:=zG h; obtain ⟨a,l1,rfl,h⟩:=h
  replace h:=zG h; obtain ⟨b,l2,rfl,h⟩:=h
  replace h:=za.1 h; obtain ⟨n,h1,h⟩:=h
  replace h:=zi.1 h; obtain ⟨h2,h⟩:=h
  obtain rfl:=ZE h1
  obtain rfl:=jo h2
  exact ⟨n,l2,rfl,h⟩
theorem yc {x:AV} {k:Nat→Option β} {y:β} (h:vh x k=some y):∃ n,x=zn n∧k n=some y:=by
  cases x <;> try (cases h; done)
  replace h:=yO h; obtain ⟨n,r,rfl,h⟩:=h
  replace h:=yy h; obtain ⟨rfl,h⟩:=h
  exact ⟨n,rfl,h⟩
theorem zR {x:AV} {k:Bool→Nat→Option β} {y:β} (h:yV x k=some y):∃ s n,x=zh s n∧k s n=some y:=by
  cases x <;> try (cases h; done)
  replace h:=zG h; obtain ⟨a,l1,rfl,h⟩:=h
  replace h:=za.1 h; obtain ⟨s,h1,h⟩:=h
  obtain rfl:=wf h1
  replace h:=yO h; obtain ⟨n,r,rfl,h⟩:=h
  replace h:=yy h; obtain ⟨rfl,h⟩:=h
  exact ⟨s,n,rfl,h⟩
theorem z0 {x:AV} {k:Bool→Nat→Nat→Option β} {y:β} (h:xT x k=some y):∃ s n e,x=zg s n e∧k s n e=some y:=by
  cases x <;> try (cases h; done)
  replace h:=zG h; obtain ⟨a,l1,rfl,h⟩:=h
  replace h:=za.1 h; obtain ⟨s,h1,h⟩:=h
  obtain rfl:=wf h1
  replace h:=yO h; obtain ⟨n,r,rfl,h⟩:=h
  replace h:=yO h; obtain ⟨e,r,rfl,h⟩:=h
  replace h:=yy h; obtain ⟨rfl,h⟩:=h
  exact ⟨s,n,e,rfl,h⟩
theorem ZF {x:AV} {k:Bool→Option β} {y:β} (h:zbh x k=some y):∃ b,x=ze b∧k b=some y:=by
  replace h:=za.1 h; obtain ⟨b,h1,h⟩:=h
  exact ⟨b,wf h1,h⟩
theorem uS {x:AV} {k:Nat→Option β} {y:β} (h:zbi x k=some y):∃ n,x=zd n∧k n=some y:=by
  replace h:=za.1 h; obtain ⟨b,h1,h⟩:=h
  exact ⟨b,ZE h1,h⟩
theorem zbj {x:AV} {k:Nat→List AV→List AV→Option β} {y:β} (h:fnP x k=some y):∃ g a b,x=.fn (.func g) a b∧k g a b=some y:=by
  cases x <;> try (cases h; done)
  rename_i f a b
  cases f <;> try (cases h; done)
  exact ⟨_,a,b,rfl,h⟩
theorem zX {l:List AV} {k:AV→Option β} {y:β} (h:vc l k=some y):∃ a,l=[a]∧k a=some y:=by
  replace h:=zG h; obtain ⟨a,l1,rfl,h⟩:=h
  replace h:=yy h; obtain ⟨rfl,h⟩:=h
  exact ⟨a,rfl,h⟩
theorem zF {l:List AV} {k:AV→AV→Option β} {y:β} (h:xI l k=some y):∃ a b,l=[a,b]∧k a b=some y:=by
  replace h:=zG h; obtain ⟨a,l1,rfl,h⟩:=h
  replace h:=zG h; obtain ⟨b,l1,rfl,h⟩:=h
  replace h:=yy h; obtain ⟨rfl,h⟩:=h
  exact ⟨a,b,rfl,h⟩
theorem YA {l:List AV} {k:AV→AV→AV→Option β} {y:β} (h:zfW l k=some y):∃ a b c,l=[a,b,c]∧k a b c=some y:=by
  replace h:=zG h; obtain ⟨a,l1,rfl,h⟩:=h
  replace h:=zG h; obtain ⟨b,l1,rfl,h⟩:=h
  replace h:=zG h; obtain ⟨c,l1,rfl,h⟩:=h
  replace h:=yy h; obtain ⟨rfl,h⟩:=h
  exact ⟨a,b,c,rfl,h⟩
end
abbrev Q:=Option (AV×Bool)
def pos (x:Nat):Bool:=notB (Nat.beq x 0)
def lt (x y:Nat):Bool:=Nat.ble (Nat.succ x) y
def xY (x y:Nat):Int:=ifB (lt x y) (.negSucc 0) (ifB (lt y x) (.ofNat 1) (.ofNat 0))
def yu (x:Nat):Nat:=ifB (Nat.beq x 0) 0 (Nat.succ (Nat.log2 x))
def yK (s:Bool) (x:Nat):Int:=ifB (Nat.beq x 0) (.ofNat 0) (ifB s (.negSucc 0) (.ofNat 1))
def xC (a b:Bool):Bool:=ifB a (notB b) b
def mk (s:Bool) (x:Nat):Bool:=andB s (pos x)
abbrev ok:AV:=.v (.int .i64 (.ofNat 0))
def ZG (l:List AV):Q:=vc l fun a=>zbi a fun x=>some (zw (.ofNat (yu x)),small x)
def ZH (l:List AV):Q:=xI l fun a b=>zbi a fun x=>zbi b fun y=>some (.tuple [zd (Nat.div (Nat.mul x y) 18446744073709551616),zd (Nat.mod (Nat.mul x y) 18446744073709551616)],andB (small x) (small y))
def Xq (l:List AV):Q:=zf (add64 l) fun v=>some (v,true)
def Xr (l:List AV):Q:=zf (sub64 l) fun v=>some (v,true)
def Xs (l:List AV):Q:=vc l fun a=>zbi a fun x=>some (zn x,true)
def Kr (l:List AV):Q:=vc l fun a=>vh a fun x=>some (zw (.ofNat (yu x)),small x)
def jE (l:List AV):Q:=xI l fun a b=>vh a fun x=>vh b fun y=>some (zw (xY x y),true)
def jF (l:List AV):Q:=xI l fun a b=>vh a fun x=>vh b fun y=>some (zn (Nat.add x y),small (Nat.add x y))
def jG (ok:AV) (l:List AV):Q:=xI l fun a b=>vh a fun x=>vh b fun y=>some (.tuple [zn (Nat.sub x y),ok],andB (Nat.ble y x) (small x))
def jH (l:List AV):Q:=xI l fun a b=>vh a fun x=>vh b fun y=>some (zn (Nat.mul x y),andB (small x) (andB (small y) (small (Nat.mul x y))))
def jI (ok:AV) (l:List AV):Q:=xI l fun a b=>vh a fun x=>vh b fun y=>some (.tuple [zn (Nat.div x y),zn (Nat.mod x y),ok],andB (pos y) (andB (small x) (small y)))
def zda (l:List AV):Q:=xI l fun a b=>vh a fun x=>vh b fun y=>some (zn (Nat.gcd x y),andB (small x) (small y))
def Ks (l:List AV):Q:=xI l fun a b=>zbh a fun s=>vh b fun x=>some (zh (mk s x) x,small x)
def Kt (l:List AV):Q:=vc l fun a=>yV a fun s x=>some (zw (yK s x),small x)
def zdb (l:List AV):Q:=vc l fun a=>yV a fun s x=>some (zn x,true)
def zdc (l:List AV):Q:=xI l fun a b=>yV a fun s x=>yV b fun t y=>some (zw (ifB s (ifB t (xY y x) (.negSucc 0)) (ifB t (.ofNat 1) (xY x y))),true)
def zdd (l:List AV):Q:=vc l fun a=>yV a fun s x=>some (zh (mk (notB s) x) x,small x)
def yw (s:Bool) (x:Nat) (t:Bool) (y:Nat):Nat:=ifB (xC s t) (ifB (lt x y) (Nat.sub y x) (Nat.sub x y)) (Nat.add x y)
def xe (s:Bool) (x:Nat) (t:Bool) (y:Nat):Bool:=mk (ifB (xC s t) (ifB (lt x y) t s) s) (yw s x t y)
def yP (s:Bool) (x:Nat) (t:Bool) (y:Nat):Bool:=andB (small x) (andB (small y) (small (yw s x t y)))
def zde (l:List AV):Q:=xI l fun a b=>yV a fun s x=>yV b fun t y=>some (zh (xe s x t y) (yw s x t y),yP s x t y)
def zdf (l:List AV):Q:=xI l fun a b=>yV a fun s x=>yV b fun t y=>some (zh (xe s x (mk (notB t) y) y) (yw s x (mk (notB t) y) y),yP s x (mk (notB t) y) y)
def zA (x y:Nat):Bool:=andB (small x) (andB (small y) (small (Nat.mul x y)))
def zdg (l:List AV):Q:=xI l fun a b=>yV a fun s x=>yV b fun t y=>some (zh (mk (xC s t) (Nat.mul x y)) (Nat.mul x y),zA x y)
def yH (n d:Nat):Nat:=ifB (Nat.beq d 1) n (ifB (lt 1 (Nat.gcd n d)) (Nat.div n (Nat.gcd n d)) n)
def xb (s:Bool) (n d:Nat):Bool:=ifB (Nat.beq d 1) s (ifB (lt 1 (Nat.gcd n d)) (mk (andB s (pos n)) (Nat.div n (Nat.gcd n d))) s)
def yI (n d:Nat):Nat:=ifB (Nat.beq d 1) 0 (Nat.sub (ifB (lt 1 (Nat.gcd n d)) (Nat.div d (Nat.gcd n d)) d) 1)
def zL (n d:Nat):Bool:=andB (pos d) (andB (small n) (small d))
def zfX (s:Bool) (n d:Nat):AV:=zg (xb s n d) (yH n d) (yI n d)
def zdh (l:List AV):Q:=xI l fun a b=>yV a fun s n=>vh b fun d=>some (zfX s n d,zL n d)
def ePart (l:List AV):Q:=xI l fun a b=>vh a fun x=>vh b fun y=>some (zn (Nat.div x y),andB (pos y) (andB (small x) (small y)))
def zdi (l:List AV):Q:=uD l (some (zn 1,true))
def eOf (l:List AV):Q:=vc l fun a=>yV a fun s x=>some (zg s x 0,true)
def zdj (l:List AV):Q:=vc l fun a=>xT a fun s n e=>some (zh s n,true)
def zdk (l:List AV):Q:=vc l fun a=>xT a fun s n e=>some (zn (Nat.add e 1),small (Nat.add e 1))
def Xt (l:List AV):Q:=vc l fun a=>xT a fun s n e=>some (zw (yK s n),small n)
def jJ (l:List AV):Q:=vc l fun a=>xT a fun s n e=>some (ze (Nat.beq e 0),small e)
def eBy (l:List AV):Q:=xI l fun a b=>yV a fun s n=>vh b fun d=>some (zh (mk s (Nat.mul n d)) (Nat.mul n d),zA n d)
def Ku (l:List AV):Q:=vc l fun a=>xT a fun s n e=>some (zg (mk (notB s) n) n e,small n)
def YB (fN:Bool→Nat→Bool→Nat→Nat) (fS:Bool→Nat→Bool→Nat→Bool) (fC:Bool→Nat→Bool→Nat→Bool) (s:Bool) (n e:Nat) (t:Bool) (m f:Nat):Q:=
  let n':=Nat.mul n (Nat.add f 1)
  let m':=Nat.mul m (Nat.add e 1)
  let s':=mk s n'
  let t':=mk t m'
  let d:=Nat.mul (Nat.add e 1) (Nat.add f 1)
  let ent:=andB (Nat.beq e 0) (Nat.beq f 0)
  some (zg (ifB ent (fS s n t m) (xb (fS s' n' t' m') (fN s' n' t' m') d)) (ifB ent (fN s n t m) (yH (fN s' n' t' m') d)) (ifB ent 0 (yI (fN s' n' t' m') d)),
    andB (small e) (andB (small f) (ifB ent (fC s n t m) (andB (small (Nat.add e 1)) (andB (small (Nat.add f 1)) (andB (zA n (Nat.add f 1)) (andB (zA m (Nat.add e 1)) (andB (fC s' n' t' m') (andB (zA (Nat.add e 1) (Nat.add f 1)) (zL (fN s' n' t' m') d))))))))))
def zP (s:Bool) (x:Nat) (t:Bool) (y:Nat):Nat:=yw s x (mk (notB t) y) y
def zS (s:Bool) (x:Nat) (t:Bool) (y:Nat):Bool:=xe s x (mk (notB t) y) y
def zT (s:Bool) (x:Nat) (t:Bool) (y:Nat):Bool:=yP s x (mk (notB t) y) y
def Kv (l:List AV):Q:=xI l fun a b=>xT a fun s n e=>xT b fun t m f=>YB yw xe yP s n e t m f
def Kw (l:List AV):Q:=xI l fun a b=>xT a fun s n e=>xT b fun t m f=>YB zP zS zT s n e t m f
def Kx (fAdd fSub:Nat) (l:List AV):Q:=zfW l fun a b h=>xT a fun s n e=>xT b fun t m f=>fnP h fun g p q=>uD p (uD q
  (ifB (Nat.beq g fAdd) (YB yw xe yP s n e t m f) (ifB (Nat.beq g fSub) (YB zP zS zT s n e t m f) none)))
def Ky (l:List AV):Q:=xI l fun a b=>xT a fun s n e=>xT b fun t m f =>
  let p:=Nat.mul n m
  let d:=Nat.mul (Nat.add e 1) (Nat.add f 1)
  let ent:=andB (Nat.beq e 0) (Nat.beq f 0)
  some (zg (ifB ent (mk (xC s t) p) (xb (mk (xC s t) p) p d)) (ifB ent p (yH p d)) (ifB ent 0 (yI p d)),
    andB (small e) (andB (small f) (andB (zA n m) (ifB ent true (andB (small (Nat.add e 1)) (andB (small (Nat.add f 1)) (andB (zA (Nat.add e 1) (Nat.add f 1)) (zL p d))))))))
def Kz (l:List AV):Q:=xI l fun a b=>xT a fun s n e=>xT b fun t m f =>
  let n':=Nat.mul n (Nat.add f 1)
  let m':=Nat.mul m (Nat.add e 1)
  let s':=mk s n'
  let t':=mk t m'
  let ent:=andB (Nat.beq e 0) (Nat.beq f 0)
  some (zw (ifB ent (ifB s (ifB t (xY m n) (.negSucc 0)) (ifB t (.ofNat 1) (xY n m))) (ifB s' (ifB t' (xY m' n') (.negSucc 0)) (ifB t' (.ofNat 1) (xY n' m')))),
    andB (small e) (andB (small f) (ifB ent true (andB (small (Nat.add e 1)) (andB (small (Nat.add f 1)) (andB (zA n (Nat.add f 1)) (zA m (Nat.add e 1))))))))
def Xu (ok:AV) (l:List AV):Q:=xI l fun a b=>yV a fun s n=>yV b fun t m =>
  some (.tuple [zfX (ifB t (mk (notB s) n) s) n m,ok],andB (pos m) (andB (small m) (zL n m)))
def KB (ok:AV) (l:List AV):Q:=xI l fun a b=>xT a fun s n e=>xT b fun t m f =>
  let p:=Nat.mul n (Nat.add f 1)
  let d:=Nat.mul (Nat.add e 1) m
  some (.tuple [zfX (mk (mk (xC s t) n) p) p d,ok],andB (pos m) (andB (small m) (andB (small n) (andB (small (Nat.add e 1)) (andB (small (Nat.add f 1)) (andB (zA n (Nat.add f 1)) (andB (zA (Nat.add e 1) m) (zL p d))))))))
def Ok (P:Program) (E:Es) (f:FuncId):Prop:=∀ (l:List AV) (v:AV),E f l=some (v,true)→∀ (X:Nat→Prop) (j:J) (w:World) (args:Array Value),(∀ B,X B→B < w.heap.size)→wK X j w l args →
  Answers P f args w fun rv w'=>Still w w'∧w.heap.size≤w'.heap.size∧(∀ B,B < w.heap.size→w'.heap[B]? = w.heap[B]?)∧Rel X j w' v rv
def only (S:FuncId→Bool) (E:Es):Es:=fun f l=>zm (S f) (E f l)
def cxOf (P:Program) (E:Es):Cx:={ P:=P,ext:=extOf E,nf:=fun _=>false,hb:=fun _=>false }
theorem vN {P:Program} {E:Es} {S:FuncId→Bool} (h:∀ f,S f=true→Ok P E f):ExtOk (cxOf P (only S E)):=by
  intro f l v hx X j w args hX hr
  obtain ⟨h1,h2⟩:=zi.1 (extOf_some.1 hx)
  exact h f h1 l v h2 X j w args hX hr
def bare (d:Nat):AV→Bool:=
  Nat.rec (fun _=>false) (fun _ ih x=>(@AV.rec (fun _=>Bool) U1 U1 U1 U1 U1 U1 (fun _=>true) (fun _ _=>false) (fun _ _ _=>false) (fun _ _ _ _ _ _=>false) (fun _ _ _ _ _ _ _=>false) (fun _ a b _ _=>andB (allB ih a) (allB ih b)) (fun l _=>allB ih l) (fun l _=>allB ih l) (fun _=>false) (fun _ _=>false) K2 () K4 () K4 () K8 K4 () K2 (x))) d
theorem JL (d:Nat) (x:AV):bare (d + 1) x=(match x with | .v _=>true | .agg l=>allB (bare d) l | .tuple l=>allB (bare d) l | .fn _ a b=>andB (allB (bare d) a) (allB (bare d) b) | _=>false):=by cases x <;> rfl
theorem Rel.bare (d:Nat):∀ {X X':Nat→Prop} {j j':J} {w w':World} {x:AV} {v:Value},Rel X j w x v→Go.Abs.bare d x=true→Rel X' j' w' x v:=by
  induction d with
  | zero=>intro X X' j j' w w' x v h hf; cases hf
  |
    succ d ih =>
    intro X X' j j' w w' x v h hf
    rw [JL] at hf
    cases h with
    | v hp=>exact .v hp
    |
      fn h1 r1 h2 r2 =>
      obtain ⟨f1,f2⟩:=zl.1 hf
      exact .fn h1 (fun i x y hx hy=>ih (r1 i x y hx hy) (z6.1 f1 x (List.mem_of_getElem? hx))) h2 (fun i x y hx hy=>ih (r2 i x y hx hy) (z6.1 f2 x (List.mem_of_getElem? hx)))
    | agg h1 r1=>exact .agg h1 (fun i x y hx hy=>ih (r1 i x y hx hy) (z6.1 hf x (List.mem_of_getElem? hx)))
    | tuple h1 r1=>exact .tuple h1 (fun i x y hx hy=>ih (r1 i x y hx hy) (z6.1 hf x (List.mem_of_getElem? hx)))
    | hp _=>cases hf
    | hs _ _ _ _ _=>cases hf
    | vp f a b c e=>cases hf
    | vs f a b c e g k m=>cases hf
    | hm _=>cases hf
    | vm a b c e g k=>cases hf
theorem zeZ {P:Program} {E:Es} {C:Cx} (hP:C.P=P) (hm:P.follows .mixedOrders=true) (hext:ExtOk C) {f:FuncId}
    (h:∀ l v,E f l=some (v,true)→allB (bare 4) l=true∧bare 4 v=true∧∃ n rd,Go.Abs.call C n f l=.value v rd):Ok P E f:=by
  subst hP
  intro l v hv X j w args hX hr
  obtain ⟨h1,h2,n,rd,h3⟩:=h l v hv
  refine (qv hm hext h3 w args ⟨hr.1,fun i x y hx hy=>(hr.2 i x y hx hy).bare 4 (z6.1 h1 x (List.mem_of_getElem? hx))⟩).mono fun rv w' ⟨g0,g1,g2,g3⟩=>⟨g0,g1,g2,g3.bare 4 h2⟩
theorem zM {P:Program} {E:Es} {S:FuncId→Bool} (hm:P.follows .mixedOrders=true) (hS:∀ f,S f=true→Ok P E f) {f:FuncId} (hf:S f=false)
    (h:∀ l v,E f l=some (v,true)→allB (bare 4) l=true∧bare 4 v=true∧∃ n ds ds' ob,symCall (cxOf P (only S E)) (only S E) n f l ds=some (.value v (some []),ds',ob)∧Met ob):Ok P E f:=
  zeZ (C:=cxOf P (only S E)) rfl hm (vN hS) fun l v hv=>by
    obtain ⟨h1,h2,n,ds,ds',ob,h3,h4⟩:=h l v hv
    exact ⟨h1,h2,n,_,qy rfl (by show extOf _ f l=none; unfold extOf only; rw [hf]; rfl) h3 h4⟩
abbrev B64:Nat:=18446744073709551616
theorem wv {x:Nat}:small x=true↔x < 18446744073709551616:=by unfold small; rw [zq]; omega
theorem zbk {a b:Nat}:Nat.ble a b=false↔b < a:=by
  cases h:Nat.ble a b with
  | true=>have:=zq.1 h; simp; omega
  | false=>simp; apply Nat.lt_of_not_le; intro hle; rw [zq.2 hle] at h; cases h
theorem zQ {a b:Nat}:Nat.beq a b=false↔a≠b:=by
  cases h:Nat.beq a b with
  | true=>have:=beq_true.1 h; simp [this]
  | false=>simp; intro e; rw [beq_true.2 e] at h; cases h
theorem ZI {b:Bool}:notB b=true↔b=false:=by cases b <;> simp [notB]
theorem Qe {b:Bool}:notB b=false↔b=true:=by cases b <;> simp [notB]
theorem zbl {x:Nat}:pos x=true↔x≠0:=by unfold pos; rw [ZI,zQ]
theorem zbm {x:Nat}:pos x=false↔x=0:=by unfold pos; rw [Qe,beq_true]
theorem qz {x y:Nat}:lt x y=true↔x < y:=by unfold lt; rw [zq]; omega
theorem v3 {x y:Nat}:lt x y=false↔y≤x:=by unfold lt; rw [zbk]; omega
theorem ze0 {a b:Nat}:eqI (Int.ofNat a) (Int.ofNat b)=true↔a=b:=beq_true
theorem ze1 {a b:Nat}:eqI (Int.ofNat a) (Int.ofNat b)=false↔a≠b:=zQ
theorem Qf {a:Nat}:eqI (Int.ofNat a) 0=true↔a=0:=beq_true
theorem Qg {a:Nat}:eqI (Int.ofNat a) 0=false↔a≠0:=zQ
theorem zbn {a:Nat}:eqI (Int.ofNat a) 1=true↔a=1:=beq_true
theorem zbo {a:Nat}:eqI (Int.ofNat a) 1=false↔a≠1:=zQ
theorem YC {a b:Nat}:ltI (Int.ofNat a) (Int.ofNat b)=true↔a < b:=qz
theorem ze2 {a b:Nat}:ltI (Int.ofNat a) (Int.ofNat b)=false↔b≤a:=v3
theorem kX {b:Nat}:ltI 0 (Int.ofNat b)=true↔0 < b:=qz
theorem Xv {b:Nat}:ltI 0 (Int.ofNat b)=false↔b≤0:=v3
theorem zbp {b:Nat}:ltI 1 (Int.ofNat b)=true↔1 < b:=qz
theorem zbq {b:Nat}:ltI 1 (Int.ofNat b)=false↔b≤1:=v3
theorem Xw {x y:Nat} (h:x < y):xY x y=.negSucc 0:=by unfold xY; rw [qz.2 h]; rfl
theorem Xx {x y:Nat} (h:y < x):xY x y=.ofNat 1:=by unfold xY; rw [v3.2 (by omega),qz.2 h]; rfl
theorem Xy {x y:Nat} (h:x=y):xY x y=.ofNat 0:=by unfold xY; rw [v3.2 (by omega),v3.2 (by omega)]; rfl
theorem Qh {x y:Nat}:ltI (xY x y) 0=true↔x < y:=by
  rcases Nat.lt_trichotomy x y with h | h | h
  · rw [Xw h]; exact ⟨fun _=>h,fun _=>rfl⟩
  · rw [Xy h]; exact ⟨fun e=>(by cases e),fun e=>by omega⟩
  · rw [Xx h]; exact ⟨fun e=>(by cases e),fun e=>by omega⟩
theorem zbr {x y:Nat}:ltI (xY x y) 0=false↔y≤x:=by
  have:=@Qh x y
  cases h:ltI (xY x y) 0 <;> simp [h] at this ⊢ <;> omega
theorem xN {x:Nat}:yu x=0↔x=0:=by
  unfold yu
  cases h:Nat.beq x 0 with
  | true=>have:=beq_true.1 h; simp [ifB_true,this]
  | false=>have:=zQ.1 h; rw [zj]; omega
theorem wR {x:Nat}:yu x≤1↔x≤1:=by
  unfold yu
  cases h:Nat.beq x 0 with
  | true=>have:=beq_true.1 h; rw [ifB_true]; omega
  |
    false =>
    have:=zQ.1 h
    rw [zj]
    have h2:Nat.log2 x < 1↔x < 2:=by
      rw [Nat.log2_lt this]
    omega
theorem YD {x:Nat}:yu x=1↔x=1:=by
  have h1:=@xN x
  have h2:=@wR x
  omega
theorem uT {x:Nat}:0 < yu x↔x≠0:=by have:=@xN x; omega
theorem ki {x:Nat}:1 < yu x↔1 < x:=by have:=@wR x; omega
theorem vz {x:Nat}:yu x≤0↔x=0:=by have:=@xN x; omega
theorem uU (s:Bool) (x:Nat):ltI (yK s x) 0=andB s (pos x):=by
  unfold yK pos
  cases Nat.beq x 0 <;> cases s <;> rfl
theorem qA (s:Bool) (x:Nat):eqI (yK s x) 0=Nat.beq x 0:=by
  unfold yK
  cases Nat.beq x 0 <;> cases s <;> rfl
theorem zdl (x:Nat):ltI 0 (Int.ofNat (yu x))=pos x:=by
  cases h:pos x with
  | true=>rw [kX,uT]; exact zbl.1 h
  | false=>rw [Xv,vz]; exact zbm.1 h
theorem mk_true (x:Nat):mk true x=pos x:=rfl
theorem mk_false (x:Nat):mk false x=false:=rfl
theorem met_cons {a b:Bool} {l:Ob} (h:a=b) (hl:Met l):Met ((a,b)::l):=⟨h,hl⟩
theorem met_nil:Met []:=trivial
theorem zC {v v':AV} {c:Bool} (h:(some (v,c):Q)=some (v',true)):v=v'∧c=true:=by cases h; exact ⟨rfl,rfl⟩
theorem yz {C:Cx} {E:Es} {f:FuncId} {l:List AV} {v v':AV} {n:Nat} {ds ds':List Dc} {ob:Ob} (h:symCall C E n f l ds=some (.value v' (some []),ds',ob)) (hv:v=v') (hm:Met ob) :
    ∃ n ds ds' ob,symCall C E n f l ds=some (.value v (some []),ds',ob)∧Met ob:=⟨n,ds,ds',ob,by rw [hv]; exact h,hm⟩
theorem Xz {x x':Nat} (h:x=x'):zn x=zn x':=by rw [h]
theorem zbs {s s':Bool} {x x':Nat} (h1:s=s') (h:x=x'):zh s x=zh s' x':=by rw [h,h1]
theorem uV {s s':Bool} {x x' e e':Nat} (h1:s=s') (h:x=x') (h2:e=e'):zg s x e=zg s' x' e':=by rw [h,h1,h2]
theorem uE {x x':Int} (h:x=x'):zw x=zw x':=by rw [h]
theorem KC {x x':Bool} (h:x=x'):ze x=ze x':=by rw [h]
theorem kj {a a' b b':AV} (h1:a=a') (h2:b=b'):AV.tuple [a,b]=AV.tuple [a',b']:=by rw [h1,h2]
theorem zbt {a a' b b' c c':AV} (h1:a=a') (h2:b=b') (h3:c=c'):AV.tuple [a,b,c]=AV.tuple [a',b',c']:=by rw [h1,h2,h3]
theorem zE {P:Program} {E:Es} {L:List Nat} {f:Nat} (h:∀ g,memN g L=true→Ok P E g) (hf:Ok P E f):∀ g,memN g (f::L)=true→Ok P E g:=by
  intro g hg
  replace hg:ifB (Nat.beq g f) true (memN g L)=true:=hg
  cases e:Nat.beq g f with
  | true=>rw [beq_true.1 e]; exact hf
  | false=>rw [e,zj] at hg; exact h g hg
theorem Vp {P:Program} {E:Es} {f:FuncId} {g:List AV→Option AV} (he:∀ l,E f l=zf (g l) fun v=>some (v,true))
    (h:∀ (X:Nat→Prop) (j:J) (w:World) (l:List AV) (v:AV) (args:Array Value),g l=some v→wK X j w l args→Answers P f args w fun rv w'=>Still w w'∧w.heap.size≤w'.heap.size∧(∀ B,B < w.heap.size→w'.heap[B]? = w.heap[B]?)∧Rel X j w' v rv):Ok P E f:=by
  intro l v hv X j w args _ hr
  rw [he] at hv
  obtain ⟨u,h1,h2⟩:=za.1 hv
  cases h2
  exact h X j w l _ args h1 hr
theorem Vq {X:Nat→Prop} {j:J} {w:World} {x:AV} {args:Array Value} (h:wK X j w [x] args):∃ v,args = #[v]∧Rel X j w x v:=by
  rcases args with ⟨args⟩
  match args,(show args.length=1 by have:=h.1; simpa using this.symm) with
  | [v],_=>exact ⟨v,rfl,h.2 0 x v rfl rfl⟩
theorem Vr {X:Nat→Prop} {j:J} {w:World} {x y:AV} {args:Array Value} (h:wK X j w [x,y] args):∃ v u,args = #[v,u]∧Rel X j w x v∧Rel X j w y u:=by
  rcases args with ⟨args⟩
  match args,(show args.length=2 by have:=h.1; simpa using this.symm) with
  | [v,u],_=>exact ⟨v,u,rfl,h.2 0 x v rfl rfl,h.2 1 y u rfl rfl⟩
theorem zbu {P:Program} {E:Es} {f:FuncId} {C:Cx} {p:Func×Code} (hP:C.P=P) (hp:funcOf C f=some p) (he:∀ l,E f l=ZG l)
    (h:∀ (x:Nat) (w:World),x < 18446744073709551616→Calls P f #[.int .u64 x] w fun e w'=>e=.returned (.int .i64 (yu x))∧w'=w):Ok P E f:=by
  subst hP
  intro l v hv X j w args _ hr
  rw [he] at hv
  replace hv:=zX hv; obtain ⟨a,rfl,hv⟩:=hv
  replace hv:=uS hv; obtain ⟨x,rfl,hv⟩:=hv
  obtain ⟨rfl,hc⟩:=zC hv
  obtain ⟨u,rfl,hu⟩:=Vq hr
  obtain ⟨rfl,_⟩:=hu.v_eq
  obtain ⟨hfn,hen⟩:=xk hp
  refine .inr ⟨xB hfn hen,Calls.mono (h x w (wv.1 hc)) ?_⟩
  rintro e w' ⟨rfl,rfl⟩
  exact ⟨_,rfl,Still.refl _,Nat.le_refl _,fun _ _=>rfl,.v rfl⟩
theorem zbv {P:Program} {E:Es} {f:FuncId} {C:Cx} {p:Func×Code} (hP:C.P=P) (hp:funcOf C f=some p) (he:∀ l,E f l=ZH l)
    (h:∀ (x y:Nat) (_:x < 18446744073709551616) (_:y < 18446744073709551616) (w:World),Calls P f #[.int .u64 x,.int .u64 y] w fun e w' =>
      e=.returned (.tuple #[.int .u64 ((x * y / 18446744073709551616:Nat):Int),.int .u64 ((x * y % 18446744073709551616:Nat):Int)])∧w'=w):Ok P E f:=by
  subst hP
  intro l v hv X j w args _ hr
  rw [he] at hv
  replace hv:=zF hv; obtain ⟨a,b,rfl,hv⟩:=hv
  replace hv:=uS hv; obtain ⟨x,rfl,hv⟩:=hv
  replace hv:=uS hv; obtain ⟨y,rfl,hv⟩:=hv
  obtain ⟨rfl,hc⟩:=zC hv
  obtain ⟨c1,c2⟩:=zl.1 hc
  obtain ⟨u,t,rfl,hu,ht⟩:=Vr hr
  obtain ⟨rfl,_⟩:=hu.v_eq
  obtain ⟨rfl,_⟩:=ht.v_eq
  obtain ⟨hfn,hen⟩:=xk hp
  refine .inr ⟨xB hfn hen,Calls.mono (h x y (wv.1 c1) (wv.1 c2) w) ?_⟩
  rintro e w' ⟨rfl,rfl⟩
  exact ⟨_,rfl,Still.refl _,Nat.le_refl _,fun _ _=>rfl,ZC⟩
def Vs:List (Nat×(List AV→Q))→T (List AV→Q)
  | []=>T.nil
  | p::l=>T.set p.1 p.2 (Vs l)
theorem qB {f:Nat}:∀ {l:List (Nat×(List AV→Q))},memN f (l.map (·.1))=false→(Vs l).get f=none
  | [],_=>T.get_nil ..
  |
    p::l,h=>by
    replace h:ifB (Nat.beq f p.1) true (memN f (l.map (·.1)))=false:=h
    show (T.set p.1 p.2 (Vs l)).get f=none
    cases e:Nat.beq f p.1 with
    | true=>rw [e] at h; cases h
    |
      false =>
      rw [e,zj] at h
      rw [T.get_set,if_neg (zQ.1 e)]
      exact qB h
theorem extOk_all {P:Program} {E:Es} {C:Cx} (hP:C.P=P) (hx:C.ext=extOf E) (h:∀ f,Ok P E f):ExtOk C:=by
  subst hP
  intro f l v hv X j w args hX hr
  rw [hx] at hv
  exact h f l v (extOf_some.1 hv) X j w args hX hr
section
variable {β:Type}
def xU (l:List AV) (k:Bool→Nat→Nat→List AV→Option β):Option β:=yB l fun a l=>zf (z9 a) fun s=>wE l fun n l=>wE l fun e l=>k s n e l
theorem yG {l:List AV} {k:Bool→Nat→Nat→List AV→Option β} {y:β} (h:xU l k=some y):∃ s n e r,l=ze s::zd n::zb::zd e::zb::r∧k s n e r=some y:=by
  replace h:=zG h; obtain ⟨a,l1,rfl,h⟩:=h
  replace h:=za.1 h; obtain ⟨s,h1,h⟩:=h
  obtain rfl:=wf h1
  replace h:=yO h; obtain ⟨n,r,rfl,h⟩:=h
  replace h:=yO h; obtain ⟨e,r,rfl,h⟩:=h
  exact ⟨s,n,e,r,rfl,h⟩
abbrev vecA (s:Bool) (x d:Nat) (s1:Bool) (x1 d1:Nat) (s2:Bool) (x2 d2:Nat):AV:=
  .agg [ze s,zd x,zb,zd d,zb,ze s1,zd x1,zb,zd d1,zb,ze s2,zd x2,zb,zd d2,zb]
abbrev zfY (s:Bool) (x d:Nat) (s1:Bool) (x1 d1:Nat) (s2:Bool) (x2 d2:Nat) (s3:Bool) (x3 d3:Nat):AV:=
  .agg [ze s,zd x,zb,zd d,zb,ze s1,zd x1,zb,zd d1,zb,ze s2,zd x2,zb,zd d2,zb,ze s3,zd x3,zb,zd d3,zb]
def uY (x:AV) (k:Bool→Nat→Nat→Bool→Nat→Nat→Bool→Nat→Nat→Option β):Option β:=
  (@AV.rec (fun _=>Option β) U1 U1 U1 U1 U1 U1 (fun _=>none) (fun _ _=>none) (fun _ _ _=>none) (fun _ _ _ _ _ _=>none) (fun _ _ _ _ _ _ _=>none) (fun _ _ _ _ _=>none) (fun l _=>xU l fun s x d l=>xU l fun s1 x1 d1 l=>xU l fun s2 x2 d2 l=>uD l (k s x d s1 x1 d1 s2 x2 d2)) (fun _ _=>none) (fun _=>none) (fun _ _=>none) K2 () K4 () K4 () K8 K4 () K2 (x))
def qC (x:AV) (k:Bool→Nat→Nat→Bool→Nat→Nat→Bool→Nat→Nat→Bool→Nat→Nat→Option β):Option β:=
  (@AV.rec (fun _=>Option β) U1 U1 U1 U1 U1 U1 (fun _=>none) (fun _ _=>none) (fun _ _ _=>none) (fun _ _ _ _ _ _=>none) (fun _ _ _ _ _ _ _=>none) (fun _ _ _ _ _=>none) (fun l _=>xU l fun s x d l=>xU l fun s1 x1 d1 l=>xU l fun s2 x2 d2 l=>xU l fun s3 x3 d3 l=>uD l (k s x d s1 x1 d1 s2 x2 d2 s3 x3 d3)) (fun _ _=>none) (fun _=>none) (fun _ _=>none) K2 () K4 () K4 () K8 K4 () K2 (x))
theorem ym {x:AV} {k:Bool→Nat→Nat→Bool→Nat→Nat→Bool→Nat→Nat→Option β} {y:β} (h:uY x k=some y):∃ s x0 d s1 x1 d1 s2 x2 d2,x=vecA s x0 d s1 x1 d1 s2 x2 d2∧k s x0 d s1 x1 d1 s2 x2 d2=some y:=by
  cases x <;> try (cases h; done)
  replace h:=yG h; obtain ⟨s,x0,d,r,rfl,h⟩:=h
  replace h:=yG h; obtain ⟨s1,x1,d1,r,rfl,h⟩:=h
  replace h:=yG h; obtain ⟨s2,x2,d2,r,rfl,h⟩:=h
  replace h:=yy h; obtain ⟨rfl,h⟩:=h
  exact ⟨s,x0,d,s1,x1,d1,s2,x2,d2,rfl,h⟩
theorem xV {x:AV} {k:Bool→Nat→Nat→Bool→Nat→Nat→Bool→Nat→Nat→Bool→Nat→Nat→Option β} {y:β} (h:qC x k=some y) :
    ∃ s x0 d s1 x1 d1 s2 x2 d2 s3 x3 d3,x=zfY s x0 d s1 x1 d1 s2 x2 d2 s3 x3 d3∧k s x0 d s1 x1 d1 s2 x2 d2 s3 x3 d3=some y:=by
  cases x <;> try (cases h; done)
  replace h:=yG h; obtain ⟨s,x0,d,r,rfl,h⟩:=h
  replace h:=yG h; obtain ⟨s1,x1,d1,r,rfl,h⟩:=h
  replace h:=yG h; obtain ⟨s2,x2,d2,r,rfl,h⟩:=h
  replace h:=yG h; obtain ⟨s3,x3,d3,r,rfl,h⟩:=h
  replace h:=yy h; obtain ⟨rfl,h⟩:=h
  exact ⟨s,x0,d,s1,x1,d1,s2,x2,d2,s3,x3,d3,rfl,h⟩
def zfZ (x:AV) (k:Int→Option β):Option β:=xi x none fun i n=>zm (Nat.beq (xD i) 3) (k n)
theorem YE {x:AV} {k:Int→Option β} {y:β} (h:zfZ x k=some y):∃ n,x=zw n∧k n=some y:=by
  cases x <;> try (cases h; done)
  rename_i z
  cases z <;> try (cases h; done)
  rename_i i n
  obtain ⟨h1,h⟩:=zi.1 (show zm (Nat.beq (xD i) 3) (k n)=some y from h)
  have hk:i=.i64:=by cases i <;> first | rfl | cases h1
  subst hk
  exact ⟨n,rfl,h⟩
def jp (q:Q) (k:AV→Option β):Option β:=zf q fun p=>Prod.rec (fun v c=>zm c (kT v k)) p
theorem xO {q:Q} {k:AV→Option β} {y:β} (h:jp q k=some y):∃ v,q=some (v,true)∧k v=some y:=by
  replace h:=za.1 h; obtain ⟨⟨v,c⟩,rfl,h⟩:=h
  replace h:zm c (kT v k)=some y:=h
  rw [kU] at h
  obtain ⟨rfl,h⟩:=zi.1 h
  exact ⟨v,rfl,h⟩
def yZ (q:Q) (k:Bool→Nat→Nat→Option β):Option β:=jp q fun v=>xT v k
def yr (q:Q) (k:Bool→Nat→Option β):Option β:=jp q fun v=>yV v k
def xc (q:Q) (k:Nat→Option β):Option β:=jp q fun v=>vh v k
def ZJ (q:Q) (k:Int→Option β):Option β:=jp q fun v=>zfZ v k
def ze3 (q:Q) (k:Bool→Option β):Option β:=jp q fun v=>zbh v k
def KD (q:Q) (k:Bool→Nat→Nat→Bool→Nat→Nat→Bool→Nat→Nat→Option β):Option β:=jp q fun v=>uY v k
def vr (q:Q) (k:Nat→Nat→Option β):Option β:=jp q fun v=>(@AV.rec (fun _=>Option β) U1 U1 U1 U1 U1 U1 (fun _=>none) (fun _ _=>none) (fun _ _ _=>none) (fun _ _ _ _ _ _=>none) (fun _ _ _ _ _ _ _=>none) (fun _ _ _ _ _=>none) (fun _ _=>none) (fun l _=>zfW l fun a b c=>vh a fun x=>vh b fun y=>zfZ c fun z=>zm (eqI z 0) (k x y)) (fun _=>none) (fun _ _=>none) K2 () K4 () K4 () K8 K4 () K2 (v))
theorem zK {q:Q} {k:Bool→Nat→Nat→Option β} {y:β} (h:yZ q k=some y):∃ s n e,q=some (zg s n e,true)∧k s n e=some y:=by
  obtain ⟨v,h1,h⟩:=xO h; obtain ⟨s,n,e,rfl,h⟩:=z0 h; exact ⟨s,n,e,h1,h⟩
theorem zy {q:Q} {k:Bool→Nat→Option β} {y:β} (h:yr q k=some y):∃ s n,q=some (zh s n,true)∧k s n=some y:=by
  obtain ⟨v,h1,h⟩:=xO h; obtain ⟨s,n,rfl,h⟩:=zR h; exact ⟨s,n,h1,h⟩
theorem zO {q:Q} {k:Nat→Option β} {y:β} (h:xc q k=some y):∃ n,q=some (zn n,true)∧k n=some y:=by
  obtain ⟨v,h1,h⟩:=xO h; obtain ⟨n,rfl,h⟩:=yc h; exact ⟨n,h1,h⟩
theorem wm {q:Q} {k:Int→Option β} {y:β} (h:ZJ q k=some y):∃ n,q=some (zw n,true)∧k n=some y:=by
  obtain ⟨v,h1,h⟩:=xO h; obtain ⟨n,rfl,h⟩:=YE h; exact ⟨n,h1,h⟩
theorem Qi {q:Q} {k:Bool→Option β} {y:β} (h:ze3 q k=some y):∃ b,q=some (ze b,true)∧k b=some y:=by
  obtain ⟨v,h1,h⟩:=xO h; obtain ⟨b,rfl,h⟩:=ZF h; exact ⟨b,h1,h⟩
theorem qD {q:Q} {k:Bool→Nat→Nat→Bool→Nat→Nat→Bool→Nat→Nat→Option β} {y:β} (h:KD q k=some y):∃ s x0 d s1 x1 d1 s2 x2 d2,q=some (vecA s x0 d s1 x1 d1 s2 x2 d2,true)∧k s x0 d s1 x1 d1 s2 x2 d2=some y:=by
  obtain ⟨v,h1,h⟩:=xO h; obtain ⟨s,x0,d,s1,x1,d1,s2,x2,d2,rfl,h⟩:=ym h; exact ⟨s,x0,d,s1,x1,d1,s2,x2,d2,h1,h⟩
theorem yq {q:Q} {k:Nat→Nat→Option β} {y:β} (h:vr q k=some y):∃ n m,q=some (.tuple [zn n,zn m,zw (.ofNat 0)],true)∧k n m=some y:=by
  obtain ⟨v,h1,h⟩:=xO h
  cases v <;> try (cases h; done)
  replace h:=YA h; obtain ⟨a,b,c,rfl,h⟩:=h
  replace h:=yc h; obtain ⟨n,rfl,h⟩:=h
  replace h:=yc h; obtain ⟨m,rfl,h⟩:=h
  replace h:=YE h; obtain ⟨z,rfl,h⟩:=h
  obtain ⟨h2,h⟩:=zi.1 h
  have hz:z=.ofNat 0:=by
    cases z with
    | ofNat a=>rw [show a=0 from beq_true.1 h2]
    | negSucc a=>cases h2
  subst hz
  exact ⟨n,m,h1,h⟩
end
def clip (l:List AV):Option AV:=vc l fun a=>(@AV.rec (fun _=>Option AV) U1 U1 U1 U1 U1 U1 (fun _=>none) (fun _ _=>none) (fun _ _ _=>none) (fun b off len es _ _=>some (.hs b off len es len true)) (fun _ _ _ _ _ _ _=>none) (fun _ _ _ _ _=>none) (fun _ _=>none) (fun _ _=>none) (fun _=>none) (fun _ _=>none) K2 () K4 () K4 () K8 K4 () K2 (a))
theorem zdm {P:Program} {f:FuncId} {C:Cx} {p:Func×Code} (hP:C.P=P) (hp:funcOf C f=some p)
    (h:∀ (B o len c:Nat),len≤c→∀ w,Calls P f #[.slice (some ⟨B,o,none⟩) len c] w fun e w'=>e=.returned (.slice (some ⟨B,o,none⟩) len len)∧w'=w)
    {l:List AV} {v:AV} (hv:clip l=some v) {X:Nat→Prop} {j:J} {w:World} {args:Array Value} (hr:wK X j w l args) :
    Answers P f args w fun rv w'=>Still w w'∧w.heap.size≤w'.heap.size∧(∀ B,B < w.heap.size→w'.heap[B]? = w.heap[B]?)∧Rel X j w' v rv:=by
  subst hP
  replace hv:=zX hv; obtain ⟨a,rfl,hv⟩:=hv
  cases a <;> try (cases hv; done)
  rename_i b off len es lo ex
  cases hv
  obtain ⟨u,rfl,hu⟩:=Vq hr
  obtain ⟨hfn,hen⟩:=xk hp
  cases hu with
  |
    hs hb k1 k2 k3 k4 =>
    rename_i B S o c
    refine .inr ⟨xB hfn hen,Calls.mono (h B o len c (by omega) w) ?_⟩
    rintro e w' ⟨rfl,rfl⟩
    refine ⟨_,rfl,Still.refl _,Nat.le_refl _,fun _ _=>rfl,.hs hb (Nat.le_refl _) (Nat.le_refl _) (fun _=>rfl) (fun hl => ?_)⟩
    obtain ⟨q1,q2⟩:=k4 (by omega)
    exact ⟨q1,Nat.le_trans (Nat.add_le_add_left (Nat.mul_le_mul_right es (by omega)) off) q2⟩
abbrev Qj (s0:Bool) (x0:Nat) (s1:Bool) (x1:Nat) (s2:Bool) (x2:Nat) (s3:Bool) (x3:Nat):AV:=
  .agg [ze s0,zd x0,zb,ze s1,zd x1,zb,ze s2,zd x2,zb,ze s3,zd x3,zb]
section
variable {β:Type}
def vd (l:List AV) (k:Bool→Nat→List AV→Option β):Option β:=yB l fun a l=>zf (z9 a) fun s=>wE l fun n l=>k s n l
def Vt (x:AV) (k:Bool→Nat→Bool→Nat→Bool→Nat→Bool→Nat→Option β):Option β:=
  (@AV.rec (fun _=>Option β) U1 U1 U1 U1 U1 U1 (fun _=>none) (fun _ _=>none) (fun _ _ _=>none) (fun _ _ _ _ _ _=>none) (fun _ _ _ _ _ _ _=>none) (fun _ _ _ _ _=>none) (fun l _=>vd l fun s0 x0 l=>vd l fun s1 x1 l=>vd l fun s2 x2 l=>vd l fun s3 x3 l=>uD l (k s0 x0 s1 x1 s2 x2 s3 x3)) (fun _ _=>none) (fun _=>none) (fun _ _=>none) K2 () K4 () K4 () K8 K4 () K2 (x))
theorem xJ {l:List AV} {k:Bool→Nat→List AV→Option β} {y:β} (h:vd l k=some y):∃ s n r,l=ze s::zd n::zb::r∧k s n r=some y:=by
  replace h:=zG h; obtain ⟨a,l1,rfl,h⟩:=h
  replace h:=za.1 h; obtain ⟨s,h1,h⟩:=h
  obtain rfl:=wf h1
  replace h:=yO h; obtain ⟨n,r,rfl,h⟩:=h
  exact ⟨s,n,r,rfl,h⟩
theorem wn {x:AV} {k:Bool→Nat→Bool→Nat→Bool→Nat→Bool→Nat→Option β} {y:β} (h:Vt x k=some y) :
    ∃ s0 x0 s1 x1 s2 x2 s3 x3,x=Qj s0 x0 s1 x1 s2 x2 s3 x3∧k s0 x0 s1 x1 s2 x2 s3 x3=some y:=by
  cases x <;> try (cases h; done)
  replace h:=xJ h; obtain ⟨s0,x0,r,rfl,h⟩:=h
  replace h:=xJ h; obtain ⟨s1,x1,r,rfl,h⟩:=h
  replace h:=xJ h; obtain ⟨s2,x2,r,rfl,h⟩:=h
  replace h:=xJ h; obtain ⟨s3,x3,r,rfl,h⟩:=h
  replace h:=yy h; obtain ⟨rfl,h⟩:=h
  exact ⟨s0,x0,s1,x1,s2,x2,s3,x3,rfl,h⟩
end
def uF (s:Bool) (x:Nat) (t:Bool) (y:Nat) (S:Bool) (N:Nat) (C:Bool) (k:Bool→Nat→Bool→Q):Q:=
  ifB
      (pos x) (ifB (pos y) (k (xe S N (mk (xC s t) (Nat.mul x y)) (Nat.mul x y)) (yw S N (mk (xC s t) (Nat.mul x y)) (Nat.mul x y))
      (andB C (andB (small x) (andB (small y) (andB (zA x y) (yP S N (mk (xC s t) (Nat.mul x y)) (Nat.mul x y)))))))
    (k S N (andB C (andB (small x) (small y))))) (k S N (andB C (small x)))
def eDot (l:List AV):Q:=xI l fun a b=>Vt a fun s0 x0 s1 x1 s2 x2 s3 x3=>Vt b fun t0 y0 t1 y1 t2 y2 t3 y3 =>
  uF s0 x0 t0 y0 false 0 true fun S N C=>uF s1 x1 t1 y1 S N C fun S N C=>uF s2 x2 t2 y2 S N C fun S N C=>uF s3 x3 t3 y3 S N C fun S N C=>some (zh S N,C)
end
end Go.Abs
