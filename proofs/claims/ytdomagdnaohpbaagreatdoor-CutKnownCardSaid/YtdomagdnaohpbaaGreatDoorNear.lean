/- (*Cells).near and Above: the pieces at which a piece lies, for any cells: what they answer; near's loop by induction over symbolic rounds. -/
import Derived.Test.YtdomagdnaohpbaaGreatDoorLook
set_option linter.unusedSimpArgs false
set_option linter.unusedVariables false
set_option maxRecDepth 100000
namespace Go.Proofs.YtdomagdnaohpbaaGreatDoor.near
noncomputable section
open Go.Abs Go.Proofs.YtdomagdnaohpbaaGreatDoor.num Go.Proofs.YtdomagdnaohpbaaGreatDoor.look
def zfB {α:Type} (p:α→Bool) (v:Option α):Bool:=Option.rec false p v
def wH {α:Type} (p:α→Bool) (f:Nat):T α→Nat→Bool:=
  Nat.rec (fun _ n=>Nat.beq n 0) (fun _ ih t n=>Nat.rec true (fun m _ =>
    O9.rec (motive:=fun _=>Bool) false (fun v c0 c1 c2 c3 c4 c5 c6 c7=>ifB (zfB p v) (ifB (Nat.beq m 0) true
      (ifB (ih c0 (Nat.div (Nat.add m 7) 8)) (ifB (ih c1 (Nat.div (Nat.add m 6) 8)) (ifB (ih c2 (Nat.div (Nat.add m 5) 8)) (ifB (ih c3 (Nat.div (Nat.add m 4) 8))
      (ifB (ih c4 (Nat.div (Nat.add m 3) 8)) (ifB (ih c5 (Nat.div (Nat.add m 2) 8)) (ifB (ih c6 (Nat.div (Nat.add m 1) 8)) (ih c7 (Nat.div m 8)) false) false) false) false) false) false) false)) false) (T.o t)) n) f
theorem zcF {α:Type} (p:α→Bool) (f m:Nat) (v:Option α) (c0 c1 c2 c3 c4 c5 c6 c7:T α):wH p (f + 1) ⟨.mk v c0 c1 c2 c3 c4 c5 c6 c7⟩ (m + 1)=ifB (zfB p v) (ifB (Nat.beq m 0) true
  (ifB (wH p f c0 ((m + 7) / 8)) (ifB (wH p f c1 ((m + 6) / 8)) (ifB (wH p f c2 ((m + 5) / 8)) (ifB (wH p f c3 ((m + 4) / 8))
  (ifB (wH p f c4 ((m + 3) / 8)) (ifB (wH p f c5 ((m + 2) / 8)) (ifB (wH p f c6 ((m + 1) / 8)) (wH p f c7 (m / 8)) false) false) false) false) false) false) false)) false:=rfl
theorem z8 {a b:Bool}:ifB a b false=true↔a=true∧b=true:=by cases a <;> simp
theorem Q0 {α:Type} {p:α→Bool} (f:Nat):∀ (t:T α) (n:Nat),wH p f t n=true→∀ k,k < n→∀ g,k < g→∃ x,T.getP (jQ g k) t=some x∧p x=true:=by
  induction f with
  | zero=>intro t n h k hk; have:=Abs.beq_true.1 (show Nat.beq n 0=true from h); omega
  |
    succ f ih =>
    intro t n h k hk g hg
    obtain ⟨m,rfl⟩:∃ m,n=m + 1:=⟨n - 1,by omega⟩
    obtain ⟨g,rfl⟩:∃ m,g=m + 1:=⟨g - 1,by omega⟩
    obtain ⟨o⟩:=t
    cases o with
    | nil=>cases h
    |
      mk v c0 c1 c2 c3 c4 c5 c6 c7 =>
      rw [zcF] at h
      replace h:=z8.1 h; obtain ⟨hv,h⟩:=h
      cases v with
      | none=>cases hv
      |
        some x =>
        replace hv:p x=true:=hv
        cases k with
        | zero=>exact ⟨x,rfl,hv⟩
        |
          succ k =>
          have hm:Nat.beq m 0=false:=by
            cases hb:Nat.beq m 0 with
            | false=>rfl
            | true=>have:=Abs.beq_true.1 hb; omega
          rw [hm,zj] at h
          replace h:=z8.1 h; obtain ⟨h0,h⟩:=h
          replace h:=z8.1 h; obtain ⟨h1,h⟩:=h
          replace h:=z8.1 h; obtain ⟨h2,h⟩:=h
          replace h:=z8.1 h; obtain ⟨h3,h⟩:=h
          replace h:=z8.1 h; obtain ⟨h4,h⟩:=h
          replace h:=z8.1 h; obtain ⟨h5,h⟩:=h
          replace h:=z8.1 h; obtain ⟨h6,h7⟩:=h
          rw [w5,T.getP_cons]
          have hd:k % 8=0∨k % 8=1∨k % 8=2∨k % 8=3∨k % 8=4∨k % 8=5∨k % 8=6∨k % 8=7:=by omega
          have hg':k / 8 < g:=by omega
          rcases hd with e | e | e | e | e | e | e | e
          · rw [e]; exact ih c0 _ h0 (k / 8) (show k / 8 < (m + 7) / 8 by omega) g hg'
          · rw [e]; exact ih c1 _ h1 (k / 8) (show k / 8 < (m + 6) / 8 by omega) g hg'
          · rw [e]; exact ih c2 _ h2 (k / 8) (show k / 8 < (m + 5) / 8 by omega) g hg'
          · rw [e]; exact ih c3 _ h3 (k / 8) (show k / 8 < (m + 4) / 8 by omega) g hg'
          · rw [e]; exact ih c4 _ h4 (k / 8) (show k / 8 < (m + 3) / 8 by omega) g hg'
          · rw [e]; exact ih c5 _ h5 (k / 8) (show k / 8 < (m + 2) / 8 by omega) g hg'
          · rw [e]; exact ih c6 _ h6 (k / 8) (show k / 8 < (m + 1) / 8 by omega) g hg'
          · rw [e]; exact ih c7 _ h7 (k / 8) (show k / 8 < m / 8 by omega) g hg'
theorem zan {α:Type} {p:α→Bool} {f:Nat} {t:T α} {n:Nat} (h:wH p f t n=true) {k:Nat} (hk:k < n):∃ x,t.get k=some x∧p x=true:=Q0 f t n h k hk _ (Nat.lt_succ_self k)
theorem Q1 {p:AV→Bool} {f:Nat} {t:T AV} {n:Nat} (h:wH p f t n=true):∀ (c i:Nat),i + c≤n→∃ l,take t i c=some l∧l.length=c∧∀ x ∈ l,p x=true:=by
  intro c
  induction c with
  | zero=>intro i _; exact ⟨[],take_zero t i,rfl,by simp⟩
  |
    succ c ih =>
    intro i hi
    obtain ⟨x,hx,hp⟩:=zan h (show i < n by omega)
    obtain ⟨l,hl,hn,hq⟩:=ih (i + 1) (by omega)
    refine ⟨x::l,?_,by simp [hn],fun y hy => ?_⟩
    · rw [kF,hx,zs,hl]; rfl
    ·
      rcases List.mem_cons.1 hy with rfl | hy
      · exact hp
      · exact hq y hy
theorem zeI {α β:Type} (f:α→Option β) (v:Option α) (c0 c1 c2 c3 c4 c5 c6 c7:T α):yY f ⟨.mk v c0 c1 c2 c3 c4 c5 c6 c7⟩ =
    zf (zf (zax f v) fun v'=>zf (yY f c0) fun c0=>zf (yY f c1) fun c1=>zf (yY f c2) fun c2=>zf (yY f c3) fun c3 =>
      zf (yY f c4) fun c4=>zf (yY f c5) fun c5=>zf (yY f c6) fun c6=>zf (yY f c7) fun c7=>some (O9.mk v' c0 c1 c2 c3 c4 c5 c6 c7)) fun o=>some (T.mk o):=rfl
theorem y8 {α:Type} {f:α→Option α} {v:Option α} {c0 c1 c2 c3 c4 c5 c6 c7:T α}:yY f ⟨.mk v c0 c1 c2 c3 c4 c5 c6 c7⟩=some ⟨.mk v c0 c1 c2 c3 c4 c5 c6 c7⟩ ↔
    zax f v=some v∧yY f c0=some c0∧yY f c1=some c1∧yY f c2=some c2∧yY f c3=some c3∧yY f c4=some c4∧yY f c5=some c5∧yY f c6=some c6∧yY f c7=some c7:=by
  rw [zeI]
  constructor
  ·
    intro h
    obtain ⟨o,ho,h⟩:=za.1 h
    cases h
    obtain ⟨v',hv,ho⟩:=za.1 ho
    obtain ⟨x0,h0,ho⟩:=za.1 ho
    obtain ⟨x1,h1,ho⟩:=za.1 ho
    obtain ⟨x2,h2,ho⟩:=za.1 ho
    obtain ⟨x3,h3,ho⟩:=za.1 ho
    obtain ⟨x4,h4,ho⟩:=za.1 ho
    obtain ⟨x5,h5,ho⟩:=za.1 ho
    obtain ⟨x6,h6,ho⟩:=za.1 ho
    obtain ⟨x7,h7,ho⟩:=za.1 ho
    cases ho
    exact ⟨hv,h0,h1,h2,h3,h4,h5,h6,h7⟩
  ·
    rintro ⟨hv,h0,h1,h2,h3,h4,h5,h6,h7⟩
    rw [hv,h0,h1,h2,h3,h4,h5,h6,h7]; rfl
theorem zcG {α:Type} {f:α→Option α} {t:T α} (h:yY f t=some t) (d:D):yY f (T.kid d t)=some (T.kid d t):=by
  obtain ⟨o⟩:=t
  cases o with
  | nil=>cases d <;> rfl
  |
    mk v c0 c1 c2 c3 c4 c5 c6 c7 =>
    obtain ⟨_,h0,h1,h2,h3,h4,h5,h6,h7⟩:=y8.1 h
    cases d <;> assumption
theorem zcH {α:Type} {f:α→Option α} {t c:T α} (h:yY f t=some t) (hc:yY f c=some c) (d:D):yY f (T.sub d t c)=some (T.sub d t c):=by
  obtain ⟨o⟩:=t
  cases o with
  | nil=>cases d <;> exact y8.2 (by refine ⟨rfl,?_,?_,?_,?_,?_,?_,?_,?_⟩ <;> first | exact hc | rfl)
  |
    mk v c0 c1 c2 c3 c4 c5 c6 c7 =>
    obtain ⟨hv,h0,h1,h2,h3,h4,h5,h6,h7⟩:=y8.1 h
    cases d <;> exact y8.2 (by refine ⟨hv,?_,?_,?_,?_,?_,?_,?_,?_⟩ <;> assumption)
theorem zcI {α:Type} {f:α→Option α} {t:T α} {v:α} (h:yY f t=some t) (hv:f v=some v):yY f (T.put v t)=some (T.put v t):=by
  have hv':zax f (some v)=some (some v):=by
    show zf (f v) (fun y=>some (some y))=_
    rw [hv]; rfl
  obtain ⟨o⟩:=t
  cases o with
  | nil=>exact y8.2 (by refine ⟨hv',?_,?_,?_,?_,?_,?_,?_,?_⟩ <;> rfl)
  |
    mk u c0 c1 c2 c3 c4 c5 c6 c7 =>
    obtain ⟨_,hr⟩:=y8.1 h
    exact y8.2 ⟨hv',hr⟩
theorem zao {α:Type} {f:α→Option α} {v:α} (hv:f v=some v) (p:List D):∀ {t:T α},yY f t=some t→yY f (T.setP v p t)=some (T.setP v p t):=by
  induction p with
  | nil=>intro t h; rw [T.setP_nil]; exact zcI h hv
  | cons d p ih=>intro t h; rw [T.setP_cons]; exact zcH h (ih (zcG h d)) d
theorem Q2 (i:Nat) (t:T AV) (x:AV) (l:List AV):zu i t (x::l)=zu (i + 1) (T.set i x t) l:=rfl
theorem Q3 {f:AV→Option AV}:∀ {l:List AV} {i:Nat} {t:T AV},(∀ x ∈ l,f x=some x)→yY f t=some t→yY f (zu i t l)=some (zu i t l):=by
  intro l
  induction l with
  | nil=>intro i t _ h; exact h
  |
    cons x l ih =>
    intro i t hl h
    rw [Q2]
    exact ih (fun y hy=>hl y (List.mem_cons_of_mem _ hy)) (zao (hl x (List.mem_cons_self ..)) _ h)
theorem zap:∀ (r:List AV) (i:Nat) (t:T AV),(∀ k,k < r.length→t.get (i + k)=r[k]?)→take t i r.length=some r:=by
  intro r
  induction r with
  | nil=>intro i t _; exact take_zero t i
  |
    cons x r ih =>
    intro i t h
    rw [show (x::r).length=r.length + 1 from rfl,kF]
    have h0:=h 0 (by simp)
    rw [show i + 0=i from rfl] at h0
    rw [h0]
    show zf (take t (i + 1) r.length) _=_
    rw [ih (i + 1) t (fun k hk=>by have:=h (k + 1) (by simp; omega); rw [show i + 1 + k=i + (k + 1) by omega]; simpa using this)]
    rfl
theorem zgJ (l:List AV):take (zu 0 T.nil l) 0 l.length=some l:=zap l 0 _ fun k hk=>by
  rw [wT,if_pos (by omega)]; simp
abbrev xf (n:Nat):AV:=.v (.int .u32 (.ofNat n))
def uZ {β:Type} (x:AV) (k:Nat→Option β):Option β:=xi x none fun kd n=>zm (Nat.beq (xD kd) 6) (Int.rec (fun a=>force a fun a=>zm (Nat.ble a 4294967295) (k a)) (fun _=>none) n)
theorem xX {β:Type} {x:AV} {k:Nat→Option β} {y:β} (h:uZ x k=some y):∃ a,x=xf a∧a < 4294967296∧k a=some y:=by
  cases x with
  |
    v z =>
    cases z with
    |
      int kd n =>
      obtain ⟨h1,h2⟩:=zi.1 (show zm (Nat.beq (xD kd) 6) (Int.rec (motive:=fun _=>Option β) (fun a=>force a fun a=>zm (Nat.ble a 4294967295) (k a)) (fun _=>none) n)=some y from h)
      have hk:kd=.u32:=by have:=Abs.beq_true.1 h1; cases kd <;> first | rfl | (exact absurd this (by decide))
      subst hk
      cases n with
      |
        ofNat a =>
        replace h2:force a (fun a=>zm (Nat.ble a 4294967295) (k a))=some y:=h2
        rw [zr] at h2
        obtain ⟨h3,h4⟩:=zi.1 h2
        have:=zq.1 h3
        exact ⟨a,rfl,by omega,h4⟩
      | negSucc a=>cases h2
    | _=>cases h
  | _=>cases h
structure Pc where
  a0:AV
  a1:AV
  a2:AV
  a3:AV
  a4:AV
  a5:AV
  a6:AV
  a7:AV
  a8:AV
  a9:AV
  b0:AV
  b1:AV
  b2:AV
  b3:AV
  b4:AV
  b5:AV
  b6:AV
  b7:AV
  b8:AV
  b9:AV
  c0:AV
  c1:AV
  c2:AV
  c3:AV
  c4:AV
  c5:AV
abbrev Pc.cells (p:Pc):List AV:=[p.a0,p.a1,p.a2,p.a3,p.a4,p.a5,p.a6,p.a7,p.a8,p.a9,p.b0,p.b1,p.b2,p.b3,p.b4,p.b5,p.b6,p.b7,p.b8,p.b9,p.c0,p.c1,p.c2,p.c3,p.c4,p.c5]
abbrev Pc.av (p:Pc):AV:=.agg p.cells
theorem zH {l:List AV} {n:Nat} (h:l.length=n + 1):∃ x r,l=x::r∧r.length=n:=by
  cases l with
  | nil=>cases h
  | cons x r=>exact ⟨x,r,rfl,by simpa using h⟩
theorem zcJ {l:List AV} (h:l.length=26):∃ p:Pc,l=p.cells:=by
  replace h:=zH h; obtain ⟨a0,l,rfl,h⟩:=h
  replace h:=zH h; obtain ⟨a1,l,rfl,h⟩:=h
  replace h:=zH h; obtain ⟨a2,l,rfl,h⟩:=h
  replace h:=zH h; obtain ⟨a3,l,rfl,h⟩:=h
  replace h:=zH h; obtain ⟨a4,l,rfl,h⟩:=h
  replace h:=zH h; obtain ⟨a5,l,rfl,h⟩:=h
  replace h:=zH h; obtain ⟨a6,l,rfl,h⟩:=h
  replace h:=zH h; obtain ⟨a7,l,rfl,h⟩:=h
  replace h:=zH h; obtain ⟨a8,l,rfl,h⟩:=h
  replace h:=zH h; obtain ⟨a9,l,rfl,h⟩:=h
  replace h:=zH h; obtain ⟨b0,l,rfl,h⟩:=h
  replace h:=zH h; obtain ⟨b1,l,rfl,h⟩:=h
  replace h:=zH h; obtain ⟨b2,l,rfl,h⟩:=h
  replace h:=zH h; obtain ⟨b3,l,rfl,h⟩:=h
  replace h:=zH h; obtain ⟨b4,l,rfl,h⟩:=h
  replace h:=zH h; obtain ⟨b5,l,rfl,h⟩:=h
  replace h:=zH h; obtain ⟨b6,l,rfl,h⟩:=h
  replace h:=zH h; obtain ⟨b7,l,rfl,h⟩:=h
  replace h:=zH h; obtain ⟨b8,l,rfl,h⟩:=h
  replace h:=zH h; obtain ⟨b9,l,rfl,h⟩:=h
  replace h:=zH h; obtain ⟨c0,l,rfl,h⟩:=h
  replace h:=zH h; obtain ⟨c1,l,rfl,h⟩:=h
  replace h:=zH h; obtain ⟨c2,l,rfl,h⟩:=h
  replace h:=zH h; obtain ⟨c3,l,rfl,h⟩:=h
  replace h:=zH h; obtain ⟨c4,l,rfl,h⟩:=h
  replace h:=zH h; obtain ⟨c5,l,rfl,h⟩:=h
  obtain rfl:=List.length_eq_zero_iff.1 h
  exact ⟨⟨a0,a1,a2,a3,a4,a5,a6,a7,a8,a9,b0,b1,b2,b3,b4,b5,b6,b7,b8,b9,c0,c1,c2,c3,c4,c5⟩,rfl⟩
def SL:Es:=only (fun g=>notB (Nat.beq g 180)) E3
def cL:Cx:=cxOf Tryz.prog SL
def KL:Code:=elimO (funcOf cL 180) Code.skip (fun p=>p.2)
def zcK (r:Out):CR:=elimO (funcOf cL 180) (.bad 1) fun p=>zD (finPure cL p.1) r
def zgK (z:Nat):R:=⟨xf z,[],some []⟩
def zeJ (r:Option DO):Option (CR×List Dc×Ob):=elimO r none fun q=>Out.rec (motive:=fun _=>Option (CR×List Dc×Ob)) (fun _=>none) (fun _ _=>none) (fun s=>some (zcK (.ret s),q.2.1,q.2.2)) (fun _=>none) q.1
abbrev zcL (C:Cx) (x y:Tmp) (a b z:Nat):Bool:=zo (bin C .andNot 156 (.tmp x) (.tmp y) (xf a) (xf b)=some (xf z))
section
variable (X Y:Pc) (xn yn xp yp z w:Nat)
def sL:S:=⟨zu 0 T.nil [X.av,Y.av],T.nil,0,far⟩
theorem liesA (h1:X.a8=xf xn) (h2:Y.a8=xf yn) (m:Nat):zeJ (yj cL SL (m + 10) KL (sL X Y) [.o 7 (zgK z),.f,.f,.f,.f,.f,.f,.f] [])=some (.value (ze false) (some []),[],
    [(eqI (.ofNat z) 0,false),(eqI (.ofNat z) 0,false),(eqI (.ofNat z) 0,false),(eqI (.ofNat z) 0,false),(eqI (.ofNat z) 0,false),(eqI (.ofNat z) 0,false),(eqI (.ofNat z) 0,false),(zcL cL 6 8 xn yn z,true)]):=by
  obtain ⟨a0,a1,a2,a3,a4,a5,a6,a7,a8,a9,b0,b1,b2,b3,b4,b5,b6,b7,b8,b9,c0,c1,c2,c3,c4,c5⟩:=X
  obtain ⟨a0',a1',a2',a3',a4',a5',a6',a7',a8',a9',b0',b1',b2',b3',b4',b5',b6',b7',b8',b9',c0',c1',c2',c3',c4',c5'⟩:=Y
  cases h1; cases h2
  kernel_rfl
theorem liesB (h1:X.a8=xf xn) (h2:Y.a8=xf yn) (h3:X.a9=xf xp) (h4:Y.a9=xf yp) (m:Nat) :
    zeJ (yj cL SL (m + 10) KL (sL X Y) [.o 7 (zgK z),.t,.t,.t,.t,.t,.o 0 (zgK w),.t,.t] [])=some (.value (ze (eqI (.ofNat w) 0)) (some []),[],
    [(eqI (.ofNat z) 0,true),(eqI (.ofNat z) 0,true),(zcL cL 13 15 xp yp w,true),(eqI (.ofNat z) 0,true),(eqI (.ofNat z) 0,true),(eqI (.ofNat z) 0,true),(eqI (.ofNat z) 0,true),(eqI (.ofNat z) 0,true),(zcL cL 6 8 xn yn z,true)]):=by
  obtain ⟨a0,a1,a2,a3,a4,a5,a6,a7,a8,a9,b0,b1,b2,b3,b4,b5,b6,b7,b8,b9,c0,c1,c2,c3,c4,c5⟩:=X
  obtain ⟨a0',a1',a2',a3',a4',a5',a6',a7',a8',a9',b0',b1',b2',b3',b4',b5',b6',b7',b8',b9',c0',c1',c2',c3',c4',c5'⟩:=Y
  cases h1; cases h2; cases h3; cases h4
  kernel_rfl
end
def without (a b:Nat):Nat:=Nat.xor a (Nat.land a b)
theorem Q4 (x y:BitVec 32):x &&& ~~~y=x ^^^ (x &&& y):=by
  ext i hi
  simp
  cases x[i] <;> cases y[i] <;> rfl
theorem Q5 {a b:Nat} (ha:a < 4294967296):without a b < 4294967296:=by
  have h1:(Nat.land a b) < 2 ^ 32:=Nat.lt_of_le_of_lt Nat.and_le_left ha
  exact Nat.xor_lt_two_pow (n:=32) ha h1
theorem ZV {C:Cx} {t:TypeId} {xo yo:Operand} {a b:Nat} (ha:a < 4294967296) (hb:b < 4294967296):bin C .andNot t xo yo (xf a) (xf b)=some (xf (without a b)):=by
  have e:(BitVec.ofInt 32 (a:Int) &&& ~~~BitVec.ofInt 32 (b:Int)).toNat=without a b:=by
    rw [Q4,BitVec.toNat_xor,BitVec.toNat_and]
    have ea:(BitVec.ofInt 32 (a:Int)).toNat=a:=by rw [BitVec.toNat_ofInt]; omega
    have eb:(BitVec.ofInt 32 (b:Int)).toNat=b:=by rw [BitVec.toNat_ofInt]; omega
    rw [ea,eb]; rfl
  have hp:xZ C.P (do eqGuard .andNot t xo yo (.int .u32 (.ofNat a)) (.int .u32 (.ofNat b)); binOp .andNot t (.int .u32 (.ofNat a)) (.int .u32 (.ofNat b)))=some (.int .u32 (.ofNat (without a b))):=by
    have e0:(do eqGuard .andNot t xo yo (.int .u32 (.ofNat a)) (.int .u32 (.ofNat b)); binOp .andNot t (.int .u32 (.ofNat a)) (.int .u32 (.ofNat b)):Sem Value)=Op.intBits .andNot .u32 (.ofNat a) (.ofNat b):=rfl
    rw [e0]
    show some (Value.int IntKind.u32 (IntKind.u32.wrap ((BitVec.ofInt 32 (a:Int) &&& ~~~BitVec.ofInt 32 (b:Int)).toNat:Int)))=_
    rw [e]
    have:=Q5 (b:=b) ha
    rw [IntKind.wrap_u32']
    congr 2
    show ((without a b:Nat):Int) % 4294967296=((without a b:Nat):Int)
    omega
  show yx C .andNot t xo yo (xf a) (xf b)=_
  unfold yx
  rw [show uI (xf a)=some (.int .u32 (.ofNat a)) from rfl,show uI (xf b)=some (.int .u32 (.ofNat b)) from rfl,zs,zs,hp,zs]
  show wI _ _=_
  rw [xx]
theorem vf {C:Cx} {E:Es} (hE:C.ext=extOf E) {c:Code} {s:S} {ds:List Dc} {o:Out} {ob:Ob} {n:Nat} (h:yj C E n c s ds []=some (o,[],ob)) (hm:Met ob) (ho:∀ w,o≠.bad w):Ev C c s o:=by
  have h1:=(we (C:=C) (E:=E) hE _ h hm).2
  refine ⟨ho,n,fun k hk => ?_⟩
  rcases Ql (C:=C) k hk c s with e | ⟨w,e⟩
  · rw [← e]; exact h1
  · rw [h1] at e; exact absurd e (ho w)
def UH (l:List AV):Q:=zm (allB (flat 4) l) (xI l fun x y=>zf (KH x) fun lx=>zf (KH y) fun ly=>zm (andB (Nat.beq (lenL lx) 26) (Nat.beq (lenL ly) 26))
  (zf (nthL lx 8) fun a=>uZ a fun xn=>zf (nthL ly 8) fun b=>uZ b fun yn=>ifB (Nat.beq (without xn yn) 0)
    (zf (nthL lx 9) fun a=>uZ a fun xp=>zf (nthL ly 9) fun b=>uZ b fun yp=>some (ze (Nat.beq (without xp yp) 0),true)) (some (ze false,true))))
def E4:Es:=fun f l=>ifB (Nat.beq f 180) (UH l) (E3 f l)
theorem zaq {r:Option DO} {v:AV} {ob:Ob} (h:zeJ r=some (.value v (some []),[],ob)):∃ st,r=some (.ret st,[],ob)∧zcK (.ret st)=.value v (some []):=by
  cases r with
  | none=>cases h
  |
    some q =>
    obtain ⟨o,ds,ob'⟩:=q
    cases o with
    |
      ret st =>
      replace h:some (zcK (.ret st),ds,ob')=some (CR.value v (some []),[],ob):=h
      injection h with h; injection h with h1 h2; injection h2 with h2 h3
      subst h2; subst h3
      exact ⟨st,rfl,h1⟩
    | _=>cases h
theorem YW {X Y:Pc} (hf:allB (flat 4) [X.av,Y.av]=true) {ds:List Dc} {n:Nat} {v:AV} {ob:Ob} (h:zeJ (yj cL SL n KL (sL X Y) ds [])=some (.value v (some []),[],ob)) (hm:Met ob) :
    ∃ n rd,Go.Abs.call cL n 180 [X.av,Y.av]=.value v rd:=by
  obtain ⟨st,h1,h2⟩:=zaq h
  have he:=vf (C:=cL) (E:=SL) rfl h1 hm (by simp)
  obtain ⟨p,hp⟩:=Option.isSome_iff_exists.1 (show (funcOf cL 180).isSome=true by kernel_rfl)
  have hx:cL.ext 180 [X.av,Y.av]=none:=by
    have e:cL.ext=extOf SL:=rfl
    rw [e]
    have e2:SL 180 [X.av,Y.av]=none:=by
      show zm (notB (Nat.beq 180 180)) (E3 180 [X.av,Y.av])=none
      rw [show notB (Nat.beq 180 180)=false by kernel_rfl]; rfl
    unfold extOf
    rw [e2]; rfl
  have hn:Nat.ble (lenL [X.av,Y.av]) p.1.ntmps=true:=by
    have h1:elimO (funcOf cL 180) false (fun p=>Nat.ble 2 p.1.ntmps)=true:=by kernel_rfl
    rw [hp,elimO_some] at h1
    exact h1
  obtain ⟨n0,hc⟩:=yQ (low:=far) (H:=T.nil) (nx:=0) (md:=0) hx hp hn (.inl ⟨rfl,by rw [hf]; rfl,rfl⟩) (show Ev cL (xP cL 180 []) (sL X Y) (.ret st) from he)
  refine ⟨n0,some [],?_⟩
  have e:=hc n0 (Nat.le_refl _)
  rw [kn _ _ _ _ _ hp] at e
  have ho:zcK (.ret st)=zD (finPure cL p.1) (.ret st):=by unfold zcK; rw [hp]; rfl
  rw [ho] at h2
  exact e.trans h2
theorem eq0 (z:Nat):eqI (.ofNat z) 0=Nat.beq z 0:=rfl
theorem nth8 (p:Pc):nthL p.cells 8=some p.a8:=rfl
theorem nth9 (p:Pc):nthL p.cells 9=some p.a9:=rfl
theorem zeK:Ok Tryz.prog E4 180:=XB (C:=cL) rfl mixed (vN fun g _=>all_ok3 g) fun l v h=>by
  have e:E4 180 l=UH l:=by
    unfold E4
    rw [show Nat.beq 180 180=true by kernel_rfl]; rfl
  rw [e] at h
  replace h:=zi.1 h; obtain ⟨hf,h⟩:=h
  replace h:=zF h; obtain ⟨x,y,rfl,h⟩:=h
  replace h:=za.1 h; obtain ⟨lx,h1,h⟩:=h
  replace h:=za.1 h; obtain ⟨ly,h2,h⟩:=h
  obtain rfl:=qE h1
  obtain rfl:=qE h2
  replace h:=zi.1 h; obtain ⟨hl,h⟩:=h
  obtain ⟨hx,hy⟩:=zl.1 hl
  rw [yb] at hx hy
  obtain ⟨X,rfl⟩:=zcJ (Abs.beq_true.1 hx)
  obtain ⟨Y,rfl⟩:=zcJ (Abs.beq_true.1 hy)
  rw [nth8,zs] at h
  replace h:=xX h; obtain ⟨xn,hxn,b1,h⟩:=h
  rw [nth8,zs] at h
  replace h:=xX h; obtain ⟨yn,hyn,b2,h⟩:=h
  have c1:zcL cL 6 8 xn yn (without xn yn)=true:=zk.2 (ZV b1 b2)
  refine ⟨hf,?_⟩
  cases hz:Nat.beq (without xn yn) 0 with
  |
    false =>
    rw [hz,zj] at h
    obtain ⟨rfl,_⟩:=zC h
    have hz':eqI (.ofNat (without xn yn)) 0=false:=hz
    exact ⟨rfl,YW hf (liesA X Y xn yn (without xn yn) hxn hyn 0) ⟨hz',hz',hz',hz',hz',hz',hz',c1,trivial⟩⟩
  |
    true =>
    rw [hz,ifB_true] at h
    rw [nth9,zs] at h
    replace h:=xX h; obtain ⟨xp,hxp,b3,h⟩:=h
    rw [nth9,zs] at h
    replace h:=xX h; obtain ⟨yp,hyp,b4,h⟩:=h
    have c2:zcL cL 13 15 xp yp (without xp yp)=true:=zk.2 (ZV b3 b4)
    obtain ⟨rfl,_⟩:=zC h
    have hz':eqI (.ofNat (without xn yn)) 0=true:=hz
    exact ⟨rfl,YW hf (liesB X Y xn yn xp yp (without xn yn) (without xp yp) hxn hyn hxp hyp 0) ⟨hz',hz',c2,hz',hz',hz',hz',hz',c1,trivial⟩⟩
theorem Jl:∀ f,Ok Tryz.prog E4 f:=fun f=>by
  cases h:Nat.beq f 180 with
  | true=>rw [Abs.beq_true.1 h]; exact zeK
  |
    false =>
    intro l v hv
    have e:E4 f l=E3 f l:=by unfold E4; rw [h]; rfl
    rw [e] at hv
    exact all_ok3 f l v hv
def SN:Es:=only (fun g=>notB (memN g [178,127,179])) E4
def cN:Cx:=cxOf Tryz.prog SN
def KN:Code:=elimO (funcOf cN 178) Code.skip (fun p=>p.2)
def KA:Code:=elimO (funcOf cN 127) Code.skip (fun p=>p.2)
def BN:Code:=look.sub KN [1,1,0,1,0,0]
def stN (r:Option DO):S:=Option.rec ⟨T.nil,T.nil,0,0⟩ (fun r=>Out.rec (motive:=fun _=>S) (fun s=>s) (fun _ s=>s) (fun s=>s) (fun _=>⟨T.nil,T.nil,0,0⟩) r.1) r
def obN (r:Option DO):Ob:=Option.rec [] (fun r=>r.2.2) r
def jN (r:Option DO) (t:Nat):AV:=elimO (T.get (S.env (stN r)) t) zb (fun x=>x)
abbrev s26 (tl:T AV) (lo len cap:Nat) (ex:Bool):AV:=.vs tl lo len 26 cap ex
section
variable (ct:T AV) (co:Nat) (tl:T AV) (lo len cap:Nat) (ex:Bool) (i:Nat) (H:T Blk) (n0:Nat)
abbrev cA:AV:=.vp ct co
abbrev fA:AV:=.fn (.func 179) [] [.hp 0 0,.hp 1 0]
def sN0:S:=⟨zu 0 T.nil [cA ct co,zw (.ofNat i),fA],H,n0,far⟩
def rN0:Option DO:=yj cN SN 20 (look.sub KN [0]) (sN0 ct co i H n0) [] []
def rN1:Option DO:=yj cN SN 20 (look.sub KN [1,0]) (stN (rN0 ct co i H n0)) [] []
def rN2:Option DO:=yj cN SN 20 (look.sub KN [1,1,0,0]) (stN (rN1 ct co i H n0)) [.l (s26 tl lo len cap ex)] []
def envP:T AV:=S.env (stN (rN2 ct co tl lo len cap ex i T.nil 0))
def putL (l:List Nat) (j:Nat→AV) (E:T AV):T AV:=List.rec E (fun t _ ih=>T.set t (j t) ih) l
def envB (b:Bool) (j:Nat→AV):T AV:=ifB b (putL [8,12,13,14,15,16,17,18,19,20,21,22,23,24,25,26,27,28,29,30,31,32,37] j (envP ct co tl lo len cap ex i)) (envP ct co tl lo len cap ex i)
def envN (b b3:Bool) (j j3:Nat→AV):T AV:=ifB b3 (putL [33,34,35,36] j3 (envB ct co tl lo len cap ex i b j)) (envB ct co tl lo len cap ex i b j)
def LN (b b3:Bool) (j j3:Nat→AV) (k:Nat) (o:AV) (H:T Blk) (n low:Nat):S:=⟨T.set 11 (zw (.ofNat k)) (T.set 7 o (envN ct co tl lo len cap ex i b b3 j j3)),H,n,low⟩
end
section
variable (ct:T AV) (co:Nat) (tl:T AV) (lo len cap:Nat) (ex:Bool) (i:Nat) (b b3:Bool) (j j3:Nat→AV) (k:Nat) (o:AV) (H:T Blk) (n low:Nat) (x y:Pc)
abbrev nY (n:Nat):Nat:=Nat.add n 22
abbrev hY (H:T Blk) (n:Nat) (y:Pc):T Blk:=T.set (nY n) (.cells (zu 0 T.nil y.cells) 26) H
abbrev nA (n:Nat):Nat:=Nat.add n 25
abbrev dsI (ct:T AV) (co:Nat) (tl:T AV) (lo len cap:Nat) (ex:Bool) (i:Nat) (x y:Pc) (l:List Dc):List Dc:=
  .t::.t::.t::.t::.l (s26 tl lo len cap ex)::.c::.c::.t::.t::.t::.t::.t::.t::.l (s26 tl lo len cap ex)::.t::.t::.i::.t::.l y.av::.t::.n::.l (cA ct co)::.l (s26 tl lo len cap ex) ::
    .l (zw (.ofNat i))::.i::.l x.av::.l y.av::l
abbrev obL:Bool×Bool:=(zo (loadT cN 159 ct (Nat.add co 1)=some (s26 tl lo len cap ex)),true)
abbrev obI:Bool×Bool:=(ltI (.ofNat i) (.ofNat len),true)
abbrev obK:Bool×Bool:=(notB (eqI (.ofNat k) (.ofNat i)),true)
abbrev obR (v:Bool) (l:Ob):Ob:=obI len i::(Nat.ble (Nat.succ (lower far [(nY n,.cells (zu 0 T.nil y.cells) 26)])) (nY n),false)::(zo (SN 180 [x.av,y.av]=some (ze v,true)),true) ::
  (zo (zf (cellsOf (hY H n y) (nY n)) (fun p=>loadT cN 158 p.1 0)=some y.av),true)::(zo (loadT cN 158 tl (Nat.add lo (Nat.mul i 26))=some x.av),true)::(Nat.ble (Nat.succ i) len,true) ::
  (zo (zf (cellsOf (hY H n y) 1) (fun p=>loadT cN 3 p.1 0)=some (zw (.ofNat i))),true)::obL ct co tl lo len cap ex::(zo (zf (cellsOf (hY H n y) 0) (fun p=>loadT cN 35 p.1 0)=some (cA ct co)),true) ::
  (allB (flat 4) [y.av,.hp 0 0,.hp 1 0],false)::obI len i::(zo (loadT cN 158 tl (Nat.add lo (Nat.mul k 26))=some y.av),true)::obI len i::(Nat.ble (Nat.succ k) len,true)::obI len i::obI len i::obL ct co tl lo len cap ex ::
  obI len i::obI len i::obI len i::obI len i::obI len i::obK i k::obL ct co tl lo len cap ex::obK i k::obK i k::obK i k::(ltI (.ofNat k) (.ofNat len),true)::l
def rnF:Option DO:=yj cN SN 60 BN (LN ct co tl lo len cap ex i b b3 j j3 k o H n low) (dsI ct co tl lo len cap ex i x y [.r 180 (ze false),.t,.a]) []
theorem zgL:rnF ct co tl lo len cap ex i b b3 j j3 k o H n low x y =
    some (.nrm (LN ct co tl lo len cap ex i true b3 (jN (rnF ct co tl lo len cap ex i b b3 j j3 k o H n low x y)) j3 (Nat.add k 1) o H (Nat.add n 24) low),[],
      (Nat.ble (Nat.add k 1) 9223372036854775807,true)::obR ct co tl lo len cap ex i k H n x y false []):=by
  cases b <;> cases b3 <;> kernel_rfl
abbrev obA (R:R):Bool×Bool:=(zo (wq cN H (nA n) 179 179 o (.vs (zu 0 T.nil [zw (.ofNat k)]) 0 1 1 1 true)=some R),true)
def rnT (R:R):Option DO:=yj cN SN 60 BN (LN ct co tl lo len cap ex i b b3 j j3 k o H n low) (dsI ct co tl lo len cap ex i x y [.r 180 (ze true),.t,.o 3 R,.a]) []
abbrev R0 (n:Nat) (t:T AV):R:=⟨.hs (nA n) 0 1 1 1 false,[(nA n,.cells t 1)],some []⟩
abbrev R1 (n b0 m:Nat) (t:T AV):R:=⟨.hs (nA n) 0 (Nat.add m 1) 1 (Nat.add m 1) false,[(nA n,.cells t (Nat.add m 1)),(b0,.gone)],some [b0]⟩
theorem zeL (t:T AV):rnT ct co tl lo len cap ex i b b3 j j3 k o H n low x y (R0 n t) =
    some (.nrm (LN ct co tl lo len cap ex i true true (jN (rnT ct co tl lo len cap ex i b b3 j j3 k o H n low x y (R0 n t))) (jN (rnT ct co tl lo len cap ex i b b3 j j3 k o H n low x y (R0 n t))) (Nat.add k 1) (.hs (nA n) 0 1 1 1 false)
      (T.set (nA n) (.cells t 1) H) (Nat.add n 29) (lower low [(nA n,.cells t 1)])),[],
      (Nat.ble (Nat.add k 1) 9223372036854775807,true)::obA k o H n (R0 n t)::obR ct co tl lo len cap ex i k H n x y true []):=by
  cases b <;> cases b3 <;> kernel_rfl
theorem zeM (b0 m:Nat) (t:T AV):rnT ct co tl lo len cap ex i b b3 j j3 k o H n low x y (R1 n b0 m t) =
    some (.nrm (LN ct co tl lo len cap ex i true true (jN (rnT ct co tl lo len cap ex i b b3 j j3 k o H n low x y (R1 n b0 m t))) (jN (rnT ct co tl lo len cap ex i b b3 j j3 k o H n low x y (R1 n b0 m t))) (Nat.add k 1) (.hs (nA n) 0 (Nat.add m 1) 1 (Nat.add m 1) false)
      (T.set b0 .gone (T.set (nA n) (.cells t (Nat.add m 1)) H)) (Nat.add n 29) (lower low [(nA n,.cells t (Nat.add m 1)),(b0,.gone)])),[],
      (Nat.ble (Nat.add k 1) 9223372036854775807,true)::obA k o H n (R1 n b0 m t)::obR ct co tl lo len cap ex i k H n x y true []):=by
  cases b <;> cases b3 <;> kernel_rfl
def rnS:Option DO:=yj cN SN 60 BN (LN ct co tl lo len cap ex i b b3 j j3 k o H n low) [.t,.f,.f,.f,.f,.f,.f,.f,.f,.f,.f,.f,.f,.f,.f,.f,.a] []
abbrev obF:Bool×Bool:=(false,false)
abbrev obS (i k:Nat):Bool×Bool:=(notB (eqI (.ofNat k) (.ofNat i)),false)
theorem zgM:rnS ct co tl lo len cap ex i b b3 j j3 k o H n low =
    some (.nrm (LN ct co tl lo len cap ex i true b3 (jN (rnS ct co tl lo len cap ex i b b3 j j3 k o H n low)) j3 (Nat.add k 1) o H (Nat.add n 24) low),[],
      (Nat.ble (Nat.add k 1) 9223372036854775807,true)::obF::obF::obF::obF::obF::obF::obF::obF::obF::obF::obF::obS i k::obS i k::obS i k::obS i k::(ltI (.ofNat k) (.ofNat len),true)::[]):=by
  cases b <;> cases b3 <;> kernel_rfl
def XN (k:Nat):S:=⟨T.set 12 (ze (ltI (.ofNat k) (.ofNat len))) (T.set 11 (zw (.ofNat k)) (T.set 7 o (envN ct co tl lo len cap ex i b b3 j j3))),H,Nat.add n 1,low⟩
theorem exitN:yj cN SN 60 BN (LN ct co tl lo len cap ex i b b3 j j3 k o H n low) [.f] []=some (.ext 0 (XN ct co tl lo len cap ex i b b3 j j3 o H n low k),[],[(ltI (.ofNat k) (.ofNat len),false)]):=by
  cases b <;> cases b3 <;> kernel_rfl
end
def wg (x:AV):Bool:=(@AV.rec (fun _=>Bool) U1 U1 U1 U1 U1 U1 (fun _=>true) (fun _ _=>false) (fun _ _ _=>true) (fun _ _ _ _ _ _=>false) (fun _ _ _ _ _ _ _=>true) (fun _ _ _ _ _=>false) (fun _ _=>false) (fun _ _=>false) (fun _=>false) (fun _ _=>true) K2 () K4 () K4 () K8 K4 () K2 x)
theorem UI {x:AV} (h:wg x=true):flat 3 x=true:=by cases x <;> first | rfl | cases h
theorem Jm {X:Pc} (h:∀ c ∈ X.cells,wg c=true):flat 4 X.av=true:=by
  show allB (flat 3) X.cells=true
  exact z6.2 fun c hc=>UI (h c hc)
theorem zcM {X Y:Pc} (hx:∀ c ∈ X.cells,wg c=true) (hy:∀ c ∈ Y.cells,wg c=true):allB (flat 4) [X.av,Y.av]=true:=
  z6.2 fun c hc=>by
    rcases List.mem_cons.1 hc with rfl | hc
    · exact Jm hx
    ·
      rcases List.mem_cons.1 hc with rfl | hc
      · exact Jm hy
      · cases hc
def vg (t:T AV) (xn xp i:Nat) (r:Nat):Nat→Nat→Option (List AV):=Nat.rec (fun _ _=>some []) (fun _ ih k off=>force (Nat.succ k) fun k1=>force (Nat.add off 26) fun off1 =>
  ifB (Nat.beq k i) (ih k1 off1) (zf (T.getA t off) fun a=>uZ a fun yn=>ifB (Nat.beq (without xn yn) 0)
    (zf (T.getA t (Nat.succ off)) fun a=>uZ a fun yp=>ifB (Nat.beq (without xp yp) 0) (zf (ih k1 off1) fun l=>some (zw (.ofNat k)::l)) (ih k1 off1)) (ih k1 off1))) r
theorem Q6 {t:T AV} {xn xp i r k off:Nat} {l:List AV} (h:vg t xn xp i (r + 1) k off=some l) :
    (k=i∧vg t xn xp i r (k + 1) (off + 26)=some l)∨(k≠i∧∃ yn,T.get t off=some (xf yn)∧yn < 4294967296 ∧
      ((
        Nat.beq (without xn yn) 0=false∧vg t xn xp i r (k + 1) (off + 26)=some l)∨(Nat.beq (without xn yn) 0=true∧∃ yp,T.get t (off + 1)=some (xf yp)∧yp < 4294967296 ∧
        ((Nat.beq (without xp yp) 0=false∧vg t xn xp i r (k + 1) (off + 26)=some l)∨(Nat.beq (without xp yp) 0=true∧∃ l',vg t xn xp i r (k + 1) (off + 26)=some l'∧l=zw (.ofNat k)::l'))))):=by
  have e:vg t xn xp i (r + 1) k off=ifB (Nat.beq k i) (vg t xn xp i r (k + 1) (off + 26)) (zf (T.getA t off) fun a=>uZ a fun yn=>ifB (Nat.beq (without xn yn) 0)
    (zf (T.getA t (off + 1)) fun a=>uZ a fun yp=>ifB (Nat.beq (without xp yp) 0) (zf (vg t xn xp i r (k + 1) (off + 26)) fun l=>some (zw (.ofNat k)::l)) (vg t xn xp i r (k + 1) (off + 26))) (vg t xn xp i r (k + 1) (off + 26))):=by
    unfold vg
    show force (Nat.succ k) (fun k1=>force (Nat.add off 26) fun off1=>_)=_
    rw [zr,zr]
  rw [e] at h
  cases hk:Nat.beq k i with
  | true=>rw [hk,ifB_true] at h; exact .inl ⟨Abs.beq_true.1 hk,h⟩
  |
    false =>
    rw [hk,zj] at h
    have hne:k≠i:=fun e=>by rw [Abs.beq_true.2 e] at hk; cases hk
    refine .inr ⟨hne,?_⟩
    replace h:=za.1 h; obtain ⟨a,h1,h⟩:=h
    rw [T.getA_eq] at h1
    replace h:=xX h; obtain ⟨yn,rfl,hb,h⟩:=h
    refine ⟨yn,h1,hb,?_⟩
    cases hz:Nat.beq (without xn yn) 0 with
    | false=>rw [hz,zj] at h; exact .inl ⟨rfl,h⟩
    |
      true =>
      rw [hz,ifB_true] at h
      refine .inr ⟨rfl,?_⟩
      replace h:=za.1 h; obtain ⟨a,h2,h⟩:=h
      rw [T.getA_eq] at h2
      replace h:=xX h; obtain ⟨yp,rfl,hb2,h⟩:=h
      refine ⟨yp,h2,hb2,?_⟩
      cases hw:Nat.beq (without xp yp) 0 with
      | false=>rw [hw,zj] at h; exact .inl ⟨rfl,h⟩
      |
        true =>
        rw [hw,ifB_true] at h
        replace h:=za.1 h; obtain ⟨l',h3,h⟩:=h
        cases h
        exact .inr ⟨rfl,l',h3,rfl⟩
theorem YX {X Y:Pc} {xn xp yn:Nat} {v:Bool} (hx:∀ c ∈ X.cells,wg c=true) (hy:∀ c ∈ Y.cells,wg c=true) (h1:X.a8=xf xn) (h2:X.a9=xf xp) (h3:Y.a8=xf yn) (b1:xn < 4294967296) (b2:xp < 4294967296) (b3:yn < 4294967296)
    (h:(Nat.beq (without xn yn) 0=false∧v=false)∨(Nat.beq (without xn yn) 0=true∧∃ yp,Y.a9=xf yp∧yp < 4294967296∧v=Nat.beq (without xp yp) 0)):SN 180 [X.av,Y.av]=some (ze v,true):=by
  have pu:∀ {β:Type} (a:Nat) (k:Nat→Option β),a < 4294967296→uZ (xf a) k=k a:=fun a k ha=>by
    show zm true (force a fun a=>zm (Nat.ble a 4294967295) (k a))=_
    rw [yt,zr,zq.2 (by omega),yt]
  have e:SN 180 [X.av,Y.av]=UH [X.av,Y.av]:=by
    show zm (notB (memN 180 [178,127,179])) (ifB (Nat.beq 180 180) (UH [X.av,Y.av]) (E3 180 [X.av,Y.av]))=_
    rw [show notB (memN 180 [178,127,179])=true by kernel_rfl,yt,show Nat.beq 180 180=true by kernel_rfl,ifB_true]
  have e2:UH [X.av,Y.av]=zm (allB (flat 4) [X.av,Y.av]) (uZ X.a8 fun xn=>uZ Y.a8 fun yn=>ifB (Nat.beq (without xn yn) 0)
    (uZ X.a9 fun xp=>uZ Y.a9 fun yp=>some (ze (Nat.beq (without xp yp) 0),true)) (some (ze false,true))):=rfl
  rw [e,e2,zcM hx hy,yt,h1,pu _ _ b1,h3,pu _ _ b3]
  rcases h with ⟨hz,rfl⟩ | ⟨hz,yp,h4,b4,rfl⟩
  · rw [hz,zj]
  · rw [hz,ifB_true,h2,pu _ _ b2,h4,pu _ _ b4]
theorem app0 (nb:Nat) (H:T Blk) (k:Nat):wq cN H nb 179 179 zb (.vs (zu 0 T.nil [zw (.ofNat k)]) 0 1 1 1 true)=some ⟨.hs nb 0 1 1 1 false,[(nb,.cells (zu 0 T.nil [zw (.ofNat k)]) 1)],some []⟩:=by kernel_rfl
theorem app1 {nb:Nat} {H:T Blk} {k b0:Nat} {l:List AV} (hc:H.get b0=some (.cells (zu 0 T.nil l) l.length)) (hl:l.length≤1000000) (hp:∀ x ∈ l,oneCell x=true) :
    wq cN H nb 179 179 (.hs b0 0 l.length 1 l.length false) (.vs (zu 0 T.nil [zw (.ofNat k)]) 0 1 1 1 true) =
      some ⟨.hs nb 0 (Nat.add l.length 1) 1 (Nat.add l.length 1) false,[(nb,.cells (zu 0 T.nil (l++[zw (.ofNat k)])) (Nat.add l.length 1)),(b0,.gone)],some [b0]⟩:=by
  have h1:yk cN 179=some 3:=by kernel_rfl
  have h2:vQ cN 179=true:=by kernel_rfl
  have h3:cN.P.cellsOf 3=1:=by kernel_rfl
  have h4:cN.P.bytesOf 3=8:=by kernel_rfl
  have h5:x_ cN 3 1=true:=by kernel_rfl
  have h6:yT H (Nat.mul 1 1) (.vs (zu 0 T.nil [zw (.ofNat k)]) 0 1 1 1 true)=some ([zw (.ofNat k)],[]):=by kernel_rfl
  have hown:yD H b0=some (zu 0 T.nil l,l.length):=by unfold yD; rw [T.getB_eq,hc]; rfl
  unfold wq
  rw [h1,zs,h2,yt]
  rw [show qN (.vs (zu 0 T.nil [zw (.ofNat k)]) 0 1 1 1 true)=some 1 from rfl,zs,show qN (.hs b0 0 l.length 1 l.length false)=some l.length from rfl,zs,show Nat.beq 1 0=false from rfl,zj,zr,h3,h6,zs,zr,h4]
  have hb:andB (Nat.ble (Nat.mul (Nat.add l.length 1) 8) 70368744177664) (andB (Nat.ble (Nat.add l.length 1) 70368744177664) (allB oneCell [zw (.ofNat k)]))=true:=by
    rw [show Nat.ble (Nat.mul (Nat.add l.length 1) 8) 70368744177664=true from zq.2 (show (l.length + 1) * 8≤70368744177664 by omega),show Nat.ble (Nat.add l.length 1) 70368744177664=true from zq.2 (show l.length + 1≤70368744177664 by omega)]; rfl
  rw [hb,yt]
  have hle:Nat.ble (Nat.add l.length 1) l.length=false:=by
    cases hx:Nat.ble (Nat.add l.length 1) l.length with
    | false=>rfl
    | true=>have:l.length + 1≤l.length:=zq.1 hx; omega
  have hF:WE cN H 179 1 (Nat.add l.length 1) l.length (.hs b0 0 l.length 1 l.length false)=true:=by
    unfold WE
    show elimO (yD H b0) false _=true
    rw [hown,elimO_some]
    show ifB (Nat.ble (Nat.add l.length 1) l.length) _ (Nat.beq l.length (Nat.mul l.length 1))=true
    rw [hle,zj]
    exact Abs.beq_true.2 (Nat.mul_one _).symm
  rw [hF,ifB_true]
  show zf (yD H b0) _=_
  rw [hown,zs]
  show ifB (Nat.ble (Nat.add l.length 1) l.length) _ (zm (x_ cN 3 1) (fill l.length (zu 0 T.nil l) [zw (.ofNat k)] _))=_
  rw [hle,zj,h5,yt,zZ,zr]
  have cat:∀ (l:List AV) (i:Nat) (t:T AV) (x:AV),zu i t (l++[x])=zu (i + l.length) (zu i t l) [x]:=by
    intro l
    induction l with
    | nil=>intro i t x; rfl
    | cons y l ih=>intro i t x; show zu (i + 1) (T.set i y t) (l++[x])=zu (i + (l.length + 1)) (zu (i + 1) (T.set i y t) l) [x]; rw [ih,show i + 1 + l.length=i + (l.length + 1) by omega]
  rw [cat l 0 T.nil,Nat.zero_add,show Nat.mul (Nat.add l.length 1) 1=Nat.add l.length 1 from Nat.mul_one _]
  rfl
theorem zfC {H:T Blk} {b:Nat} {t:T AV} {n:Nat} (h:H.get b=some (.cells t n)):cellsOf H b=some (t,n):=by unfold cellsOf; rw [T.getB_eq,h]; rfl
theorem zeN (y:Pc):zf (some (zu 0 T.nil y.cells,26)) (fun p=>loadT cN 158 p.1 0)=some y.av:=by
  obtain ⟨a0,a1,a2,a3,a4,a5,a6,a7,a8,a9,b0,b1,b2,b3,b4,b5,b6,b7,b8,b9,c0,c1,c2,c3,c4,c5⟩:=y
  kernel_rfl
theorem loadP (t:T AV) (off:Nat):loadT cN 158 t off=zf (take t off 26) fun l=>some (.agg l):=by
  have h1:ub cN 158=true:=by kernel_rfl
  have h2:cN.P.cellsOf 158=26:=by kernel_rfl
  unfold loadT
  rw [h1,ifB_true,h2]
theorem UJ {tl:T AV} {lo len f:Nat} (hD:wH wg f tl (Nat.add lo (Nat.mul len 26))=true) {k:Nat} (hk:k < len):∃ y:Pc,loadT cN 158 tl (Nat.add lo (Nat.mul k 26))=some y.av∧(∀ c ∈ y.cells,wg c=true) ∧
    tl.get (lo + k * 26 + 8)=some y.a8∧tl.get (lo + k * 26 + 9)=some y.a9:=by
  obtain ⟨l,h1,h2,h3⟩:=Q1 hD 26 (lo + k * 26) (show lo + k * 26 + 26≤lo + len * 26 by omega)
  obtain ⟨y,rfl⟩:=zcJ h2
  have h4:=(kG tl 26 (lo + k * 26) y.cells h1).2
  exact ⟨y,by rw [loadP]; show zf (take tl (lo + k * 26) 26) _=_; rw [h1]; rfl,h3,h4 8 (by omega),h4 9 (by omega)⟩
section
variable (ct:T AV) (co:Nat) (tl:T AV) (lo len cap:Nat) (ex:Bool) (i:Nat)
def InvN (H:T Blk):Prop:=zf (cellsOf H 1) (fun p=>loadT cN 3 p.1 0)=some (zw (.ofNat i))∧zf (cellsOf H 0) (fun p=>loadT cN 35 p.1 0)=some (cA ct co)
variable {ct co i}
theorem InvN.put {H:T Blk} (h:InvN ct co i H) {b:Nat} (hb:2≤b) (k:Blk):InvN ct co i (T.set b k H):=by
  unfold InvN
  rw [ky _ _ (show 1≠b by omega),ky _ _ (show 0≠b by omega)]
  exact h
def jt (n0:Nat) (o:AV) (l:List AV) (H:T Blk) (n:Nat):Prop:=(∀ x ∈ l,∃ k:Nat,x=zw (.ofNat k)) ∧
  ((l=[]∧o=zb)∨(∃ b0,l≠[]∧o=.hs b0 0 l.length 1 l.length false∧n0≤b0∧b0 < n∧H.get b0=some (.cells (zu 0 T.nil l) l.length)))
theorem zar {b:Nat} (k:Blk) (h:b≤far):lower far [(b,k)]=b:=by
  rw [yN,xA]
  show min b far=b
  omega
variable {tl lo len cap ex}
theorem metR2 {n:Nat} (y:Pc) (hn2:n≤1000000000):Nat.ble (Nat.succ (lower far [(nY n,.cells (zu 0 T.nil y.cells) 26)])) (nY n)=false:=by
  rw [zar _ (show n + 22≤4611686018427387904 by omega)]
  cases hb:Nat.ble (Nat.succ (nY n)) (nY n) with
  | false=>rfl
  | true=>exact absurd (zq.1 hb) (Nat.not_succ_le_self _)
theorem zgN (H:T Blk) (b:Nat) (t:T AV) (n:Nat) {f:T AV×Nat→Option AV} {v:Option AV} (h:zf (some (t,n)) f=v):zf (cellsOf (T.set b (.cells t n) H) b) f=v:=by rw [UD]; exact h
theorem metR3 (H:T Blk) (n:Nat) (y:Pc):zf (cellsOf (hY H n y) (nY n)) (fun p=>loadT cN 158 p.1 0)=some y.av:=zgN H (nY n) (zu 0 T.nil y.cells) 26 (zeN y)
theorem metR {k:Nat} {H:T Blk} {n:Nat} {x y:Pc} {v:Bool} (hL:loadT cN 159 ct (Nat.add co 1)=some (s26 tl lo len cap ex)) (hi:i < len) (hk:k < len) (hne:k≠i) (hI:InvN ct co i H) (hn:2≤n) (hn2:n≤1000000000)
    (hx:loadT cN 158 tl (Nat.add lo (Nat.mul i 26))=some x.av) (hy:loadT cN 158 tl (Nat.add lo (Nat.mul k 26))=some y.av) (hv:SN 180 [x.av,y.av]=some (ze v,true)) :
    Met (obR ct co tl lo len cap ex i k H n x y v []):=by
  have e1:ltI (.ofNat i) (.ofNat len)=true:=YC.2 hi
  have e2:=metR2 (n:=n) y hn2
  have e3:=metR3 H n y
  have hI':=hI.put (show 2≤nY n from Nat.le_trans hn (Nat.le_add_right n 22)) (.cells (zu 0 T.nil y.cells) 26)
  have e4:allB (flat 4) [y.av,.hp 0 0,.hp 1 0]=false:=by
    show ifB (flat 4 y.av) (ifB (flat 4 (.hp 0 0)) _ false) false=false
    rw [show flat 4 (.hp 0 0)=false from rfl,zj]
    cases flat 4 y.av <;> rfl
  have e5:notB (eqI (.ofNat k) (.ofNat i))=true:=by
    show notB (Nat.beq k i)=true
    cases hb:Nat.beq k i with
    | false=>rfl
    | true=>exact absurd (Abs.beq_true.1 hb) hne
  have e6:ltI (.ofNat k) (.ofNat len)=true:=YC.2 hk
  have e7:Nat.ble (Nat.succ i) len=true:=zq.2 hi
  have e8:Nat.ble (Nat.succ k) len=true:=zq.2 hk
  have c1:=zk.2 hL
  exact ⟨e1,e2,zk.2 hv,zk.2 e3,zk.2 hx,e7,zk.2 hI'.1,c1,zk.2 hI'.2,e4,e1,zk.2 hy,e1,e8,e1,e1,c1,e1,e1,e1,e1,e1,e5,c1,e5,e5,e5,e6,trivial⟩
theorem loopN (hL:loadT cN 159 ct (Nat.add co 1)=some (s26 tl lo len cap ex)) (hi:i < len) (hlen:len≤1000000) {f:Nat} (hD:wH wg f tl (Nat.add lo (Nat.mul len 26))=true)
    {x:Pc} {xn xp n0:Nat} (hn0:2≤n0) (hn1:n0≤1000) (hx:loadT cN 158 tl (Nat.add lo (Nat.mul i 26))=some x.av) (hxc:∀ c ∈ x.cells,wg c=true) (hx1:x.a8=xf xn) (hx2:x.a9=xf xp) (hb1:xn < 4294967296) (hb2:xp < 4294967296) :
    ∀
      (r k:Nat) (b b3:Bool) (j j3:Nat→AV) (o:AV) (H:T Blk) (n low:Nat) (l l':List AV),vg tl xn xp i r k (lo + k * 26 + 8)=some l'→k + r=len→InvN ct co i H→jt n0 o l H n→n0≤n→n≤2000 + 29 * k→n0≤low→l.length≤k →
      ∃ b' b3' j' j3' o' H' n' low',Ev cN (.loop BN) (LN ct co tl lo len cap ex i b b3 j j3 k o H n low) (.ext 0 (XN ct co tl lo len cap ex i b' b3' j' j3' o' H' n' low' len))∧jt n0 o' (l++l') H' n'∧n0≤low':=by
  intro r
  induction r with
  |
    zero =>
    intro k b b3 j j3 o H n low l l' hs hk hI hO hn hn2 hlow hll
    cases hs
    obtain rfl:k=len:=by omega
    refine ⟨b,b3,j,j3,o,H,n,low,Ev.loop_out (vf (C:=cN) (E:=SN) rfl (exitN ct co tl lo k cap ex i b b3 j j3 k o H n low) (met_cons (v3.2 (Nat.le_refl _)) met_nil) (by simp)) (by simp),by rw [List.append_nil]; exact hO,hlow⟩
  |
    succ r ih =>
    intro k b b3 j j3 o H n low l l' hs hk hI hO hn hn2 hlow hll
    have hkl:k < len:=by omega
    have hble:Nat.ble (Nat.add k 1) 9223372036854775807=true:=zq.2 (show k + 1≤9223372036854775807 by omega)
    have hoff:lo + k * 26 + 8 + 26=lo + (k + 1) * 26 + 8:=by omega
    rcases Q6 hs with ⟨rfl,hs'⟩ | ⟨hne,yn,hyn,hb3,hs'⟩
    ·
      rw [hoff] at hs'
      have e1:notB (eqI (.ofNat k) (.ofNat k))=false:=by
        show notB (Nat.beq k k)=false
        rw [Abs.beq_true.2 rfl]; rfl
      have hr:=vf (C:=cN) (E:=SN) rfl (zgM ct co tl lo len cap ex k b b3 j j3 k o H n low)
        ⟨hble,rfl,rfl,rfl,rfl,rfl,rfl,rfl,rfl,rfl,rfl,rfl,e1,e1,e1,e1,YC.2 hkl,trivial⟩ (by simp)
      have hO':jt n0 o l H (Nat.add n 24):=by
        refine ⟨hO.1,hO.2.imp id fun ⟨b0,g1,g2,g3,g4,g5⟩=>⟨b0,g1,g2,g3,Nat.lt_of_lt_of_le g4 (Nat.le_add_right n 24),g5⟩⟩
      obtain ⟨b',b3',j',j3',o',H',n',low',g1,g2,g3⟩:=ih (k + 1) true b3 _ j3 o H (Nat.add n 24) low l l' hs' (by omega) hI hO' (show n0≤n + 24 by omega) (show n + 24≤2000 + 29 * (k + 1) by omega) hlow (by omega)
      exact ⟨b',b3',j',j3',o',H',n',low',Ev.loop_nrm hr g1,g2,g3⟩
    ·
      obtain ⟨y,hy,hyc,hy8,hy9⟩:=UJ hD hkl
      have hyn':y.a8=xf yn:=by rw [hy8] at hyn; exact Option.some.inj hyn
      have hf:∀ (v:Bool),SN 180 [x.av,y.av]=some (ze v,true)→v=false→vg tl xn xp i r (k + 1) (lo + k * 26 + 8 + 26)=some l' →
          ∃ b' b3' j' j3' o' H' n' low',Ev cN (.loop BN) (LN ct co tl lo len cap ex i b b3 j j3 k o H n low) (.ext 0 (XN ct co tl lo len cap ex i b' b3' j' j3' o' H' n' low' len))∧jt n0 o' (l++l') H' n'∧n0≤low':=by
        intro v hv hvf hs'
        subst hvf
        rw [hoff] at hs'
        have hr:=vf (C:=cN) (E:=SN) rfl (zgL ct co tl lo len cap ex i b b3 j j3 k o H n low x y) ⟨hble,metR hL hi hkl hne hI (by omega) (by omega) hx hy hv⟩ (by simp)
        have hO':jt n0 o l H (Nat.add n 24):=by
          refine ⟨hO.1,hO.2.imp id fun ⟨b0,g1,g2,g3,g4,g5⟩=>⟨b0,g1,g2,g3,Nat.lt_of_lt_of_le g4 (Nat.le_add_right n 24),g5⟩⟩
        obtain ⟨b',b3',j',j3',o',H',n',low',g1,g2,g3⟩:=ih (k + 1) true b3 _ j3 o H (Nat.add n 24) low l l' hs' (by omega) hI hO' (show n0≤n + 24 by omega) (show n + 24≤2000 + 29 * (k + 1) by omega) hlow (by omega)
        exact ⟨b',b3',j',j3',o',H',n',low',Ev.loop_nrm hr g1,g2,g3⟩
      rcases hs' with ⟨hz,hs'⟩ | ⟨hz,yp,hyp,hb4,hs'⟩
      · exact hf false (YX hxc hyc hx1 hx2 hyn' hb1 hb2 hb3 (.inl ⟨hz,rfl⟩)) rfl hs'
      · have hyp':y.a9=xf yp:=by
          have:tl.get (lo + k * 26 + 9)=some (xf yp):=hyp
          rw [hy9] at this; exact Option.some.inj this
        have hsaid:∀ v,v=Nat.beq (without xp yp) 0→SN 180 [x.av,y.av]=some (ze v,true):=fun v hv=>YX hxc hyc hx1 hx2 hyn' hb1 hb2 hb3 (.inr ⟨hz,yp,hyp',hb4,hv⟩)
        rcases hs' with ⟨hw,hs'⟩ | ⟨hw,l2,hs',rfl⟩
        · exact hf false (hsaid false hw.symm) rfl hs'
        ·
          rw [hoff] at hs'
          have hv:=hsaid true hw.symm
          have hm:=metR (n:=n) hL hi hkl hne hI (by omega) (by omega) hx hy hv
          have hnA:nA n=n + 25:=rfl
          have fin:∀ (H':T Blk) (xr:Nat) (st:S) (j1 j31:Nat→AV),st=LN ct co tl lo len cap ex i true true j1 j31 (Nat.add k 1) (.hs (nA n) 0 (Nat.add l.length 1) 1 (Nat.add l.length 1) false) H' (Nat.add n 29) xr →
              Ev cN BN (LN ct co tl lo len cap ex i b b3 j j3 k o H n low) (.nrm st)→InvN ct co i H'→H'.get (nA n)=some (.cells (zu 0 T.nil (l++[zw (.ofNat k)])) (Nat.add l.length 1))→n0≤xr →
              ∃ b' b3' j' j3' o' H' n' low',Ev cN (.loop BN) (LN ct co tl lo len cap ex i b b3 j j3 k o H n low) (.ext 0 (XN ct co tl lo len cap ex i b' b3' j' j3' o' H' n' low' len))∧jt n0 o' (l++zw (.ofNat k)::l2) H' n'∧n0≤low':=by
            intro H' xr st j1 j31 hst hr hI' hg hlow1
            subst hst
            have hlen:(l++[zw (.ofNat k)]).length=Nat.add l.length 1:=by rw [List.length_append]; rfl
            have hO':jt n0 (.hs (nA n) 0 (Nat.add l.length 1) 1 (Nat.add l.length 1) false) (l++[zw (.ofNat k)]) H' (Nat.add n 29):=by
              refine ⟨fun z hz => ?_,.inr ⟨nA n,by simp,by rw [hlen],show n0≤n + 25 by omega,show n + 25 < n + 29 by omega,by rw [hlen]; exact hg⟩⟩
              rcases List.mem_append.1 hz with hz | hz
              · exact hO.1 z hz
              · exact ⟨k,by simpa using hz⟩
            obtain ⟨b',b3',j',j3',o',H2,n',low',g1,g2,g3⟩:=ih (k + 1) true true j1 j31 _ H' (Nat.add n 29) xr _ l2 hs' (by omega) hI' hO' (show n0≤n + 29 by omega) (show n + 29≤2000 + 29 * (k + 1) by omega) hlow1 (by rw [hlen]; show l.length + 1≤k + 1; omega)
            rw [List.append_assoc] at g2
            exact ⟨b',b3',j',j3',o',H2,n',low',Ev.loop_nrm hr g1,g2,g3⟩
          rcases hO.2 with ⟨rfl,rfl⟩ | ⟨b0,hl0,rfl,hb0,hb0n,hg⟩
          ·
            have hr:=vf (C:=cN) (E:=SN) rfl (zeL ct co tl lo len cap ex i b b3 j j3 k zb H n low x y (zu 0 T.nil [zw (.ofNat k)])) ⟨hble,zk.2 (app0 (nA n) H k),hm⟩ (by simp)
            refine fin _ _ _ _ _ rfl hr (hI.put (show 2≤n + 25 by omega) _) (by rw [T.get_set,if_pos rfl]; rfl) ?_
            rw [yN,xA]
            show n0≤min (n + 25) low
            omega
          · have hr:=vf (C:=cN) (E:=SN) rfl (zeM ct co tl lo len cap ex i b b3 j j3 k (.hs b0 0 l.length 1 l.length false) H n low x y b0 l.length (zu 0 T.nil (l++[zw (.ofNat k)])))
              ⟨hble,zk.2 (app1 hg (by omega) fun z hz=>by obtain ⟨q,rfl⟩:=hO.1 z hz; rfl),hm⟩ (by simp)
            have hnb:nA n≠b0:=by show n + 25≠b0; omega
            refine fin _ _ _ _ _ rfl hr ((hI.put (show 2≤n + 25 by omega) _).put (show 2≤b0 by omega) _) (by rw [T.get_set,if_neg hnb,T.get_set,if_pos rfl]) ?_
            rw [yN,yN,xA,xA]
            show n0≤min (n + 25) (min b0 low)
            omega
end
section
variable (ct:T AV) (co:Nat) (tl:T AV) (lo len cap:Nat) (ex:Bool) (i:Nat) (H:T Blk) (n0:Nat)
theorem KN_eq:KN=.seq (look.sub KN [0]) (.seq (look.sub KN [1,0]) (.seq (.seq (look.sub KN [1,1,0,0]) (.block 0 (.loop BN))) (look.sub KN [1,1,1]))):=by kernel_rfl
theorem goN0:rN0 ct co i H n0=some (.nrm (stN (rN0 ct co i H n0)),[],[]):=by kernel_rfl
theorem goN1:rN1 ct co i H n0=some (.nrm (stN (rN1 ct co i H n0)),[],[]):=by kernel_rfl
theorem goN2:rN2 ct co tl lo len cap ex i H n0=some (.nrm (LN ct co tl lo len cap ex i false false (fun _=>zb) (fun _=>zb) 0 zb H (Nat.add n0 5) far),[],[(zo (loadT cN 159 ct (Nat.add co 1)=some (s26 tl lo len cap ex)),true)]):=by kernel_rfl
variable (b b3:Bool) (j j3:Nat→AV) (o:AV) (n low k:Nat)
def rE:Option DO:=yj cN SN 20 (look.sub KN [1,1,1]) (XN ct co tl lo len cap ex i b b3 j j3 o H n low k) [] []
def zgO:List ResultVar:=elimO (funcOf cN 178) [] (fun p=>p.1.results.toList)
theorem goE:rE ct co tl lo len cap ex i H b b3 j j3 o n low k=some (.ret (stN (rE ct co tl lo len cap ex i H b b3 j j3 o n low k)),[],[]):=by cases b <;> cases b3 <;> kernel_rfl
theorem endH:S.H (stN (rE ct co tl lo len cap ex i H b b3 j j3 o n low k))=H:=by cases b <;> cases b3 <;> kernel_rfl
theorem uD:S.low (stN (rE ct co tl lo len cap ex i H b b3 j j3 o n low k))=low:=by cases b <;> cases b3 <;> kernel_rfl
theorem endR:zN cN (S.env (stN (rE ct co tl lo len cap ex i H b b3 j j3 o n low k))) H zgO=some [o]:=by cases b <;> cases b3 <;> kernel_rfl
end
def Q7 (l:List AV):AV:=List.rec zb (fun _ _ _=>.vs (zu 0 T.nil l) 0 (lenL l) 1 (lenL l) false) l
theorem zeO {l:List AV} (h:l≠[]):Q7 l=.vs (zu 0 T.nil l) 0 l.length 1 l.length false:=by
  cases l with
  | nil=>exact absurd rfl h
  | cons x l=>show AV.vs _ 0 (lenL (x::l)) 1 (lenL (x::l)) false=_; rw [yb]
theorem froz {n0:Nat} {o:AV} {l:List AV} {H:T Blk} {n:Nat} (h:jt n0 o l H n):zV H n0 20 o=some (Q7 l):=by
  obtain ⟨h1,⟨rfl,rfl⟩ | ⟨b0,hl,rfl,hb,_,hg⟩⟩:=h
  · rfl
  ·
    rw [zeO hl]
    have hz:Nat.beq l.length 0=false:=by
      cases hx:Nat.beq l.length 0 with
      | false=>rfl
      | true=>exact absurd (List.length_eq_zero_iff.1 (Abs.beq_true.1 hx)) hl
    have hm:yY (Go.Abs.freeze H n0 19) (zu 0 T.nil l)=some (zu 0 T.nil l):=Q3 (fun x hx=>by obtain ⟨k,rfl⟩:=h1 x hx; rfl) rfl
    have hf:Yf H n0 b0=some (zu 0 T.nil l):=by unfold Yf; rw [T.getB_eq,hg]; rfl
    show ifB (Nat.ble n0 b0) (zm (Nat.ble n0 b0) (zf (Yf H n0 b0) fun p=>ifB (Nat.beq l.length 0) (some (AV.vs T.nil 0 l.length 1 l.length false)) (zf (yY (Go.Abs.freeze H n0 19) p) fun t'=>some (AV.vs t' 0 l.length 1 l.length false)))) (some (AV.hs b0 0 l.length 1 l.length false))=_
    rw [zq.2 hb,ifB_true,yt,hf,zs,hz,zj,hm,zs]
section
variable {ct:T AV} {co:Nat} {tl:T AV} {lo len cap:Nat} {ex:Bool} {i:Nat}
theorem zas (hL:loadT cN 159 ct (Nat.add co 1)=some (s26 tl lo len cap ex)) (hi:i < len) (hlen:len≤1000000) {f:Nat} (hD:wH wg f tl (Nat.add lo (Nat.mul len 26))=true)
    {x:Pc} {xn xp:Nat} (hx:loadT cN 158 tl (Nat.add lo (Nat.mul i 26))=some x.av) (hxc:∀ c ∈ x.cells,wg c=true) (hx1:x.a8=xf xn) (hx2:x.a9=xf xp) (hb1:xn < 4294967296) (hb2:xp < 4294967296)
    {l:List AV} (hs:vg tl xn xp i len 0 (lo + 8)=some l) {H:T Blk} (hI:InvN ct co i H) (low0:Nat) :
    ∃ m,∀ n,m≤n→zx cN (Go.Abs.run cN n) 178 [cA ct co,zw (.ofNat i),fA] H 8 low0=.value (Q7 l) none:=by
  obtain ⟨b,b3,j,j3,o,H',n',low',g1,g2,g3⟩:=loopN hL hi hlen hD (n0:=8) (by omega) (by omega) hx hxc hx1 hx2 hb1 hb2 len 0 false false (fun _=>zb) (fun _=>zb) zb H (Nat.add 8 5) far [] l
    (by rw [show lo + 0 * 26 + 8=lo + 8 by omega]; exact hs) (by omega) hI ⟨by simp,.inl ⟨rfl,rfl⟩⟩ (show 8≤8 + 5 by omega) (show 8 + 5≤2000 + 29 * 0 by omega) (show 8≤4611686018427387904 by omega) (by simp)
  rw [List.nil_append] at g2
  have e0:=vf (C:=cN) (E:=SN) rfl (goN0 ct co i H 8) met_nil (by simp)
  have e1:=vf (C:=cN) (E:=SN) rfl (goN1 ct co i H 8) met_nil (by simp)
  have e2:=vf (C:=cN) (E:=SN) rfl (goN2 ct co tl lo len cap ex i H 8) (met_cons (zk.2 hL) met_nil) (by simp)
  have eE:=vf (C:=cN) (E:=SN) rfl (goE ct co tl lo len cap ex i H' b b3 j j3 o n' low' len) met_nil (by simp)
  have hev:Ev cN KN (sN0 ct co i H 8) (.ret (stN (rE ct co tl lo len cap ex i H' b b3 j j3 o n' low' len))):=by
    rw [KN_eq]
    exact Ev.seq_nrm e0 (Ev.seq_nrm e1 (Ev.seq_nrm (Ev.seq_nrm e2 (Ev.block (id:=0) g1)) eE))
  obtain ⟨p,hp⟩:=Option.isSome_iff_exists.1 (show (funcOf cN 178).isSome=true by kernel_rfl)
  have hn:Nat.ble (lenL [cA ct co,zw (.ofNat i),fA]) p.1.ntmps=true:=by
    have h1:elimO (funcOf cN 178) false (fun p=>Nat.ble 3 p.1.ntmps)=true:=by kernel_rfl
    rw [hp,elimO_some] at h1
    exact h1
  have hx:cN.ext 178 [cA ct co,zw (.ofNat i),fA]=none:=by
    have e:cN.ext=extOf SN:=rfl
    rw [e]
    have e2:SN 178 [cA ct co,zw (.ofNat i),fA]=none:=by
      show zm (notB (memN 178 [178,127,179])) (E4 178 [cA ct co,zw (.ofNat i),fA])=none
      rw [show notB (memN 178 [178,127,179])=false by kernel_rfl]; rfl
    unfold extOf
    rw [e2]; rfl
  obtain ⟨m,hc⟩:=yQ (low:=low0) (H:=H) (nx:=8) (md:=2) hx hp hn (.inr (.inr ⟨rfl,rfl,rfl,rfl⟩)) (show Ev cN (xP cN 178 []) (sN0 ct co i H 8) _ from hev)
  refine ⟨m,fun n hn=>(hc n hn).trans ?_⟩
  rw [kn _ _ _ _ _ hp]
  have hres:p.1.results.toList=zgO:=by unfold zgO; rw [hp,elimO_some]
  have a1:=endH ct co tl lo len cap ex i H' b b3 j j3 o n' low' len
  have a2:=uD ct co tl lo len cap ex i H' b b3 j j3 o n' low' len
  have a3:=endR ct co tl lo len cap ex i H' b b3 j j3 o n' low' len
  generalize stN (rE ct co tl lo len cap ex i H' b b3 j j3 o n' low' len)=st at a1 a2 a3
  obtain ⟨env,H2,nx2,low2⟩:=st
  replace a1:H2=H':=a1
  replace a2:low2=low':=a2
  subst a1; subst a2
  show elimO (zN cN env H2 p.1.results.toList) (CR.bad 7) (fun l=>xH l fun r=>ifB (orB (cN.nf 178) (Nat.ble (Nat.succ low2) 8)) (force (wM low0 low2) fun low=>CR.heap r H2 nx2 low)
      (elimO (zV H2 8 20 r) (force (wM low0 low2) fun low=>CR.heap r H2 nx2 low) (fun v=>CR.value v none)))=_
  rw [hres,a3,elimO_some,w9]
  have hlow:Nat.ble (Nat.succ low2) 8=false:=by
    cases hb:Nat.ble (Nat.succ low2) 8 with
    | false=>rfl
    | true=>have:=zq.1 hb; omega
  rw [show cN.nf 178=false from rfl,hlow,show orB false false=false from rfl,zj]
  show elimO (zV H2 8 20 o) _ _=_
  rw [froz g2,elimO_some]
end
theorem zat {C:Cx} {ops:Array Oper} {nb:Nat} {op:Oper} {env:T AV} {H:T Blk} {nx low:Nat} {f:Operand} {args:Array Operand} {g:FuncId} {l:List AV} {v:AV} {rd:Option (List Nat)} (hw:wanted env ops op=true) (hc:vU op.op=some (f,args))
    (hq:yd env f args=some (g,l)) (hb:C.bor g=false) (h:∃ m,∀ n,m≤n→zx C (Go.Abs.run C n) g l H nx low=.value v rd) :
    ∃ m,∀ n,m≤n→stepOp C (Go.Abs.run C n) ops nb op ⟨env,H,nx,low⟩=.ok ⟨wl env op.dst v,H,nx,low⟩ ⟨rd,some [],false,nu⟩:=by
  obtain ⟨m,h⟩:=h
  refine ⟨m,fun n hn => ?_⟩
  rw [yC,hw,ifB_true]
  unfold wN
  rw [hc,elimO_some,qd _ _ _ _ _ _ _ _ hq hb]
  rw [show ((g,l):FuncId×List AV).1=g from rfl,show ((g,l):FuncId×List AV).2=l from rfl,h n hn]
  show putK env op.dst v (fun env=>StepR.ok ⟨env,H,nx,low⟩ ⟨rd,some [],false,nu⟩)=_
  rw [zJ]
def opsOf (c:Code):Array Oper:=match c with | .region _ ops _=>ops | _ => #[]
def opsA:Array Oper:=opsOf (look.sub KA [1,0])
def opA (k:Nat):Oper:=elimO (nthL opsA.toList k) ⟨none,.move (.tmp 0),0,"",#[],none⟩ (fun o=>o)
theorem KA_eq:KA=.seq (look.sub KA [0]) (.seq (.region 1 opsA false) .ret):=by kernel_rfl
theorem Jn:opsA.toList=[opA 0,opA 1,opA 2,opA 3,opA 4]:=by kernel_rfl
def sOf (r:StepR):S:=StepR.rec (fun s _=>s) (fun _=>⟨T.nil,T.nil,0,0⟩) r
def fOf (r:StepR):Foot:=StepR.rec (fun _ f=>f) (fun _=>⟨none,none,true,nu⟩) r
section
variable (ct:T AV) (co i:Nat) (v:AV)
def sA0:S:=⟨zu 0 T.nil [cA ct co,zw (.ofNat i)],T.nil,0,far⟩
def rA0:Option DO:=yj cN SN 20 (look.sub KA [0]) (sA0 ct co i) [] []
def eA0:T AV:=S.env (stN (rA0 ct co i))
def hA0:T Blk:=S.H (stN (rA0 ct co i))
theorem goA0:rA0 ct co i=some (.nrm ⟨eA0 ct co i,hA0 ct co i,3,0⟩,[],[]):=by kernel_rfl
def q0:StepR:=Fast.stepOp cN (Go.Abs.run cN 0) opsA (Nat.add 3 0) (opA 0) ⟨eA0 ct co i,hA0 ct co i,8,0⟩
def q1:StepR:=Fast.stepOp cN (Go.Abs.run cN 0) opsA (Nat.add 3 1) (opA 1) (sOf (q0 ct co i))
def q2:StepR:=Fast.stepOp cN (Go.Abs.run cN 0) opsA (Nat.add 3 2) (opA 2) (sOf (q1 ct co i))
def e3:T AV:=S.env (sOf (q2 ct co i))
theorem q0_eq:q0 ct co i=.ok (sOf (q0 ct co i)) (fOf (q0 ct co i)):=by kernel_rfl
theorem q1_eq:q1 ct co i=.ok (sOf (q1 ct co i)) (fOf (q1 ct co i)):=by kernel_rfl
theorem q2_eq:q2 ct co i=.ok ⟨e3 ct co i,hA0 ct co i,8,0⟩ (fOf (q2 ct co i)):=by kernel_rfl
def cf:Option (Operand×Array Operand):=vU (opA 3).op
theorem w3:wanted (e3 ct co i) opsA (opA 3)=true:=by kernel_rfl
theorem c3:vU (opA 3).op=some (elimO cf (.tmp 0) (fun p=>p.1),elimO cf #[] (fun p=>p.2)):=by kernel_rfl
theorem a3:yd (e3 ct co i) (elimO cf (.tmp 0) (fun p=>p.1)) (elimO cf #[] (fun p=>p.2))=some (178,[cA ct co,zw (.ofNat i),fA]):=by kernel_rfl
def s4:S:=⟨wl (e3 ct co i) (opA 3).dst v,hA0 ct co i,8,0⟩
def q4:StepR:=Fast.stepOp cN (Go.Abs.run cN 0) opsA (Nat.add 3 4) (opA 4) (s4 ct co i v)
theorem q4_eq:q4 ct co i v=.ok (sOf (q4 ct co i v)) (fOf (q4 ct co i v)):=by kernel_rfl
def zeP:List ResultVar:=elimO (funcOf cN 127) [] (fun p=>p.1.results.toList)
theorem endA:zN cN (S.env (sOf (q4 ct co i v))) (S.H (sOf (q4 ct co i v))) zeP=some [v]:=by kernel_rfl
theorem invA:InvN ct co i (hA0 ct co i):=⟨by kernel_rfl,by kernel_rfl⟩
variable {ct co i v}
theorem Q8 (h:∃ m,∀ n,m≤n→zx cN (Go.Abs.run cN n) 178 [cA ct co,zw (.ofNat i),fA] (hA0 ct co i) 8 0=.value v none) (hv:Go.Abs.freeze (S.H (sOf (q4 ct co i v))) 0 20 v=some v) :
    ∃ n rd,Go.Abs.call cN n 127 [cA ct co,zw (.ofNat i)]=.value v rd:=by
  have hr:OpsEv cN opsA false 3 opsA.toList 0 ⟨eA0 ct co i,hA0 ct co i,8,0⟩ [] (.nrm (sOf (q4 ct co i v))):=by
    rw [Jn]
    refine OpsEv.cons (yA (q0_eq ct co i)) (OpsEv.cons (yA (q1_eq ct co i)) (OpsEv.cons (yA (q2_eq ct co i))
      (OpsEv.cons (zat (w3 ct co i) c3 (a3 ct co i) rfl h) (OpsEv.cons (yA (q4_eq ct co i v)) ⟨_,_,StepsEv.nil _ _ _ _ _,rfl,fun h=>by cases h⟩))))
  have hev:Ev cN KA (sA0 ct co i) (.ret (sOf (q4 ct co i v))):=by
    rw [KA_eq]
    exact Ev.seq_nrm (vf (C:=cN) (E:=SN) rfl (goA0 ct co i) met_nil (by simp)) (Ev.seq_nrm (Ev.region (by rw [Jn] at hr ⊢; exact hr)) (Ev.ret _))
  obtain ⟨p,hp⟩:=Option.isSome_iff_exists.1 (show (funcOf cN 127).isSome=true by kernel_rfl)
  have hn:Nat.ble (lenL [cA ct co,zw (.ofNat i)]) p.1.ntmps=true:=by
    have h1:elimO (funcOf cN 127) false (fun p=>Nat.ble 2 p.1.ntmps)=true:=by kernel_rfl
    rw [hp,elimO_some] at h1
    exact h1
  have hx:cN.ext 127 [cA ct co,zw (.ofNat i)]=none:=by
    have e:cN.ext=extOf SN:=rfl
    rw [e]
    have e2:SN 127 [cA ct co,zw (.ofNat i)]=none:=by
      show zm (notB (memN 127 [178,127,179])) (E4 127 [cA ct co,zw (.ofNat i)])=none
      rw [show notB (memN 127 [178,127,179])=false by kernel_rfl]; rfl
    unfold extOf
    rw [e2]; rfl
  obtain ⟨m,hc⟩:=yQ (low:=far) (H:=T.nil) (nx:=0) (md:=0) hx hp hn (.inl ⟨rfl,rfl,rfl⟩) (show Ev cN (xP cN 127 []) (sA0 ct co i) _ from hev)
  refine ⟨m,some [],(hc m (Nat.le_refl _)).trans ?_⟩
  rw [kn _ _ _ _ _ hp]
  have hres:p.1.results.toList=zeP:=by unfold zeP; rw [hp,elimO_some]
  have a1:=endA ct co i v
  generalize sOf (q4 ct co i v)=st at a1 hv
  obtain ⟨env,H2,nx2,low2⟩:=st
  show elimO (zf (zN cN env H2 p.1.results.toList) fun l=>xH l (Go.Abs.freeze H2 0 20)) (CR.bad 5) (fun v=>CR.value v (some []))=_
  replace a1:zN cN env H2 zeP=some [v]:=a1
  rw [hres,a1,zs,w9]
  show elimO (Go.Abs.freeze H2 0 20 v) _ _=_
  rw [show Go.Abs.freeze H2 0 20 v=some v from hv,elimO_some]
end
def avVp {β:Type} (x:AV) (k:T AV→Nat→Option β):Option β:=(@AV.rec (fun _=>Option β) U1 U1 U1 U1 U1 U1 (fun _=>none) (fun _ _=>none) (fun t off _=>k t off) (fun _ _ _ _ _ _=>none) (fun _ _ _ _ _ _ _=>none) (fun _ _ _ _ _=>none) (fun _ _=>none) (fun _ _=>none) (fun _=>none) (fun _ _=>none) K2 () K4 () K4 () K8 K4 () K2 x)
theorem zau {β:Type} {x:AV} {k:T AV→Nat→Option β} {y:β} (h:avVp x k=some y):∃ t off,x=.vp t off∧k t off=some y:=by
  cases x <;> first | exact ⟨_,_,rfl,h⟩ | cases h
def i64P {β:Type} (x:AV) (k:Nat→Option β):Option β:=xi x none fun kd n=>zm (Nat.beq (xD kd) 3) (Int.rec (fun a=>force a k) (fun _=>none) n)
theorem zav {β:Type} {x:AV} {k:Nat→Option β} {y:β} (h:i64P x k=some y):∃ a:Nat,x=zw (.ofNat a)∧k a=some y:=by
  cases x with
  |
    v z =>
    cases z with
    |
      int kd n =>
      obtain ⟨h1,h2⟩:=zi.1 (show zm (Nat.beq (xD kd) 3) (Int.rec (motive:=fun _=>Option β) (fun a=>force a k) (fun _=>none) n)=some y from h)
      have hk:kd=.i64:=by have:=Abs.beq_true.1 h1; cases kd <;> first | rfl | (exact absurd this (by decide))
      subst hk
      cases n with
      | ofNat a=>exact ⟨a,rfl,h2⟩
      | negSucc a=>cases h2
    | _=>cases h
  | _=>cases h
def outQ (l:List AV):AV:=List.rec zb (fun _ _ _=>fill 0 T.nil l fun t=>force (lenL l) fun n=>.vs t 0 n 1 n false) l
theorem zgP (l:List AV):outQ l=Q7 l:=by
  cases l with
  | nil=>rfl
  | cons x l=>show fill 0 T.nil (x::l) (fun t=>force (lenL (x::l)) fun n=>AV.vs t 0 n 1 n false)=_; rw [zZ,zr]; rfl
def zcN (l:List AV):Q:=xI l fun c a=>avVp c fun ct co=>i64P a fun i=>zf (Fast.loadT cN 159 ct (Nat.add co 1)) fun s=>zf (zdo s) fun p=>zm (Nat.beq p.2.2.2.1 26)
  (force p.2.1 fun lo=>force p.2.2.1 fun len=>zm (andB (Nat.ble (Nat.succ i) len) (Nat.ble len 1000000)) (zm (wH wg 9 p.1 (Nat.add lo (Nat.mul len 26)))
    (zf (T.getA p.1 (Nat.add (Nat.add lo (Nat.mul i 26)) 8)) fun a=>uZ a fun xn=>zf (T.getA p.1 (Nat.add (Nat.add lo (Nat.mul i 26)) 9)) fun a=>uZ a fun xp =>
      zf (vg p.1 xn xp i len 0 (Nat.add lo 8)) fun l=>some (outQ l,true))))
def E5:Es:=fun f l=>ifB (Nat.beq f 127) (zcN l) (E4 f l)
theorem zeQ (H:T Blk) (l:List AV):Go.Abs.freeze H 0 20 (Q7 l)=some (Q7 l):=by cases l <;> rfl
theorem flatV (l:List AV):flat 4 (Q7 l)=true:=by cases l <;> rfl
theorem zcO:Ok Tryz.prog E5 127:=XB (C:=cN) rfl mixed (vN fun g _=>Jl g) fun l v h=>by
  have e:E5 127 l=zcN l:=by
    unfold E5
    rw [show Nat.beq 127 127=true by kernel_rfl]; rfl
  rw [e] at h
  replace h:=zF h; obtain ⟨c,a,rfl,h⟩:=h
  replace h:=zau h; obtain ⟨ct,co,rfl,h⟩:=h
  replace h:=zav h; obtain ⟨i,rfl,h⟩:=h
  replace h:=za.1 h; obtain ⟨s,hL,h⟩:=h
  rw [Fast.loadT_e] at hL
  replace h:=za.1 h; obtain ⟨⟨tl,lo,len,es,cap,ex⟩,hs,h⟩:=h
  obtain rfl:=YG hs
  replace h:=zi.1 h; obtain ⟨he,h⟩:=h
  obtain rfl:es=26:=Abs.beq_true.1 he
  rw [zr,zr] at h
  replace h:=zi.1 h; obtain ⟨hg,h⟩:=h
  obtain ⟨hi,hlen⟩:=zl.1 hg
  have hi:i < len:=zq.1 hi
  have hlen:len≤1000000:=zq.1 hlen
  replace h:=zi.1 h; obtain ⟨hD,h⟩:=h
  replace hD:wH wg 9 tl (Nat.add lo (Nat.mul len 26))=true:=hD
  replace h:=za.1 h; obtain ⟨z1,hz1,h⟩:=h
  rw [T.getA_eq] at hz1
  replace h:=xX h; obtain ⟨xn,rfl,hb1,h⟩:=h
  replace h:=za.1 h; obtain ⟨z2,hz2,h⟩:=h
  rw [T.getA_eq] at hz2
  replace h:=xX h; obtain ⟨xp,rfl,hb2,h⟩:=h
  replace h:=za.1 h; obtain ⟨l,hl,h⟩:=h
  obtain ⟨rfl,_⟩:=zC h
  obtain ⟨x,hx,hxc,hx8,hx9⟩:=UJ hD hi
  have h1:x.a8=xf xn:=by
    have:tl.get (lo + i * 26 + 8)=some (xf xn):=hz1
    rw [hx8] at this; exact Option.some.inj this
  have h2:x.a9=xf xp:=by
    have:tl.get (lo + i * 26 + 9)=some (xf xp):=hz2
    rw [hx9] at this; exact Option.some.inj this
  rw [zgP]
  exact ⟨rfl,flatV l,Q8 (zas hL hi hlen hD hx hxc h1 h2 hb1 hb2 hl (invA ct co i) 0) (zeQ _ l)⟩
theorem all_ok5:∀ f,Ok Tryz.prog E5 f:=fun f=>by
  cases h:Nat.beq f 127 with
  | true=>rw [Abs.beq_true.1 h]; exact zcO
  |
    false =>
    intro l v hv
    have e:E5 f l=E4 f l:=by unfold E5; rw [h]; rfl
    rw [e] at hv
    exact Jl f l v hv
end
end Go.Proofs.YtdomagdnaohpbaaGreatDoor.near
