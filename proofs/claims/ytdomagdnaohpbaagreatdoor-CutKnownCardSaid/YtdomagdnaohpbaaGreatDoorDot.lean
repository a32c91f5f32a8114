/- THE PRODUCT OF TWO ROWS (cone.dot), of small numbers: what it answers. Printed by a program (wip/num/gen_dot.py). -/
import Derived.Test.YtdomagdnaohpbaaGreatDoorFrac
set_option linter.unusedSimpArgs false
set_option linter.unusedVariables false
set_option maxRecDepth 100000
namespace Go.Proofs.YtdomagdnaohpbaaGreatDoor.num
open Go.Abs
noncomputable def E1:Es:=fun f l=>ifB (Nat.beq f 193) (eDot l) (E0 f l)
noncomputable def S1:Es:=only (fun g=>notB (Nat.beq g 193)) E1
noncomputable def cD:Cx:=cxOf Tryz.prog S1
theorem zcj:∀ g,notB (Nat.beq g 193)=true→Ok Tryz.prog E1 g:=by
  intro g hg l v hv
  have e:E1 g l=E0 g l:=by unfold E1; rw [ZI.1 hg]; rfl
  rw [e] at hv
  exact zgu g l v hv
theorem e_dot (l:List AV):E1 193 l=eDot l:=by kernel_rfl
noncomputable abbrev nz (s:Bool) (x:Nat):Bool:=notB (eqI (yK s x) 0)
theorem nz_eq (s:Bool) (x:Nat):nz s x=pos x:=by unfold nz; rw [qA]; rfl
noncomputable abbrev aS (S:Bool) (N:Nat) (s:Bool) (x:Nat) (t:Bool) (y:Nat):Bool:=xe S N (mk (xC s t) (Nat.mul x y)) (Nat.mul x y)
noncomputable abbrev aN (S:Bool) (N:Nat) (s:Bool) (x:Nat) (t:Bool) (y:Nat):Nat:=yw S N (mk (xC s t) (Nat.mul x y)) (Nat.mul x y)
noncomputable abbrev aC (S:Bool) (N:Nat) (s:Bool) (x:Nat) (t:Bool) (y:Nat):Bool:=yP S N (mk (xC s t) (Nat.mul x y)) (Nat.mul x y)
abbrev I0 (l:List Dc):List Dc:=.c::.f::.f::.f::.f::.f::.f::.c::l
abbrev I1 (l:List Dc):List Dc:=.c::.t::.t::.t::.t::.t::.t::.f::l
abbrev I2 (l:List Dc):List Dc:=.c::.t::.t::.t::.t::.t::.t::.t::l
noncomputable abbrev O0 (s:Bool) (x:Nat) (l:Ob):Ob:=(nz s x,false)::(nz s x,false)::(nz s x,false)::(nz s x,false)::(nz s x,false)::(nz s x,false)::(small x,true)::l
noncomputable abbrev O1 (s:Bool) (x:Nat) (t:Bool) (y:Nat) (b:Bool) (l:Ob):Ob:=(nz t y,b)::(nz s x,true)::(nz s x,true)::(small y,true)::(nz s x,true)::(nz s x,true)::(nz s x,true)::(nz s x,true)::(small x,true)::l
noncomputable abbrev O2 (s:Bool) (x:Nat) (t:Bool) (y:Nat) (S:Bool) (N:Nat) (l:Ob):Ob:=(aC S N s x t y,true)::(zA x y,true)::O1 s x t y true l
section
variable {s t S C:Bool} {x y N:Nat} {k:Bool→Nat→Bool→Q} {r:AV×Bool}
theorem zem (hx:pos x=false) (h:uF s x t y S N C k=some r):k S N (andB C (small x))=some r:=by
  unfold uF at h; rw [hx,zj] at h; exact h
theorem zen (hx:pos x=true) (hy:pos y=false) (h:uF s x t y S N C k=some r):k S N (andB C (andB (small x) (small y)))=some r:=by
  unfold uF at h; rw [hx,ifB_true,hy,zj] at h; exact h
theorem zeo (hx:pos x=true) (hy:pos y=true) (h:uF s x t y S N C k=some r) :
    k (aS S N s x t y) (aN S N s x t y) (andB C (andB (small x) (andB (small y) (andB (zA x y) (aC S N s x t y)))))=some r:=by
  unfold uF at h; rw [hx,ifB_true,hy,ifB_true] at h; exact h
end
inductive W3 where | a | b | c
def I:W3→List Dc→List Dc | .a,l=>I0 l | .b,l=>I1 l | .c,l=>I2 l
noncomputable section
def SS:W3→Bool→Nat→Bool→Nat→Bool→Nat→Bool | .c,S,N,s,x,t,y=>aS S N s x t y | _,S,_,_,_,_,_=>S
def NN:W3→Bool→Nat→Bool→Nat→Bool→Nat→Nat | .c,S,N,s,x,t,y=>aN S N s x t y | _,_,N,_,_,_,_=>N
def O:W3→Bool→Nat→Bool→Nat→Bool→Nat→Ob→Ob | .a,_,_,s,x,_,_,l=>O0 s x l | .b,_,_,s,x,t,y,l=>O1 s x t y false l | .c,S,N,s,x,t,y,l=>O2 s x t y S N l
def PP:W3→Nat→Nat→Prop | .a,x,_=>pos x=false | .b,x,y=>pos x=true∧pos y=false | .c,x,y=>pos x=true∧pos y=true
def cnd:W3→Bool→Nat→Bool→Nat→Bool→Nat→Bool | .a,_,_,_,x,_,_=>small x | .b,_,_,_,x,_,y=>andB (small x) (small y) | .c,S,N,s,x,t,y=>andB (small x) (andB (small y) (andB (zA x y) (aC S N s x t y)))
end
section
variable {s t S C:Bool} {x y N:Nat} {k:Bool→Nat→Bool→Q} {r:AV×Bool}
theorem zep (h:uF s x t y S N C k=some r):∃ p,PP p x y∧k (SS p S N s x t y) (NN p S N s x t y) (andB C (cnd p S N s x t y))=some r:=by
  cases hx:pos x with
  | false=>exact ⟨.a,hx,zem hx h⟩
  |
    true =>
    cases hy:pos y with
    | false=>exact ⟨.b,⟨hx,hy⟩,zen hx hy h⟩
    | true=>exact ⟨.c,⟨hx,hy⟩,zeo hx hy h⟩
theorem zeq {l:Ob} (p:W3) (h:PP p x y) (hc:cnd p S N s x t y=true) (hl:Met l):Met (O p S N s x t y l):=by
  cases p <;> simp only [PP,cnd,zl] at h hc <;> simp only [O] <;> (repeat' apply met_cons) <;> first | exact hl | (rw [nz_eq]; simp only [h]; done) | simp only [hc]
end
section
variable (p0 p1 p2 p3:W3) (s0 s1 s2 s3 t0 t1 t2 t3:Bool) (x0 x1 x2 x3 y0 y1 y2 y3:Nat)
noncomputable abbrev A0:=SS p0 false 0 s0 x0 t0 y0
noncomputable abbrev B0:=NN p0 false 0 s0 x0 t0 y0
noncomputable abbrev A1:=SS p1 (A0 p0 s0 t0 x0 y0) (B0 p0 s0 t0 x0 y0) s1 x1 t1 y1
noncomputable abbrev B1:=NN p1 (A0 p0 s0 t0 x0 y0) (B0 p0 s0 t0 x0 y0) s1 x1 t1 y1
noncomputable abbrev A2:=SS p2 (A1 p0 p1 s0 s1 t0 t1 x0 x1 y0 y1) (B1 p0 p1 s0 s1 t0 t1 x0 x1 y0 y1) s2 x2 t2 y2
noncomputable abbrev B2:=NN p2 (A1 p0 p1 s0 s1 t0 t1 x0 x1 y0 y1) (B1 p0 p1 s0 s1 t0 t1 x0 x1 y0 y1) s2 x2 t2 y2
noncomputable abbrev A3:=SS p3 (A2 p0 p1 p2 s0 s1 s2 t0 t1 t2 x0 x1 x2 y0 y1 y2) (B2 p0 p1 p2 s0 s1 s2 t0 t1 t2 x0 x1 x2 y0 y1 y2) s3 x3 t3 y3
noncomputable abbrev B3:=NN p3 (A2 p0 p1 p2 s0 s1 s2 t0 t1 t2 x0 x1 x2 y0 y1 y2) (B2 p0 p1 p2 s0 s1 s2 t0 t1 t2 x0 x1 x2 y0 y1 y2) s3 x3 t3 y3
theorem p_dot:symCall cD S1 100 193 [Qj s0 x0 s1 x1 s2 x2 s3 x3,Qj t0 y0 t1 y1 t2 y2 t3 y3] (I p0<|I p1<|I p2<|I p3<|[.c]) =
    some (.value (zh (A3 p0 p1 p2 p3 s0 s1 s2 s3 t0 t1 t2 t3 x0 x1 x2 x3 y0 y1 y2 y3) (B3 p0 p1 p2 p3 s0 s1 s2 s3 t0 t1 t2 t3 x0 x1 x2 x3 y0 y1 y2 y3)) (some []),[],
      O p3 (A2 p0 p1 p2 s0 s1 s2 t0 t1 t2 x0 x1 x2 y0 y1 y2) (B2 p0 p1 p2 s0 s1 s2 t0 t1 t2 x0 x1 x2 y0 y1 y2) s3 x3 t3 y3<|O p2 (A1 p0 p1 s0 s1 t0 t1 x0 x1 y0 y1) (B1 p0 p1 s0 s1 t0 t1 x0 x1 y0 y1) s2 x2 t2 y2<|O p1 (A0 p0 s0 t0 x0 y0) (B0 p0 s0 t0 x0 y0) s1 x1 t1 y1<|O p0 false 0 s0 x0 t0 y0 []):=by
  cases p0 <;> cases p1 <;> cases p2 <;> cases p3 <;> kernel_rfl
end
theorem zgv:Ok Tryz.prog E1 193:=zM (S:=fun g=>notB (Nat.beq g 193)) mixed zcj (by rw [Abs.beq_true.2 rfl]; rfl) fun l v h=>by
  rw [e_dot] at h
  replace h:=zF h; obtain ⟨a,b,rfl,h⟩:=h
  replace h:=wn h; obtain ⟨s0,x0,s1,x1,s2,x2,s3,x3,rfl,h⟩:=h
  replace h:=wn h; obtain ⟨t0,y0,t1,y1,t2,y2,t3,y3,rfl,h⟩:=h
  replace h:=zep h; obtain ⟨p0,g0,h⟩:=h
  replace h:=zep h; obtain ⟨p1,g1,h⟩:=h
  replace h:=zep h; obtain ⟨p2,g2,h⟩:=h
  replace h:=zep h; obtain ⟨p3,g3,h⟩:=h
  replace h:=zC h; obtain ⟨rfl,hc⟩:=h
  simp only [zl] at hc
  obtain ⟨⟨⟨⟨_,c0⟩,c1⟩,c2⟩,c3⟩:=hc
  exact ⟨rfl,rfl,yz (p_dot p0 p1 p2 p3 s0 s1 s2 s3 t0 t1 t2 t3 x0 x1 x2 x3 y0 y1 y2 y3) rfl (zeq p3 g3 c3 (zeq p2 g2 c2 (zeq p1 g1 c1 (zeq p0 g0 c0 met_nil))))⟩
theorem zer:∀ f,Ok Tryz.prog E1 f:=by
  intro f
  cases h:Nat.beq f 193 with
  | true=>rw [Abs.beq_true.1 h]; exact zgv
  | false=>exact zcj f (by rw [h]; rfl)
end Go.Proofs.YtdomagdnaohpbaaGreatDoor.num
