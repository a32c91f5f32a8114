/- THE PRODUCT OF TWO ROWS (cone.dot), of small numbers: what it answers. Printed by a program (wip/num/gen_dot.py). -/
import Derived.Test.YtcgnkejpcjcaoaaGreatFrac
set_option linter.unusedSimpArgs false
set_option linter.unusedVariables false
set_option maxRecDepth 100000
namespace Go.Proofs.YtcgnkejpcjcaoaaGreat.num
open Go.Abs
noncomputable def E1 : Es:=fun f l => ifB (Nat.beq f 190) (eDot l) (E0 f l)
noncomputable def S1 : Es:=only (fun g => notB (Nat.beq g 190)) E1
noncomputable def cD : Cx:=cxOf Tryz.prog S1
theorem ok_old : ∀ g,notB (Nat.beq g 190) = true → Ok Tryz.prog E1 g:=by
  intro g hg l v hv
  have e : E1 g l = E0 g l:=by unfold E1; rw [notB_t.1 hg]; rfl
  rw [e] at hv
  exact all_ok g l v hv
theorem e_dot (l:List AV) : E1 190 l = eDot l:=by kernel_rfl
noncomputable abbrev nz (s:Bool) (x:Nat) : Bool:=notB (eqI (signI s x) 0)
theorem nz_eq (s:Bool) (x:Nat) : nz s x = pos x:=by unfold nz; rw [signI_zero]; rfl
noncomputable abbrev aS (S:Bool) (N:Nat) (s:Bool) (x:Nat) (t:Bool) (y:Nat) : Bool:=sumS S N (mk (xorB s t) (Nat.mul x y)) (Nat.mul x y)
noncomputable abbrev aN (S:Bool) (N:Nat) (s:Bool) (x:Nat) (t:Bool) (y:Nat) : Nat:=sumN S N (mk (xorB s t) (Nat.mul x y)) (Nat.mul x y)
noncomputable abbrev aC (S:Bool) (N:Nat) (s:Bool) (x:Nat) (t:Bool) (y:Nat) : Bool:=sumC S N (mk (xorB s t) (Nat.mul x y)) (Nat.mul x y)
abbrev I0 (l:List Dc) : List Dc:=.c::.f::.f::.f::.f::.f::.f::.c::l
abbrev I1 (l:List Dc) : List Dc:=.c::.t::.t::.t::.t::.t::.t::.f::l
abbrev I2 (l:List Dc) : List Dc:=.c::.t::.t::.t::.t::.t::.t::.t::l
noncomputable abbrev O0 (s:Bool) (x:Nat) (l:Ob) : Ob:=(nz s x,false)::(nz s x,false)::(nz s x,false)::(nz s x,false)::(nz s x,false)::(nz s x,false)::(small x,true)::l
noncomputable abbrev O1 (s:Bool) (x:Nat) (t:Bool) (y:Nat) (b:Bool) (l:Ob) : Ob:=(nz t y,b)::(nz s x,true)::(nz s x,true)::(small y,true)::(nz s x,true)::(nz s x,true)::(nz s x,true)::(nz s x,true)::(small x,true)::l
noncomputable abbrev O2 (s:Bool) (x:Nat) (t:Bool) (y:Nat) (S:Bool) (N:Nat) (l:Ob) : Ob:=(aC S N s x t y,true)::(mulC x y,true)::O1 s x t y true l
section
variable {s t S C:Bool} {x y N:Nat} {k:Bool → Nat → Bool → Q} {r:AV × Bool}
theorem dstep_0 (hx:pos x = false) (h:dstep s x t y S N C k = some r) : k S N (andB C (small x)) = some r:=by
  unfold dstep at h; rw [hx,ifB_false] at h; exact h
theorem dstep_1 (hx:pos x = true) (hy:pos y = false) (h:dstep s x t y S N C k = some r) : k S N (andB C (andB (small x) (small y))) = some r:=by
  unfold dstep at h; rw [hx,ifB_true,hy,ifB_false] at h; exact h
theorem dstep_2 (hx:pos x = true) (hy:pos y = true) (h:dstep s x t y S N C k = some r) :
    k (aS S N s x t y) (aN S N s x t y) (andB C (andB (small x) (andB (small y) (andB (mulC x y) (aC S N s x t y))))) = some r:=by
  unfold dstep at h; rw [hx,ifB_true,hy,ifB_true] at h; exact h
end
section
variable (s0 s1 s2 s3 t0 t1 t2 t3:Bool) (x0 x1 x2 x3 y0 y1 y2 y3:Nat)
theorem p_dot_0000 : symCall cD S1 100 190 [rowA s0 x0 s1 x1 s2 x2 s3 x3,rowA t0 y0 t1 y1 t2 y2 t3 y3] (I0 <| I0 <| I0 <| I0 <| [.c]) = some (.value (wholeA false 0) (some []),[],O0 s3 x3 <| O0 s2 x2 <| O0 s1 x1 <| O0 s0 x0 <| []):=by kernel_rfl
theorem p_dot_0001 : symCall cD S1 100 190 [rowA s0 x0 s1 x1 s2 x2 s3 x3,rowA t0 y0 t1 y1 t2 y2 t3 y3] (I0 <| I0 <| I0 <| I1 <| [.c]) = some (.value (wholeA false 0) (some []),[],O1 s3 x3 t3 y3 false <| O0 s2 x2 <| O0 s1 x1 <| O0 s0 x0 <| []):=by kernel_rfl
theorem p_dot_0002 : symCall cD S1 100 190 [rowA s0 x0 s1 x1 s2 x2 s3 x3,rowA t0 y0 t1 y1 t2 y2 t3 y3] (I0 <| I0 <| I0 <| I2 <| [.c]) = some (.value (wholeA (aS false 0 s3 x3 t3 y3) (aN false 0 s3 x3 t3 y3)) (some []),[],O2 s3 x3 t3 y3 false 0 <| O0 s2 x2 <| O0 s1 x1 <| O0 s0 x0 <| []):=by kernel_rfl
theorem p_dot_0010 : symCall cD S1 100 190 [rowA s0 x0 s1 x1 s2 x2 s3 x3,rowA t0 y0 t1 y1 t2 y2 t3 y3] (I0 <| I0 <| I1 <| I0 <| [.c]) = some (.value (wholeA false 0) (some []),[],O0 s3 x3 <| O1 s2 x2 t2 y2 false <| O0 s1 x1 <| O0 s0 x0 <| []):=by kernel_rfl
theorem p_dot_0011 : symCall cD S1 100 190 [rowA s0 x0 s1 x1 s2 x2 s3 x3,rowA t0 y0 t1 y1 t2 y2 t3 y3] (I0 <| I0 <| I1 <| I1 <| [.c]) = some (.value (wholeA false 0) (some []),[],O1 s3 x3 t3 y3 false <| O1 s2 x2 t2 y2 false <| O0 s1 x1 <| O0 s0 x0 <| []):=by kernel_rfl
theorem p_dot_0012 : symCall cD S1 100 190 [rowA s0 x0 s1 x1 s2 x2 s3 x3,rowA t0 y0 t1 y1 t2 y2 t3 y3] (I0 <| I0 <| I1 <| I2 <| [.c]) = some (.value (wholeA (aS false 0 s3 x3 t3 y3) (aN false 0 s3 x3 t3 y3)) (some []),[],O2 s3 x3 t3 y3 false 0 <| O1 s2 x2 t2 y2 false <| O0 s1 x1 <| O0 s0 x0 <| []):=by kernel_rfl
theorem p_dot_0020 : symCall cD S1 100 190 [rowA s0 x0 s1 x1 s2 x2 s3 x3,rowA t0 y0 t1 y1 t2 y2 t3 y3] (I0 <| I0 <| I2 <| I0 <| [.c]) = some (.value (wholeA (aS false 0 s2 x2 t2 y2) (aN false 0 s2 x2 t2 y2)) (some []),[],O0 s3 x3 <| O2 s2 x2 t2 y2 false 0 <| O0 s1 x1 <| O0 s0 x0 <| []):=by kernel_rfl
theorem p_dot_0021 : symCall cD S1 100 190 [rowA s0 x0 s1 x1 s2 x2 s3 x3,rowA t0 y0 t1 y1 t2 y2 t3 y3] (I0 <| I0 <| I2 <| I1 <| [.c]) = some (.value (wholeA (aS false 0 s2 x2 t2 y2) (aN false 0 s2 x2 t2 y2)) (some []),[],O1 s3 x3 t3 y3 false <| O2 s2 x2 t2 y2 false 0 <| O0 s1 x1 <| O0 s0 x0 <| []):=by kernel_rfl
theorem p_dot_0022 : symCall cD S1 100 190 [rowA s0 x0 s1 x1 s2 x2 s3 x3,rowA t0 y0 t1 y1 t2 y2 t3 y3] (I0 <| I0 <| I2 <| I2 <| [.c]) = some (.value (wholeA (aS (aS false 0 s2 x2 t2 y2) (aN false 0 s2 x2 t2 y2) s3 x3 t3 y3) (aN (aS false 0 s2 x2 t2 y2) (aN false 0 s2 x2 t2 y2) s3 x3 t3 y3)) (some []),[],O2 s3 x3 t3 y3 (aS false 0 s2 x2 t2 y2) (aN false 0 s2 x2 t2 y2) <| O2 s2 x2 t2 y2 false 0 <| O0 s1 x1 <| O0 s0 x0 <| []):=by kernel_rfl
theorem p_dot_0100 : symCall cD S1 100 190 [rowA s0 x0 s1 x1 s2 x2 s3 x3,rowA t0 y0 t1 y1 t2 y2 t3 y3] (I0 <| I1 <| I0 <| I0 <| [.c]) = some (.value (wholeA false 0) (some []),[],O0 s3 x3 <| O0 s2 x2 <| O1 s1 x1 t1 y1 false <| O0 s0 x0 <| []):=by kernel_rfl
theorem p_dot_0101 : symCall cD S1 100 190 [rowA s0 x0 s1 x1 s2 x2 s3 x3,rowA t0 y0 t1 y1 t2 y2 t3 y3] (I0 <| I1 <| I0 <| I1 <| [.c]) = some (.value (wholeA false 0) (some []),[],O1 s3 x3 t3 y3 false <| O0 s2 x2 <| O1 s1 x1 t1 y1 false <| O0 s0 x0 <| []):=by kernel_rfl
theorem p_dot_0102 : symCall cD S1 100 190 [rowA s0 x0 s1 x1 s2 x2 s3 x3,rowA t0 y0 t1 y1 t2 y2 t3 y3] (I0 <| I1 <| I0 <| I2 <| [.c]) = some (.value (wholeA (aS false 0 s3 x3 t3 y3) (aN false 0 s3 x3 t3 y3)) (some []),[],O2 s3 x3 t3 y3 false 0 <| O0 s2 x2 <| O1 s1 x1 t1 y1 false <| O0 s0 x0 <| []):=by kernel_rfl
theorem p_dot_0110 : symCall cD S1 100 190 [rowA s0 x0 s1 x1 s2 x2 s3 x3,rowA t0 y0 t1 y1 t2 y2 t3 y3] (I0 <| I1 <| I1 <| I0 <| [.c]) = some (.value (wholeA false 0) (some []),[],O0 s3 x3 <| O1 s2 x2 t2 y2 false <| O1 s1 x1 t1 y1 false <| O0 s0 x0 <| []):=by kernel_rfl
theorem p_dot_0111 : symCall cD S1 100 190 [rowA s0 x0 s1 x1 s2 x2 s3 x3,rowA t0 y0 t1 y1 t2 y2 t3 y3] (I0 <| I1 <| I1 <| I1 <| [.c]) = some (.value (wholeA false 0) (some []),[],O1 s3 x3 t3 y3 false <| O1 s2 x2 t2 y2 false <| O1 s1 x1 t1 y1 false <| O0 s0 x0 <| []):=by kernel_rfl
theorem p_dot_0112 : symCall cD S1 100 190 [rowA s0 x0 s1 x1 s2 x2 s3 x3,rowA t0 y0 t1 y1 t2 y2 t3 y3] (I0 <| I1 <| I1 <| I2 <| [.c]) = some (.value (wholeA (aS false 0 s3 x3 t3 y3) (aN false 0 s3 x3 t3 y3)) (some []),[],O2 s3 x3 t3 y3 false 0 <| O1 s2 x2 t2 y2 false <| O1 s1 x1 t1 y1 false <| O0 s0 x0 <| []):=by kernel_rfl
theorem p_dot_0120 : symCall cD S1 100 190 [rowA s0 x0 s1 x1 s2 x2 s3 x3,rowA t0 y0 t1 y1 t2 y2 t3 y3] (I0 <| I1 <| I2 <| I0 <| [.c]) = some (.value (wholeA (aS false 0 s2 x2 t2 y2) (aN false 0 s2 x2 t2 y2)) (some []),[],O0 s3 x3 <| O2 s2 x2 t2 y2 false 0 <| O1 s1 x1 t1 y1 false <| O0 s0 x0 <| []):=by kernel_rfl
theorem p_dot_0121 : symCall cD S1 100 190 [rowA s0 x0 s1 x1 s2 x2 s3 x3,rowA t0 y0 t1 y1 t2 y2 t3 y3] (I0 <| I1 <| I2 <| I1 <| [.c]) = some (.value (wholeA (aS false 0 s2 x2 t2 y2) (aN false 0 s2 x2 t2 y2)) (some []),[],O1 s3 x3 t3 y3 false <| O2 s2 x2 t2 y2 false 0 <| O1 s1 x1 t1 y1 false <| O0 s0 x0 <| []):=by kernel_rfl
theorem p_dot_0122 : symCall cD S1 100 190 [rowA s0 x0 s1 x1 s2 x2 s3 x3,rowA t0 y0 t1 y1 t2 y2 t3 y3] (I0 <| I1 <| I2 <| I2 <| [.c]) = some (.value (wholeA (aS (aS false 0 s2 x2 t2 y2) (aN false 0 s2 x2 t2 y2) s3 x3 t3 y3) (aN (aS false 0 s2 x2 t2 y2) (aN false 0 s2 x2 t2 y2) s3 x3 t3 y3)) (some []),[],O2 s3 x3 t3 y3 (aS false 0 s2 x2 t2 y2) (aN false 0 s2 x2 t2 y2) <| O2 s2 x2 t2 y2 false 0 <| O1 s1 x1 t1 y1 false <| O0 s0 x0 <| []):=by kernel_rfl
theorem p_dot_0200 : symCall cD S1 100 190 [rowA s0 x0 s1 x1 s2 x2 s3 x3,rowA t0 y0 t1 y1 t2 y2 t3 y3] (I0 <| I2 <| I0 <| I0 <| [.c]) = some (.value (wholeA (aS false 0 s1 x1 t1 y1) (aN false 0 s1 x1 t1 y1)) (some []),[],O0 s3 x3 <| O0 s2 x2 <| O2 s1 x1 t1 y1 false 0 <| O0 s0 x0 <| []):=by kernel_rfl
theorem p_dot_0201 : symCall cD S1 100 190 [rowA s0 x0 s1 x1 s2 x2 s3 x3,rowA t0 y0 t1 y1 t2 y2 t3 y3] (I0 <| I2 <| I0 <| I1 <| [.c]) = some (.value (wholeA (aS false 0 s1 x1 t1 y1) (aN false 0 s1 x1 t1 y1)) (some []),[],O1 s3 x3 t3 y3 false <| O0 s2 x2 <| O2 s1 x1 t1 y1 false 0 <| O0 s0 x0 <| []):=by kernel_rfl
theorem p_dot_0202 : symCall cD S1 100 190 [rowA s0 x0 s1 x1 s2 x2 s3 x3,rowA t0 y0 t1 y1 t2 y2 t3 y3] (I0 <| I2 <| I0 <| I2 <| [.c]) = some (.value (wholeA (aS (aS false 0 s1 x1 t1 y1) (aN false 0 s1 x1 t1 y1) s3 x3 t3 y3) (aN (aS false 0 s1 x1 t1 y1) (aN false 0 s1 x1 t1 y1) s3 x3 t3 y3)) (some []),[],O2 s3 x3 t3 y3 (aS false 0 s1 x1 t1 y1) (aN false 0 s1 x1 t1 y1) <| O0 s2 x2 <| O2 s1 x1 t1 y1 false 0 <| O0 s0 x0 <| []):=by kernel_rfl
theorem p_dot_0210 : symCall cD S1 100 190 [rowA s0 x0 s1 x1 s2 x2 s3 x3,rowA t0 y0 t1 y1 t2 y2 t3 y3] (I0 <| I2 <| I1 <| I0 <| [.c]) = some (.value (wholeA (aS false 0 s1 x1 t1 y1) (aN false 0 s1 x1 t1 y1)) (some []),[],O0 s3 x3 <| O1 s2 x2 t2 y2 false <| O2 s1 x1 t1 y1 false 0 <| O0 s0 x0 <| []):=by kernel_rfl
theorem p_dot_0211 : symCall cD S1 100 190 [rowA s0 x0 s1 x1 s2 x2 s3 x3,rowA t0 y0 t1 y1 t2 y2 t3 y3] (I0 <| I2 <| I1 <| I1 <| [.c]) = some (.value (wholeA (aS false 0 s1 x1 t1 y1) (aN false 0 s1 x1 t1 y1)) (some []),[],O1 s3 x3 t3 y3 false <| O1 s2 x2 t2 y2 false <| O2 s1 x1 t1 y1 false 0 <| O0 s0 x0 <| []):=by kernel_rfl
theorem p_dot_0212 : symCall cD S1 100 190 [rowA s0 x0 s1 x1 s2 x2 s3 x3,rowA t0 y0 t1 y1 t2 y2 t3 y3] (I0 <| I2 <| I1 <| I2 <| [.c]) = some (.value (wholeA (aS (aS false 0 s1 x1 t1 y1) (aN false 0 s1 x1 t1 y1) s3 x3 t3 y3) (aN (aS false 0 s1 x1 t1 y1) (aN false 0 s1 x1 t1 y1) s3 x3 t3 y3)) (some []),[],O2 s3 x3 t3 y3 (aS false 0 s1 x1 t1 y1) (aN false 0 s1 x1 t1 y1) <| O1 s2 x2 t2 y2 false <| O2 s1 x1 t1 y1 false 0 <| O0 s0 x0 <| []):=by kernel_rfl
theorem p_dot_0220 : symCall cD S1 100 190 [rowA s0 x0 s1 x1 s2 x2 s3 x3,rowA t0 y0 t1 y1 t2 y2 t3 y3] (I0 <| I2 <| I2 <| I0 <| [.c]) = some (.value (wholeA (aS (aS false 0 s1 x1 t1 y1) (aN false 0 s1 x1 t1 y1) s2 x2 t2 y2) (aN (aS false 0 s1 x1 t1 y1) (aN false 0 s1 x1 t1 y1) s2 x2 t2 y2)) (some []),[],O0 s3 x3 <| O2 s2 x2 t2 y2 (aS false 0 s1 x1 t1 y1) (aN false 0 s1 x1 t1 y1) <| O2 s1 x1 t1 y1 false 0 <| O0 s0 x0 <| []):=by kernel_rfl
theorem p_dot_0221 : symCall cD S1 100 190 [rowA s0 x0 s1 x1 s2 x2 s3 x3,rowA t0 y0 t1 y1 t2 y2 t3 y3] (I0 <| I2 <| I2 <| I1 <| [.c]) = some (.value (wholeA (aS (aS false 0 s1 x1 t1 y1) (aN false 0 s1 x1 t1 y1) s2 x2 t2 y2) (aN (aS false 0 s1 x1 t1 y1) (aN false 0 s1 x1 t1 y1) s2 x2 t2 y2)) (some []),[],O1 s3 x3 t3 y3 false <| O2 s2 x2 t2 y2 (aS false 0 s1 x1 t1 y1) (aN false 0 s1 x1 t1 y1) <| O2 s1 x1 t1 y1 false 0 <| O0 s0 x0 <| []):=by kernel_rfl
theorem p_dot_0222 : symCall cD S1 100 190 [rowA s0 x0 s1 x1 s2 x2 s3 x3,rowA t0 y0 t1 y1 t2 y2 t3 y3] (I0 <| I2 <| I2 <| I2 <| [.c]) = some (.value (wholeA (aS (aS (aS false 0 s1 x1 t1 y1) (aN false 0 s1 x1 t1 y1) s2 x2 t2 y2) (aN (aS false 0 s1 x1 t1 y1) (aN false 0 s1 x1 t1 y1) s2 x2 t2 y2) s3 x3 t3 y3) (aN (aS (aS false 0 s1 x1 t1 y1) (aN false 0 s1 x1 t1 y1) s2 x2 t2 y2) (aN (aS false 0 s1 x1 t1 y1) (aN false 0 s1 x1 t1 y1) s2 x2 t2 y2) s3 x3 t3 y3)) (some []),[],O2 s3 x3 t3 y3 (aS (aS false 0 s1 x1 t1 y1) (aN false 0 s1 x1 t1 y1) s2 x2 t2 y2) (aN (aS false 0 s1 x1 t1 y1) (aN false 0 s1 x1 t1 y1) s2 x2 t2 y2) <| O2 s2 x2 t2 y2 (aS false 0 s1 x1 t1 y1) (aN false 0 s1 x1 t1 y1) <| O2 s1 x1 t1 y1 false 0 <| O0 s0 x0 <| []):=by kernel_rfl
theorem p_dot_1000 : symCall cD S1 100 190 [rowA s0 x0 s1 x1 s2 x2 s3 x3,rowA t0 y0 t1 y1 t2 y2 t3 y3] (I1 <| I0 <| I0 <| I0 <| [.c]) = some (.value (wholeA false 0) (some []),[],O0 s3 x3 <| O0 s2 x2 <| O0 s1 x1 <| O1 s0 x0 t0 y0 false <| []):=by kernel_rfl
theorem p_dot_1001 : symCall cD S1 100 190 [rowA s0 x0 s1 x1 s2 x2 s3 x3,rowA t0 y0 t1 y1 t2 y2 t3 y3] (I1 <| I0 <| I0 <| I1 <| [.c]) = some (.value (wholeA false 0) (some []),[],O1 s3 x3 t3 y3 false <| O0 s2 x2 <| O0 s1 x1 <| O1 s0 x0 t0 y0 false <| []):=by kernel_rfl
theorem p_dot_1002 : symCall cD S1 100 190 [rowA s0 x0 s1 x1 s2 x2 s3 x3,rowA t0 y0 t1 y1 t2 y2 t3 y3] (I1 <| I0 <| I0 <| I2 <| [.c]) = some (.value (wholeA (aS false 0 s3 x3 t3 y3) (aN false 0 s3 x3 t3 y3)) (some []),[],O2 s3 x3 t3 y3 false 0 <| O0 s2 x2 <| O0 s1 x1 <| O1 s0 x0 t0 y0 false <| []):=by kernel_rfl
theorem p_dot_1010 : symCall cD S1 100 190 [rowA s0 x0 s1 x1 s2 x2 s3 x3,rowA t0 y0 t1 y1 t2 y2 t3 y3] (I1 <| I0 <| I1 <| I0 <| [.c]) = some (.value (wholeA false 0) (some []),[],O0 s3 x3 <| O1 s2 x2 t2 y2 false <| O0 s1 x1 <| O1 s0 x0 t0 y0 false <| []):=by kernel_rfl
theorem p_dot_1011 : symCall cD S1 100 190 [rowA s0 x0 s1 x1 s2 x2 s3 x3,rowA t0 y0 t1 y1 t2 y2 t3 y3] (I1 <| I0 <| I1 <| I1 <| [.c]) = some (.value (wholeA false 0) (some []),[],O1 s3 x3 t3 y3 false <| O1 s2 x2 t2 y2 false <| O0 s1 x1 <| O1 s0 x0 t0 y0 false <| []):=by kernel_rfl
theorem p_dot_1012 : symCall cD S1 100 190 [rowA s0 x0 s1 x1 s2 x2 s3 x3,rowA t0 y0 t1 y1 t2 y2 t3 y3] (I1 <| I0 <| I1 <| I2 <| [.c]) = some (.value (wholeA (aS false 0 s3 x3 t3 y3) (aN false 0 s3 x3 t3 y3)) (some []),[],O2 s3 x3 t3 y3 false 0 <| O1 s2 x2 t2 y2 false <| O0 s1 x1 <| O1 s0 x0 t0 y0 false <| []):=by kernel_rfl
theorem p_dot_1020 : symCall cD S1 100 190 [rowA s0 x0 s1 x1 s2 x2 s3 x3,rowA t0 y0 t1 y1 t2 y2 t3 y3] (I1 <| I0 <| I2 <| I0 <| [.c]) = some (.value (wholeA (aS false 0 s2 x2 t2 y2) (aN false 0 s2 x2 t2 y2)) (some []),[],O0 s3 x3 <| O2 s2 x2 t2 y2 false 0 <| O0 s1 x1 <| O1 s0 x0 t0 y0 false <| []):=by kernel_rfl
theorem p_dot_1021 : symCall cD S1 100 190 [rowA s0 x0 s1 x1 s2 x2 s3 x3,rowA t0 y0 t1 y1 t2 y2 t3 y3] (I1 <| I0 <| I2 <| I1 <| [.c]) = some (.value (wholeA (aS false 0 s2 x2 t2 y2) (aN false 0 s2 x2 t2 y2)) (some []),[],O1 s3 x3 t3 y3 false <| O2 s2 x2 t2 y2 false 0 <| O0 s1 x1 <| O1 s0 x0 t0 y0 false <| []):=by kernel_rfl
theorem p_dot_1022 : symCall cD S1 100 190 [rowA s0 x0 s1 x1 s2 x2 s3 x3,rowA t0 y0 t1 y1 t2 y2 t3 y3] (I1 <| I0 <| I2 <| I2 <| [.c]) = some (.value (wholeA (aS (aS false 0 s2 x2 t2 y2) (aN false 0 s2 x2 t2 y2) s3 x3 t3 y3) (aN (aS false 0 s2 x2 t2 y2) (aN false 0 s2 x2 t2 y2) s3 x3 t3 y3)) (some []),[],O2 s3 x3 t3 y3 (aS false 0 s2 x2 t2 y2) (aN false 0 s2 x2 t2 y2) <| O2 s2 x2 t2 y2 false 0 <| O0 s1 x1 <| O1 s0 x0 t0 y0 false <| []):=by kernel_rfl
theorem p_dot_1100 : symCall cD S1 100 190 [rowA s0 x0 s1 x1 s2 x2 s3 x3,rowA t0 y0 t1 y1 t2 y2 t3 y3] (I1 <| I1 <| I0 <| I0 <| [.c]) = some (.value (wholeA false 0) (some []),[],O0 s3 x3 <| O0 s2 x2 <| O1 s1 x1 t1 y1 false <| O1 s0 x0 t0 y0 false <| []):=by kernel_rfl
theorem p_dot_1101 : symCall cD S1 100 190 [rowA s0 x0 s1 x1 s2 x2 s3 x3,rowA t0 y0 t1 y1 t2 y2 t3 y3] (I1 <| I1 <| I0 <| I1 <| [.c]) = some (.value (wholeA false 0) (some []),[],O1 s3 x3 t3 y3 false <| O0 s2 x2 <| O1 s1 x1 t1 y1 false <| O1 s0 x0 t0 y0 false <| []):=by kernel_rfl
theorem p_dot_1102 : symCall cD S1 100 190 [rowA s0 x0 s1 x1 s2 x2 s3 x3,rowA t0 y0 t1 y1 t2 y2 t3 y3] (I1 <| I1 <| I0 <| I2 <| [.c]) = some (.value (wholeA (aS false 0 s3 x3 t3 y3) (aN false 0 s3 x3 t3 y3)) (some []),[],O2 s3 x3 t3 y3 false 0 <| O0 s2 x2 <| O1 s1 x1 t1 y1 false <| O1 s0 x0 t0 y0 false <| []):=by kernel_rfl
theorem p_dot_1110 : symCall cD S1 100 190 [rowA s0 x0 s1 x1 s2 x2 s3 x3,rowA t0 y0 t1 y1 t2 y2 t3 y3] (I1 <| I1 <| I1 <| I0 <| [.c]) = some (.value (wholeA false 0) (some []),[],O0 s3 x3 <| O1 s2 x2 t2 y2 false <| O1 s1 x1 t1 y1 false <| O1 s0 x0 t0 y0 false <| []):=by kernel_rfl
theorem p_dot_1111 : symCall cD S1 100 190 [rowA s0 x0 s1 x1 s2 x2 s3 x3,rowA t0 y0 t1 y1 t2 y2 t3 y3] (I1 <| I1 <| I1 <| I1 <| [.c]) = some (.value (wholeA false 0) (some []),[],O1 s3 x3 t3 y3 false <| O1 s2 x2 t2 y2 false <| O1 s1 x1 t1 y1 false <| O1 s0 x0 t0 y0 false <| []):=by kernel_rfl
theorem p_dot_1112 : symCall cD S1 100 190 [rowA s0 x0 s1 x1 s2 x2 s3 x3,rowA t0 y0 t1 y1 t2 y2 t3 y3] (I1 <| I1 <| I1 <| I2 <| [.c]) = some (.value (wholeA (aS false 0 s3 x3 t3 y3) (aN false 0 s3 x3 t3 y3)) (some []),[],O2 s3 x3 t3 y3 false 0 <| O1 s2 x2 t2 y2 false <| O1 s1 x1 t1 y1 false <| O1 s0 x0 t0 y0 false <| []):=by kernel_rfl
theorem p_dot_1120 : symCall cD S1 100 190 [rowA s0 x0 s1 x1 s2 x2 s3 x3,rowA t0 y0 t1 y1 t2 y2 t3 y3] (I1 <| I1 <| I2 <| I0 <| [.c]) = some (.value (wholeA (aS false 0 s2 x2 t2 y2) (aN false 0 s2 x2 t2 y2)) (some []),[],O0 s3 x3 <| O2 s2 x2 t2 y2 false 0 <| O1 s1 x1 t1 y1 false <| O1 s0 x0 t0 y0 false <| []):=by kernel_rfl
theorem p_dot_1121 : symCall cD S1 100 190 [rowA s0 x0 s1 x1 s2 x2 s3 x3,rowA t0 y0 t1 y1 t2 y2 t3 y3] (I1 <| I1 <| I2 <| I1 <| [.c]) = some (.value (wholeA (aS false 0 s2 x2 t2 y2) (aN false 0 s2 x2 t2 y2)) (some []),[],O1 s3 x3 t3 y3 false <| O2 s2 x2 t2 y2 false 0 <| O1 s1 x1 t1 y1 false <| O1 s0 x0 t0 y0 false <| []):=by kernel_rfl
theorem p_dot_1122 : symCall cD S1 100 190 [rowA s0 x0 s1 x1 s2 x2 s3 x3,rowA t0 y0 t1 y1 t2 y2 t3 y3] (I1 <| I1 <| I2 <| I2 <| [.c]) = some (.value (wholeA (aS (aS false 0 s2 x2 t2 y2) (aN false 0 s2 x2 t2 y2) s3 x3 t3 y3) (aN (aS false 0 s2 x2 t2 y2) (aN false 0 s2 x2 t2 y2) s3 x3 t3 y3)) (some []),[],O2 s3 x3 t3 y3 (aS false 0 s2 x2 t2 y2) (aN false 0 s2 x2 t2 y2) <| O2 s2 x2 t2 y2 false 0 <| O1 s1 x1 t1 y1 false <| O1 s0 x0 t0 y0 false <| []):=by kernel_rfl
theorem p_dot_1200 : symCall cD S1 100 190 [rowA s0 x0 s1 x1 s2 x2 s3 x3,rowA t0 y0 t1 y1 t2 y2 t3 y3] (I1 <| I2 <| I0 <| I0 <| [.c]) = some (.value (wholeA (aS false 0 s1 x1 t1 y1) (aN false 0 s1 x1 t1 y1)) (some []),[],O0 s3 x3 <| O0 s2 x2 <| O2 s1 x1 t1 y1 false 0 <| O1 s0 x0 t0 y0 false <| []):=by kernel_rfl
theorem p_dot_1201 : symCall cD S1 100 190 [rowA s0 x0 s1 x1 s2 x2 s3 x3,rowA t0 y0 t1 y1 t2 y2 t3 y3] (I1 <| I2 <| I0 <| I1 <| [.c]) = some (.value (wholeA (aS false 0 s1 x1 t1 y1) (aN false 0 s1 x1 t1 y1)) (some []),[],O1 s3 x3 t3 y3 false <| O0 s2 x2 <| O2 s1 x1 t1 y1 false 0 <| O1 s0 x0 t0 y0 false <| []):=by kernel_rfl
theorem p_dot_1202 : symCall cD S1 100 190 [rowA s0 x0 s1 x1 s2 x2 s3 x3,rowA t0 y0 t1 y1 t2 y2 t3 y3] (I1 <| I2 <| I0 <| I2 <| [.c]) = some (.value (wholeA (aS (aS false 0 s1 x1 t1 y1) (aN false 0 s1 x1 t1 y1) s3 x3 t3 y3) (aN (aS false 0 s1 x1 t1 y1) (aN false 0 s1 x1 t1 y1) s3 x3 t3 y3)) (some []),[],O2 s3 x3 t3 y3 (aS false 0 s1 x1 t1 y1) (aN false 0 s1 x1 t1 y1) <| O0 s2 x2 <| O2 s1 x1 t1 y1 false 0 <| O1 s0 x0 t0 y0 false <| []):=by kernel_rfl
theorem p_dot_1210 : symCall cD S1 100 190 [rowA s0 x0 s1 x1 s2 x2 s3 x3,rowA t0 y0 t1 y1 t2 y2 t3 y3] (I1 <| I2 <| I1 <| I0 <| [.c]) = some (.value (wholeA (aS false 0 s1 x1 t1 y1) (aN false 0 s1 x1 t1 y1)) (some []),[],O0 s3 x3 <| O1 s2 x2 t2 y2 false <| O2 s1 x1 t1 y1 false 0 <| O1 s0 x0 t0 y0 false <| []):=by kernel_rfl
theorem p_dot_1211 : symCall cD S1 100 190 [rowA s0 x0 s1 x1 s2 x2 s3 x3,rowA t0 y0 t1 y1 t2 y2 t3 y3] (I1 <| I2 <| I1 <| I1 <| [.c]) = some (.value (wholeA (aS false 0 s1 x1 t1 y1) (aN false 0 s1 x1 t1 y1)) (some []),[],O1 s3 x3 t3 y3 false <| O1 s2 x2 t2 y2 false <| O2 s1 x1 t1 y1 false 0 <| O1 s0 x0 t0 y0 false <| []):=by kernel_rfl
theorem p_dot_1212 : symCall cD S1 100 190 [rowA s0 x0 s1 x1 s2 x2 s3 x3,rowA t0 y0 t1 y1 t2 y2 t3 y3] (I1 <| I2 <| I1 <| I2 <| [.c]) = some (.value (wholeA (aS (aS false 0 s1 x1 t1 y1) (aN false 0 s1 x1 t1 y1) s3 x3 t3 y3) (aN (aS false 0 s1 x1 t1 y1) (aN false 0 s1 x1 t1 y1) s3 x3 t3 y3)) (some []),[],O2 s3 x3 t3 y3 (aS false 0 s1 x1 t1 y1) (aN false 0 s1 x1 t1 y1) <| O1 s2 x2 t2 y2 false <| O2 s1 x1 t1 y1 false 0 <| O1 s0 x0 t0 y0 false <| []):=by kernel_rfl
theorem p_dot_1220 : symCall cD S1 100 190 [rowA s0 x0 s1 x1 s2 x2 s3 x3,rowA t0 y0 t1 y1 t2 y2 t3 y3] (I1 <| I2 <| I2 <| I0 <| [.c]) = some (.value (wholeA (aS (aS false 0 s1 x1 t1 y1) (aN false 0 s1 x1 t1 y1) s2 x2 t2 y2) (aN (aS false 0 s1 x1 t1 y1) (aN false 0 s1 x1 t1 y1) s2 x2 t2 y2)) (some []),[],O0 s3 x3 <| O2 s2 x2 t2 y2 (aS false 0 s1 x1 t1 y1) (aN false 0 s1 x1 t1 y1) <| O2 s1 x1 t1 y1 false 0 <| O1 s0 x0 t0 y0 false <| []):=by kernel_rfl
theorem p_dot_1221 : symCall cD S1 100 190 [rowA s0 x0 s1 x1 s2 x2 s3 x3,rowA t0 y0 t1 y1 t2 y2 t3 y3] (I1 <| I2 <| I2 <| I1 <| [.c]) = some (.value (wholeA (aS (aS false 0 s1 x1 t1 y1) (aN false 0 s1 x1 t1 y1) s2 x2 t2 y2) (aN (aS false 0 s1 x1 t1 y1) (aN false 0 s1 x1 t1 y1) s2 x2 t2 y2)) (some []),[],O1 s3 x3 t3 y3 false <| O2 s2 x2 t2 y2 (aS false 0 s1 x1 t1 y1) (aN false 0 s1 x1 t1 y1) <| O2 s1 x1 t1 y1 false 0 <| O1 s0 x0 t0 y0 false <| []):=by kernel_rfl
theorem p_dot_1222 : symCall cD S1 100 190 [rowA s0 x0 s1 x1 s2 x2 s3 x3,rowA t0 y0 t1 y1 t2 y2 t3 y3] (I1 <| I2 <| I2 <| I2 <| [.c]) = some (.value (wholeA (aS (aS (aS false 0 s1 x1 t1 y1) (aN false 0 s1 x1 t1 y1) s2 x2 t2 y2) (aN (aS false 0 s1 x1 t1 y1) (aN false 0 s1 x1 t1 y1) s2 x2 t2 y2) s3 x3 t3 y3) (aN (aS (aS false 0 s1 x1 t1 y1) (aN false 0 s1 x1 t1 y1) s2 x2 t2 y2) (aN (aS false 0 s1 x1 t1 y1) (aN false 0 s1 x1 t1 y1) s2 x2 t2 y2) s3 x3 t3 y3)) (some []),[],O2 s3 x3 t3 y3 (aS (aS false 0 s1 x1 t1 y1) (aN false 0 s1 x1 t1 y1) s2 x2 t2 y2) (aN (aS false 0 s1 x1 t1 y1) (aN false 0 s1 x1 t1 y1) s2 x2 t2 y2) <| O2 s2 x2 t2 y2 (aS false 0 s1 x1 t1 y1) (aN false 0 s1 x1 t1 y1) <| O2 s1 x1 t1 y1 false 0 <| O1 s0 x0 t0 y0 false <| []):=by kernel_rfl
theorem p_dot_2000 : symCall cD S1 100 190 [rowA s0 x0 s1 x1 s2 x2 s3 x3,rowA t0 y0 t1 y1 t2 y2 t3 y3] (I2 <| I0 <| I0 <| I0 <| [.c]) = some (.value (wholeA (aS false 0 s0 x0 t0 y0) (aN false 0 s0 x0 t0 y0)) (some []),[],O0 s3 x3 <| O0 s2 x2 <| O0 s1 x1 <| O2 s0 x0 t0 y0 false 0 <| []):=by kernel_rfl
theorem p_dot_2001 : symCall cD S1 100 190 [rowA s0 x0 s1 x1 s2 x2 s3 x3,rowA t0 y0 t1 y1 t2 y2 t3 y3] (I2 <| I0 <| I0 <| I1 <| [.c]) = some (.value (wholeA (aS false 0 s0 x0 t0 y0) (aN false 0 s0 x0 t0 y0)) (some []),[],O1 s3 x3 t3 y3 false <| O0 s2 x2 <| O0 s1 x1 <| O2 s0 x0 t0 y0 false 0 <| []):=by kernel_rfl
theorem p_dot_2002 : symCall cD S1 100 190 [rowA s0 x0 s1 x1 s2 x2 s3 x3,rowA t0 y0 t1 y1 t2 y2 t3 y3] (I2 <| I0 <| I0 <| I2 <| [.c]) = some (.value (wholeA (aS (aS false 0 s0 x0 t0 y0) (aN false 0 s0 x0 t0 y0) s3 x3 t3 y3) (aN (aS false 0 s0 x0 t0 y0) (aN false 0 s0 x0 t0 y0) s3 x3 t3 y3)) (some []),[],O2 s3 x3 t3 y3 (aS false 0 s0 x0 t0 y0) (aN false 0 s0 x0 t0 y0) <| O0 s2 x2 <| O0 s1 x1 <| O2 s0 x0 t0 y0 false 0 <| []):=by kernel_rfl
theorem p_dot_2010 : symCall cD S1 100 190 [rowA s0 x0 s1 x1 s2 x2 s3 x3,rowA t0 y0 t1 y1 t2 y2 t3 y3] (I2 <| I0 <| I1 <| I0 <| [.c]) = some (.value (wholeA (aS false 0 s0 x0 t0 y0) (aN false 0 s0 x0 t0 y0)) (some []),[],O0 s3 x3 <| O1 s2 x2 t2 y2 false <| O0 s1 x1 <| O2 s0 x0 t0 y0 false 0 <| []):=by kernel_rfl
theorem p_dot_2011 : symCall cD S1 100 190 [rowA s0 x0 s1 x1 s2 x2 s3 x3,rowA t0 y0 t1 y1 t2 y2 t3 y3] (I2 <| I0 <| I1 <| I1 <| [.c]) = some (.value (wholeA (aS false 0 s0 x0 t0 y0) (aN false 0 s0 x0 t0 y0)) (some []),[],O1 s3 x3 t3 y3 false <| O1 s2 x2 t2 y2 false <| O0 s1 x1 <| O2 s0 x0 t0 y0 false 0 <| []):=by kernel_rfl
theorem p_dot_2012 : symCall cD S1 100 190 [rowA s0 x0 s1 x1 s2 x2 s3 x3,rowA t0 y0 t1 y1 t2 y2 t3 y3] (I2 <| I0 <| I1 <| I2 <| [.c]) = some (.value (wholeA (aS (aS false 0 s0 x0 t0 y0) (aN false 0 s0 x0 t0 y0) s3 x3 t3 y3) (aN (aS false 0 s0 x0 t0 y0) (aN false 0 s0 x0 t0 y0) s3 x3 t3 y3)) (some []),[],O2 s3 x3 t3 y3 (aS false 0 s0 x0 t0 y0) (aN false 0 s0 x0 t0 y0) <| O1 s2 x2 t2 y2 false <| O0 s1 x1 <| O2 s0 x0 t0 y0 false 0 <| []):=by kernel_rfl
theorem p_dot_2020 : symCall cD S1 100 190 [rowA s0 x0 s1 x1 s2 x2 s3 x3,rowA t0 y0 t1 y1 t2 y2 t3 y3] (I2 <| I0 <| I2 <| I0 <| [.c]) = some (.value (wholeA (aS (aS false 0 s0 x0 t0 y0) (aN false 0 s0 x0 t0 y0) s2 x2 t2 y2) (aN (aS false 0 s0 x0 t0 y0) (aN false 0 s0 x0 t0 y0) s2 x2 t2 y2)) (some []),[],O0 s3 x3 <| O2 s2 x2 t2 y2 (aS false 0 s0 x0 t0 y0) (aN false 0 s0 x0 t0 y0) <| O0 s1 x1 <| O2 s0 x0 t0 y0 false 0 <| []):=by kernel_rfl
theorem p_dot_2021 : symCall cD S1 100 190 [rowA s0 x0 s1 x1 s2 x2 s3 x3,rowA t0 y0 t1 y1 t2 y2 t3 y3] (I2 <| I0 <| I2 <| I1 <| [.c]) = some (.value (wholeA (aS (aS false 0 s0 x0 t0 y0) (aN false 0 s0 x0 t0 y0) s2 x2 t2 y2) (aN (aS false 0 s0 x0 t0 y0) (aN false 0 s0 x0 t0 y0) s2 x2 t2 y2)) (some []),[],O1 s3 x3 t3 y3 false <| O2 s2 x2 t2 y2 (aS false 0 s0 x0 t0 y0) (aN false 0 s0 x0 t0 y0) <| O0 s1 x1 <| O2 s0 x0 t0 y0 false 0 <| []):=by kernel_rfl
theorem p_dot_2022 : symCall cD S1 100 190 [rowA s0 x0 s1 x1 s2 x2 s3 x3,rowA t0 y0 t1 y1 t2 y2 t3 y3] (I2 <| I0 <| I2 <| I2 <| [.c]) = some (.value (wholeA (aS (aS (aS false 0 s0 x0 t0 y0) (aN false 0 s0 x0 t0 y0) s2 x2 t2 y2) (aN (aS false 0 s0 x0 t0 y0) (aN false 0 s0 x0 t0 y0) s2 x2 t2 y2) s3 x3 t3 y3) (aN (aS (aS false 0 s0 x0 t0 y0) (aN false 0 s0 x0 t0 y0) s2 x2 t2 y2) (aN (aS false 0 s0 x0 t0 y0) (aN false 0 s0 x0 t0 y0) s2 x2 t2 y2) s3 x3 t3 y3)) (some []),[],O2 s3 x3 t3 y3 (aS (aS false 0 s0 x0 t0 y0) (aN false 0 s0 x0 t0 y0) s2 x2 t2 y2) (aN (aS false 0 s0 x0 t0 y0) (aN false 0 s0 x0 t0 y0) s2 x2 t2 y2) <| O2 s2 x2 t2 y2 (aS false 0 s0 x0 t0 y0) (aN false 0 s0 x0 t0 y0) <| O0 s1 x1 <| O2 s0 x0 t0 y0 false 0 <| []):=by kernel_rfl
theorem p_dot_2100 : symCall cD S1 100 190 [rowA s0 x0 s1 x1 s2 x2 s3 x3,rowA t0 y0 t1 y1 t2 y2 t3 y3] (I2 <| I1 <| I0 <| I0 <| [.c]) = some (.value (wholeA (aS false 0 s0 x0 t0 y0) (aN false 0 s0 x0 t0 y0)) (some []),[],O0 s3 x3 <| O0 s2 x2 <| O1 s1 x1 t1 y1 false <| O2 s0 x0 t0 y0 false 0 <| []):=by kernel_rfl
theorem p_dot_2101 : symCall cD S1 100 190 [rowA s0 x0 s1 x1 s2 x2 s3 x3,rowA t0 y0 t1 y1 t2 y2 t3 y3] (I2 <| I1 <| I0 <| I1 <| [.c]) = some (.value (wholeA (aS false 0 s0 x0 t0 y0) (aN false 0 s0 x0 t0 y0)) (some []),[],O1 s3 x3 t3 y3 false <| O0 s2 x2 <| O1 s1 x1 t1 y1 false <| O2 s0 x0 t0 y0 false 0 <| []):=by kernel_rfl
theorem p_dot_2102 : symCall cD S1 100 190 [rowA s0 x0 s1 x1 s2 x2 s3 x3,rowA t0 y0 t1 y1 t2 y2 t3 y3] (I2 <| I1 <| I0 <| I2 <| [.c]) = some (.value (wholeA (aS (aS false 0 s0 x0 t0 y0) (aN false 0 s0 x0 t0 y0) s3 x3 t3 y3) (aN (aS false 0 s0 x0 t0 y0) (aN false 0 s0 x0 t0 y0) s3 x3 t3 y3)) (some []),[],O2 s3 x3 t3 y3 (aS false 0 s0 x0 t0 y0) (aN false 0 s0 x0 t0 y0) <| O0 s2 x2 <| O1 s1 x1 t1 y1 false <| O2 s0 x0 t0 y0 false 0 <| []):=by kernel_rfl
theorem p_dot_2110 : symCall cD S1 100 190 [rowA s0 x0 s1 x1 s2 x2 s3 x3,rowA t0 y0 t1 y1 t2 y2 t3 y3] (I2 <| I1 <| I1 <| I0 <| [.c]) = some (.value (wholeA (aS false 0 s0 x0 t0 y0) (aN false 0 s0 x0 t0 y0)) (some []),[],O0 s3 x3 <| O1 s2 x2 t2 y2 false <| O1 s1 x1 t1 y1 false <| O2 s0 x0 t0 y0 false 0 <| []):=by kernel_rfl
theorem p_dot_2111 : symCall cD S1 100 190 [rowA s0 x0 s1 x1 s2 x2 s3 x3,rowA t0 y0 t1 y1 t2 y2 t3 y3] (I2 <| I1 <| I1 <| I1 <| [.c]) = some (.value (wholeA (aS false 0 s0 x0 t0 y0) (aN false 0 s0 x0 t0 y0)) (some []),[],O1 s3 x3 t3 y3 false <| O1 s2 x2 t2 y2 false <| O1 s1 x1 t1 y1 false <| O2 s0 x0 t0 y0 false 0 <| []):=by kernel_rfl
theorem p_dot_2112 : symCall cD S1 100 190 [rowA s0 x0 s1 x1 s2 x2 s3 x3,rowA t0 y0 t1 y1 t2 y2 t3 y3] (I2 <| I1 <| I1 <| I2 <| [.c]) = some (.value (wholeA (aS (aS false 0 s0 x0 t0 y0) (aN false 0 s0 x0 t0 y0) s3 x3 t3 y3) (aN (aS false 0 s0 x0 t0 y0) (aN false 0 s0 x0 t0 y0) s3 x3 t3 y3)) (some []),[],O2 s3 x3 t3 y3 (aS false 0 s0 x0 t0 y0) (aN false 0 s0 x0 t0 y0) <| O1 s2 x2 t2 y2 false <| O1 s1 x1 t1 y1 false <| O2 s0 x0 t0 y0 false 0 <| []):=by kernel_rfl
theorem p_dot_2120 : symCall cD S1 100 190 [rowA s0 x0 s1 x1 s2 x2 s3 x3,rowA t0 y0 t1 y1 t2 y2 t3 y3] (I2 <| I1 <| I2 <| I0 <| [.c]) = some (.value (wholeA (aS (aS false 0 s0 x0 t0 y0) (aN false 0 s0 x0 t0 y0) s2 x2 t2 y2) (aN (aS false 0 s0 x0 t0 y0) (aN false 0 s0 x0 t0 y0) s2 x2 t2 y2)) (some []),[],O0 s3 x3 <| O2 s2 x2 t2 y2 (aS false 0 s0 x0 t0 y0) (aN false 0 s0 x0 t0 y0) <| O1 s1 x1 t1 y1 false <| O2 s0 x0 t0 y0 false 0 <| []):=by kernel_rfl
theorem p_dot_2121 : symCall cD S1 100 190 [rowA s0 x0 s1 x1 s2 x2 s3 x3,rowA t0 y0 t1 y1 t2 y2 t3 y3] (I2 <| I1 <| I2 <| I1 <| [.c]) = some (.value (wholeA (aS (aS false 0 s0 x0 t0 y0) (aN false 0 s0 x0 t0 y0) s2 x2 t2 y2) (aN (aS false 0 s0 x0 t0 y0) (aN false 0 s0 x0 t0 y0) s2 x2 t2 y2)) (some []),[],O1 s3 x3 t3 y3 false <| O2 s2 x2 t2 y2 (aS false 0 s0 x0 t0 y0) (aN false 0 s0 x0 t0 y0) <| O1 s1 x1 t1 y1 false <| O2 s0 x0 t0 y0 false 0 <| []):=by kernel_rfl
theorem p_dot_2122 : symCall cD S1 100 190 [rowA s0 x0 s1 x1 s2 x2 s3 x3,rowA t0 y0 t1 y1 t2 y2 t3 y3] (I2 <| I1 <| I2 <| I2 <| [.c]) = some (.value (wholeA (aS (aS (aS false 0 s0 x0 t0 y0) (aN false 0 s0 x0 t0 y0) s2 x2 t2 y2) (aN (aS false 0 s0 x0 t0 y0) (aN false 0 s0 x0 t0 y0) s2 x2 t2 y2) s3 x3 t3 y3) (aN (aS (aS false 0 s0 x0 t0 y0) (aN false 0 s0 x0 t0 y0) s2 x2 t2 y2) (aN (aS false 0 s0 x0 t0 y0) (aN false 0 s0 x0 t0 y0) s2 x2 t2 y2) s3 x3 t3 y3)) (some []),[],O2 s3 x3 t3 y3 (aS (aS false 0 s0 x0 t0 y0) (aN false 0 s0 x0 t0 y0) s2 x2 t2 y2) (aN (aS false 0 s0 x0 t0 y0) (aN false 0 s0 x0 t0 y0) s2 x2 t2 y2) <| O2 s2 x2 t2 y2 (aS false 0 s0 x0 t0 y0) (aN false 0 s0 x0 t0 y0) <| O1 s1 x1 t1 y1 false <| O2 s0 x0 t0 y0 false 0 <| []):=by kernel_rfl
theorem p_dot_2200 : symCall cD S1 100 190 [rowA s0 x0 s1 x1 s2 x2 s3 x3,rowA t0 y0 t1 y1 t2 y2 t3 y3] (I2 <| I2 <| I0 <| I0 <| [.c]) = some (.value (wholeA (aS (aS false 0 s0 x0 t0 y0) (aN false 0 s0 x0 t0 y0) s1 x1 t1 y1) (aN (aS false 0 s0 x0 t0 y0) (aN false 0 s0 x0 t0 y0) s1 x1 t1 y1)) (some []),[],O0 s3 x3 <| O0 s2 x2 <| O2 s1 x1 t1 y1 (aS false 0 s0 x0 t0 y0) (aN false 0 s0 x0 t0 y0) <| O2 s0 x0 t0 y0 false 0 <| []):=by kernel_rfl
theorem p_dot_2201 : symCall cD S1 100 190 [rowA s0 x0 s1 x1 s2 x2 s3 x3,rowA t0 y0 t1 y1 t2 y2 t3 y3] (I2 <| I2 <| I0 <| I1 <| [.c]) = some (.value (wholeA (aS (aS false 0 s0 x0 t0 y0) (aN false 0 s0 x0 t0 y0) s1 x1 t1 y1) (aN (aS false 0 s0 x0 t0 y0) (aN false 0 s0 x0 t0 y0) s1 x1 t1 y1)) (some []),[],O1 s3 x3 t3 y3 false <| O0 s2 x2 <| O2 s1 x1 t1 y1 (aS false 0 s0 x0 t0 y0) (aN false 0 s0 x0 t0 y0) <| O2 s0 x0 t0 y0 false 0 <| []):=by kernel_rfl
theorem p_dot_2202 : symCall cD S1 100 190 [rowA s0 x0 s1 x1 s2 x2 s3 x3,rowA t0 y0 t1 y1 t2 y2 t3 y3] (I2 <| I2 <| I0 <| I2 <| [.c]) = some (.value (wholeA (aS (aS (aS false 0 s0 x0 t0 y0) (aN false 0 s0 x0 t0 y0) s1 x1 t1 y1) (aN (aS false 0 s0 x0 t0 y0) (aN false 0 s0 x0 t0 y0) s1 x1 t1 y1) s3 x3 t3 y3) (aN (aS (aS false 0 s0 x0 t0 y0) (aN false 0 s0 x0 t0 y0) s1 x1 t1 y1) (aN (aS false 0 s0 x0 t0 y0) (aN false 0 s0 x0 t0 y0) s1 x1 t1 y1) s3 x3 t3 y3)) (some []),[],O2 s3 x3 t3 y3 (aS (aS false 0 s0 x0 t0 y0) (aN false 0 s0 x0 t0 y0) s1 x1 t1 y1) (aN (aS false 0 s0 x0 t0 y0) (aN false 0 s0 x0 t0 y0) s1 x1 t1 y1) <| O0 s2 x2 <| O2 s1 x1 t1 y1 (aS false 0 s0 x0 t0 y0) (aN false 0 s0 x0 t0 y0) <| O2 s0 x0 t0 y0 false 0 <| []):=by kernel_rfl
theorem p_dot_2210 : symCall cD S1 100 190 [rowA s0 x0 s1 x1 s2 x2 s3 x3,rowA t0 y0 t1 y1 t2 y2 t3 y3] (I2 <| I2 <| I1 <| I0 <| [.c]) = some (.value (wholeA (aS (aS false 0 s0 x0 t0 y0) (aN false 0 s0 x0 t0 y0) s1 x1 t1 y1) (aN (aS false 0 s0 x0 t0 y0) (aN false 0 s0 x0 t0 y0) s1 x1 t1 y1)) (some []),[],O0 s3 x3 <| O1 s2 x2 t2 y2 false <| O2 s1 x1 t1 y1 (aS false 0 s0 x0 t0 y0) (aN false 0 s0 x0 t0 y0) <| O2 s0 x0 t0 y0 false 0 <| []):=by kernel_rfl
theorem p_dot_2211 : symCall cD S1 100 190 [rowA s0 x0 s1 x1 s2 x2 s3 x3,rowA t0 y0 t1 y1 t2 y2 t3 y3] (I2 <| I2 <| I1 <| I1 <| [.c]) = some (.value (wholeA (aS (aS false 0 s0 x0 t0 y0) (aN false 0 s0 x0 t0 y0) s1 x1 t1 y1) (aN (aS false 0 s0 x0 t0 y0) (aN false 0 s0 x0 t0 y0) s1 x1 t1 y1)) (some []),[],O1 s3 x3 t3 y3 false <| O1 s2 x2 t2 y2 false <| O2 s1 x1 t1 y1 (aS false 0 s0 x0 t0 y0) (aN false 0 s0 x0 t0 y0) <| O2 s0 x0 t0 y0 false 0 <| []):=by kernel_rfl
theorem p_dot_2212 : symCall cD S1 100 190 [rowA s0 x0 s1 x1 s2 x2 s3 x3,rowA t0 y0 t1 y1 t2 y2 t3 y3] (I2 <| I2 <| I1 <| I2 <| [.c]) = some (.value (wholeA (aS (aS (aS false 0 s0 x0 t0 y0) (aN false 0 s0 x0 t0 y0) s1 x1 t1 y1) (aN (aS false 0 s0 x0 t0 y0) (aN false 0 s0 x0 t0 y0) s1 x1 t1 y1) s3 x3 t3 y3) (aN (aS (aS false 0 s0 x0 t0 y0) (aN false 0 s0 x0 t0 y0) s1 x1 t1 y1) (aN (aS false 0 s0 x0 t0 y0) (aN false 0 s0 x0 t0 y0) s1 x1 t1 y1) s3 x3 t3 y3)) (some []),[],O2 s3 x3 t3 y3 (aS (aS false 0 s0 x0 t0 y0) (aN false 0 s0 x0 t0 y0) s1 x1 t1 y1) (aN (aS false 0 s0 x0 t0 y0) (aN false 0 s0 x0 t0 y0) s1 x1 t1 y1) <| O1 s2 x2 t2 y2 false <| O2 s1 x1 t1 y1 (aS false 0 s0 x0 t0 y0) (aN false 0 s0 x0 t0 y0) <| O2 s0 x0 t0 y0 false 0 <| []):=by kernel_rfl
theorem p_dot_2220 : symCall cD S1 100 190 [rowA s0 x0 s1 x1 s2 x2 s3 x3,rowA t0 y0 t1 y1 t2 y2 t3 y3] (I2 <| I2 <| I2 <| I0 <| [.c]) = some (.value (wholeA (aS (aS (aS false 0 s0 x0 t0 y0) (aN false 0 s0 x0 t0 y0) s1 x1 t1 y1) (aN (aS false 0 s0 x0 t0 y0) (aN false 0 s0 x0 t0 y0) s1 x1 t1 y1) s2 x2 t2 y2) (aN (aS (aS false 0 s0 x0 t0 y0) (aN false 0 s0 x0 t0 y0) s1 x1 t1 y1) (aN (aS false 0 s0 x0 t0 y0) (aN false 0 s0 x0 t0 y0) s1 x1 t1 y1) s2 x2 t2 y2)) (some []),[],O0 s3 x3 <| O2 s2 x2 t2 y2 (aS (aS false 0 s0 x0 t0 y0) (aN false 0 s0 x0 t0 y0) s1 x1 t1 y1) (aN (aS false 0 s0 x0 t0 y0) (aN false 0 s0 x0 t0 y0) s1 x1 t1 y1) <| O2 s1 x1 t1 y1 (aS false 0 s0 x0 t0 y0) (aN false 0 s0 x0 t0 y0) <| O2 s0 x0 t0 y0 false 0 <| []):=by kernel_rfl
theorem p_dot_2221 : symCall cD S1 100 190 [rowA s0 x0 s1 x1 s2 x2 s3 x3,rowA t0 y0 t1 y1 t2 y2 t3 y3] (I2 <| I2 <| I2 <| I1 <| [.c]) = some (.value (wholeA (aS (aS (aS false 0 s0 x0 t0 y0) (aN false 0 s0 x0 t0 y0) s1 x1 t1 y1) (aN (aS false 0 s0 x0 t0 y0) (aN false 0 s0 x0 t0 y0) s1 x1 t1 y1) s2 x2 t2 y2) (aN (aS (aS false 0 s0 x0 t0 y0) (aN false 0 s0 x0 t0 y0) s1 x1 t1 y1) (aN (aS false 0 s0 x0 t0 y0) (aN false 0 s0 x0 t0 y0) s1 x1 t1 y1) s2 x2 t2 y2)) (some []),[],O1 s3 x3 t3 y3 false <| O2 s2 x2 t2 y2 (aS (aS false 0 s0 x0 t0 y0) (aN false 0 s0 x0 t0 y0) s1 x1 t1 y1) (aN (aS false 0 s0 x0 t0 y0) (aN false 0 s0 x0 t0 y0) s1 x1 t1 y1) <| O2 s1 x1 t1 y1 (aS false 0 s0 x0 t0 y0) (aN false 0 s0 x0 t0 y0) <| O2 s0 x0 t0 y0 false 0 <| []):=by kernel_rfl
theorem p_dot_2222 : symCall cD S1 100 190 [rowA s0 x0 s1 x1 s2 x2 s3 x3,rowA t0 y0 t1 y1 t2 y2 t3 y3] (I2 <| I2 <| I2 <| I2 <| [.c]) = some (.value (wholeA (aS (aS (aS (aS false 0 s0 x0 t0 y0) (aN false 0 s0 x0 t0 y0) s1 x1 t1 y1) (aN (aS false 0 s0 x0 t0 y0) (aN false 0 s0 x0 t0 y0) s1 x1 t1 y1) s2 x2 t2 y2) (aN (aS (aS false 0 s0 x0 t0 y0) (aN false 0 s0 x0 t0 y0) s1 x1 t1 y1) (aN (aS false 0 s0 x0 t0 y0) (aN false 0 s0 x0 t0 y0) s1 x1 t1 y1) s2 x2 t2 y2) s3 x3 t3 y3) (aN (aS (aS (aS false 0 s0 x0 t0 y0) (aN false 0 s0 x0 t0 y0) s1 x1 t1 y1) (aN (aS false 0 s0 x0 t0 y0) (aN false 0 s0 x0 t0 y0) s1 x1 t1 y1) s2 x2 t2 y2) (aN (aS (aS false 0 s0 x0 t0 y0) (aN false 0 s0 x0 t0 y0) s1 x1 t1 y1) (aN (aS false 0 s0 x0 t0 y0) (aN false 0 s0 x0 t0 y0) s1 x1 t1 y1) s2 x2 t2 y2) s3 x3 t3 y3)) (some []),[],O2 s3 x3 t3 y3 (aS (aS (aS false 0 s0 x0 t0 y0) (aN false 0 s0 x0 t0 y0) s1 x1 t1 y1) (aN (aS false 0 s0 x0 t0 y0) (aN false 0 s0 x0 t0 y0) s1 x1 t1 y1) s2 x2 t2 y2) (aN (aS (aS false 0 s0 x0 t0 y0) (aN false 0 s0 x0 t0 y0) s1 x1 t1 y1) (aN (aS false 0 s0 x0 t0 y0) (aN false 0 s0 x0 t0 y0) s1 x1 t1 y1) s2 x2 t2 y2) <| O2 s2 x2 t2 y2 (aS (aS false 0 s0 x0 t0 y0) (aN false 0 s0 x0 t0 y0) s1 x1 t1 y1) (aN (aS false 0 s0 x0 t0 y0) (aN false 0 s0 x0 t0 y0) s1 x1 t1 y1) <| O2 s1 x1 t1 y1 (aS false 0 s0 x0 t0 y0) (aN false 0 s0 x0 t0 y0) <| O2 s0 x0 t0 y0 false 0 <| []):=by kernel_rfl
end
set_option maxHeartbeats 8000000 in
theorem ok_dot : Ok Tryz.prog E1 190:=ok_sym (S:=fun g => notB (Nat.beq g 190)) mixed ok_old (by rw [Abs.beq_true.2 rfl]; rfl) fun l v h => by
  rw [e_dot] at h
  replace h:=arg2_some h; obtain ⟨a,b,rfl,h⟩:=h
  replace h:=rowP_some h; obtain ⟨s0,x0,s1,x1,s2,x2,s3,x3,rfl,h⟩:=h
  replace h:=rowP_some h; obtain ⟨t0,y0,t1,y1,t2,y2,t3,y3,rfl,h⟩:=h
  cases hx0 : pos x0 with
  | false =>
    replace h:=dstep_0 hx0 h
    cases hx1 : pos x1 with
    | false =>
      replace h:=dstep_0 hx1 h
      cases hx2 : pos x2 with
      | false =>
        replace h:=dstep_0 hx2 h
        cases hx3 : pos x3 with
        | false =>
          replace h:=dstep_0 hx3 h
          obtain ⟨rfl,hc⟩:=q_some h
          simp only [andB_true] at hc
          exact ⟨rfl,rfl,leaf_ok (p_dot_0000 s0 s1 s2 s3 t0 t1 t2 t3 x0 x1 x2 x3 y0 y1 y2 y3) rfl (by (repeat' apply met_cons) <;> first | exact met_nil | assumption | (rw [nz_eq]; assumption) | (simp only [hc]; done))⟩
        | true =>
          cases hy3 : pos y3 with
          | false =>
            replace h:=dstep_1 hx3 hy3 h
            obtain ⟨rfl,hc⟩:=q_some h
            simp only [andB_true] at hc
            exact ⟨rfl,rfl,leaf_ok (p_dot_0001 s0 s1 s2 s3 t0 t1 t2 t3 x0 x1 x2 x3 y0 y1 y2 y3) rfl (by (repeat' apply met_cons) <;> first | exact met_nil | assumption | (rw [nz_eq]; assumption) | (simp only [hc]; done))⟩
          | true =>
            replace h:=dstep_2 hx3 hy3 h
            obtain ⟨rfl,hc⟩:=q_some h
            simp only [andB_true] at hc
            exact ⟨rfl,rfl,leaf_ok (p_dot_0002 s0 s1 s2 s3 t0 t1 t2 t3 x0 x1 x2 x3 y0 y1 y2 y3) rfl (by (repeat' apply met_cons) <;> first | exact met_nil | assumption | (rw [nz_eq]; assumption) | (simp only [hc]; done))⟩
      | true =>
        cases hy2 : pos y2 with
        | false =>
          replace h:=dstep_1 hx2 hy2 h
          cases hx3 : pos x3 with
          | false =>
            replace h:=dstep_0 hx3 h
            obtain ⟨rfl,hc⟩:=q_some h
            simp only [andB_true] at hc
            exact ⟨rfl,rfl,leaf_ok (p_dot_0010 s0 s1 s2 s3 t0 t1 t2 t3 x0 x1 x2 x3 y0 y1 y2 y3) rfl (by (repeat' apply met_cons) <;> first | exact met_nil | assumption | (rw [nz_eq]; assumption) | (simp only [hc]; done))⟩
          | true =>
            cases hy3 : pos y3 with
            | false =>
              replace h:=dstep_1 hx3 hy3 h
              obtain ⟨rfl,hc⟩:=q_some h
              simp only [andB_true] at hc
              exact ⟨rfl,rfl,leaf_ok (p_dot_0011 s0 s1 s2 s3 t0 t1 t2 t3 x0 x1 x2 x3 y0 y1 y2 y3) rfl (by (repeat' apply met_cons) <;> first | exact met_nil | assumption | (rw [nz_eq]; assumption) | (simp only [hc]; done))⟩
            | true =>
              replace h:=dstep_2 hx3 hy3 h
              obtain ⟨rfl,hc⟩:=q_some h
              simp only [andB_true] at hc
              exact ⟨rfl,rfl,leaf_ok (p_dot_0012 s0 s1 s2 s3 t0 t1 t2 t3 x0 x1 x2 x3 y0 y1 y2 y3) rfl (by (repeat' apply met_cons) <;> first | exact met_nil | assumption | (rw [nz_eq]; assumption) | (simp only [hc]; done))⟩
        | true =>
          replace h:=dstep_2 hx2 hy2 h
          cases hx3 : pos x3 with
          | false =>
            replace h:=dstep_0 hx3 h
            obtain ⟨rfl,hc⟩:=q_some h
            simp only [andB_true] at hc
            exact ⟨rfl,rfl,leaf_ok (p_dot_0020 s0 s1 s2 s3 t0 t1 t2 t3 x0 x1 x2 x3 y0 y1 y2 y3) rfl (by (repeat' apply met_cons) <;> first | exact met_nil | assumption | (rw [nz_eq]; assumption) | (simp only [hc]; done))⟩
          | true =>
            cases hy3 : pos y3 with
            | false =>
              replace h:=dstep_1 hx3 hy3 h
              obtain ⟨rfl,hc⟩:=q_some h
              simp only [andB_true] at hc
              exact ⟨rfl,rfl,leaf_ok (p_dot_0021 s0 s1 s2 s3 t0 t1 t2 t3 x0 x1 x2 x3 y0 y1 y2 y3) rfl (by (repeat' apply met_cons) <;> first | exact met_nil | assumption | (rw [nz_eq]; assumption) | (simp only [hc]; done))⟩
            | true =>
              replace h:=dstep_2 hx3 hy3 h
              obtain ⟨rfl,hc⟩:=q_some h
              simp only [andB_true] at hc
              exact ⟨rfl,rfl,leaf_ok (p_dot_0022 s0 s1 s2 s3 t0 t1 t2 t3 x0 x1 x2 x3 y0 y1 y2 y3) rfl (by (repeat' apply met_cons) <;> first | exact met_nil | assumption | (rw [nz_eq]; assumption) | (simp only [hc]; done))⟩
    | true =>
      cases hy1 : pos y1 with
      | false =>
        replace h:=dstep_1 hx1 hy1 h
        cases hx2 : pos x2 with
        | false =>
          replace h:=dstep_0 hx2 h
          cases hx3 : pos x3 with
          | false =>
            replace h:=dstep_0 hx3 h
            obtain ⟨rfl,hc⟩:=q_some h
            simp only [andB_true] at hc
            exact ⟨rfl,rfl,leaf_ok (p_dot_0100 s0 s1 s2 s3 t0 t1 t2 t3 x0 x1 x2 x3 y0 y1 y2 y3) rfl (by (repeat' apply met_cons) <;> first | exact met_nil | assumption | (rw [nz_eq]; assumption) | (simp only [hc]; done))⟩
          | true =>
            cases hy3 : pos y3 with
            | false =>
              replace h:=dstep_1 hx3 hy3 h
              obtain ⟨rfl,hc⟩:=q_some h
              simp only [andB_true] at hc
              exact ⟨rfl,rfl,leaf_ok (p_dot_0101 s0 s1 s2 s3 t0 t1 t2 t3 x0 x1 x2 x3 y0 y1 y2 y3) rfl (by (repeat' apply met_cons) <;> first | exact met_nil | assumption | (rw [nz_eq]; assumption) | (simp only [hc]; done))⟩
            | true =>
              replace h:=dstep_2 hx3 hy3 h
              obtain ⟨rfl,hc⟩:=q_some h
              simp only [andB_true] at hc
              exact ⟨rfl,rfl,leaf_ok (p_dot_0102 s0 s1 s2 s3 t0 t1 t2 t3 x0 x1 x2 x3 y0 y1 y2 y3) rfl (by (repeat' apply met_cons) <;> first | exact met_nil | assumption | (rw [nz_eq]; assumption) | (simp only [hc]; done))⟩
        | true =>
          cases hy2 : pos y2 with
          | false =>
            replace h:=dstep_1 hx2 hy2 h
            cases hx3 : pos x3 with
            | false =>
              replace h:=dstep_0 hx3 h
              obtain ⟨rfl,hc⟩:=q_some h
              simp only [andB_true] at hc
              exact ⟨rfl,rfl,leaf_ok (p_dot_0110 s0 s1 s2 s3 t0 t1 t2 t3 x0 x1 x2 x3 y0 y1 y2 y3) rfl (by (repeat' apply met_cons) <;> first | exact met_nil | assumption | (rw [nz_eq]; assumption) | (simp only [hc]; done))⟩
            | true =>
              cases hy3 : pos y3 with
              | false =>
                replace h:=dstep_1 hx3 hy3 h
                obtain ⟨rfl,hc⟩:=q_some h
                simp only [andB_true] at hc
                exact ⟨rfl,rfl,leaf_ok (p_dot_0111 s0 s1 s2 s3 t0 t1 t2 t3 x0 x1 x2 x3 y0 y1 y2 y3) rfl (by (repeat' apply met_cons) <;> first | exact met_nil | assumption | (rw [nz_eq]; assumption) | (simp only [hc]; done))⟩
              | true =>
                replace h:=dstep_2 hx3 hy3 h
                obtain ⟨rfl,hc⟩:=q_some h
                simp only [andB_true] at hc
                exact ⟨rfl,rfl,leaf_ok (p_dot_0112 s0 s1 s2 s3 t0 t1 t2 t3 x0 x1 x2 x3 y0 y1 y2 y3) rfl (by (repeat' apply met_cons) <;> first | exact met_nil | assumption | (rw [nz_eq]; assumption) | (simp only [hc]; done))⟩
          | true =>
            replace h:=dstep_2 hx2 hy2 h
            cases hx3 : pos x3 with
            | false =>
              replace h:=dstep_0 hx3 h
              obtain ⟨rfl,hc⟩:=q_some h
              simp only [andB_true] at hc
              exact ⟨rfl,rfl,leaf_ok (p_dot_0120 s0 s1 s2 s3 t0 t1 t2 t3 x0 x1 x2 x3 y0 y1 y2 y3) rfl (by (repeat' apply met_cons) <;> first | exact met_nil | assumption | (rw [nz_eq]; assumption) | (simp only [hc]; done))⟩
            | true =>
              cases hy3 : pos y3 with
              | false =>
                replace h:=dstep_1 hx3 hy3 h
                obtain ⟨rfl,hc⟩:=q_some h
                simp only [andB_true] at hc
                exact ⟨rfl,rfl,leaf_ok (p_dot_0121 s0 s1 s2 s3 t0 t1 t2 t3 x0 x1 x2 x3 y0 y1 y2 y3) rfl (by (repeat' apply met_cons) <;> first | exact met_nil | assumption | (rw [nz_eq]; assumption) | (simp only [hc]; done))⟩
              | true =>
                replace h:=dstep_2 hx3 hy3 h
                obtain ⟨rfl,hc⟩:=q_some h
                simp only [andB_true] at hc
                exact ⟨rfl,rfl,leaf_ok (p_dot_0122 s0 s1 s2 s3 t0 t1 t2 t3 x0 x1 x2 x3 y0 y1 y2 y3) rfl (by (repeat' apply met_cons) <;> first | exact met_nil | assumption | (rw [nz_eq]; assumption) | (simp only [hc]; done))⟩
      | true =>
        replace h:=dstep_2 hx1 hy1 h
        cases hx2 : pos x2 with
        | false =>
          replace h:=dstep_0 hx2 h
          cases hx3 : pos x3 with
          | false =>
            replace h:=dstep_0 hx3 h
            obtain ⟨rfl,hc⟩:=q_some h
            simp only [andB_true] at hc
            exact ⟨rfl,rfl,leaf_ok (p_dot_0200 s0 s1 s2 s3 t0 t1 t2 t3 x0 x1 x2 x3 y0 y1 y2 y3) rfl (by (repeat' apply met_cons) <;> first | exact met_nil | assumption | (rw [nz_eq]; assumption) | (simp only [hc]; done))⟩
          | true =>
            cases hy3 : pos y3 with
            | false =>
              replace h:=dstep_1 hx3 hy3 h
              obtain ⟨rfl,hc⟩:=q_some h
              simp only [andB_true] at hc
              exact ⟨rfl,rfl,leaf_ok (p_dot_0201 s0 s1 s2 s3 t0 t1 t2 t3 x0 x1 x2 x3 y0 y1 y2 y3) rfl (by (repeat' apply met_cons) <;> first | exact met_nil | assumption | (rw [nz_eq]; assumption) | (simp only [hc]; done))⟩
            | true =>
              replace h:=dstep_2 hx3 hy3 h
              obtain ⟨rfl,hc⟩:=q_some h
              simp only [andB_true] at hc
              exact ⟨rfl,rfl,leaf_ok (p_dot_0202 s0 s1 s2 s3 t0 t1 t2 t3 x0 x1 x2 x3 y0 y1 y2 y3) rfl (by (repeat' apply met_cons) <;> first | exact met_nil | assumption | (rw [nz_eq]; assumption) | (simp only [hc]; done))⟩
        | true =>
          cases hy2 : pos y2 with
          | false =>
            replace h:=dstep_1 hx2 hy2 h
            cases hx3 : pos x3 with
            | false =>
              replace h:=dstep_0 hx3 h
              obtain ⟨rfl,hc⟩:=q_some h
              simp only [andB_true] at hc
              exact ⟨rfl,rfl,leaf_ok (p_dot_0210 s0 s1 s2 s3 t0 t1 t2 t3 x0 x1 x2 x3 y0 y1 y2 y3) rfl (by (repeat' apply met_cons) <;> first | exact met_nil | assumption | (rw [nz_eq]; assumption) | (simp only [hc]; done))⟩
            | true =>
              cases hy3 : pos y3 with
              | false =>
                replace h:=dstep_1 hx3 hy3 h
                obtain ⟨rfl,hc⟩:=q_some h
                simp only [andB_true] at hc
                exact ⟨rfl,rfl,leaf_ok (p_dot_0211 s0 s1 s2 s3 t0 t1 t2 t3 x0 x1 x2 x3 y0 y1 y2 y3) rfl (by (repeat' apply met_cons) <;> first | exact met_nil | assumption | (rw [nz_eq]; assumption) | (simp only [hc]; done))⟩
              | true =>
                replace h:=dstep_2 hx3 hy3 h
                obtain ⟨rfl,hc⟩:=q_some h
                simp only [andB_true] at hc
                exact ⟨rfl,rfl,leaf_ok (p_dot_0212 s0 s1 s2 s3 t0 t1 t2 t3 x0 x1 x2 x3 y0 y1 y2 y3) rfl (by (repeat' apply met_cons) <;> first | exact met_nil | assumption | (rw [nz_eq]; assumption) | (simp only [hc]; done))⟩
          | true =>
            replace h:=dstep_2 hx2 hy2 h
            cases hx3 : pos x3 with
            | false =>
              replace h:=dstep_0 hx3 h
              obtain ⟨rfl,hc⟩:=q_some h
              simp only [andB_true] at hc
              exact ⟨rfl,rfl,leaf_ok (p_dot_0220 s0 s1 s2 s3 t0 t1 t2 t3 x0 x1 x2 x3 y0 y1 y2 y3) rfl (by (repeat' apply met_cons) <;> first | exact met_nil | assumption | (rw [nz_eq]; assumption) | (simp only [hc]; done))⟩
            | true =>
              cases hy3 : pos y3 with
              | false =>
                replace h:=dstep_1 hx3 hy3 h
                obtain ⟨rfl,hc⟩:=q_some h
                simp only [andB_true] at hc
                exact ⟨rfl,rfl,leaf_ok (p_dot_0221 s0 s1 s2 s3 t0 t1 t2 t3 x0 x1 x2 x3 y0 y1 y2 y3) rfl (by (repeat' apply met_cons) <;> first | exact met_nil | assumption | (rw [nz_eq]; assumption) | (simp only [hc]; done))⟩
              | true =>
                replace h:=dstep_2 hx3 hy3 h
                obtain ⟨rfl,hc⟩:=q_some h
                simp only [andB_true] at hc
                exact ⟨rfl,rfl,leaf_ok (p_dot_0222 s0 s1 s2 s3 t0 t1 t2 t3 x0 x1 x2 x3 y0 y1 y2 y3) rfl (by (repeat' apply met_cons) <;> first | exact met_nil | assumption | (rw [nz_eq]; assumption) | (simp only [hc]; done))⟩
  | true =>
    cases hy0 : pos y0 with
    | false =>
      replace h:=dstep_1 hx0 hy0 h
      cases hx1 : pos x1 with
      | false =>
        replace h:=dstep_0 hx1 h
        cases hx2 : pos x2 with
        | false =>
          replace h:=dstep_0 hx2 h
          cases hx3 : pos x3 with
          | false =>
            replace h:=dstep_0 hx3 h
            obtain ⟨rfl,hc⟩:=q_some h
            simp only [andB_true] at hc
            exact ⟨rfl,rfl,leaf_ok (p_dot_1000 s0 s1 s2 s3 t0 t1 t2 t3 x0 x1 x2 x3 y0 y1 y2 y3) rfl (by (repeat' apply met_cons) <;> first | exact met_nil | assumption | (rw [nz_eq]; assumption) | (simp only [hc]; done))⟩
          | true =>
            cases hy3 : pos y3 with
            | false =>
              replace h:=dstep_1 hx3 hy3 h
              obtain ⟨rfl,hc⟩:=q_some h
              simp only [andB_true] at hc
              exact ⟨rfl,rfl,leaf_ok (p_dot_1001 s0 s1 s2 s3 t0 t1 t2 t3 x0 x1 x2 x3 y0 y1 y2 y3) rfl (by (repeat' apply met_cons) <;> first | exact met_nil | assumption | (rw [nz_eq]; assumption) | (simp only [hc]; done))⟩
            | true =>
              replace h:=dstep_2 hx3 hy3 h
              obtain ⟨rfl,hc⟩:=q_some h
              simp only [andB_true] at hc
              exact ⟨rfl,rfl,leaf_ok (p_dot_1002 s0 s1 s2 s3 t0 t1 t2 t3 x0 x1 x2 x3 y0 y1 y2 y3) rfl (by (repeat' apply met_cons) <;> first | exact met_nil | assumption | (rw [nz_eq]; assumption) | (simp only [hc]; done))⟩
        | true =>
          cases hy2 : pos y2 with
          | false =>
            replace h:=dstep_1 hx2 hy2 h
            cases hx3 : pos x3 with
            | false =>
              replace h:=dstep_0 hx3 h
              obtain ⟨rfl,hc⟩:=q_some h
              simp only [andB_true] at hc
              exact ⟨rfl,rfl,leaf_ok (p_dot_1010 s0 s1 s2 s3 t0 t1 t2 t3 x0 x1 x2 x3 y0 y1 y2 y3) rfl (by (repeat' apply met_cons) <;> first | exact met_nil | assumption | (rw [nz_eq]; assumption) | (simp only [hc]; done))⟩
            | true =>
              cases hy3 : pos y3 with
              | false =>
                replace h:=dstep_1 hx3 hy3 h
                obtain ⟨rfl,hc⟩:=q_some h
                simp only [andB_true] at hc
                exact ⟨rfl,rfl,leaf_ok (p_dot_1011 s0 s1 s2 s3 t0 t1 t2 t3 x0 x1 x2 x3 y0 y1 y2 y3) rfl (by (repeat' apply met_cons) <;> first | exact met_nil | assumption | (rw [nz_eq]; assumption) | (simp only [hc]; done))⟩
              | true =>
                replace h:=dstep_2 hx3 hy3 h
                obtain ⟨rfl,hc⟩:=q_some h
                simp only [andB_true] at hc
                exact ⟨rfl,rfl,leaf_ok (p_dot_1012 s0 s1 s2 s3 t0 t1 t2 t3 x0 x1 x2 x3 y0 y1 y2 y3) rfl (by (repeat' apply met_cons) <;> first | exact met_nil | assumption | (rw [nz_eq]; assumption) | (simp only [hc]; done))⟩
          | true =>
            replace h:=dstep_2 hx2 hy2 h
            cases hx3 : pos x3 with
            | false =>
              replace h:=dstep_0 hx3 h
              obtain ⟨rfl,hc⟩:=q_some h
              simp only [andB_true] at hc
              exact ⟨rfl,rfl,leaf_ok (p_dot_1020 s0 s1 s2 s3 t0 t1 t2 t3 x0 x1 x2 x3 y0 y1 y2 y3) rfl (by (repeat' apply met_cons) <;> first | exact met_nil | assumption | (rw [nz_eq]; assumption) | (simp only [hc]; done))⟩
            | true =>
              cases hy3 : pos y3 with
              | false =>
                replace h:=dstep_1 hx3 hy3 h
                obtain ⟨rfl,hc⟩:=q_some h
                simp only [andB_true] at hc
                exact ⟨rfl,rfl,leaf_ok (p_dot_1021 s0 s1 s2 s3 t0 t1 t2 t3 x0 x1 x2 x3 y0 y1 y2 y3) rfl (by (repeat' apply met_cons) <;> first | exact met_nil | assumption | (rw [nz_eq]; assumption) | (simp only [hc]; done))⟩
              | true =>
                replace h:=dstep_2 hx3 hy3 h
                obtain ⟨rfl,hc⟩:=q_some h
                simp only [andB_true] at hc
                exact ⟨rfl,rfl,leaf_ok (p_dot_1022 s0 s1 s2 s3 t0 t1 t2 t3 x0 x1 x2 x3 y0 y1 y2 y3) rfl (by (repeat' apply met_cons) <;> first | exact met_nil | assumption | (rw [nz_eq]; assumption) | (simp only [hc]; done))⟩
      | true =>
        cases hy1 : pos y1 with
        | false =>
          replace h:=dstep_1 hx1 hy1 h
          cases hx2 : pos x2 with
          | false =>
            replace h:=dstep_0 hx2 h
            cases hx3 : pos x3 with
            | false =>
              replace h:=dstep_0 hx3 h
              obtain ⟨rfl,hc⟩:=q_some h
              simp only [andB_true] at hc
              exact ⟨rfl,rfl,leaf_ok (p_dot_1100 s0 s1 s2 s3 t0 t1 t2 t3 x0 x1 x2 x3 y0 y1 y2 y3) rfl (by (repeat' apply met_cons) <;> first | exact met_nil | assumption | (rw [nz_eq]; assumption) | (simp only [hc]; done))⟩
            | true =>
              cases hy3 : pos y3 with
              | false =>
                replace h:=dstep_1 hx3 hy3 h
                obtain ⟨rfl,hc⟩:=q_some h
                simp only [andB_true] at hc
                exact ⟨rfl,rfl,leaf_ok (p_dot_1101 s0 s1 s2 s3 t0 t1 t2 t3 x0 x1 x2 x3 y0 y1 y2 y3) rfl (by (repeat' apply met_cons) <;> first | exact met_nil | assumption | (rw [nz_eq]; assumption) | (simp only [hc]; done))⟩
              | true =>
                replace h:=dstep_2 hx3 hy3 h
                obtain ⟨rfl,hc⟩:=q_some h
                simp only [andB_true] at hc
                exact ⟨rfl,rfl,leaf_ok (p_dot_1102 s0 s1 s2 s3 t0 t1 t2 t3 x0 x1 x2 x3 y0 y1 y2 y3) rfl (by (repeat' apply met_cons) <;> first | exact met_nil | assumption | (rw [nz_eq]; assumption) | (simp only [hc]; done))⟩
          | true =>
            cases hy2 : pos y2 with
            | false =>
              replace h:=dstep_1 hx2 hy2 h
              cases hx3 : pos x3 with
              | false =>
                replace h:=dstep_0 hx3 h
                obtain ⟨rfl,hc⟩:=q_some h
                simp only [andB_true] at hc
                exact ⟨rfl,rfl,leaf_ok (p_dot_1110 s0 s1 s2 s3 t0 t1 t2 t3 x0 x1 x2 x3 y0 y1 y2 y3) rfl (by (repeat' apply met_cons) <;> first | exact met_nil | assumption | (rw [nz_eq]; assumption) | (simp only [hc]; done))⟩
              | true =>
                cases hy3 : pos y3 with
                | false =>
                  replace h:=dstep_1 hx3 hy3 h
                  obtain ⟨rfl,hc⟩:=q_some h
                  simp only [andB_true] at hc
                  exact ⟨rfl,rfl,leaf_ok (p_dot_1111 s0 s1 s2 s3 t0 t1 t2 t3 x0 x1 x2 x3 y0 y1 y2 y3) rfl (by (repeat' apply met_cons) <;> first | exact met_nil | assumption | (rw [nz_eq]; assumption) | (simp only [hc]; done))⟩
                | true =>
                  replace h:=dstep_2 hx3 hy3 h
                  obtain ⟨rfl,hc⟩:=q_some h
                  simp only [andB_true] at hc
                  exact ⟨rfl,rfl,leaf_ok (p_dot_1112 s0 s1 s2 s3 t0 t1 t2 t3 x0 x1 x2 x3 y0 y1 y2 y3) rfl (by (repeat' apply met_cons) <;> first | exact met_nil | assumption | (rw [nz_eq]; assumption) | (simp only [hc]; done))⟩
            | true =>
              replace h:=dstep_2 hx2 hy2 h
              cases hx3 : pos x3 with
              | false =>
                replace h:=dstep_0 hx3 h
                obtain ⟨rfl,hc⟩:=q_some h
                simp only [andB_true] at hc
                exact ⟨rfl,rfl,leaf_ok (p_dot_1120 s0 s1 s2 s3 t0 t1 t2 t3 x0 x1 x2 x3 y0 y1 y2 y3) rfl (by (repeat' apply met_cons) <;> first | exact met_nil | assumption | (rw [nz_eq]; assumption) | (simp only [hc]; done))⟩
              | true =>
                cases hy3 : pos y3 with
                | false =>
                  replace h:=dstep_1 hx3 hy3 h
                  obtain ⟨rfl,hc⟩:=q_some h
                  simp only [andB_true] at hc
                  exact ⟨rfl,rfl,leaf_ok (p_dot_1121 s0 s1 s2 s3 t0 t1 t2 t3 x0 x1 x2 x3 y0 y1 y2 y3) rfl (by (repeat' apply met_cons) <;> first | exact met_nil | assumption | (rw [nz_eq]; assumption) | (simp only [hc]; done))⟩
                | true =>
                  replace h:=dstep_2 hx3 hy3 h
                  obtain ⟨rfl,hc⟩:=q_some h
                  simp only [andB_true] at hc
                  exact ⟨rfl,rfl,leaf_ok (p_dot_1122 s0 s1 s2 s3 t0 t1 t2 t3 x0 x1 x2 x3 y0 y1 y2 y3) rfl (by (repeat' apply met_cons) <;> first | exact met_nil | assumption | (rw [nz_eq]; assumption) | (simp only [hc]; done))⟩
        | true =>
          replace h:=dstep_2 hx1 hy1 h
          cases hx2 : pos x2 with
          | false =>
            replace h:=dstep_0 hx2 h
            cases hx3 : pos x3 with
            | false =>
              replace h:=dstep_0 hx3 h
              obtain ⟨rfl,hc⟩:=q_some h
              simp only [andB_true] at hc
              exact ⟨rfl,rfl,leaf_ok (p_dot_1200 s0 s1 s2 s3 t0 t1 t2 t3 x0 x1 x2 x3 y0 y1 y2 y3) rfl (by (repeat' apply met_cons) <;> first | exact met_nil | assumption | (rw [nz_eq]; assumption) | (simp only [hc]; done))⟩
            | true =>
              cases hy3 : pos y3 with
              | false =>
                replace h:=dstep_1 hx3 hy3 h
                obtain ⟨rfl,hc⟩:=q_some h
                simp only [andB_true] at hc
                exact ⟨rfl,rfl,leaf_ok (p_dot_1201 s0 s1 s2 s3 t0 t1 t2 t3 x0 x1 x2 x3 y0 y1 y2 y3) rfl (by (repeat' apply met_cons) <;> first | exact met_nil | assumption | (rw [nz_eq]; assumption) | (simp only [hc]; done))⟩
              | true =>
                replace h:=dstep_2 hx3 hy3 h
                obtain ⟨rfl,hc⟩:=q_some h
                simp only [andB_true] at hc
                exact ⟨rfl,rfl,leaf_ok (p_dot_1202 s0 s1 s2 s3 t0 t1 t2 t3 x0 x1 x2 x3 y0 y1 y2 y3) rfl (by (repeat' apply met_cons) <;> first | exact met_nil | assumption | (rw [nz_eq]; assumption) | (simp only [hc]; done))⟩
          | true =>
            cases hy2 : pos y2 with
            | false =>
              replace h:=dstep_1 hx2 hy2 h
              cases hx3 : pos x3 with
              | false =>
                replace h:=dstep_0 hx3 h
                obtain ⟨rfl,hc⟩:=q_some h
                simp only [andB_true] at hc
                exact ⟨rfl,rfl,leaf_ok (p_dot_1210 s0 s1 s2 s3 t0 t1 t2 t3 x0 x1 x2 x3 y0 y1 y2 y3) rfl (by (repeat' apply met_cons) <;> first | exact met_nil | assumption | (rw [nz_eq]; assumption) | (simp only [hc]; done))⟩
              | true =>
                cases hy3 : pos y3 with
                | false =>
                  replace h:=dstep_1 hx3 hy3 h
                  obtain ⟨rfl,hc⟩:=q_some h
                  simp only [andB_true] at hc
                  exact ⟨rfl,rfl,leaf_ok (p_dot_1211 s0 s1 s2 s3 t0 t1 t2 t3 x0 x1 x2 x3 y0 y1 y2 y3) rfl (by (repeat' apply met_cons) <;> first | exact met_nil | assumption | (rw [nz_eq]; assumption) | (simp only [hc]; done))⟩
                | true =>
                  replace h:=dstep_2 hx3 hy3 h
                  obtain ⟨rfl,hc⟩:=q_some h
                  simp only [andB_true] at hc
                  exact ⟨rfl,rfl,leaf_ok (p_dot_1212 s0 s1 s2 s3 t0 t1 t2 t3 x0 x1 x2 x3 y0 y1 y2 y3) rfl (by (repeat' apply met_cons) <;> first | exact met_nil | assumption | (rw [nz_eq]; assumption) | (simp only [hc]; done))⟩
            | true =>
              replace h:=dstep_2 hx2 hy2 h
              cases hx3 : pos x3 with
              | false =>
                replace h:=dstep_0 hx3 h
                obtain ⟨rfl,hc⟩:=q_some h
                simp only [andB_true] at hc
                exact ⟨rfl,rfl,leaf_ok (p_dot_1220 s0 s1 s2 s3 t0 t1 t2 t3 x0 x1 x2 x3 y0 y1 y2 y3) rfl (by (repeat' apply met_cons) <;> first | exact met_nil | assumption | (rw [nz_eq]; assumption) | (simp only [hc]; done))⟩
              | true =>
                cases hy3 : pos y3 with
                | false =>
                  replace h:=dstep_1 hx3 hy3 h
                  obtain ⟨rfl,hc⟩:=q_some h
                  simp only [andB_true] at hc
                  exact ⟨rfl,rfl,leaf_ok (p_dot_1221 s0 s1 s2 s3 t0 t1 t2 t3 x0 x1 x2 x3 y0 y1 y2 y3) rfl (by (repeat' apply met_cons) <;> first | exact met_nil | assumption | (rw [nz_eq]; assumption) | (simp only [hc]; done))⟩
                | true =>
                  replace h:=dstep_2 hx3 hy3 h
                  obtain ⟨rfl,hc⟩:=q_some h
                  simp only [andB_true] at hc
                  exact ⟨rfl,rfl,leaf_ok (p_dot_1222 s0 s1 s2 s3 t0 t1 t2 t3 x0 x1 x2 x3 y0 y1 y2 y3) rfl (by (repeat' apply met_cons) <;> first | exact met_nil | assumption | (rw [nz_eq]; assumption) | (simp only [hc]; done))⟩
    | true =>
      replace h:=dstep_2 hx0 hy0 h
      cases hx1 : pos x1 with
      | false =>
        replace h:=dstep_0 hx1 h
        cases hx2 : pos x2 with
        | false =>
          replace h:=dstep_0 hx2 h
          cases hx3 : pos x3 with
          | false =>
            replace h:=dstep_0 hx3 h
            obtain ⟨rfl,hc⟩:=q_some h
            simp only [andB_true] at hc
            exact ⟨rfl,rfl,leaf_ok (p_dot_2000 s0 s1 s2 s3 t0 t1 t2 t3 x0 x1 x2 x3 y0 y1 y2 y3) rfl (by (repeat' apply met_cons) <;> first | exact met_nil | assumption | (rw [nz_eq]; assumption) | (simp only [hc]; done))⟩
          | true =>
            cases hy3 : pos y3 with
            | false =>
              replace h:=dstep_1 hx3 hy3 h
              obtain ⟨rfl,hc⟩:=q_some h
              simp only [andB_true] at hc
              exact ⟨rfl,rfl,leaf_ok (p_dot_2001 s0 s1 s2 s3 t0 t1 t2 t3 x0 x1 x2 x3 y0 y1 y2 y3) rfl (by (repeat' apply met_cons) <;> first | exact met_nil | assumption | (rw [nz_eq]; assumption) | (simp only [hc]; done))⟩
            | true =>
              replace h:=dstep_2 hx3 hy3 h
              obtain ⟨rfl,hc⟩:=q_some h
              simp only [andB_true] at hc
              exact ⟨rfl,rfl,leaf_ok (p_dot_2002 s0 s1 s2 s3 t0 t1 t2 t3 x0 x1 x2 x3 y0 y1 y2 y3) rfl (by (repeat' apply met_cons) <;> first | exact met_nil | assumption | (rw [nz_eq]; assumption) | (simp only [hc]; done))⟩
        | true =>
          cases hy2 : pos y2 with
          | false =>
            replace h:=dstep_1 hx2 hy2 h
            cases hx3 : pos x3 with
            | false =>
              replace h:=dstep_0 hx3 h
              obtain ⟨rfl,hc⟩:=q_some h
              simp only [andB_true] at hc
              exact ⟨rfl,rfl,leaf_ok (p_dot_2010 s0 s1 s2 s3 t0 t1 t2 t3 x0 x1 x2 x3 y0 y1 y2 y3) rfl (by (repeat' apply met_cons) <;> first | exact met_nil | assumption | (rw [nz_eq]; assumption) | (simp only [hc]; done))⟩
            | true =>
              cases hy3 : pos y3 with
              | false =>
                replace h:=dstep_1 hx3 hy3 h
                obtain ⟨rfl,hc⟩:=q_some h
                simp only [andB_true] at hc
                exact ⟨rfl,rfl,leaf_ok (p_dot_2011 s0 s1 s2 s3 t0 t1 t2 t3 x0 x1 x2 x3 y0 y1 y2 y3) rfl (by (repeat' apply met_cons) <;> first | exact met_nil | assumption | (rw [nz_eq]; assumption) | (simp only [hc]; done))⟩
              | true =>
                replace h:=dstep_2 hx3 hy3 h
                obtain ⟨rfl,hc⟩:=q_some h
                simp only [andB_true] at hc
                exact ⟨rfl,rfl,leaf_ok (p_dot_2012 s0 s1 s2 s3 t0 t1 t2 t3 x0 x1 x2 x3 y0 y1 y2 y3) rfl (by (repeat' apply met_cons) <;> first | exact met_nil | assumption | (rw [nz_eq]; assumption) | (simp only [hc]; done))⟩
          | true =>
            replace h:=dstep_2 hx2 hy2 h
            cases hx3 : pos x3 with
            | false =>
              replace h:=dstep_0 hx3 h
              obtain ⟨rfl,hc⟩:=q_some h
              simp only [andB_true] at hc
              exact ⟨rfl,rfl,leaf_ok (p_dot_2020 s0 s1 s2 s3 t0 t1 t2 t3 x0 x1 x2 x3 y0 y1 y2 y3) rfl (by (repeat' apply met_cons) <;> first | exact met_nil | assumption | (rw [nz_eq]; assumption) | (simp only [hc]; done))⟩
            | true =>
              cases hy3 : pos y3 with
              | false =>
                replace h:=dstep_1 hx3 hy3 h
                obtain ⟨rfl,hc⟩:=q_some h
                simp only [andB_true] at hc
                exact ⟨rfl,rfl,leaf_ok (p_dot_2021 s0 s1 s2 s3 t0 t1 t2 t3 x0 x1 x2 x3 y0 y1 y2 y3) rfl (by (repeat' apply met_cons) <;> first | exact met_nil | assumption | (rw [nz_eq]; assumption) | (simp only [hc]; done))⟩
              | true =>
                replace h:=dstep_2 hx3 hy3 h
                obtain ⟨rfl,hc⟩:=q_some h
                simp only [andB_true] at hc
                exact ⟨rfl,rfl,leaf_ok (p_dot_2022 s0 s1 s2 s3 t0 t1 t2 t3 x0 x1 x2 x3 y0 y1 y2 y3) rfl (by (repeat' apply met_cons) <;> first | exact met_nil | assumption | (rw [nz_eq]; assumption) | (simp only [hc]; done))⟩
      | true =>
        cases hy1 : pos y1 with
        | false =>
          replace h:=dstep_1 hx1 hy1 h
          cases hx2 : pos x2 with
          | false =>
            replace h:=dstep_0 hx2 h
            cases hx3 : pos x3 with
            | false =>
              replace h:=dstep_0 hx3 h
              obtain ⟨rfl,hc⟩:=q_some h
              simp only [andB_true] at hc
              exact ⟨rfl,rfl,leaf_ok (p_dot_2100 s0 s1 s2 s3 t0 t1 t2 t3 x0 x1 x2 x3 y0 y1 y2 y3) rfl (by (repeat' apply met_cons) <;> first | exact met_nil | assumption | (rw [nz_eq]; assumption) | (simp only [hc]; done))⟩
            | true =>
              cases hy3 : pos y3 with
              | false =>
                replace h:=dstep_1 hx3 hy3 h
                obtain ⟨rfl,hc⟩:=q_some h
                simp only [andB_true] at hc
                exact ⟨rfl,rfl,leaf_ok (p_dot_2101 s0 s1 s2 s3 t0 t1 t2 t3 x0 x1 x2 x3 y0 y1 y2 y3) rfl (by (repeat' apply met_cons) <;> first | exact met_nil | assumption | (rw [nz_eq]; assumption) | (simp only [hc]; done))⟩
              | true =>
                replace h:=dstep_2 hx3 hy3 h
                obtain ⟨rfl,hc⟩:=q_some h
                simp only [andB_true] at hc
                exact ⟨rfl,rfl,leaf_ok (p_dot_2102 s0 s1 s2 s3 t0 t1 t2 t3 x0 x1 x2 x3 y0 y1 y2 y3) rfl (by (repeat' apply met_cons) <;> first | exact met_nil | assumption | (rw [nz_eq]; assumption) | (simp only [hc]; done))⟩
          | true =>
            cases hy2 : pos y2 with
            | false =>
              replace h:=dstep_1 hx2 hy2 h
              cases hx3 : pos x3 with
              | false =>
                replace h:=dstep_0 hx3 h
                obtain ⟨rfl,hc⟩:=q_some h
                simp only [andB_true] at hc
                exact ⟨rfl,rfl,leaf_ok (p_dot_2110 s0 s1 s2 s3 t0 t1 t2 t3 x0 x1 x2 x3 y0 y1 y2 y3) rfl (by (repeat' apply met_cons) <;> first | exact met_nil | assumption | (rw [nz_eq]; assumption) | (simp only [hc]; done))⟩
              | true =>
                cases hy3 : pos y3 with
                | false =>
                  replace h:=dstep_1 hx3 hy3 h
                  obtain ⟨rfl,hc⟩:=q_some h
                  simp only [andB_true] at hc
                  exact ⟨rfl,rfl,leaf_ok (p_dot_2111 s0 s1 s2 s3 t0 t1 t2 t3 x0 x1 x2 x3 y0 y1 y2 y3) rfl (by (repeat' apply met_cons) <;> first | exact met_nil | assumption | (rw [nz_eq]; assumption) | (simp only [hc]; done))⟩
                | true =>
                  replace h:=dstep_2 hx3 hy3 h
                  obtain ⟨rfl,hc⟩:=q_some h
                  simp only [andB_true] at hc
                  exact ⟨rfl,rfl,leaf_ok (p_dot_2112 s0 s1 s2 s3 t0 t1 t2 t3 x0 x1 x2 x3 y0 y1 y2 y3) rfl (by (repeat' apply met_cons) <;> first | exact met_nil | assumption | (rw [nz_eq]; assumption) | (simp only [hc]; done))⟩
            | true =>
              replace h:=dstep_2 hx2 hy2 h
              cases hx3 : pos x3 with
              | false =>
                replace h:=dstep_0 hx3 h
                obtain ⟨rfl,hc⟩:=q_some h
                simp only [andB_true] at hc
                exact ⟨rfl,rfl,leaf_ok (p_dot_2120 s0 s1 s2 s3 t0 t1 t2 t3 x0 x1 x2 x3 y0 y1 y2 y3) rfl (by (repeat' apply met_cons) <;> first | exact met_nil | assumption | (rw [nz_eq]; assumption) | (simp only [hc]; done))⟩
              | true =>
                cases hy3 : pos y3 with
                | false =>
                  replace h:=dstep_1 hx3 hy3 h
                  obtain ⟨rfl,hc⟩:=q_some h
                  simp only [andB_true] at hc
                  exact ⟨rfl,rfl,leaf_ok (p_dot_2121 s0 s1 s2 s3 t0 t1 t2 t3 x0 x1 x2 x3 y0 y1 y2 y3) rfl (by (repeat' apply met_cons) <;> first | exact met_nil | assumption | (rw [nz_eq]; assumption) | (simp only [hc]; done))⟩
                | true =>
                  replace h:=dstep_2 hx3 hy3 h
                  obtain ⟨rfl,hc⟩:=q_some h
                  simp only [andB_true] at hc
                  exact ⟨rfl,rfl,leaf_ok (p_dot_2122 s0 s1 s2 s3 t0 t1 t2 t3 x0 x1 x2 x3 y0 y1 y2 y3) rfl (by (repeat' apply met_cons) <;> first | exact met_nil | assumption | (rw [nz_eq]; assumption) | (simp only [hc]; done))⟩
        | true =>
          replace h:=dstep_2 hx1 hy1 h
          cases hx2 : pos x2 with
          | false =>
            replace h:=dstep_0 hx2 h
            cases hx3 : pos x3 with
            | false =>
              replace h:=dstep_0 hx3 h
              obtain ⟨rfl,hc⟩:=q_some h
              simp only [andB_true] at hc
              exact ⟨rfl,rfl,leaf_ok (p_dot_2200 s0 s1 s2 s3 t0 t1 t2 t3 x0 x1 x2 x3 y0 y1 y2 y3) rfl (by (repeat' apply met_cons) <;> first | exact met_nil | assumption | (rw [nz_eq]; assumption) | (simp only [hc]; done))⟩
            | true =>
              cases hy3 : pos y3 with
              | false =>
                replace h:=dstep_1 hx3 hy3 h
                obtain ⟨rfl,hc⟩:=q_some h
                simp only [andB_true] at hc
                exact ⟨rfl,rfl,leaf_ok (p_dot_2201 s0 s1 s2 s3 t0 t1 t2 t3 x0 x1 x2 x3 y0 y1 y2 y3) rfl (by (repeat' apply met_cons) <;> first | exact met_nil | assumption | (rw [nz_eq]; assumption) | (simp only [hc]; done))⟩
              | true =>
                replace h:=dstep_2 hx3 hy3 h
                obtain ⟨rfl,hc⟩:=q_some h
                simp only [andB_true] at hc
                exact ⟨rfl,rfl,leaf_ok (p_dot_2202 s0 s1 s2 s3 t0 t1 t2 t3 x0 x1 x2 x3 y0 y1 y2 y3) rfl (by (repeat' apply met_cons) <;> first | exact met_nil | assumption | (rw [nz_eq]; assumption) | (simp only [hc]; done))⟩
          | true =>
            cases hy2 : pos y2 with
            | false =>
              replace h:=dstep_1 hx2 hy2 h
              cases hx3 : pos x3 with
              | false =>
                replace h:=dstep_0 hx3 h
                obtain ⟨rfl,hc⟩:=q_some h
                simp only [andB_true] at hc
                exact ⟨rfl,rfl,leaf_ok (p_dot_2210 s0 s1 s2 s3 t0 t1 t2 t3 x0 x1 x2 x3 y0 y1 y2 y3) rfl (by (repeat' apply met_cons) <;> first | exact met_nil | assumption | (rw [nz_eq]; assumption) | (simp only [hc]; done))⟩
              | true =>
                cases hy3 : pos y3 with
                | false =>
                  replace h:=dstep_1 hx3 hy3 h
                  obtain ⟨rfl,hc⟩:=q_some h
                  simp only [andB_true] at hc
                  exact ⟨rfl,rfl,leaf_ok (p_dot_2211 s0 s1 s2 s3 t0 t1 t2 t3 x0 x1 x2 x3 y0 y1 y2 y3) rfl (by (repeat' apply met_cons) <;> first | exact met_nil | assumption | (rw [nz_eq]; assumption) | (simp only [hc]; done))⟩
                | true =>
                  replace h:=dstep_2 hx3 hy3 h
                  obtain ⟨rfl,hc⟩:=q_some h
                  simp only [andB_true] at hc
                  exact ⟨rfl,rfl,leaf_ok (p_dot_2212 s0 s1 s2 s3 t0 t1 t2 t3 x0 x1 x2 x3 y0 y1 y2 y3) rfl (by (repeat' apply met_cons) <;> first | exact met_nil | assumption | (rw [nz_eq]; assumption) | (simp only [hc]; done))⟩
            | true =>
              replace h:=dstep_2 hx2 hy2 h
              cases hx3 : pos x3 with
              | false =>
                replace h:=dstep_0 hx3 h
                obtain ⟨rfl,hc⟩:=q_some h
                simp only [andB_true] at hc
                exact ⟨rfl,rfl,leaf_ok (p_dot_2220 s0 s1 s2 s3 t0 t1 t2 t3 x0 x1 x2 x3 y0 y1 y2 y3) rfl (by (repeat' apply met_cons) <;> first | exact met_nil | assumption | (rw [nz_eq]; assumption) | (simp only [hc]; done))⟩
              | true =>
                cases hy3 : pos y3 with
                | false =>
                  replace h:=dstep_1 hx3 hy3 h
                  obtain ⟨rfl,hc⟩:=q_some h
                  simp only [andB_true] at hc
                  exact ⟨rfl,rfl,leaf_ok (p_dot_2221 s0 s1 s2 s3 t0 t1 t2 t3 x0 x1 x2 x3 y0 y1 y2 y3) rfl (by (repeat' apply met_cons) <;> first | exact met_nil | assumption | (rw [nz_eq]; assumption) | (simp only [hc]; done))⟩
                | true =>
                  replace h:=dstep_2 hx3 hy3 h
                  obtain ⟨rfl,hc⟩:=q_some h
                  simp only [andB_true] at hc
                  exact ⟨rfl,rfl,leaf_ok (p_dot_2222 s0 s1 s2 s3 t0 t1 t2 t3 x0 x1 x2 x3 y0 y1 y2 y3) rfl (by (repeat' apply met_cons) <;> first | exact met_nil | assumption | (rw [nz_eq]; assumption) | (simp only [hc]; done))⟩
theorem all_ok1 : ∀ f,Ok Tryz.prog E1 f:=by
  intro f
  cases h : Nat.beq f 190 with
  | true => rw [Abs.beq_true.1 h]; exact ok_dot
  | false => exact ok_old f (by rw [h]; rfl)
end Go.Proofs.YtcgnkejpcjcaoaaGreat.num
