/- FUNCTIONS ON VECTORS, PLANES, ROWS of small numbers: what they answer, out of what the functions on numbers answer. Printed by a program (wip/vec/gen_vec.py). -/
import Derived.Test.YtagolmgljacneaaGreatDot
set_option linter.unusedSimpArgs false
set_option linter.unusedVariables false
set_option maxRecDepth 100000
namespace Go.Proofs.YtagolmgljacneaaGreat.num
noncomputable section
open Go.Abs
def arg4 {β:Type} (l:List AV) (k:AV→AV→AV→AV→Option β):Option β:=yz l fun a l=>yz l fun b l=>yz l fun c l=>yz l fun d l=>ut l (k a b c d)
theorem JA {β:Type} {l:List AV} {k:AV→AV→AV→AV→Option β} {y:β} (h:arg4 l k=some y):∃ a b c d,l=[a,b,c,d]∧k a b c d=some y:=by
  replace h:=zF h; obtain ⟨a,l1,rfl,h⟩:=h
  replace h:=zF h; obtain ⟨b,l1,rfl,h⟩:=h
  replace h:=zF h; obtain ⟨c,l1,rfl,h⟩:=h
  replace h:=zF h; obtain ⟨d,l1,rfl,h⟩:=h
  replace h:=yx h; obtain ⟨rfl,h⟩:=h
  exact ⟨a,b,c,d,rfl,h⟩
def eX (l:List AV):Q:=w4 l fun a=>vZ a fun s00 x00 d00 s01 x01 d01 s02 x02 d02 =>
  some (zg s00 x00 d00,true)
def eY (l:List AV):Q:=w4 l fun a=>vZ a fun s00 x00 d00 s01 x01 d01 s02 x02 d02 =>
  some (zg s01 x01 d01,true)
def eZ (l:List AV):Q:=w4 l fun a=>vZ a fun s00 x00 d00 s01 x01 d01 s02 x02 d02 =>
  some (zg s02 x02 d02,true)
def VZ (l:List AV):Q:=w4 l fun a=>vZ a fun s00 x00 d00 s01 x01 d01 s02 x02 d02 =>
  uZ ((E1 54) [zg s00 x00 d00]) fun z1 =>
  ifB (eqI z1 0) (uZ ((E1 54) [zg s01 x01 d01]) fun z2 =>
    ifB (eqI z2 0) (uZ ((E1 54) [zg s02 x02 d02]) fun z3 =>
      some (ze (eqI z3 0),true)) (some (ze false,true))) (some (ze false,true))
def zbC (l:List AV):Q:=xx l fun a b=>vZ a fun s00 x00 d00 s01 x01 d01 s02 x02 d02=>vZ b fun s10 x10 d10 s11 x11 d11 s12 x12 d12 =>
  yX ((E1 135) [zg s00 x00 d00,zg s10 x10 d10]) fun a1 n1 e1 =>
  yX ((E1 135) [zg s01 x01 d01,zg s11 x11 d11]) fun a2 n2 e2 =>
  yX ((E1 135) [zg s02 x02 d02,zg s12 x12 d12]) fun a3 n3 e3 =>
  some (.agg [ze a1,zd n1,zb,zd e1,zb,ze a2,zd n2,zb,zd e2,zb,ze a3,zd n3,zb,zd e3,zb],true)
def zbD (l:List AV):Q:=xx l fun a b=>vZ a fun s00 x00 d00 s01 x01 d01 s02 x02 d02=>vZ b fun s10 x10 d10 s11 x11 d11 s12 x12 d12 =>
  yX ((E1 100) [zg s00 x00 d00,zg s10 x10 d10]) fun a1 n1 e1 =>
  yX ((E1 100) [zg s01 x01 d01,zg s11 x11 d11]) fun a2 n2 e2 =>
  yX ((E1 100) [zg s02 x02 d02,zg s12 x12 d12]) fun a3 n3 e3 =>
  some (.agg [ze a1,zd n1,zb,zd e1,zb,ze a2,zd n2,zb,zd e2,zb,ze a3,zd n3,zb,zd e3,zb],true)
def Qk (l:List AV):Q:=xx l fun a b=>xO a fun s0 x0 d0=>vZ b fun s10 x10 d10 s11 x11 d11 s12 x12 d12 =>
  yX ((E1 136) [zg s0 x0 d0,zg s10 x10 d10]) fun a1 n1 e1 =>
  yX ((E1 136) [zg s0 x0 d0,zg s11 x11 d11]) fun a2 n2 e2 =>
  yX ((E1 136) [zg s0 x0 d0,zg s12 x12 d12]) fun a3 n3 e3 =>
  some (.agg [ze a1,zd n1,zb,zd e1,zb,ze a2,zd n2,zb,zd e2,zb,ze a3,zd n3,zb,zd e3,zb],true)
def V0 (l:List AV):Q:=xx l fun a b=>vZ a fun s00 x00 d00 s01 x01 d01 s02 x02 d02=>vZ b fun s10 x10 d10 s11 x11 d11 s12 x12 d12 =>
  yX ((E1 136) [zg s00 x00 d00,zg s10 x10 d10]) fun a1 n1 e1 =>
  yX ((E1 135) [zg false 0 0,zg a1 n1 e1]) fun a2 n2 e2 =>
  yX ((E1 136) [zg s01 x01 d01,zg s11 x11 d11]) fun a3 n3 e3 =>
  yX ((E1 135) [zg a2 n2 e2,zg a3 n3 e3]) fun a4 n4 e4 =>
  yX ((E1 136) [zg s02 x02 d02,zg s12 x12 d12]) fun a5 n5 e5 =>
  yX ((E1 135) [zg a4 n4 e4,zg a5 n5 e5]) fun a6 n6 e6 =>
  some (zg a6 n6 e6,true)
def zbE (l:List AV):Q:=xx l fun a b=>vZ a fun s00 x00 d00 s01 x01 d01 s02 x02 d02=>vZ b fun s10 x10 d10 s11 x11 d11 s12 x12 d12 =>
  uZ ((E1 154) [zg s00 x00 d00,zg s10 x10 d10]) fun z1 =>
  ifB (notB (eqI z1 0)) (some (zt z1,true)) (uZ ((E1 154) [zg s01 x01 d01,zg s11 x11 d11]) fun z2 =>
    ifB (notB (eqI z2 0)) (some (zt z2,true)) (uZ ((E1 154) [zg s02 x02 d02,zg s12 x12 d12]) fun z3 =>
      ifB (notB (eqI z3 0)) (some (zt z3,true)) (some (zt (.ofNat 0),true))))
def uM (l:List AV):Q:=w4 l fun a=>qs a fun s00 x00 d00 s01 x01 d01 s02 x02 d02 s03 x03 d03 =>
  zel (VZ [.agg [ze s00,zd x00,zb,zd d00,zb,ze s01,zd x01,zb,zd d01,zb,ze s02,zd x02,zb,zd d02,zb]]) fun c1 =>
  ifB c1 (none) (some (.agg [ze s00,zd x00,zb,zd d00,zb,ze s01,zd x01,zb,zd d01,zb,ze s02,zd x02,zb,zd d02,zb],true))
def qX (l:List AV):Q:=w4 l fun a=>qs a fun s00 x00 d00 s01 x01 d01 s02 x02 d02 s03 x03 d03 =>
  QZ (uM [.agg [ze s00,zd x00,zb,zd d00,zb,ze s01,zd x01,zb,zd d01,zb,ze s02,zd x02,zb,zd d02,zb,ze s03,zd x03,zb,zd d03,zb]]) fun a1 n1 e1 a2 n2 e2 a3 n3 e3 =>
  some (.agg [ze a1,zd n1,zb,zd e1,zb,ze a2,zd n2,zb,zd e2,zb,ze a3,zd n3,zb,zd e3,zb],true)
def qY (l:List AV):Q:=w4 l fun a=>qs a fun s00 x00 d00 s01 x01 d01 s02 x02 d02 s03 x03 d03 =>
  some (zg s03 x03 d03,true)
def eAt (l:List AV):Q:=xx l fun a b=>qs a fun s00 x00 d00 s01 x01 d01 s02 x02 d02 s03 x03 d03=>vZ b fun s10 x10 d10 s11 x11 d11 s12 x12 d12 =>
  QZ (uM [.agg [ze s00,zd x00,zb,zd d00,zb,ze s01,zd x01,zb,zd d01,zb,ze s02,zd x02,zb,zd d02,zb,ze s03,zd x03,zb,zd d03,zb]]) fun a1 n1 e1 a2 n2 e2 a3 n3 e3 =>
  yX (V0 [.agg [ze a1,zd n1,zb,zd e1,zb,ze a2,zd n2,zb,zd e2,zb,ze a3,zd n3,zb,zd e3,zb],.agg [ze s10,zd x10,zb,zd d10,zb,ze s11,zd x11,zb,zd d11,zb,ze s12,zd x12,zb,zd d12,zb]]) fun a4 n4 e4 =>
  yX ((E1 100) [zg a4 n4 e4,zg s03 x03 d03]) fun a5 n5 e5 =>
  some (zg a5 n5 e5,true)
def zbF (l:List AV):Q:=xx l fun a b=>qs a fun s00 x00 d00 s01 x01 d01 s02 x02 d02 s03 x03 d03=>vZ b fun s10 x10 d10 s11 x11 d11 s12 x12 d12 =>
  yX (eAt [.agg [ze s00,zd x00,zb,zd d00,zb,ze s01,zd x01,zb,zd d01,zb,ze s02,zd x02,zb,zd d02,zb,ze s03,zd x03,zb,zd d03,zb],.agg [ze s10,zd x10,zb,zd d10,zb,ze s11,zd x11,zb,zd d11,zb,ze s12,zd x12,zb,zd d12,zb]]) fun a1 n1 e1 =>
  uZ ((E1 54) [zg a1 n1 e1]) fun z2 =>
  some (zt z2,true)
def zfK (l:List AV):Q:=w4 l fun a=>qs a fun s00 x00 d00 s01 x01 d01 s02 x02 d02 s03 x03 d03 =>
  QZ (qX [.agg [ze s00,zd x00,zb,zd d00,zb,ze s01,zd x01,zb,zd d01,zb,ze s02,zd x02,zb,zd d02,zb,ze s03,zd x03,zb,zd d03,zb]]) fun a1 n1 e1 a2 n2 e2 a3 n3 e3 =>
  yX (eX [.agg [ze a1,zd n1,zb,zd e1,zb,ze a2,zd n2,zb,zd e2,zb,ze a3,zd n3,zb,zd e3,zb]]) fun a4 n4 e4 =>
  yq ((E1 28) [zg a4 n4 e4]) fun a5 n5 =>
  yX (eY [.agg [ze a1,zd n1,zb,zd e1,zb,ze a2,zd n2,zb,zd e2,zb,ze a3,zd n3,zb,zd e3,zb]]) fun a6 n6 e6 =>
  yq ((E1 28) [zg a6 n6 e6]) fun a7 n7 =>
  yX (eZ [.agg [ze a1,zd n1,zb,zd e1,zb,ze a2,zd n2,zb,zd e2,zb,ze a3,zd n3,zb,zd e3,zb]]) fun a8 n8 e8 =>
  yq ((E1 28) [zg a8 n8 e8]) fun a9 n9 =>
  yX (qY [.agg [ze s00,zd x00,zb,zd d00,zb,ze s01,zd x01,zb,zd d01,zb,ze s02,zd x02,zb,zd d02,zb,ze s03,zd x03,zb,zd d03,zb]]) fun a10 n10 e10 =>
  yq ((E1 28) [zg a10 n10 e10]) fun a11 n11 =>
  yq ((E1 32) [zh a11 n11]) fun a12 n12 =>
  some (.agg [ze a5,zd n5,zb,ze a7,zd n7,zb,ze a9,zd n9,zb,ze a12,zd n12,zb],true)
def zfL (l:List AV):Q:=arg4 l fun a b c d=>yT a fun s0 x0=>W4 b fun s10 x10 s11 x11 s12 x12 s13 x13=>yT c fun s2 x2=>W4 d fun s30 x30 s31 x31 s32 x32 s33 x33 =>
  yq ((E1 27) [zh s0 x0,zh s10 x10]) fun a1 n1 =>
  yq ((E1 27) [zh s2 x2,zh s30 x30]) fun a2 n2 =>
  yq ((E1 164) [zh a1 n1,zh a2 n2]) fun a3 n3 =>
  yq ((E1 27) [zh s0 x0,zh s11 x11]) fun a4 n4 =>
  yq ((E1 27) [zh s2 x2,zh s31 x31]) fun a5 n5 =>
  yq ((E1 164) [zh a4 n4,zh a5 n5]) fun a6 n6 =>
  yq ((E1 27) [zh s0 x0,zh s12 x12]) fun a7 n7 =>
  yq ((E1 27) [zh s2 x2,zh s32 x32]) fun a8 n8 =>
  yq ((E1 164) [zh a7 n7,zh a8 n8]) fun a9 n9 =>
  yq ((E1 27) [zh s0 x0,zh s13 x13]) fun a10 n10 =>
  yq ((E1 27) [zh s2 x2,zh s33 x33]) fun a11 n11 =>
  yq ((E1 164) [zh a10 n10,zh a11 n11]) fun a12 n12 =>
  xa ((E1 25) [zn 0,zn n3]) fun n13 =>
  xa ((E1 25) [zn n13,zn n6]) fun n14 =>
  xa ((E1 25) [zn n14,zn n9]) fun n15 =>
  xa ((E1 25) [zn n15,zn n12]) fun n16 =>
  vf ((E1 23) [zn n3,zn n16]) fun n17 n18 =>
  yq ((E1 29) [ze a3,zn n17]) fun a19 n19 =>
  vf ((E1 23) [zn n6,zn n16]) fun n20 n21 =>
  yq ((E1 29) [ze a6,zn n20]) fun a22 n22 =>
  vf ((E1 23) [zn n9,zn n16]) fun n23 n24 =>
  yq ((E1 29) [ze a9,zn n23]) fun a25 n25 =>
  vf ((E1 23) [zn n12,zn n16]) fun n26 n27 =>
  yq ((E1 29) [ze a12,zn n26]) fun a28 n28 =>
  some (.agg [ze a19,zd n19,zb,ze a22,zd n22,zb,ze a25,zd n25,zb,ze a28,zd n28,zb],true)
def qv (l:List AV):Q:=w4 l fun a=>vZ a fun s00 x00 d00 s01 x01 d01 s02 x02 d02 =>
  xa ((E1 22) [zd 1]) fun n1 =>
  xa ((E1 24) [zg s00 x00 d00]) fun n2 =>
  xa ((E1 24) [zg s00 x00 d00]) fun n3 =>
  xa ((E1 25) [zn n1,zn n3]) fun n4 =>
  vf ((E1 23) [zn n2,zn n4]) fun n5 n6 =>
  xa ((E1 26) [zn n1,zn n5]) fun n7 =>
  xa ((E1 24) [zg s01 x01 d01]) fun n8 =>
  xa ((E1 24) [zg s01 x01 d01]) fun n9 =>
  xa ((E1 25) [zn n7,zn n9]) fun n10 =>
  vf ((E1 23) [zn n8,zn n10]) fun n11 n12 =>
  xa ((E1 26) [zn n7,zn n11]) fun n13 =>
  xa ((E1 24) [zg s02 x02 d02]) fun n14 =>
  xa ((E1 24) [zg s02 x02 d02]) fun n15 =>
  xa ((E1 25) [zn n13,zn n15]) fun n16 =>
  vf ((E1 23) [zn n14,zn n16]) fun n17 n18 =>
  xa ((E1 26) [zn n13,zn n17]) fun n19 =>
  xa ((E1 24) [zg s00 x00 d00]) fun n20 =>
  vf ((E1 23) [zn n19,zn n20]) fun n21 n22 =>
  yq ((E1 28) [zg s00 x00 d00]) fun a23 n23 =>
  yq ((E1 29) [ze false,zn n21]) fun a24 n24 =>
  yq ((E1 27) [zh a23 n23,zh a24 n24]) fun a25 n25 =>
  xa ((E1 24) [zg s01 x01 d01]) fun n26 =>
  vf ((E1 23) [zn n19,zn n26]) fun n27 n28 =>
  yq ((E1 28) [zg s01 x01 d01]) fun a29 n29 =>
  yq ((E1 29) [ze false,zn n27]) fun a30 n30 =>
  yq ((E1 27) [zh a29 n29,zh a30 n30]) fun a31 n31 =>
  xa ((E1 24) [zg s02 x02 d02]) fun n32 =>
  vf ((E1 23) [zn n19,zn n32]) fun n33 n34 =>
  yq ((E1 28) [zg s02 x02 d02]) fun a35 n35 =>
  yq ((E1 29) [ze false,zn n33]) fun a36 n36 =>
  yq ((E1 27) [zh a35 n35,zh a36 n36]) fun a37 n37 =>
  xa ((E1 25) [zn 0,zn n25]) fun n38 =>
  xa ((E1 25) [zn n38,zn n31]) fun n39 =>
  xa ((E1 25) [zn n39,zn n37]) fun n40 =>
  vf ((E1 23) [zn n25,zn n40]) fun n41 n42 =>
  yq ((E1 29) [ze a25,zn n41]) fun a43 n43 =>
  vf ((E1 23) [zn n31,zn n40]) fun n44 n45 =>
  yq ((E1 29) [ze a31,zn n44]) fun a46 n46 =>
  vf ((E1 23) [zn n37,zn n40]) fun n47 n48 =>
  yq ((E1 29) [ze a37,zn n47]) fun a49 n49 =>
  yX ((E1 34) [zh a43 n43]) fun a50 n50 e50 =>
  yX ((E1 34) [zh a46 n46]) fun a51 n51 e51 =>
  yX ((E1 34) [zh a49 n49]) fun a52 n52 e52 =>
  some (.agg [ze a50,zd n50,zb,zd e50,zb,ze a51,zd n51,zb,zd e51,zb,ze a52,zd n52,zb,zd e52,zb],true)
def tblV:T (List AV→Q):=
  T.set 149 qv <|
  T.set 167 zfL <|
  T.set 137 zfK <|
  T.set 38 zbF <|
  T.set 70 eAt <|
  T.set 165 qY <|
  T.set 143 qX <|
  T.set 102 uM <|
  T.set 146 zbE <|
  T.set 101 V0 <|
  T.set 130 Qk <|
  T.set 156 zbD <|
  T.set 127 zbC <|
  T.set 18 VZ <|
  T.set 21 eZ <|
  T.set 20 eY <|
  T.set 19 eX <|
  T.nil
def E2:Es:=fun f l=>elimO (T.get tblV f) (E1 f l) fun g=>g l
abbrev yH:List Nat:=[149,167,137,38,70,165,143,102,146,101,130,156,127,18,21,20,19]
abbrev zbG:List (Nat×(List AV→Q)):=[(149,qv),(167,zfL),(137,zfK),(38,zbF),(70,eAt),(165,qY),(143,qX),(102,uM),(146,zbE),(101,V0),(130,Qk),(156,zbD),(127,zbC),(18,VZ),(21,eZ),(20,eY),(19,eX)]
theorem zdJ:tblV=W1 zbG:=rfl
theorem zfM {g:Nat} (h:memN g yH=false) (l:List AV):E2 g l=E1 g l:=by
  unfold E2
  rw [zdJ,qr (l:=zbG) h]
  rfl
theorem zfN:∀ g,notB (memN g yH)=true→Ok Tryz.prog E2 g:=fun g h l v hv=>by
  rw [zfM (Zy.1 h)] at hv
  exact zdI g l v hv
def SV (prev:List Nat):Es:=only (fun g=>orB (notB (memN g yH)) (memN g prev)) E2
theorem zD {prev:List Nat} {g:Nat} {l:List AV} {q:AV×Bool} (hg:orB (notB (memN g yH)) (memN g prev)=true) (h:E2 g l=some q):SV prev g l=some q:=by
  show zm (orB (notB (memN g yH)) (memN g prev)) (E2 g l)=_
  rw [hg]; exact h
theorem yI {prev:List Nat} {f:Nat} (h:∀ g,orB (notB (memN g yH)) (memN g prev)=true→Ok Tryz.prog E2 g) (hf:Ok Tryz.prog E2 f):∀ g,orB (notB (memN g yH)) (memN g (f::prev))=true→Ok Tryz.prog E2 g:=fun g hg=>by
  cases e:Nat.beq g f with
  | true=>rw [Abs.beq_true.1 e]; exact hf
  |
    false =>
    refine h g ?_
    have e2:memN g (f::prev)=memN g prev:=by show ifB (Nat.beq g f) true (memN g prev)=_; rw [e]; rfl
    rw [e2] at hg; exact hg
theorem V1:∀ g,orB (notB (memN g yH)) (memN g [])=true→Ok Tryz.prog E2 g:=fun g hg=>zfN g (by cases h:notB (memN g yH) with | true=>rfl | false=>rw [h] at hg; exact hg)
theorem vV (l:List AV):E2 54 l=(E1 54) l:=by kernel_rfl
theorem kO (l:List AV):E2 135 l=(E1 135) l:=by kernel_rfl
theorem XZ (l:List AV):E2 100 l=(E1 100) l:=by kernel_rfl
theorem kP (l:List AV):E2 136 l=(E1 136) l:=by kernel_rfl
theorem vW (l:List AV):E2 154 l=(E1 154) l:=by kernel_rfl
theorem zfO (l:List AV):E2 18 l=VZ l:=by kernel_rfl
theorem V2 (l:List AV):E2 102 l=uM l:=by kernel_rfl
theorem zfP (l:List AV):E2 101 l=V0 l:=by kernel_rfl
theorem q_At (l:List AV):E2 70 l=eAt l:=by kernel_rfl
theorem zbH (l:List AV):E2 143 l=qX l:=by kernel_rfl
theorem q_X (l:List AV):E2 19 l=eX l:=by kernel_rfl
theorem ZE (l:List AV):E2 28 l=(E1 28) l:=by kernel_rfl
theorem q_Y (l:List AV):E2 20 l=eY l:=by kernel_rfl
theorem q_Z (l:List AV):E2 21 l=eZ l:=by kernel_rfl
theorem zbI (l:List AV):E2 165 l=qY l:=by kernel_rfl
theorem zfQ (l:List AV):E2 32 l=(E1 32) l:=by kernel_rfl
theorem w6 (l:List AV):E2 27 l=(E1 27) l:=by kernel_rfl
theorem X3 (l:List AV):E2 164 l=(E1 164) l:=by kernel_rfl
theorem u6 (l:List AV):E2 25 l=(E1 25) l:=by kernel_rfl
theorem wi (l:List AV):E2 23 l=(E1 23) l:=by kernel_rfl
theorem wo (l:List AV):E2 29 l=(E1 29) l:=by kernel_rfl
theorem zdK (l:List AV):E2 22 l=(E1 22) l:=by kernel_rfl
theorem qZ (l:List AV):E2 24 l=(E1 24) l:=by kernel_rfl
theorem Ql (l:List AV):E2 26 l=(E1 26) l:=by kernel_rfl
theorem zbJ (l:List AV):E2 34 l=(E1 34) l:=by kernel_rfl
abbrev SX:Es:=SV []
theorem p_X_0 (s00 s01 s02:Bool) (x00 d00 x01 d01 x02 d02:Nat):symCall (cxOf Tryz.prog SX) SX 100 19 [.agg [ze s00,zd x00,zb,zd d00,zb,ze s01,zd x01,zb,zd d01,zb,ze s02,zd x02,zb,zd d02,zb]] []=some (.value (zg s00 x00 d00) (some []),[],[]):=by kernel_rfl
theorem ok_X:Ok Tryz.prog E2 19:=zM (S:=fun g=>orB (notB (memN g yH)) (memN g [])) mixed V1 (by kernel_rfl) fun l v h=>by
  have e:E2 19 l=eX l:=by kernel_rfl
  rw [e] at h
  replace h:=z0 h; obtain ⟨a,rfl,h⟩:=h
  replace h:=yg h; obtain ⟨s00,x00,d00,s01,x01,d01,s02,x02,d02,rfl,h⟩:=h
  obtain ⟨rfl,_⟩:=zB h
  exact ⟨rfl,rfl,yi (p_X_0 s00 s01 s02 x00 d00 x01 d01 x02 d02) rfl met_nil⟩
theorem al_X:∀ g,orB (notB (memN g yH)) (memN g [19])=true→Ok Tryz.prog E2 g:=yI V1 ok_X
abbrev SY:Es:=SV [19]
theorem p_Y_0 (s00 s01 s02:Bool) (x00 d00 x01 d01 x02 d02:Nat):symCall (cxOf Tryz.prog SY) SY 100 20 [.agg [ze s00,zd x00,zb,zd d00,zb,ze s01,zd x01,zb,zd d01,zb,ze s02,zd x02,zb,zd d02,zb]] []=some (.value (zg s01 x01 d01) (some []),[],[]):=by kernel_rfl
theorem ok_Y:Ok Tryz.prog E2 20:=zM (S:=fun g=>orB (notB (memN g yH)) (memN g [19])) mixed al_X (by kernel_rfl) fun l v h=>by
  have e:E2 20 l=eY l:=by kernel_rfl
  rw [e] at h
  replace h:=z0 h; obtain ⟨a,rfl,h⟩:=h
  replace h:=yg h; obtain ⟨s00,x00,d00,s01,x01,d01,s02,x02,d02,rfl,h⟩:=h
  obtain ⟨rfl,_⟩:=zB h
  exact ⟨rfl,rfl,yi (p_Y_0 s00 s01 s02 x00 d00 x01 d01 x02 d02) rfl met_nil⟩
theorem al_Y:∀ g,orB (notB (memN g yH)) (memN g [20,19])=true→Ok Tryz.prog E2 g:=yI al_X ok_Y
abbrev SZ:Es:=SV [20,19]
theorem p_Z_0 (s00 s01 s02:Bool) (x00 d00 x01 d01 x02 d02:Nat):symCall (cxOf Tryz.prog SZ) SZ 100 21 [.agg [ze s00,zd x00,zb,zd d00,zb,ze s01,zd x01,zb,zd d01,zb,ze s02,zd x02,zb,zd d02,zb]] []=some (.value (zg s02 x02 d02) (some []),[],[]):=by kernel_rfl
theorem ok_Z:Ok Tryz.prog E2 21:=zM (S:=fun g=>orB (notB (memN g yH)) (memN g [20,19])) mixed al_Y (by kernel_rfl) fun l v h=>by
  have e:E2 21 l=eZ l:=by kernel_rfl
  rw [e] at h
  replace h:=z0 h; obtain ⟨a,rfl,h⟩:=h
  replace h:=yg h; obtain ⟨s00,x00,d00,s01,x01,d01,s02,x02,d02,rfl,h⟩:=h
  obtain ⟨rfl,_⟩:=zB h
  exact ⟨rfl,rfl,yi (p_Z_0 s00 s01 s02 x00 d00 x01 d01 x02 d02) rfl met_nil⟩
theorem al_Z:∀ g,orB (notB (memN g yH)) (memN g [21,20,19])=true→Ok Tryz.prog E2 g:=yI al_Y ok_Z
abbrev vX:Es:=SV [21,20,19]
theorem zbK (s00 s01 s02:Bool) (x00 d00 x01 d01 x02 d02:Nat) (z1 z2 z3:Int):symCall (cxOf Tryz.prog vX) vX 100 18 [.agg [ze s00,zd x00,zb,zd d00,zb,ze s01,zd x01,zb,zd d01,zb,ze s02,zd x02,zb,zd d02,zb]] [.r 54 (zt z1),.t,.t,.t,.t,.r 54 (zt z2),.t,.t,.t,.t,.t,.t,.r 54 (zt z3),.t,.t]=some (.value (ze (eqI z3 0)) (some []),[],((eqI z2 0),true)::((eqI z2 0),true)::(zo (vX 54 [zg s02 x02 d02]=some (zt z3,true)),true)::((eqI z2 0),true)::((eqI z2 0),true)::((eqI z2 0),true)::((eqI z2 0),true)::((eqI z1 0),true)::((eqI z1 0),true)::(zo (vX 54 [zg s01 x01 d01]=some (zt z2,true)),true)::((eqI z1 0),true)::((eqI z1 0),true)::((eqI z1 0),true)::((eqI z1 0),true)::(zo (vX 54 [zg s00 x00 d00]=some (zt z1,true)),true)::[]):=by kernel_rfl
theorem zbL (s00 s01 s02:Bool) (x00 d00 x01 d01 x02 d02:Nat) (z1 z2:Int):symCall (cxOf Tryz.prog vX) vX 100 18 [.agg [ze s00,zd x00,zb,zd d00,zb,ze s01,zd x01,zb,zd d01,zb,ze s02,zd x02,zb,zd d02,zb]] [.r 54 (zt z1),.t,.t,.t,.t,.r 54 (zt z2),.t,.t,.f,.f,.f,.f,.f,.f]=some (.value (ze false) (some []),[],((eqI z2 0),false)::((eqI z2 0),false)::((eqI z2 0),false)::((eqI z2 0),false)::((eqI z2 0),false)::((eqI z2 0),false)::((eqI z1 0),true)::((eqI z1 0),true)::(zo (vX 54 [zg s01 x01 d01]=some (zt z2,true)),true)::((eqI z1 0),true)::((eqI z1 0),true)::((eqI z1 0),true)::((eqI z1 0),true)::(zo (vX 54 [zg s00 x00 d00]=some (zt z1,true)),true)::[]):=by kernel_rfl
theorem zbM (s00 s01 s02:Bool) (x00 d00 x01 d01 x02 d02:Nat) (z1:Int):symCall (cxOf Tryz.prog vX) vX 100 18 [.agg [ze s00,zd x00,zb,zd d00,zb,ze s01,zd x01,zb,zd d01,zb,ze s02,zd x02,zb,zd d02,zb]] [.r 54 (zt z1),.f,.f,.f,.f,.f,.f]=some (.value (ze false) (some []),[],((eqI z1 0),false)::((eqI z1 0),false)::((eqI z1 0),false)::((eqI z1 0),false)::((eqI z1 0),false)::((eqI z1 0),false)::(zo (vX 54 [zg s00 x00 d00]=some (zt z1,true)),true)::[]):=by kernel_rfl
theorem zdL:Ok Tryz.prog E2 18:=zM (S:=fun g=>orB (notB (memN g yH)) (memN g [21,20,19])) mixed al_Z (by kernel_rfl) fun l v h=>by
  have e:E2 18 l=VZ l:=by kernel_rfl
  rw [e] at h
  replace h:=z0 h; obtain ⟨a,rfl,h⟩:=h
  replace h:=yg h; obtain ⟨s00,x00,d00,s01,x01,d01,s02,x02,d02,rfl,h⟩:=h
  replace h:=y5 h; obtain ⟨z1,hq1,h⟩:=h
  cases hc2:(eqI z1 0) with
  |
    true =>
    rw [hc2,ifB_true] at h
    replace h:=y5 h; obtain ⟨z2,hq3,h⟩:=h
    cases hc4:(eqI z2 0) with
    |
      true =>
      rw [hc4,ifB_true] at h
      replace h:=y5 h; obtain ⟨z3,hq5,h⟩:=h
      obtain ⟨rfl,_⟩:=zB h
      exact ⟨rfl,rfl,yi (zbK s00 s01 s02 x00 d00 x01 d01 x02 d02 z1 z2 z3) rfl (met_cons (hc4) (met_cons (hc4) (met_cons (zj.2 (zD (by kernel_rfl) ((vV _).trans hq5))) (met_cons (hc4) (met_cons (hc4) (met_cons (hc4) (met_cons (hc4) (met_cons (hc2) (met_cons (hc2) (met_cons (zj.2 (zD (by kernel_rfl) ((vV _).trans hq3))) (met_cons (hc2) (met_cons (hc2) (met_cons (hc2) (met_cons (hc2) (met_cons (zj.2 (zD (by kernel_rfl) ((vV _).trans hq1))) met_nil)))))))))))))))⟩
    |
      false =>
      rw [hc4,zk] at h
      obtain ⟨rfl,_⟩:=zB h
      exact ⟨rfl,rfl,yi (zbL s00 s01 s02 x00 d00 x01 d01 x02 d02 z1 z2) rfl (met_cons (hc4) (met_cons (hc4) (met_cons (hc4) (met_cons (hc4) (met_cons (hc4) (met_cons (hc4) (met_cons (hc2) (met_cons (hc2) (met_cons (zj.2 (zD (by kernel_rfl) ((vV _).trans hq3))) (met_cons (hc2) (met_cons (hc2) (met_cons (hc2) (met_cons (hc2) (met_cons (zj.2 (zD (by kernel_rfl) ((vV _).trans hq1))) met_nil))))))))))))))⟩
  |
    false =>
    rw [hc2,zk] at h
    obtain ⟨rfl,_⟩:=zB h
    exact ⟨rfl,rfl,yi (zbM s00 s01 s02 x00 d00 x01 d01 x02 d02 z1) rfl (met_cons (hc2) (met_cons (hc2) (met_cons (hc2) (met_cons (hc2) (met_cons (hc2) (met_cons (hc2) (met_cons (zj.2 (zD (by kernel_rfl) ((vV _).trans hq1))) met_nil)))))))⟩
theorem Kt:∀ g,orB (notB (memN g yH)) (memN g [18,21,20,19])=true→Ok Tryz.prog E2 g:=yI al_Z zdL
abbrev V3:Es:=SV [18,21,20,19]
theorem zbN (s00 s01 s02 s10 s11 s12 a1 a2 a3:Bool) (x00 d00 x01 d01 x02 d02 x10 d10 x11 d11 x12 d12 n1 e1 n2 e2 n3 e3:Nat):symCall (cxOf Tryz.prog V3) V3 100 127 [.agg [ze s00,zd x00,zb,zd d00,zb,ze s01,zd x01,zb,zd d01,zb,ze s02,zd x02,zb,zd d02,zb],.agg [ze s10,zd x10,zb,zd d10,zb,ze s11,zd x11,zb,zd d11,zb,ze s12,zd x12,zb,zd d12,zb]] [.r 135 (zg a1 n1 e1),.r 135 (zg a2 n2 e2),.r 135 (zg a3 n3 e3)]=some (.value (.agg [ze a1,zd n1,zb,zd e1,zb,ze a2,zd n2,zb,zd e2,zb,ze a3,zd n3,zb,zd e3,zb]) (some []),[],(zo (V3 135 [zg s02 x02 d02,zg s12 x12 d12]=some (zg a3 n3 e3,true)),true)::(zo (V3 135 [zg s01 x01 d01,zg s11 x11 d11]=some (zg a2 n2 e2,true)),true)::(zo (V3 135 [zg s00 x00 d00,zg s10 x10 d10]=some (zg a1 n1 e1,true)),true)::[]):=by kernel_rfl
theorem zdM:Ok Tryz.prog E2 127:=zM (S:=fun g=>orB (notB (memN g yH)) (memN g [18,21,20,19])) mixed Kt (by kernel_rfl) fun l v h=>by
  have e:E2 127 l=zbC l:=by kernel_rfl
  rw [e] at h
  replace h:=zE h; obtain ⟨a,b,rfl,h⟩:=h
  replace h:=yg h; obtain ⟨s00,x00,d00,s01,x01,d01,s02,x02,d02,rfl,h⟩:=h
  replace h:=yg h; obtain ⟨s10,x10,d10,s11,x11,d11,s12,x12,d12,rfl,h⟩:=h
  replace h:=zJ h; obtain ⟨a1,n1,e1,hq6,h⟩:=h
  replace h:=zJ h; obtain ⟨a2,n2,e2,hq7,h⟩:=h
  replace h:=zJ h; obtain ⟨a3,n3,e3,hq8,h⟩:=h
  obtain ⟨rfl,_⟩:=zB h
  exact ⟨rfl,rfl,yi (zbN s00 s01 s02 s10 s11 s12 a1 a2 a3 x00 d00 x01 d01 x02 d02 x10 d10 x11 d11 x12 d12 n1 e1 n2 e2 n3 e3) rfl (met_cons (zj.2 (zD (by kernel_rfl) ((kO _).trans hq8))) (met_cons (zj.2 (zD (by kernel_rfl) ((kO _).trans hq7))) (met_cons (zj.2 (zD (by kernel_rfl) ((kO _).trans hq6))) met_nil)))⟩
theorem Ku:∀ g,orB (notB (memN g yH)) (memN g [127,18,21,20,19])=true→Ok Tryz.prog E2 g:=yI Kt zdM
abbrev V4:Es:=SV [127,18,21,20,19]
theorem zbO (s00 s01 s02 s10 s11 s12 a1 a2 a3:Bool) (x00 d00 x01 d01 x02 d02 x10 d10 x11 d11 x12 d12 n1 e1 n2 e2 n3 e3:Nat):symCall (cxOf Tryz.prog V4) V4 100 156 [.agg [ze s00,zd x00,zb,zd d00,zb,ze s01,zd x01,zb,zd d01,zb,ze s02,zd x02,zb,zd d02,zb],.agg [ze s10,zd x10,zb,zd d10,zb,ze s11,zd x11,zb,zd d11,zb,ze s12,zd x12,zb,zd d12,zb]] [.r 100 (zg a1 n1 e1),.r 100 (zg a2 n2 e2),.r 100 (zg a3 n3 e3)]=some (.value (.agg [ze a1,zd n1,zb,zd e1,zb,ze a2,zd n2,zb,zd e2,zb,ze a3,zd n3,zb,zd e3,zb]) (some []),[],(zo (V4 100 [zg s02 x02 d02,zg s12 x12 d12]=some (zg a3 n3 e3,true)),true)::(zo (V4 100 [zg s01 x01 d01,zg s11 x11 d11]=some (zg a2 n2 e2,true)),true)::(zo (V4 100 [zg s00 x00 d00,zg s10 x10 d10]=some (zg a1 n1 e1,true)),true)::[]):=by kernel_rfl
theorem zdN:Ok Tryz.prog E2 156:=zM (S:=fun g=>orB (notB (memN g yH)) (memN g [127,18,21,20,19])) mixed Ku (by kernel_rfl) fun l v h=>by
  have e:E2 156 l=zbD l:=by kernel_rfl
  rw [e] at h
  replace h:=zE h; obtain ⟨a,b,rfl,h⟩:=h
  replace h:=yg h; obtain ⟨s00,x00,d00,s01,x01,d01,s02,x02,d02,rfl,h⟩:=h
  replace h:=yg h; obtain ⟨s10,x10,d10,s11,x11,d11,s12,x12,d12,rfl,h⟩:=h
  replace h:=zJ h; obtain ⟨a1,n1,e1,hq9,h⟩:=h
  replace h:=zJ h; obtain ⟨a2,n2,e2,hq10,h⟩:=h
  replace h:=zJ h; obtain ⟨a3,n3,e3,hq11,h⟩:=h
  obtain ⟨rfl,_⟩:=zB h
  exact ⟨rfl,rfl,yi (zbO s00 s01 s02 s10 s11 s12 a1 a2 a3 x00 d00 x01 d01 x02 d02 x10 d10 x11 d11 x12 d12 n1 e1 n2 e2 n3 e3) rfl (met_cons (zj.2 (zD (by kernel_rfl) ((XZ _).trans hq11))) (met_cons (zj.2 (zD (by kernel_rfl) ((XZ _).trans hq10))) (met_cons (zj.2 (zD (by kernel_rfl) ((XZ _).trans hq9))) met_nil)))⟩
theorem Kv:∀ g,orB (notB (memN g yH)) (memN g [156,127,18,21,20,19])=true→Ok Tryz.prog E2 g:=yI Ku zdN
abbrev ZF:Es:=SV [156,127,18,21,20,19]
theorem JB (s0 s10 s11 s12 a1 a2 a3:Bool) (x0 d0 x10 d10 x11 d11 x12 d12 n1 e1 n2 e2 n3 e3:Nat):symCall (cxOf Tryz.prog ZF) ZF 100 130 [zg s0 x0 d0,.agg [ze s10,zd x10,zb,zd d10,zb,ze s11,zd x11,zb,zd d11,zb,ze s12,zd x12,zb,zd d12,zb]] [.r 136 (zg a1 n1 e1),.r 136 (zg a2 n2 e2),.r 136 (zg a3 n3 e3)]=some (.value (.agg [ze a1,zd n1,zb,zd e1,zb,ze a2,zd n2,zb,zd e2,zb,ze a3,zd n3,zb,zd e3,zb]) (some []),[],(zo (ZF 136 [zg s0 x0 d0,zg s12 x12 d12]=some (zg a3 n3 e3,true)),true)::(zo (ZF 136 [zg s0 x0 d0,zg s11 x11 d11]=some (zg a2 n2 e2,true)),true)::(zo (ZF 136 [zg s0 x0 d0,zg s10 x10 d10]=some (zg a1 n1 e1,true)),true)::[]):=by kernel_rfl
theorem zbP:Ok Tryz.prog E2 130:=zM (S:=fun g=>orB (notB (memN g yH)) (memN g [156,127,18,21,20,19])) mixed Kv (by kernel_rfl) fun l v h=>by
  have e:E2 130 l=Qk l:=by kernel_rfl
  rw [e] at h
  replace h:=zE h; obtain ⟨a,b,rfl,h⟩:=h
  replace h:=yb h; obtain ⟨s0,x0,d0,rfl,h⟩:=h
  replace h:=yg h; obtain ⟨s10,x10,d10,s11,x11,d11,s12,x12,d12,rfl,h⟩:=h
  replace h:=zJ h; obtain ⟨a1,n1,e1,hq12,h⟩:=h
  replace h:=zJ h; obtain ⟨a2,n2,e2,hq13,h⟩:=h
  replace h:=zJ h; obtain ⟨a3,n3,e3,hq14,h⟩:=h
  obtain ⟨rfl,_⟩:=zB h
  exact ⟨rfl,rfl,yi (JB s0 s10 s11 s12 a1 a2 a3 x0 d0 x10 d10 x11 d11 x12 d12 n1 e1 n2 e2 n3 e3) rfl (met_cons (zj.2 (zD (by kernel_rfl) ((kP _).trans hq14))) (met_cons (zj.2 (zD (by kernel_rfl) ((kP _).trans hq13))) (met_cons (zj.2 (zD (by kernel_rfl) ((kP _).trans hq12))) met_nil)))⟩
theorem V5:∀ g,orB (notB (memN g yH)) (memN g [130,156,127,18,21,20,19])=true→Ok Tryz.prog E2 g:=yI Kv zbP
abbrev jg:Es:=SV [130,156,127,18,21,20,19]
theorem zbQ (s00 s01 s02 s10 s11 s12 a1 a2 a3 a4 a5 a6:Bool) (x00 d00 x01 d01 x02 d02 x10 d10 x11 d11 x12 d12 n1 e1 n2 e2 n3 e3 n4 e4 n5 e5 n6 e6:Nat):symCall (cxOf Tryz.prog jg) jg 100 101 [.agg [ze s00,zd x00,zb,zd d00,zb,ze s01,zd x01,zb,zd d01,zb,ze s02,zd x02,zb,zd d02,zb],.agg [ze s10,zd x10,zb,zd d10,zb,ze s11,zd x11,zb,zd d11,zb,ze s12,zd x12,zb,zd d12,zb]] [.r 136 (zg a1 n1 e1),.r 135 (zg a2 n2 e2),.r 136 (zg a3 n3 e3),.r 135 (zg a4 n4 e4),.r 136 (zg a5 n5 e5),.r 135 (zg a6 n6 e6)]=some (.value (zg a6 n6 e6) (some []),[],(zo (jg 135 [zg a4 n4 e4,zg a5 n5 e5]=some (zg a6 n6 e6,true)),true)::(zo (jg 136 [zg s02 x02 d02,zg s12 x12 d12]=some (zg a5 n5 e5,true)),true)::(zo (jg 135 [zg a2 n2 e2,zg a3 n3 e3]=some (zg a4 n4 e4,true)),true)::(zo (jg 136 [zg s01 x01 d01,zg s11 x11 d11]=some (zg a3 n3 e3,true)),true)::(zo (jg 135 [zg false 0 0,zg a1 n1 e1]=some (zg a2 n2 e2,true)),true)::(zo (jg 136 [zg s00 x00 d00,zg s10 x10 d10]=some (zg a1 n1 e1,true)),true)::[]):=by kernel_rfl
theorem zdO:Ok Tryz.prog E2 101:=zM (S:=fun g=>orB (notB (memN g yH)) (memN g [130,156,127,18,21,20,19])) mixed V5 (by kernel_rfl) fun l v h=>by
  have e:E2 101 l=V0 l:=by kernel_rfl
  rw [e] at h
  replace h:=zE h; obtain ⟨a,b,rfl,h⟩:=h
  replace h:=yg h; obtain ⟨s00,x00,d00,s01,x01,d01,s02,x02,d02,rfl,h⟩:=h
  replace h:=yg h; obtain ⟨s10,x10,d10,s11,x11,d11,s12,x12,d12,rfl,h⟩:=h
  replace h:=zJ h; obtain ⟨a1,n1,e1,hq15,h⟩:=h
  replace h:=zJ h; obtain ⟨a2,n2,e2,hq16,h⟩:=h
  replace h:=zJ h; obtain ⟨a3,n3,e3,hq17,h⟩:=h
  replace h:=zJ h; obtain ⟨a4,n4,e4,hq18,h⟩:=h
  replace h:=zJ h; obtain ⟨a5,n5,e5,hq19,h⟩:=h
  replace h:=zJ h; obtain ⟨a6,n6,e6,hq20,h⟩:=h
  obtain ⟨rfl,_⟩:=zB h
  exact ⟨rfl,rfl,yi (zbQ s00 s01 s02 s10 s11 s12 a1 a2 a3 a4 a5 a6 x00 d00 x01 d01 x02 d02 x10 d10 x11 d11 x12 d12 n1 e1 n2 e2 n3 e3 n4 e4 n5 e5 n6 e6) rfl (met_cons (zj.2 (zD (by kernel_rfl) ((kO _).trans hq20))) (met_cons (zj.2 (zD (by kernel_rfl) ((kP _).trans hq19))) (met_cons (zj.2 (zD (by kernel_rfl) ((kO _).trans hq18))) (met_cons (zj.2 (zD (by kernel_rfl) ((kP _).trans hq17))) (met_cons (zj.2 (zD (by kernel_rfl) ((kO _).trans hq16))) (met_cons (zj.2 (zD (by kernel_rfl) ((kP _).trans hq15))) met_nil))))))⟩
theorem Kw:∀ g,orB (notB (memN g yH)) (memN g [101,130,156,127,18,21,20,19])=true→Ok Tryz.prog E2 g:=yI V5 zdO
abbrev wB:Es:=SV [101,130,156,127,18,21,20,19]
theorem zbR (s00 s01 s02 s10 s11 s12:Bool) (x00 d00 x01 d01 x02 d02 x10 d10 x11 d11 x12 d12:Nat) (z1:Int):symCall (cxOf Tryz.prog wB) wB 100 146 [.agg [ze s00,zd x00,zb,zd d00,zb,ze s01,zd x01,zb,zd d01,zb,ze s02,zd x02,zb,zd d02,zb],.agg [ze s10,zd x10,zb,zd d10,zb,ze s11,zd x11,zb,zd d11,zb,ze s12,zd x12,zb,zd d12,zb]] [.r 154 (zt z1),.t]=some (.value (zt z1) (some []),[],((notB (eqI z1 0)),true)::(zo (wB 154 [zg s00 x00 d00,zg s10 x10 d10]=some (zt z1,true)),true)::[]):=by kernel_rfl
theorem zbS (s00 s01 s02 s10 s11 s12:Bool) (x00 d00 x01 d01 x02 d02 x10 d10 x11 d11 x12 d12:Nat) (z1 z2:Int):symCall (cxOf Tryz.prog wB) wB 100 146 [.agg [ze s00,zd x00,zb,zd d00,zb,ze s01,zd x01,zb,zd d01,zb,ze s02,zd x02,zb,zd d02,zb],.agg [ze s10,zd x10,zb,zd d10,zb,ze s11,zd x11,zb,zd d11,zb,ze s12,zd x12,zb,zd d12,zb]] [.r 154 (zt z1),.f,.r 154 (zt z2),.t]=some (.value (zt z2) (some []),[],((notB (eqI z2 0)),true)::(zo (wB 154 [zg s01 x01 d01,zg s11 x11 d11]=some (zt z2,true)),true)::((notB (eqI z1 0)),false)::(zo (wB 154 [zg s00 x00 d00,zg s10 x10 d10]=some (zt z1,true)),true)::[]):=by kernel_rfl
theorem zbT (s00 s01 s02 s10 s11 s12:Bool) (x00 d00 x01 d01 x02 d02 x10 d10 x11 d11 x12 d12:Nat) (z1 z2 z3:Int):symCall (cxOf Tryz.prog wB) wB 100 146 [.agg [ze s00,zd x00,zb,zd d00,zb,ze s01,zd x01,zb,zd d01,zb,ze s02,zd x02,zb,zd d02,zb],.agg [ze s10,zd x10,zb,zd d10,zb,ze s11,zd x11,zb,zd d11,zb,ze s12,zd x12,zb,zd d12,zb]] [.r 154 (zt z1),.f,.r 154 (zt z2),.f,.r 154 (zt z3),.t]=some (.value (zt z3) (some []),[],((notB (eqI z3 0)),true)::(zo (wB 154 [zg s02 x02 d02,zg s12 x12 d12]=some (zt z3,true)),true)::((notB (eqI z2 0)),false)::(zo (wB 154 [zg s01 x01 d01,zg s11 x11 d11]=some (zt z2,true)),true)::((notB (eqI z1 0)),false)::(zo (wB 154 [zg s00 x00 d00,zg s10 x10 d10]=some (zt z1,true)),true)::[]):=by kernel_rfl
theorem zbU (s00 s01 s02 s10 s11 s12:Bool) (x00 d00 x01 d01 x02 d02 x10 d10 x11 d11 x12 d12:Nat) (z1 z2 z3:Int):symCall (cxOf Tryz.prog wB) wB 100 146 [.agg [ze s00,zd x00,zb,zd d00,zb,ze s01,zd x01,zb,zd d01,zb,ze s02,zd x02,zb,zd d02,zb],.agg [ze s10,zd x10,zb,zd d10,zb,ze s11,zd x11,zb,zd d11,zb,ze s12,zd x12,zb,zd d12,zb]] [.r 154 (zt z1),.f,.r 154 (zt z2),.f,.r 154 (zt z3),.f]=some (.value (zt (.ofNat 0)) (some []),[],((notB (eqI z3 0)),false)::(zo (wB 154 [zg s02 x02 d02,zg s12 x12 d12]=some (zt z3,true)),true)::((notB (eqI z2 0)),false)::(zo (wB 154 [zg s01 x01 d01,zg s11 x11 d11]=some (zt z2,true)),true)::((notB (eqI z1 0)),false)::(zo (wB 154 [zg s00 x00 d00,zg s10 x10 d10]=some (zt z1,true)),true)::[]):=by kernel_rfl
theorem zdP:Ok Tryz.prog E2 146:=zM (S:=fun g=>orB (notB (memN g yH)) (memN g [101,130,156,127,18,21,20,19])) mixed Kw (by kernel_rfl) fun l v h=>by
  have e:E2 146 l=zbE l:=by kernel_rfl
  rw [e] at h
  replace h:=zE h; obtain ⟨a,b,rfl,h⟩:=h
  replace h:=yg h; obtain ⟨s00,x00,d00,s01,x01,d01,s02,x02,d02,rfl,h⟩:=h
  replace h:=yg h; obtain ⟨s10,x10,d10,s11,x11,d11,s12,x12,d12,rfl,h⟩:=h
  replace h:=y5 h; obtain ⟨z1,hq21,h⟩:=h
  cases hc22:(notB (eqI z1 0)) with
  |
    true =>
    rw [hc22,ifB_true] at h
    obtain ⟨rfl,_⟩:=zB h
    exact ⟨rfl,rfl,yi (zbR s00 s01 s02 s10 s11 s12 x00 d00 x01 d01 x02 d02 x10 d10 x11 d11 x12 d12 z1) rfl (met_cons (hc22) (met_cons (zj.2 (zD (by kernel_rfl) ((vW _).trans hq21))) met_nil))⟩
  |
    false =>
    rw [hc22,zk] at h
    replace h:=y5 h; obtain ⟨z2,hq23,h⟩:=h
    cases hc24:(notB (eqI z2 0)) with
    |
      true =>
      rw [hc24,ifB_true] at h
      obtain ⟨rfl,_⟩:=zB h
      exact ⟨rfl,rfl,yi (zbS s00 s01 s02 s10 s11 s12 x00 d00 x01 d01 x02 d02 x10 d10 x11 d11 x12 d12 z1 z2) rfl (met_cons (hc24) (met_cons (zj.2 (zD (by kernel_rfl) ((vW _).trans hq23))) (met_cons (hc22) (met_cons (zj.2 (zD (by kernel_rfl) ((vW _).trans hq21))) met_nil))))⟩
    |
      false =>
      rw [hc24,zk] at h
      replace h:=y5 h; obtain ⟨z3,hq25,h⟩:=h
      cases hc26:(notB (eqI z3 0)) with
      |
        true =>
        rw [hc26,ifB_true] at h
        obtain ⟨rfl,_⟩:=zB h
        exact ⟨rfl,rfl,yi (zbT s00 s01 s02 s10 s11 s12 x00 d00 x01 d01 x02 d02 x10 d10 x11 d11 x12 d12 z1 z2 z3) rfl (met_cons (hc26) (met_cons (zj.2 (zD (by kernel_rfl) ((vW _).trans hq25))) (met_cons (hc24) (met_cons (zj.2 (zD (by kernel_rfl) ((vW _).trans hq23))) (met_cons (hc22) (met_cons (zj.2 (zD (by kernel_rfl) ((vW _).trans hq21))) met_nil))))))⟩
      |
        false =>
        rw [hc26,zk] at h
        obtain ⟨rfl,_⟩:=zB h
        exact ⟨rfl,rfl,yi (zbU s00 s01 s02 s10 s11 s12 x00 d00 x01 d01 x02 d02 x10 d10 x11 d11 x12 d12 z1 z2 z3) rfl (met_cons (hc26) (met_cons (zj.2 (zD (by kernel_rfl) ((vW _).trans hq25))) (met_cons (hc24) (met_cons (zj.2 (zD (by kernel_rfl) ((vW _).trans hq23))) (met_cons (hc22) (met_cons (zj.2 (zD (by kernel_rfl) ((vW _).trans hq21))) met_nil))))))⟩
theorem Kx:∀ g,orB (notB (memN g yH)) (memN g [146,101,130,156,127,18,21,20,19])=true→Ok Tryz.prog E2 g:=yI Kw zdP
abbrev X4:Es:=SV [146,101,130,156,127,18,21,20,19]
theorem Qm (s00 s01 s02 s03 c1:Bool) (x00 d00 x01 d01 x02 d02 x03 d03:Nat):symCall (cxOf Tryz.prog X4) X4 100 102 [.agg [ze s00,zd x00,zb,zd d00,zb,ze s01,zd x01,zb,zd d01,zb,ze s02,zd x02,zb,zd d02,zb,ze s03,zd x03,zb,zd d03,zb]] [.r 18 (ze c1),.f]=some (.value (.agg [ze s00,zd x00,zb,zd d00,zb,ze s01,zd x01,zb,zd d01,zb,ze s02,zd x02,zb,zd d02,zb]) (some []),[],(c1,false)::(zo (X4 18 [.agg [ze s00,zd x00,zb,zd d00,zb,ze s01,zd x01,zb,zd d01,zb,ze s02,zd x02,zb,zd d02,zb]]=some (ze c1,true)),true)::[]):=by kernel_rfl
theorem JC:Ok Tryz.prog E2 102:=zM (S:=fun g=>orB (notB (memN g yH)) (memN g [146,101,130,156,127,18,21,20,19])) mixed Kx (by kernel_rfl) fun l v h=>by
  have e:E2 102 l=uM l:=by kernel_rfl
  rw [e] at h
  replace h:=z0 h; obtain ⟨a,rfl,h⟩:=h
  replace h:=xQ h; obtain ⟨s00,x00,d00,s01,x01,d01,s02,x02,d02,s03,x03,d03,rfl,h⟩:=h
  replace h:=UM h; obtain ⟨c1,hq27,h⟩:=h
  cases hc28:c1 with
  |
    true =>
    rw [hc28,ifB_true] at h
    cases h
  |
    false =>
    rw [hc28,zk] at h
    obtain ⟨rfl,_⟩:=zB h
    exact ⟨rfl,rfl,yi (Qm s00 s01 s02 s03 c1 x00 d00 x01 d01 x02 d02 x03 d03) rfl (met_cons (hc28) (met_cons (zj.2 (zD (by kernel_rfl) ((zfO _).trans hq27))) met_nil))⟩
theorem Yz:∀ g,orB (notB (memN g yH)) (memN g [102,146,101,130,156,127,18,21,20,19])=true→Ok Tryz.prog E2 g:=yI Kx JC
abbrev X5:Es:=SV [102,146,101,130,156,127,18,21,20,19]
theorem Qn (s00 s01 s02 s03 a1 a2 a3:Bool) (x00 d00 x01 d01 x02 d02 x03 d03 n1 e1 n2 e2 n3 e3:Nat):symCall (cxOf Tryz.prog X5) X5 100 143 [.agg [ze s00,zd x00,zb,zd d00,zb,ze s01,zd x01,zb,zd d01,zb,ze s02,zd x02,zb,zd d02,zb,ze s03,zd x03,zb,zd d03,zb]] [.r 102 (.agg [ze a1,zd n1,zb,zd e1,zb,ze a2,zd n2,zb,zd e2,zb,ze a3,zd n3,zb,zd e3,zb])]=some (.value (.agg [ze a1,zd n1,zb,zd e1,zb,ze a2,zd n2,zb,zd e2,zb,ze a3,zd n3,zb,zd e3,zb]) (some []),[],(zo (X5 102 [.agg [ze s00,zd x00,zb,zd d00,zb,ze s01,zd x01,zb,zd d01,zb,ze s02,zd x02,zb,zd d02,zb,ze s03,zd x03,zb,zd d03,zb]]=some (.agg [ze a1,zd n1,zb,zd e1,zb,ze a2,zd n2,zb,zd e2,zb,ze a3,zd n3,zb,zd e3,zb],true)),true)::[]):=by kernel_rfl
theorem JD:Ok Tryz.prog E2 143:=zM (S:=fun g=>orB (notB (memN g yH)) (memN g [102,146,101,130,156,127,18,21,20,19])) mixed Yz (by kernel_rfl) fun l v h=>by
  have e:E2 143 l=qX l:=by kernel_rfl
  rw [e] at h
  replace h:=z0 h; obtain ⟨a,rfl,h⟩:=h
  replace h:=xQ h; obtain ⟨s00,x00,d00,s01,x01,d01,s02,x02,d02,s03,x03,d03,rfl,h⟩:=h
  replace h:=qt h; obtain ⟨a1,n1,e1,a2,n2,e2,a3,n3,e3,hq29,h⟩:=h
  obtain ⟨rfl,_⟩:=zB h
  exact ⟨rfl,rfl,yi (Qn s00 s01 s02 s03 a1 a2 a3 x00 d00 x01 d01 x02 d02 x03 d03 n1 e1 n2 e2 n3 e3) rfl (met_cons (zj.2 (zD (by kernel_rfl) ((V2 _).trans hq29))) met_nil)⟩
theorem YA:∀ g,orB (notB (memN g yH)) (memN g [143,102,146,101,130,156,127,18,21,20,19])=true→Ok Tryz.prog E2 g:=yI Yz JD
abbrev Ky:Es:=SV [143,102,146,101,130,156,127,18,21,20,19]
theorem Qo (s00 s01 s02 s03:Bool) (x00 d00 x01 d01 x02 d02 x03 d03:Nat):symCall (cxOf Tryz.prog Ky) Ky 100 165 [.agg [ze s00,zd x00,zb,zd d00,zb,ze s01,zd x01,zb,zd d01,zb,ze s02,zd x02,zb,zd d02,zb,ze s03,zd x03,zb,zd d03,zb]] []=some (.value (zg s03 x03 d03) (some []),[],[]):=by kernel_rfl
theorem JE:Ok Tryz.prog E2 165:=zM (S:=fun g=>orB (notB (memN g yH)) (memN g [143,102,146,101,130,156,127,18,21,20,19])) mixed YA (by kernel_rfl) fun l v h=>by
  have e:E2 165 l=qY l:=by kernel_rfl
  rw [e] at h
  replace h:=z0 h; obtain ⟨a,rfl,h⟩:=h
  replace h:=xQ h; obtain ⟨s00,x00,d00,s01,x01,d01,s02,x02,d02,s03,x03,d03,rfl,h⟩:=h
  obtain ⟨rfl,_⟩:=zB h
  exact ⟨rfl,rfl,yi (Qo s00 s01 s02 s03 x00 d00 x01 d01 x02 d02 x03 d03) rfl met_nil⟩
theorem YB:∀ g,orB (notB (memN g yH)) (memN g [165,143,102,146,101,130,156,127,18,21,20,19])=true→Ok Tryz.prog E2 g:=yI YA JE
abbrev SAt:Es:=SV [165,143,102,146,101,130,156,127,18,21,20,19]
theorem zfR (s00 s01 s02 s03 s10 s11 s12 a1 a2 a3 a4 a5:Bool) (x00 d00 x01 d01 x02 d02 x03 d03 x10 d10 x11 d11 x12 d12 n1 e1 n2 e2 n3 e3 n4 e4 n5 e5:Nat):symCall (cxOf Tryz.prog SAt) SAt 100 70 [.agg [ze s00,zd x00,zb,zd d00,zb,ze s01,zd x01,zb,zd d01,zb,ze s02,zd x02,zb,zd d02,zb,ze s03,zd x03,zb,zd d03,zb],.agg [ze s10,zd x10,zb,zd d10,zb,ze s11,zd x11,zb,zd d11,zb,ze s12,zd x12,zb,zd d12,zb]] [.r 102 (.agg [ze a1,zd n1,zb,zd e1,zb,ze a2,zd n2,zb,zd e2,zb,ze a3,zd n3,zb,zd e3,zb]),.r 101 (zg a4 n4 e4),.r 100 (zg a5 n5 e5)]=some (.value (zg a5 n5 e5) (some []),[],(zo (SAt 100 [zg a4 n4 e4,zg s03 x03 d03]=some (zg a5 n5 e5,true)),true)::(zo (SAt 101 [.agg [ze a1,zd n1,zb,zd e1,zb,ze a2,zd n2,zb,zd e2,zb,ze a3,zd n3,zb,zd e3,zb],.agg [ze s10,zd x10,zb,zd d10,zb,ze s11,zd x11,zb,zd d11,zb,ze s12,zd x12,zb,zd d12,zb]]=some (zg a4 n4 e4,true)),true)::(zo (SAt 102 [.agg [ze s00,zd x00,zb,zd d00,zb,ze s01,zd x01,zb,zd d01,zb,ze s02,zd x02,zb,zd d02,zb,ze s03,zd x03,zb,zd d03,zb]]=some (.agg [ze a1,zd n1,zb,zd e1,zb,ze a2,zd n2,zb,zd e2,zb,ze a3,zd n3,zb,zd e3,zb],true)),true)::[]):=by kernel_rfl
theorem ok_At:Ok Tryz.prog E2 70:=zM (S:=fun g=>orB (notB (memN g yH)) (memN g [165,143,102,146,101,130,156,127,18,21,20,19])) mixed YB (by kernel_rfl) fun l v h=>by
  have e:E2 70 l=eAt l:=by kernel_rfl
  rw [e] at h
  replace h:=zE h; obtain ⟨a,b,rfl,h⟩:=h
  replace h:=xQ h; obtain ⟨s00,x00,d00,s01,x01,d01,s02,x02,d02,s03,x03,d03,rfl,h⟩:=h
  replace h:=yg h; obtain ⟨s10,x10,d10,s11,x11,d11,s12,x12,d12,rfl,h⟩:=h
  replace h:=qt h; obtain ⟨a1,n1,e1,a2,n2,e2,a3,n3,e3,hq30,h⟩:=h
  replace h:=zJ h; obtain ⟨a4,n4,e4,hq31,h⟩:=h
  replace h:=zJ h; obtain ⟨a5,n5,e5,hq32,h⟩:=h
  obtain ⟨rfl,_⟩:=zB h
  exact ⟨rfl,rfl,yi (zfR s00 s01 s02 s03 s10 s11 s12 a1 a2 a3 a4 a5 x00 d00 x01 d01 x02 d02 x03 d03 x10 d10 x11 d11 x12 d12 n1 e1 n2 e2 n3 e3 n4 e4 n5 e5) rfl (met_cons (zj.2 (zD (by kernel_rfl) ((XZ _).trans hq32))) (met_cons (zj.2 (zD (by kernel_rfl) ((zfP _).trans hq31))) (met_cons (zj.2 (zD (by kernel_rfl) ((V2 _).trans hq30))) met_nil)))⟩
theorem zeO:∀ g,orB (notB (memN g yH)) (memN g [70,165,143,102,146,101,130,156,127,18,21,20,19])=true→Ok Tryz.prog E2 g:=yI YB ok_At
abbrev Kz:Es:=SV [70,165,143,102,146,101,130,156,127,18,21,20,19]
theorem zbV (s00 s01 s02 s03 s10 s11 s12 a1:Bool) (x00 d00 x01 d01 x02 d02 x03 d03 x10 d10 x11 d11 x12 d12 n1 e1:Nat) (z2:Int):symCall (cxOf Tryz.prog Kz) Kz 100 38 [.agg [ze s00,zd x00,zb,zd d00,zb,ze s01,zd x01,zb,zd d01,zb,ze s02,zd x02,zb,zd d02,zb,ze s03,zd x03,zb,zd d03,zb],.agg [ze s10,zd x10,zb,zd d10,zb,ze s11,zd x11,zb,zd d11,zb,ze s12,zd x12,zb,zd d12,zb]] [.r 70 (zg a1 n1 e1),.r 54 (zt z2)]=some (.value (zt z2) (some []),[],(zo (Kz 54 [zg a1 n1 e1]=some (zt z2,true)),true)::(zo (Kz 70 [.agg [ze s00,zd x00,zb,zd d00,zb,ze s01,zd x01,zb,zd d01,zb,ze s02,zd x02,zb,zd d02,zb,ze s03,zd x03,zb,zd d03,zb],.agg [ze s10,zd x10,zb,zd d10,zb,ze s11,zd x11,zb,zd d11,zb,ze s12,zd x12,zb,zd d12,zb]]=some (zg a1 n1 e1,true)),true)::[]):=by kernel_rfl
theorem zdQ:Ok Tryz.prog E2 38:=zM (S:=fun g=>orB (notB (memN g yH)) (memN g [70,165,143,102,146,101,130,156,127,18,21,20,19])) mixed zeO (by kernel_rfl) fun l v h=>by
  have e:E2 38 l=zbF l:=by kernel_rfl
  rw [e] at h
  replace h:=zE h; obtain ⟨a,b,rfl,h⟩:=h
  replace h:=xQ h; obtain ⟨s00,x00,d00,s01,x01,d01,s02,x02,d02,s03,x03,d03,rfl,h⟩:=h
  replace h:=yg h; obtain ⟨s10,x10,d10,s11,x11,d11,s12,x12,d12,rfl,h⟩:=h
  replace h:=zJ h; obtain ⟨a1,n1,e1,hq33,h⟩:=h
  replace h:=y5 h; obtain ⟨z2,hq34,h⟩:=h
  obtain ⟨rfl,_⟩:=zB h
  exact ⟨rfl,rfl,yi (zbV s00 s01 s02 s03 s10 s11 s12 a1 x00 d00 x01 d01 x02 d02 x03 d03 x10 d10 x11 d11 x12 d12 n1 e1 z2) rfl (met_cons (zj.2 (zD (by kernel_rfl) ((vV _).trans hq34))) (met_cons (zj.2 (zD (by kernel_rfl) ((q_At _).trans hq33))) met_nil))⟩
theorem KB:∀ g,orB (notB (memN g yH)) (memN g [38,70,165,143,102,146,101,130,156,127,18,21,20,19])=true→Ok Tryz.prog E2 g:=yI zeO zdQ
abbrev jn:Es:=SV [38,70,165,143,102,146,101,130,156,127,18,21,20,19]
theorem zdR (s00 s01 s02 s03 a1 a2 a3 a4 a5 a6 a7 a8 a9 a10 a11 a12:Bool) (x00 d00 x01 d01 x02 d02 x03 d03 n1 e1 n2 e2 n3 e3 n4 e4 n5 n6 e6 n7 n8 e8 n9 n10 e10 n11 n12:Nat):symCall (cxOf Tryz.prog jn) jn 100 137 [.agg [ze s00,zd x00,zb,zd d00,zb,ze s01,zd x01,zb,zd d01,zb,ze s02,zd x02,zb,zd d02,zb,ze s03,zd x03,zb,zd d03,zb]] [.r 143 (.agg [ze a1,zd n1,zb,zd e1,zb,ze a2,zd n2,zb,zd e2,zb,ze a3,zd n3,zb,zd e3,zb]),.r 19 (zg a4 n4 e4),.r 28 (zh a5 n5),.r 20 (zg a6 n6 e6),.r 28 (zh a7 n7),.r 21 (zg a8 n8 e8),.r 28 (zh a9 n9),.r 165 (zg a10 n10 e10),.r 28 (zh a11 n11),.r 32 (zh a12 n12)]=some (.value (.agg [ze a5,zd n5,zb,ze a7,zd n7,zb,ze a9,zd n9,zb,ze a12,zd n12,zb]) (some []),[],(zo (jn 32 [zh a11 n11]=some (zh a12 n12,true)),true)::(zo (jn 28 [zg a10 n10 e10]=some (zh a11 n11,true)),true)::(zo (jn 165 [.agg [ze s00,zd x00,zb,zd d00,zb,ze s01,zd x01,zb,zd d01,zb,ze s02,zd x02,zb,zd d02,zb,ze s03,zd x03,zb,zd d03,zb]]=some (zg a10 n10 e10,true)),true)::(zo (jn 28 [zg a8 n8 e8]=some (zh a9 n9,true)),true)::(zo (jn 21 [.agg [ze a1,zd n1,zb,zd e1,zb,ze a2,zd n2,zb,zd e2,zb,ze a3,zd n3,zb,zd e3,zb]]=some (zg a8 n8 e8,true)),true)::(zo (jn 28 [zg a6 n6 e6]=some (zh a7 n7,true)),true)::(zo (jn 20 [.agg [ze a1,zd n1,zb,zd e1,zb,ze a2,zd n2,zb,zd e2,zb,ze a3,zd n3,zb,zd e3,zb]]=some (zg a6 n6 e6,true)),true)::(zo (jn 28 [zg a4 n4 e4]=some (zh a5 n5,true)),true)::(zo (jn 19 [.agg [ze a1,zd n1,zb,zd e1,zb,ze a2,zd n2,zb,zd e2,zb,ze a3,zd n3,zb,zd e3,zb]]=some (zg a4 n4 e4,true)),true)::(zo (jn 143 [.agg [ze s00,zd x00,zb,zd d00,zb,ze s01,zd x01,zb,zd d01,zb,ze s02,zd x02,zb,zd d02,zb,ze s03,zd x03,zb,zd d03,zb]]=some (.agg [ze a1,zd n1,zb,zd e1,zb,ze a2,zd n2,zb,zd e2,zb,ze a3,zd n3,zb,zd e3,zb],true)),true)::[]):=by kernel_rfl
theorem zfS:Ok Tryz.prog E2 137:=zM (S:=fun g=>orB (notB (memN g yH)) (memN g [38,70,165,143,102,146,101,130,156,127,18,21,20,19])) mixed KB (by kernel_rfl) fun l v h=>by
  have e:E2 137 l=zfK l:=by kernel_rfl
  rw [e] at h
  replace h:=z0 h; obtain ⟨a,rfl,h⟩:=h
  replace h:=xQ h; obtain ⟨s00,x00,d00,s01,x01,d01,s02,x02,d02,s03,x03,d03,rfl,h⟩:=h
  replace h:=qt h; obtain ⟨a1,n1,e1,a2,n2,e2,a3,n3,e3,hq35,h⟩:=h
  replace h:=zJ h; obtain ⟨a4,n4,e4,hq36,h⟩:=h
  replace h:=zy h; obtain ⟨a5,n5,hq37,h⟩:=h
  replace h:=zJ h; obtain ⟨a6,n6,e6,hq38,h⟩:=h
  replace h:=zy h; obtain ⟨a7,n7,hq39,h⟩:=h
  replace h:=zJ h; obtain ⟨a8,n8,e8,hq40,h⟩:=h
  replace h:=zy h; obtain ⟨a9,n9,hq41,h⟩:=h
  replace h:=zJ h; obtain ⟨a10,n10,e10,hq42,h⟩:=h
  replace h:=zy h; obtain ⟨a11,n11,hq43,h⟩:=h
  replace h:=zy h; obtain ⟨a12,n12,hq44,h⟩:=h
  obtain ⟨rfl,_⟩:=zB h
  exact ⟨rfl,rfl,yi (zdR s00 s01 s02 s03 a1 a2 a3 a4 a5 a6 a7 a8 a9 a10 a11 a12 x00 d00 x01 d01 x02 d02 x03 d03 n1 e1 n2 e2 n3 e3 n4 e4 n5 n6 e6 n7 n8 e8 n9 n10 e10 n11 n12) rfl (met_cons (zj.2 (zD (by kernel_rfl) ((zfQ _).trans hq44))) (met_cons (zj.2 (zD (by kernel_rfl) ((ZE _).trans hq43))) (met_cons (zj.2 (zD (by kernel_rfl) ((zbI _).trans hq42))) (met_cons (zj.2 (zD (by kernel_rfl) ((ZE _).trans hq41))) (met_cons (zj.2 (zD (by kernel_rfl) ((q_Z _).trans hq40))) (met_cons (zj.2 (zD (by kernel_rfl) ((ZE _).trans hq39))) (met_cons (zj.2 (zD (by kernel_rfl) ((q_Y _).trans hq38))) (met_cons (zj.2 (zD (by kernel_rfl) ((ZE _).trans hq37))) (met_cons (zj.2 (zD (by kernel_rfl) ((q_X _).trans hq36))) (met_cons (zj.2 (zD (by kernel_rfl) ((zbH _).trans hq35))) met_nil))))))))))⟩
theorem zbW:∀ g,orB (notB (memN g yH)) (memN g [137,38,70,165,143,102,146,101,130,156,127,18,21,20,19])=true→Ok Tryz.prog E2 g:=yI KB zfS
abbrev wC:Es:=SV [137,38,70,165,143,102,146,101,130,156,127,18,21,20,19]
theorem zdS (s0 s10 s11 s12 s13 s2 s30 s31 s32 s33 a1 a2 a3 a4 a5 a6 a7 a8 a9 a10 a11 a12 a19 a22 a25 a28:Bool) (x0 x10 x11 x12 x13 x2 x30 x31 x32 x33 n1 n2 n3 n4 n5 n6 n7 n8 n9 n10 n11 n12 n13 n14 n15 n16 n17 n18 n19 n20 n21 n22 n23 n24 n25 n26 n27 n28:Nat):symCall (cxOf Tryz.prog wC) wC 100 167 [zh s0 x0,.agg [ze s10,zd x10,zb,ze s11,zd x11,zb,ze s12,zd x12,zb,ze s13,zd x13,zb],zh s2 x2,.agg [ze s30,zd x30,zb,ze s31,zd x31,zb,ze s32,zd x32,zb,ze s33,zd x33,zb]] [.r 27 (zh a1 n1),.r 27 (zh a2 n2),.r 164 (zh a3 n3),.r 27 (zh a4 n4),.r 27 (zh a5 n5),.r 164 (zh a6 n6),.r 27 (zh a7 n7),.r 27 (zh a8 n8),.r 164 (zh a9 n9),.r 27 (zh a10 n10),.r 27 (zh a11 n11),.r 164 (zh a12 n12),.r 25 (zn n13),.r 25 (zn n14),.r 25 (zn n15),.r 25 (zn n16),.r 23 (.tuple [zn n17,zn n18,zt (.ofNat 0)]),.r 29 (zh a19 n19),.r 23 (.tuple [zn n20,zn n21,zt (.ofNat 0)]),.r 29 (zh a22 n22),.r 23 (.tuple [zn n23,zn n24,zt (.ofNat 0)]),.r 29 (zh a25 n25),.r 23 (.tuple [zn n26,zn n27,zt (.ofNat 0)]),.r 29 (zh a28 n28)]=some (.value (.agg [ze a19,zd n19,zb,ze a22,zd n22,zb,ze a25,zd n25,zb,ze a28,zd n28,zb]) (some []),[],(zo (wC 29 [ze a12,zn n26]=some (zh a28 n28,true)),true)::(zo (wC 23 [zn n12,zn n16]=some (.tuple [zn n26,zn n27,zt (.ofNat 0)],true)),true)::(zo (wC 29 [ze a9,zn n23]=some (zh a25 n25,true)),true)::(zo (wC 23 [zn n9,zn n16]=some (.tuple [zn n23,zn n24,zt (.ofNat 0)],true)),true)::(zo (wC 29 [ze a6,zn n20]=some (zh a22 n22,true)),true)::(zo (wC 23 [zn n6,zn n16]=some (.tuple [zn n20,zn n21,zt (.ofNat 0)],true)),true)::(zo (wC 29 [ze a3,zn n17]=some (zh a19 n19,true)),true)::(zo (wC 23 [zn n3,zn n16]=some (.tuple [zn n17,zn n18,zt (.ofNat 0)],true)),true)::(zo (wC 25 [zn n15,zn n12]=some (zn n16,true)),true)::(zo (wC 25 [zn n14,zn n9]=some (zn n15,true)),true)::(zo (wC 25 [zn n13,zn n6]=some (zn n14,true)),true)::(zo (wC 25 [zn 0,zn n3]=some (zn n13,true)),true)::(zo (wC 164 [zh a10 n10,zh a11 n11]=some (zh a12 n12,true)),true)::(zo (wC 27 [zh s2 x2,zh s33 x33]=some (zh a11 n11,true)),true)::(zo (wC 27 [zh s0 x0,zh s13 x13]=some (zh a10 n10,true)),true)::(zo (wC 164 [zh a7 n7,zh a8 n8]=some (zh a9 n9,true)),true)::(zo (wC 27 [zh s2 x2,zh s32 x32]=some (zh a8 n8,true)),true)::(zo (wC 27 [zh s0 x0,zh s12 x12]=some (zh a7 n7,true)),true)::(zo (wC 164 [zh a4 n4,zh a5 n5]=some (zh a6 n6,true)),true)::(zo (wC 27 [zh s2 x2,zh s31 x31]=some (zh a5 n5,true)),true)::(zo (wC 27 [zh s0 x0,zh s11 x11]=some (zh a4 n4,true)),true)::(zo (wC 164 [zh a1 n1,zh a2 n2]=some (zh a3 n3,true)),true)::(zo (wC 27 [zh s2 x2,zh s30 x30]=some (zh a2 n2,true)),true)::(zo (wC 27 [zh s0 x0,zh s10 x10]=some (zh a1 n1,true)),true)::[]):=by kernel_rfl
theorem zfT:Ok Tryz.prog E2 167:=zM (S:=fun g=>orB (notB (memN g yH)) (memN g [137,38,70,165,143,102,146,101,130,156,127,18,21,20,19])) mixed zbW (by kernel_rfl) fun l v h=>by
  have e:E2 167 l=zfL l:=by kernel_rfl
  rw [e] at h
  replace h:=JA h; obtain ⟨a,b,c,d,rfl,h⟩:=h
  replace h:=zQ h; obtain ⟨s0,x0,rfl,h⟩:=h
  replace h:=wh h; obtain ⟨s10,x10,s11,x11,s12,x12,s13,x13,rfl,h⟩:=h
  replace h:=zQ h; obtain ⟨s2,x2,rfl,h⟩:=h
  replace h:=wh h; obtain ⟨s30,x30,s31,x31,s32,x32,s33,x33,rfl,h⟩:=h
  replace h:=zy h; obtain ⟨a1,n1,hq45,h⟩:=h
  replace h:=zy h; obtain ⟨a2,n2,hq46,h⟩:=h
  replace h:=zy h; obtain ⟨a3,n3,hq47,h⟩:=h
  replace h:=zy h; obtain ⟨a4,n4,hq48,h⟩:=h
  replace h:=zy h; obtain ⟨a5,n5,hq49,h⟩:=h
  replace h:=zy h; obtain ⟨a6,n6,hq50,h⟩:=h
  replace h:=zy h; obtain ⟨a7,n7,hq51,h⟩:=h
  replace h:=zy h; obtain ⟨a8,n8,hq52,h⟩:=h
  replace h:=zy h; obtain ⟨a9,n9,hq53,h⟩:=h
  replace h:=zy h; obtain ⟨a10,n10,hq54,h⟩:=h
  replace h:=zy h; obtain ⟨a11,n11,hq55,h⟩:=h
  replace h:=zy h; obtain ⟨a12,n12,hq56,h⟩:=h
  replace h:=zN h; obtain ⟨n13,hq57,h⟩:=h
  replace h:=zN h; obtain ⟨n14,hq58,h⟩:=h
  replace h:=zN h; obtain ⟨n15,hq59,h⟩:=h
  replace h:=zN h; obtain ⟨n16,hq60,h⟩:=h
  replace h:=ym h; obtain ⟨n17,n18,hq61,h⟩:=h
  replace h:=zy h; obtain ⟨a19,n19,hq62,h⟩:=h
  replace h:=ym h; obtain ⟨n20,n21,hq63,h⟩:=h
  replace h:=zy h; obtain ⟨a22,n22,hq64,h⟩:=h
  replace h:=ym h; obtain ⟨n23,n24,hq65,h⟩:=h
  replace h:=zy h; obtain ⟨a25,n25,hq66,h⟩:=h
  replace h:=ym h; obtain ⟨n26,n27,hq67,h⟩:=h
  replace h:=zy h; obtain ⟨a28,n28,hq68,h⟩:=h
  obtain ⟨rfl,_⟩:=zB h
  exact ⟨rfl,rfl,yi (zdS s0 s10 s11 s12 s13 s2 s30 s31 s32 s33 a1 a2 a3 a4 a5 a6 a7 a8 a9 a10 a11 a12 a19 a22 a25 a28 x0 x10 x11 x12 x13 x2 x30 x31 x32 x33 n1 n2 n3 n4 n5 n6 n7 n8 n9 n10 n11 n12 n13 n14 n15 n16 n17 n18 n19 n20 n21 n22 n23 n24 n25 n26 n27 n28) rfl (met_cons (zj.2 (zD (by kernel_rfl) ((wo _).trans hq68))) (met_cons (zj.2 (zD (by kernel_rfl) ((wi _).trans hq67))) (met_cons (zj.2 (zD (by kernel_rfl) ((wo _).trans hq66))) (met_cons (zj.2 (zD (by kernel_rfl) ((wi _).trans hq65))) (met_cons (zj.2 (zD (by kernel_rfl) ((wo _).trans hq64))) (met_cons (zj.2 (zD (by kernel_rfl) ((wi _).trans hq63))) (met_cons (zj.2 (zD (by kernel_rfl) ((wo _).trans hq62))) (met_cons (zj.2 (zD (by kernel_rfl) ((wi _).trans hq61))) (met_cons (zj.2 (zD (by kernel_rfl) ((u6 _).trans hq60))) (met_cons (zj.2 (zD (by kernel_rfl) ((u6 _).trans hq59))) (met_cons (zj.2 (zD (by kernel_rfl) ((u6 _).trans hq58))) (met_cons (zj.2 (zD (by kernel_rfl) ((u6 _).trans hq57))) (met_cons (zj.2 (zD (by kernel_rfl) ((X3 _).trans hq56))) (met_cons (zj.2 (zD (by kernel_rfl) ((w6 _).trans hq55))) (met_cons (zj.2 (zD (by kernel_rfl) ((w6 _).trans hq54))) (met_cons (zj.2 (zD (by kernel_rfl) ((X3 _).trans hq53))) (met_cons (zj.2 (zD (by kernel_rfl) ((w6 _).trans hq52))) (met_cons (zj.2 (zD (by kernel_rfl) ((w6 _).trans hq51))) (met_cons (zj.2 (zD (by kernel_rfl) ((X3 _).trans hq50))) (met_cons (zj.2 (zD (by kernel_rfl) ((w6 _).trans hq49))) (met_cons (zj.2 (zD (by kernel_rfl) ((w6 _).trans hq48))) (met_cons (zj.2 (zD (by kernel_rfl) ((X3 _).trans hq47))) (met_cons (zj.2 (zD (by kernel_rfl) ((w6 _).trans hq46))) (met_cons (zj.2 (zD (by kernel_rfl) ((w6 _).trans hq45))) met_nil))))))))))))))))))))))))⟩
theorem zbX:∀ g,orB (notB (memN g yH)) (memN g [167,137,38,70,165,143,102,146,101,130,156,127,18,21,20,19])=true→Ok Tryz.prog E2 g:=yI zbW zfT
abbrev zu:Es:=SV [167,137,38,70,165,143,102,146,101,130,156,127,18,21,20,19]
theorem Z1 (s00 s01 s02 a23 a24 a25 a29 a30 a31 a35 a36 a37 a43 a46 a49 a50 a51 a52:Bool) (x00 d00 x01 d01 x02 d02 n1 n2 n3 n4 n5 n6 n7 n8 n9 n10 n11 n12 n13 n14 n15 n16 n17 n18 n19 n20 n21 n22 n23 n24 n25 n26 n27 n28 n29 n30 n31 n32 n33 n34 n35 n36 n37 n38 n39 n40 n41 n42 n43 n44 n45 n46 n47 n48 n49 n50 e50 n51 e51 n52 e52:Nat):symCall (cxOf Tryz.prog zu) zu 100 149 [.agg [ze s00,zd x00,zb,zd d00,zb,ze s01,zd x01,zb,zd d01,zb,ze s02,zd x02,zb,zd d02,zb]] [.r 22 (zn n1),.r 24 (zn n2),.r 24 (zn n3),.r 25 (zn n4),.r 23 (.tuple [zn n5,zn n6,zt (.ofNat 0)]),.r 26 (zn n7),.r 24 (zn n8),.r 24 (zn n9),.r 25 (zn n10),.r 23 (.tuple [zn n11,zn n12,zt (.ofNat 0)]),.r 26 (zn n13),.r 24 (zn n14),.r 24 (zn n15),.r 25 (zn n16),.r 23 (.tuple [zn n17,zn n18,zt (.ofNat 0)]),.r 26 (zn n19),.r 24 (zn n20),.r 23 (.tuple [zn n21,zn n22,zt (.ofNat 0)]),.r 28 (zh a23 n23),.r 29 (zh a24 n24),.r 27 (zh a25 n25),.r 24 (zn n26),.r 23 (.tuple [zn n27,zn n28,zt (.ofNat 0)]),.r 28 (zh a29 n29),.r 29 (zh a30 n30),.r 27 (zh a31 n31),.r 24 (zn n32),.r 23 (.tuple [zn n33,zn n34,zt (.ofNat 0)]),.r 28 (zh a35 n35),.r 29 (zh a36 n36),.r 27 (zh a37 n37),.r 25 (zn n38),.r 25 (zn n39),.r 25 (zn n40),.r 23 (.tuple [zn n41,zn n42,zt (.ofNat 0)]),.r 29 (zh a43 n43),.r 23 (.tuple [zn n44,zn n45,zt (.ofNat 0)]),.r 29 (zh a46 n46),.r 23 (.tuple [zn n47,zn n48,zt (.ofNat 0)]),.r 29 (zh a49 n49),.r 34 (zg a50 n50 e50),.r 34 (zg a51 n51 e51),.r 34 (zg a52 n52 e52)]=some (.value (.agg [ze a50,zd n50,zb,zd e50,zb,ze a51,zd n51,zb,zd e51,zb,ze a52,zd n52,zb,zd e52,zb]) (some []),[],(zo (zu 34 [zh a49 n49]=some (zg a52 n52 e52,true)),true)::(zo (zu 34 [zh a46 n46]=some (zg a51 n51 e51,true)),true)::(zo (zu 34 [zh a43 n43]=some (zg a50 n50 e50,true)),true)::(zo (zu 29 [ze a37,zn n47]=some (zh a49 n49,true)),true)::(zo (zu 23 [zn n37,zn n40]=some (.tuple [zn n47,zn n48,zt (.ofNat 0)],true)),true)::(zo (zu 29 [ze a31,zn n44]=some (zh a46 n46,true)),true)::(zo (zu 23 [zn n31,zn n40]=some (.tuple [zn n44,zn n45,zt (.ofNat 0)],true)),true)::(zo (zu 29 [ze a25,zn n41]=some (zh a43 n43,true)),true)::(zo (zu 23 [zn n25,zn n40]=some (.tuple [zn n41,zn n42,zt (.ofNat 0)],true)),true)::(zo (zu 25 [zn n39,zn n37]=some (zn n40,true)),true)::(zo (zu 25 [zn n38,zn n31]=some (zn n39,true)),true)::(zo (zu 25 [zn 0,zn n25]=some (zn n38,true)),true)::(zo (zu 27 [zh a35 n35,zh a36 n36]=some (zh a37 n37,true)),true)::(zo (zu 29 [ze false,zn n33]=some (zh a36 n36,true)),true)::(zo (zu 28 [zg s02 x02 d02]=some (zh a35 n35,true)),true)::(zo (zu 23 [zn n19,zn n32]=some (.tuple [zn n33,zn n34,zt (.ofNat 0)],true)),true)::(zo (zu 24 [zg s02 x02 d02]=some (zn n32,true)),true)::(zo (zu 27 [zh a29 n29,zh a30 n30]=some (zh a31 n31,true)),true)::(zo (zu 29 [ze false,zn n27]=some (zh a30 n30,true)),true)::(zo (zu 28 [zg s01 x01 d01]=some (zh a29 n29,true)),true)::(zo (zu 23 [zn n19,zn n26]=some (.tuple [zn n27,zn n28,zt (.ofNat 0)],true)),true)::(zo (zu 24 [zg s01 x01 d01]=some (zn n26,true)),true)::(zo (zu 27 [zh a23 n23,zh a24 n24]=some (zh a25 n25,true)),true)::(zo (zu 29 [ze false,zn n21]=some (zh a24 n24,true)),true)::(zo (zu 28 [zg s00 x00 d00]=some (zh a23 n23,true)),true)::(zo (zu 23 [zn n19,zn n20]=some (.tuple [zn n21,zn n22,zt (.ofNat 0)],true)),true)::(zo (zu 24 [zg s00 x00 d00]=some (zn n20,true)),true)::(zo (zu 26 [zn n13,zn n17]=some (zn n19,true)),true)::(zo (zu 23 [zn n14,zn n16]=some (.tuple [zn n17,zn n18,zt (.ofNat 0)],true)),true)::(zo (zu 25 [zn n13,zn n15]=some (zn n16,true)),true)::(zo (zu 24 [zg s02 x02 d02]=some (zn n15,true)),true)::(zo (zu 24 [zg s02 x02 d02]=some (zn n14,true)),true)::(zo (zu 26 [zn n7,zn n11]=some (zn n13,true)),true)::(zo (zu 23 [zn n8,zn n10]=some (.tuple [zn n11,zn n12,zt (.ofNat 0)],true)),true)::(zo (zu 25 [zn n7,zn n9]=some (zn n10,true)),true)::(zo (zu 24 [zg s01 x01 d01]=some (zn n9,true)),true)::(zo (zu 24 [zg s01 x01 d01]=some (zn n8,true)),true)::(zo (zu 26 [zn n1,zn n5]=some (zn n7,true)),true)::(zo (zu 23 [zn n2,zn n4]=some (.tuple [zn n5,zn n6,zt (.ofNat 0)],true)),true)::(zo (zu 25 [zn n1,zn n3]=some (zn n4,true)),true)::(zo (zu 24 [zg s00 x00 d00]=some (zn n3,true)),true)::(zo (zu 24 [zg s00 x00 d00]=some (zn n2,true)),true)::(zo (zu 22 [zd 1]=some (zn n1,true)),true)::[]):=by kernel_rfl
theorem X6:Ok Tryz.prog E2 149:=zM (S:=fun g=>orB (notB (memN g yH)) (memN g [167,137,38,70,165,143,102,146,101,130,156,127,18,21,20,19])) mixed zbX (by kernel_rfl) fun l v h=>by
  have e:E2 149 l=qv l:=by kernel_rfl
  rw [e] at h
  replace h:=z0 h; obtain ⟨a,rfl,h⟩:=h
  replace h:=yg h; obtain ⟨s00,x00,d00,s01,x01,d01,s02,x02,d02,rfl,h⟩:=h
  replace h:=zN h; obtain ⟨n1,hq69,h⟩:=h
  replace h:=zN h; obtain ⟨n2,hq70,h⟩:=h
  replace h:=zN h; obtain ⟨n3,hq71,h⟩:=h
  replace h:=zN h; obtain ⟨n4,hq72,h⟩:=h
  replace h:=ym h; obtain ⟨n5,n6,hq73,h⟩:=h
  replace h:=zN h; obtain ⟨n7,hq74,h⟩:=h
  replace h:=zN h; obtain ⟨n8,hq75,h⟩:=h
  replace h:=zN h; obtain ⟨n9,hq76,h⟩:=h
  replace h:=zN h; obtain ⟨n10,hq77,h⟩:=h
  replace h:=ym h; obtain ⟨n11,n12,hq78,h⟩:=h
  replace h:=zN h; obtain ⟨n13,hq79,h⟩:=h
  replace h:=zN h; obtain ⟨n14,hq80,h⟩:=h
  replace h:=zN h; obtain ⟨n15,hq81,h⟩:=h
  replace h:=zN h; obtain ⟨n16,hq82,h⟩:=h
  replace h:=ym h; obtain ⟨n17,n18,hq83,h⟩:=h
  replace h:=zN h; obtain ⟨n19,hq84,h⟩:=h
  replace h:=zN h; obtain ⟨n20,hq85,h⟩:=h
  replace h:=ym h; obtain ⟨n21,n22,hq86,h⟩:=h
  replace h:=zy h; obtain ⟨a23,n23,hq87,h⟩:=h
  replace h:=zy h; obtain ⟨a24,n24,hq88,h⟩:=h
  replace h:=zy h; obtain ⟨a25,n25,hq89,h⟩:=h
  replace h:=zN h; obtain ⟨n26,hq90,h⟩:=h
  replace h:=ym h; obtain ⟨n27,n28,hq91,h⟩:=h
  replace h:=zy h; obtain ⟨a29,n29,hq92,h⟩:=h
  replace h:=zy h; obtain ⟨a30,n30,hq93,h⟩:=h
  replace h:=zy h; obtain ⟨a31,n31,hq94,h⟩:=h
  replace h:=zN h; obtain ⟨n32,hq95,h⟩:=h
  replace h:=ym h; obtain ⟨n33,n34,hq96,h⟩:=h
  replace h:=zy h; obtain ⟨a35,n35,hq97,h⟩:=h
  replace h:=zy h; obtain ⟨a36,n36,hq98,h⟩:=h
  replace h:=zy h; obtain ⟨a37,n37,hq99,h⟩:=h
  replace h:=zN h; obtain ⟨n38,hq100,h⟩:=h
  replace h:=zN h; obtain ⟨n39,hq101,h⟩:=h
  replace h:=zN h; obtain ⟨n40,hq102,h⟩:=h
  replace h:=ym h; obtain ⟨n41,n42,hq103,h⟩:=h
  replace h:=zy h; obtain ⟨a43,n43,hq104,h⟩:=h
  replace h:=ym h; obtain ⟨n44,n45,hq105,h⟩:=h
  replace h:=zy h; obtain ⟨a46,n46,hq106,h⟩:=h
  replace h:=ym h; obtain ⟨n47,n48,hq107,h⟩:=h
  replace h:=zy h; obtain ⟨a49,n49,hq108,h⟩:=h
  replace h:=zJ h; obtain ⟨a50,n50,e50,hq109,h⟩:=h
  replace h:=zJ h; obtain ⟨a51,n51,e51,hq110,h⟩:=h
  replace h:=zJ h; obtain ⟨a52,n52,e52,hq111,h⟩:=h
  obtain ⟨rfl,_⟩:=zB h
  exact ⟨rfl,rfl,yi (Z1 s00 s01 s02 a23 a24 a25 a29 a30 a31 a35 a36 a37 a43 a46 a49 a50 a51 a52 x00 d00 x01 d01 x02 d02 n1 n2 n3 n4 n5 n6 n7 n8 n9 n10 n11 n12 n13 n14 n15 n16 n17 n18 n19 n20 n21 n22 n23 n24 n25 n26 n27 n28 n29 n30 n31 n32 n33 n34 n35 n36 n37 n38 n39 n40 n41 n42 n43 n44 n45 n46 n47 n48 n49 n50 e50 n51 e51 n52 e52) rfl (met_cons (zj.2 (zD (by kernel_rfl) ((zbJ _).trans hq111))) (met_cons (zj.2 (zD (by kernel_rfl) ((zbJ _).trans hq110))) (met_cons (zj.2 (zD (by kernel_rfl) ((zbJ _).trans hq109))) (met_cons (zj.2 (zD (by kernel_rfl) ((wo _).trans hq108))) (met_cons (zj.2 (zD (by kernel_rfl) ((wi _).trans hq107))) (met_cons (zj.2 (zD (by kernel_rfl) ((wo _).trans hq106))) (met_cons (zj.2 (zD (by kernel_rfl) ((wi _).trans hq105))) (met_cons (zj.2 (zD (by kernel_rfl) ((wo _).trans hq104))) (met_cons (zj.2 (zD (by kernel_rfl) ((wi _).trans hq103))) (met_cons (zj.2 (zD (by kernel_rfl) ((u6 _).trans hq102))) (met_cons (zj.2 (zD (by kernel_rfl) ((u6 _).trans hq101))) (met_cons (zj.2 (zD (by kernel_rfl) ((u6 _).trans hq100))) (met_cons (zj.2 (zD (by kernel_rfl) ((w6 _).trans hq99))) (met_cons (zj.2 (zD (by kernel_rfl) ((wo _).trans hq98))) (met_cons (zj.2 (zD (by kernel_rfl) ((ZE _).trans hq97))) (met_cons (zj.2 (zD (by kernel_rfl) ((wi _).trans hq96))) (met_cons (zj.2 (zD (by kernel_rfl) ((qZ _).trans hq95))) (met_cons (zj.2 (zD (by kernel_rfl) ((w6 _).trans hq94))) (met_cons (zj.2 (zD (by kernel_rfl) ((wo _).trans hq93))) (met_cons (zj.2 (zD (by kernel_rfl) ((ZE _).trans hq92))) (met_cons (zj.2 (zD (by kernel_rfl) ((wi _).trans hq91))) (met_cons (zj.2 (zD (by kernel_rfl) ((qZ _).trans hq90))) (met_cons (zj.2 (zD (by kernel_rfl) ((w6 _).trans hq89))) (met_cons (zj.2 (zD (by kernel_rfl) ((wo _).trans hq88))) (met_cons (zj.2 (zD (by kernel_rfl) ((ZE _).trans hq87))) (met_cons (zj.2 (zD (by kernel_rfl) ((wi _).trans hq86))) (met_cons (zj.2 (zD (by kernel_rfl) ((qZ _).trans hq85))) (met_cons (zj.2 (zD (by kernel_rfl) ((Ql _).trans hq84))) (met_cons (zj.2 (zD (by kernel_rfl) ((wi _).trans hq83))) (met_cons (zj.2 (zD (by kernel_rfl) ((u6 _).trans hq82))) (met_cons (zj.2 (zD (by kernel_rfl) ((qZ _).trans hq81))) (met_cons (zj.2 (zD (by kernel_rfl) ((qZ _).trans hq80))) (met_cons (zj.2 (zD (by kernel_rfl) ((Ql _).trans hq79))) (met_cons (zj.2 (zD (by kernel_rfl) ((wi _).trans hq78))) (met_cons (zj.2 (zD (by kernel_rfl) ((u6 _).trans hq77))) (met_cons (zj.2 (zD (by kernel_rfl) ((qZ _).trans hq76))) (met_cons (zj.2 (zD (by kernel_rfl) ((qZ _).trans hq75))) (met_cons (zj.2 (zD (by kernel_rfl) ((Ql _).trans hq74))) (met_cons (zj.2 (zD (by kernel_rfl) ((wi _).trans hq73))) (met_cons (zj.2 (zD (by kernel_rfl) ((u6 _).trans hq72))) (met_cons (zj.2 (zD (by kernel_rfl) ((qZ _).trans hq71))) (met_cons (zj.2 (zD (by kernel_rfl) ((qZ _).trans hq70))) (met_cons (zj.2 (zD (by kernel_rfl) ((zdK _).trans hq69))) met_nil)))))))))))))))))))))))))))))))))))))))))))⟩
theorem X7:∀ g,orB (notB (memN g yH)) (memN g [149,167,137,38,70,165,143,102,146,101,130,156,127,18,21,20,19])=true→Ok Tryz.prog E2 g:=yI zbX X6
theorem all_ok2:∀ f,Ok Tryz.prog E2 f:=fun f=>X7 f (by
  cases h:memN f yH with
  | true=>rfl
  | false=>rfl)
end
end Go.Proofs.YtagolmgljacneaaGreat.num
