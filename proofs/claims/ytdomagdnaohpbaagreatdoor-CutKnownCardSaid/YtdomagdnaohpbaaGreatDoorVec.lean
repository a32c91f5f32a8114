/- FUNCTIONS ON VECTORS, PLANES, ROWS of small numbers: what they answer, out of what the functions on numbers answer. Printed by a program (wip/vec/gen_vec.py). -/
import Derived.Test.YtdomagdnaohpbaaGreatDoorDot
set_option linter.unusedSimpArgs false
set_option linter.unusedVariables false
set_option maxRecDepth 100000
namespace Go.Proofs.YtdomagdnaohpbaaGreatDoor.num
noncomputable section
open Go.Abs
def arg4 {β:Type} (l:List AV) (k:AV→AV→AV→AV→Option β):Option β:=yB l fun a l=>yB l fun b l=>yB l fun c l=>yB l fun d l=>uD l (k a b c d)
theorem zai {β:Type} {l:List AV} {k:AV→AV→AV→AV→Option β} {y:β} (h:arg4 l k=some y):∃ a b c d,l=[a,b,c,d]∧k a b c d=some y:=by
  replace h:=zG h; obtain ⟨a,l1,rfl,h⟩:=h
  replace h:=zG h; obtain ⟨b,l1,rfl,h⟩:=h
  replace h:=zG h; obtain ⟨c,l1,rfl,h⟩:=h
  replace h:=zG h; obtain ⟨d,l1,rfl,h⟩:=h
  replace h:=yy h; obtain ⟨rfl,h⟩:=h
  exact ⟨a,b,c,d,rfl,h⟩
def eX (l:List AV):Q:=vc l fun a=>uY a fun s00 x00 d00 s01 x01 d01 s02 x02 d02 =>
  some (zg s00 x00 d00,true)
def eY (l:List AV):Q:=vc l fun a=>uY a fun s00 x00 d00 s01 x01 d01 s02 x02 d02 =>
  some (zg s01 x01 d01,true)
def eZ (l:List AV):Q:=vc l fun a=>uY a fun s00 x00 d00 s01 x01 d01 s02 x02 d02 =>
  some (zg s02 x02 d02,true)
def Uw (l:List AV):Q:=vc l fun a=>uY a fun s00 x00 d00 s01 x01 d01 s02 x02 d02 =>
  ZJ ((E1 60) [zg s00 x00 d00]) fun z1 =>
  ifB (eqI z1 0) (ZJ ((E1 60) [zg s01 x01 d01]) fun z2 =>
    ifB (eqI z2 0) (ZJ ((E1 60) [zg s02 x02 d02]) fun z3 =>
      some (ze (eqI z3 0),true)) (some (ze false,true))) (some (ze false,true))
def zck (l:List AV):Q:=xI l fun a b=>uY a fun s00 x00 d00 s01 x01 d01 s02 x02 d02=>uY b fun s10 x10 d10 s11 x11 d11 s12 x12 d12 =>
  yZ ((E1 109) [zg s00 x00 d00,zg s10 x10 d10]) fun a1 n1 e1 =>
  yZ ((E1 109) [zg s01 x01 d01,zg s11 x11 d11]) fun a2 n2 e2 =>
  yZ ((E1 109) [zg s02 x02 d02,zg s12 x12 d12]) fun a3 n3 e3 =>
  some (.agg [ze a1,zd n1,zb,zd e1,zb,ze a2,zd n2,zb,zd e2,zb,ze a3,zd n3,zb,zd e3,zb],true)
def zcl (l:List AV):Q:=xI l fun a b=>uY a fun s00 x00 d00 s01 x01 d01 s02 x02 d02=>uY b fun s10 x10 d10 s11 x11 d11 s12 x12 d12 =>
  yZ ((E1 110) [zg s00 x00 d00,zg s10 x10 d10]) fun a1 n1 e1 =>
  yZ ((E1 110) [zg s01 x01 d01,zg s11 x11 d11]) fun a2 n2 e2 =>
  yZ ((E1 110) [zg s02 x02 d02,zg s12 x12 d12]) fun a3 n3 e3 =>
  some (.agg [ze a1,zd n1,zb,zd e1,zb,ze a2,zd n2,zb,zd e2,zb,ze a3,zd n3,zb,zd e3,zb],true)
def QU (l:List AV):Q:=xI l fun a b=>xT a fun s0 x0 d0=>uY b fun s10 x10 d10 s11 x11 d11 s12 x12 d12 =>
  yZ ((E1 108) [zg s0 x0 d0,zg s10 x10 d10]) fun a1 n1 e1 =>
  yZ ((E1 108) [zg s0 x0 d0,zg s11 x11 d11]) fun a2 n2 e2 =>
  yZ ((E1 108) [zg s0 x0 d0,zg s12 x12 d12]) fun a3 n3 e3 =>
  some (.agg [ze a1,zd n1,zb,zd e1,zb,ze a2,zd n2,zb,zd e2,zb,ze a3,zd n3,zb,zd e3,zb],true)
def Ux (l:List AV):Q:=xI l fun a b=>uY a fun s00 x00 d00 s01 x01 d01 s02 x02 d02=>uY b fun s10 x10 d10 s11 x11 d11 s12 x12 d12 =>
  yZ ((E1 108) [zg s00 x00 d00,zg s10 x10 d10]) fun a1 n1 e1 =>
  yZ ((E1 109) [zg false 0 0,zg a1 n1 e1]) fun a2 n2 e2 =>
  yZ ((E1 108) [zg s01 x01 d01,zg s11 x11 d11]) fun a3 n3 e3 =>
  yZ ((E1 109) [zg a2 n2 e2,zg a3 n3 e3]) fun a4 n4 e4 =>
  yZ ((E1 108) [zg s02 x02 d02,zg s12 x12 d12]) fun a5 n5 e5 =>
  yZ ((E1 109) [zg a4 n4 e4,zg a5 n5 e5]) fun a6 n6 e6 =>
  some (zg a6 n6 e6,true)
def uW (l:List AV):Q:=vc l fun a=>qC a fun s00 x00 d00 s01 x01 d01 s02 x02 d02 s03 x03 d03 =>
  ze3 (Uw [.agg [ze s00,zd x00,zb,zd d00,zb,ze s01,zd x01,zb,zd d01,zb,ze s02,zd x02,zb,zd d02,zb]]) fun c1 =>
  ifB c1 (none) (some (.agg [ze s00,zd x00,zb,zd d00,zb,ze s01,zd x01,zb,zd d01,zb,ze s02,zd x02,zb,zd d02,zb],true))
def ks (l:List AV):Q:=vc l fun a=>qC a fun s00 x00 d00 s01 x01 d01 s02 x02 d02 s03 x03 d03 =>
  KD (uW [.agg [ze s00,zd x00,zb,zd d00,zb,ze s01,zd x01,zb,zd d01,zb,ze s02,zd x02,zb,zd d02,zb,ze s03,zd x03,zb,zd d03,zb]]) fun a1 n1 e1 a2 n2 e2 a3 n3 e3 =>
  some (.agg [ze a1,zd n1,zb,zd e1,zb,ze a2,zd n2,zb,zd e2,zb,ze a3,zd n3,zb,zd e3,zb],true)
def ku (l:List AV):Q:=vc l fun a=>qC a fun s00 x00 d00 s01 x01 d01 s02 x02 d02 s03 x03 d03 =>
  some (zg s03 x03 d03,true)
def eAt (l:List AV):Q:=xI l fun a b=>qC a fun s00 x00 d00 s01 x01 d01 s02 x02 d02 s03 x03 d03=>uY b fun s10 x10 d10 s11 x11 d11 s12 x12 d12 =>
  KD (uW [.agg [ze s00,zd x00,zb,zd d00,zb,ze s01,zd x01,zb,zd d01,zb,ze s02,zd x02,zb,zd d02,zb,ze s03,zd x03,zb,zd d03,zb]]) fun a1 n1 e1 a2 n2 e2 a3 n3 e3 =>
  yZ (Ux [.agg [ze a1,zd n1,zb,zd e1,zb,ze a2,zd n2,zb,zd e2,zb,ze a3,zd n3,zb,zd e3,zb],.agg [ze s10,zd x10,zb,zd d10,zb,ze s11,zd x11,zb,zd d11,zb,ze s12,zd x12,zb,zd d12,zb]]) fun a4 n4 e4 =>
  yZ ((E1 110) [zg a4 n4 e4,zg s03 x03 d03]) fun a5 n5 e5 =>
  some (zg a5 n5 e5,true)
def zcm (l:List AV):Q:=xI l fun a b=>qC a fun s00 x00 d00 s01 x01 d01 s02 x02 d02 s03 x03 d03=>uY b fun s10 x10 d10 s11 x11 d11 s12 x12 d12 =>
  yZ (eAt [.agg [ze s00,zd x00,zb,zd d00,zb,ze s01,zd x01,zb,zd d01,zb,ze s02,zd x02,zb,zd d02,zb,ze s03,zd x03,zb,zd d03,zb],.agg [ze s10,zd x10,zb,zd d10,zb,ze s11,zd x11,zb,zd d11,zb,ze s12,zd x12,zb,zd d12,zb]]) fun a1 n1 e1 =>
  ZJ ((E1 60) [zg a1 n1 e1]) fun z2 =>
  some (zw z2,true)
def zgw (l:List AV):Q:=vc l fun a=>qC a fun s00 x00 d00 s01 x01 d01 s02 x02 d02 s03 x03 d03 =>
  KD (ks [.agg [ze s00,zd x00,zb,zd d00,zb,ze s01,zd x01,zb,zd d01,zb,ze s02,zd x02,zb,zd d02,zb,ze s03,zd x03,zb,zd d03,zb]]) fun a1 n1 e1 a2 n2 e2 a3 n3 e3 =>
  yZ (eX [.agg [ze a1,zd n1,zb,zd e1,zb,ze a2,zd n2,zb,zd e2,zb,ze a3,zd n3,zb,zd e3,zb]]) fun a4 n4 e4 =>
  yr ((E1 36) [zg a4 n4 e4]) fun a5 n5 =>
  yZ (eY [.agg [ze a1,zd n1,zb,zd e1,zb,ze a2,zd n2,zb,zd e2,zb,ze a3,zd n3,zb,zd e3,zb]]) fun a6 n6 e6 =>
  yr ((E1 36) [zg a6 n6 e6]) fun a7 n7 =>
  yZ (eZ [.agg [ze a1,zd n1,zb,zd e1,zb,ze a2,zd n2,zb,zd e2,zb,ze a3,zd n3,zb,zd e3,zb]]) fun a8 n8 e8 =>
  yr ((E1 36) [zg a8 n8 e8]) fun a9 n9 =>
  yZ (ku [.agg [ze s00,zd x00,zb,zd d00,zb,ze s01,zd x01,zb,zd d01,zb,ze s02,zd x02,zb,zd d02,zb,ze s03,zd x03,zb,zd d03,zb]]) fun a10 n10 e10 =>
  yr ((E1 36) [zg a10 n10 e10]) fun a11 n11 =>
  yr ((E1 39) [zh a11 n11]) fun a12 n12 =>
  some (.agg [ze a5,zd n5,zb,ze a7,zd n7,zb,ze a9,zd n9,zb,ze a12,zd n12,zb],true)
def zgx (l:List AV):Q:=arg4 l fun a b c d=>yV a fun s0 x0=>Vt b fun s10 x10 s11 x11 s12 x12 s13 x13=>yV c fun s2 x2=>Vt d fun s30 x30 s31 x31 s32 x32 s33 x33 =>
  yr ((E1 35) [zh s0 x0,zh s10 x10]) fun a1 n1 =>
  yr ((E1 35) [zh s2 x2,zh s30 x30]) fun a2 n2 =>
  yr ((E1 164) [zh a1 n1,zh a2 n2]) fun a3 n3 =>
  yr ((E1 35) [zh s0 x0,zh s11 x11]) fun a4 n4 =>
  yr ((E1 35) [zh s2 x2,zh s31 x31]) fun a5 n5 =>
  yr ((E1 164) [zh a4 n4,zh a5 n5]) fun a6 n6 =>
  yr ((E1 35) [zh s0 x0,zh s12 x12]) fun a7 n7 =>
  yr ((E1 35) [zh s2 x2,zh s32 x32]) fun a8 n8 =>
  yr ((E1 164) [zh a7 n7,zh a8 n8]) fun a9 n9 =>
  yr ((E1 35) [zh s0 x0,zh s13 x13]) fun a10 n10 =>
  yr ((E1 35) [zh s2 x2,zh s33 x33]) fun a11 n11 =>
  yr ((E1 164) [zh a10 n10,zh a11 n11]) fun a12 n12 =>
  xc ((E1 34) [zn 0,zn n3]) fun n13 =>
  xc ((E1 34) [zn n13,zn n6]) fun n14 =>
  xc ((E1 34) [zn n14,zn n9]) fun n15 =>
  xc ((E1 34) [zn n15,zn n12]) fun n16 =>
  vr ((E1 32) [zn n3,zn n16]) fun n17 n18 =>
  yr ((E1 26) [ze a3,zn n17]) fun a19 n19 =>
  vr ((E1 32) [zn n6,zn n16]) fun n20 n21 =>
  yr ((E1 26) [ze a6,zn n20]) fun a22 n22 =>
  vr ((E1 32) [zn n9,zn n16]) fun n23 n24 =>
  yr ((E1 26) [ze a9,zn n23]) fun a25 n25 =>
  vr ((E1 32) [zn n12,zn n16]) fun n26 n27 =>
  yr ((E1 26) [ze a12,zn n26]) fun a28 n28 =>
  some (.agg [ze a19,zd n19,zb,ze a22,zd n22,zb,ze a25,zd n25,zb,ze a28,zd n28,zb],true)
def qH (l:List AV):Q:=vc l fun a=>uY a fun s00 x00 d00 s01 x01 d01 s02 x02 d02 =>
  xc ((E1 24) [zd 1]) fun n1 =>
  xc ((E1 33) [zg s00 x00 d00]) fun n2 =>
  xc ((E1 33) [zg s00 x00 d00]) fun n3 =>
  xc ((E1 34) [zn n1,zn n3]) fun n4 =>
  vr ((E1 32) [zn n2,zn n4]) fun n5 n6 =>
  xc ((E1 23) [zn n1,zn n5]) fun n7 =>
  xc ((E1 33) [zg s01 x01 d01]) fun n8 =>
  xc ((E1 33) [zg s01 x01 d01]) fun n9 =>
  xc ((E1 34) [zn n7,zn n9]) fun n10 =>
  vr ((E1 32) [zn n8,zn n10]) fun n11 n12 =>
  xc ((E1 23) [zn n7,zn n11]) fun n13 =>
  xc ((E1 33) [zg s02 x02 d02]) fun n14 =>
  xc ((E1 33) [zg s02 x02 d02]) fun n15 =>
  xc ((E1 34) [zn n13,zn n15]) fun n16 =>
  vr ((E1 32) [zn n14,zn n16]) fun n17 n18 =>
  xc ((E1 23) [zn n13,zn n17]) fun n19 =>
  xc ((E1 33) [zg s00 x00 d00]) fun n20 =>
  vr ((E1 32) [zn n19,zn n20]) fun n21 n22 =>
  yr ((E1 36) [zg s00 x00 d00]) fun a23 n23 =>
  yr ((E1 26) [ze false,zn n21]) fun a24 n24 =>
  yr ((E1 35) [zh a23 n23,zh a24 n24]) fun a25 n25 =>
  xc ((E1 33) [zg s01 x01 d01]) fun n26 =>
  vr ((E1 32) [zn n19,zn n26]) fun n27 n28 =>
  yr ((E1 36) [zg s01 x01 d01]) fun a29 n29 =>
  yr ((E1 26) [ze false,zn n27]) fun a30 n30 =>
  yr ((E1 35) [zh a29 n29,zh a30 n30]) fun a31 n31 =>
  xc ((E1 33) [zg s02 x02 d02]) fun n32 =>
  vr ((E1 32) [zn n19,zn n32]) fun n33 n34 =>
  yr ((E1 36) [zg s02 x02 d02]) fun a35 n35 =>
  yr ((E1 26) [ze false,zn n33]) fun a36 n36 =>
  yr ((E1 35) [zh a35 n35,zh a36 n36]) fun a37 n37 =>
  xc ((E1 34) [zn 0,zn n25]) fun n38 =>
  xc ((E1 34) [zn n38,zn n31]) fun n39 =>
  xc ((E1 34) [zn n39,zn n37]) fun n40 =>
  vr ((E1 32) [zn n25,zn n40]) fun n41 n42 =>
  yr ((E1 26) [ze a25,zn n41]) fun a43 n43 =>
  vr ((E1 32) [zn n31,zn n40]) fun n44 n45 =>
  yr ((E1 26) [ze a31,zn n44]) fun a46 n46 =>
  vr ((E1 32) [zn n37,zn n40]) fun n47 n48 =>
  yr ((E1 26) [ze a37,zn n47]) fun a49 n49 =>
  yZ ((E1 40) [zh a43 n43]) fun a50 n50 e50 =>
  yZ ((E1 40) [zh a46 n46]) fun a51 n51 e51 =>
  yZ ((E1 40) [zh a49 n49]) fun a52 n52 e52 =>
  some (.agg [ze a50,zd n50,zb,zd e50,zb,ze a51,zd n51,zb,zd e51,zb,ze a52,zd n52,zb,zd e52,zb],true)
def tblV:T (List AV→Q):=
  T.set 198 qH <|
  T.set 194 zgx <|
  T.set 150 zgw <|
  T.set 68 zcm <|
  T.set 105 eAt <|
  T.set 192 ku <|
  T.set 107 ks <|
  T.set 162 uW <|
  T.set 106 Ux <|
  T.set 62 QU <|
  T.set 128 zcl <|
  T.set 61 zck <|
  T.set 28 Uw <|
  T.set 31 eZ <|
  T.set 30 eY <|
  T.set 29 eX <|
  T.nil
def E2:Es:=fun f l=>elimO (T.get tblV f) (E1 f l) fun g=>g l
abbrev yR:List Nat:=[198,194,150,68,105,192,107,162,106,62,128,61,28,31,30,29]
abbrev zcn:List (Nat×(List AV→Q)):=[(198,qH),(194,zgx),(150,zgw),(68,zcm),(105,eAt),(192,ku),(107,ks),(162,uW),(106,Ux),(62,QU),(128,zcl),(61,zck),(28,Uw),(31,eZ),(30,eY),(29,eX)]
theorem zes:tblV=Vs zcn:=rfl
theorem zgy {g:Nat} (h:memN g yR=false) (l:List AV):E2 g l=E1 g l:=by
  unfold E2
  rw [zes,qB (l:=zcn) h]
  rfl
theorem zgz:∀ g,notB (memN g yR)=true→Ok Tryz.prog E2 g:=fun g h l v hv=>by
  rw [zgy (ZI.1 h)] at hv
  exact zer g l v hv
def SV (prev:List Nat):Es:=only (fun g=>orB (notB (memN g yR)) (memN g prev)) E2
theorem zI {prev:List Nat} {g:Nat} {l:List AV} {q:AV×Bool} (hg:orB (notB (memN g yR)) (memN g prev)=true) (h:E2 g l=some q):SV prev g l=some q:=by
  show zm (orB (notB (memN g yR)) (memN g prev)) (E2 g l)=_
  rw [hg]; exact h
theorem yS {prev:List Nat} {f:Nat} (h:∀ g,orB (notB (memN g yR)) (memN g prev)=true→Ok Tryz.prog E2 g) (hf:Ok Tryz.prog E2 f):∀ g,orB (notB (memN g yR)) (memN g (f::prev))=true→Ok Tryz.prog E2 g:=fun g hg=>by
  cases e:Nat.beq g f with
  | true=>rw [Abs.beq_true.1 e]; exact hf
  |
    false =>
    refine h g ?_
    have e2:memN g (f::prev)=memN g prev:=by show ifB (Nat.beq g f) true (memN g prev)=_; rw [e]; rfl
    rw [e2] at hg; exact hg
theorem Uy:∀ g,orB (notB (memN g yR)) (memN g [])=true→Ok Tryz.prog E2 g:=fun g hg=>zgz g (by cases h:notB (memN g yR) with | true=>rfl | false=>rw [h] at hg; exact hg)
theorem v5 (l:List AV):E2 60 l=(E1 60) l:=by kernel_rfl
theorem k7 (l:List AV):E2 109 l=(E1 109) l:=by kernel_rfl
theorem Wp (l:List AV):E2 110 l=(E1 110) l:=by kernel_rfl
theorem k8 (l:List AV):E2 108 l=(E1 108) l:=by kernel_rfl
theorem zgA (l:List AV):E2 28 l=Uw l:=by kernel_rfl
theorem Uz (l:List AV):E2 162 l=uW l:=by kernel_rfl
theorem zgB (l:List AV):E2 106 l=Ux l:=by kernel_rfl
theorem q_At (l:List AV):E2 105 l=eAt l:=by kernel_rfl
theorem zco (l:List AV):E2 107 l=ks l:=by kernel_rfl
theorem q_X (l:List AV):E2 29 l=eX l:=by kernel_rfl
theorem ZR (l:List AV):E2 36 l=(E1 36) l:=by kernel_rfl
theorem q_Y (l:List AV):E2 30 l=eY l:=by kernel_rfl
theorem q_Z (l:List AV):E2 31 l=eZ l:=by kernel_rfl
theorem zcp (l:List AV):E2 192 l=ku l:=by kernel_rfl
theorem zgC (l:List AV):E2 39 l=(E1 39) l:=by kernel_rfl
theorem ve (l:List AV):E2 35 l=(E1 35) l:=by kernel_rfl
theorem Wq (l:List AV):E2 164 l=(E1 164) l:=by kernel_rfl
theorem qg (l:List AV):E2 34 l=(E1 34) l:=by kernel_rfl
theorem wo (l:List AV):E2 32 l=(E1 32) l:=by kernel_rfl
theorem ww (l:List AV):E2 26 l=(E1 26) l:=by kernel_rfl
theorem zet (l:List AV):E2 24 l=(E1 24) l:=by kernel_rfl
theorem kx (l:List AV):E2 33 l=(E1 33) l:=by kernel_rfl
theorem QV (l:List AV):E2 23 l=(E1 23) l:=by kernel_rfl
theorem zcq (l:List AV):E2 40 l=(E1 40) l:=by kernel_rfl
abbrev SX:Es:=SV []
theorem p_X_0 (s00 s01 s02:Bool) (x00 d00 x01 d01 x02 d02:Nat):symCall (cxOf Tryz.prog SX) SX 100 29 [.agg [ze s00,zd x00,zb,zd d00,zb,ze s01,zd x01,zb,zd d01,zb,ze s02,zd x02,zb,zd d02,zb]] []=some (.value (zg s00 x00 d00) (some []),[],[]):=by kernel_rfl
theorem ok_X:Ok Tryz.prog E2 29:=zM (S:=fun g=>orB (notB (memN g yR)) (memN g [])) mixed Uy (by kernel_rfl) fun l v h=>by
  have e:E2 29 l=eX l:=by kernel_rfl
  rw [e] at h
  replace h:=zX h; obtain ⟨a,rfl,h⟩:=h
  replace h:=ym h; obtain ⟨s00,x00,d00,s01,x01,d01,s02,x02,d02,rfl,h⟩:=h
  obtain ⟨rfl,_⟩:=zC h
  exact ⟨rfl,rfl,yz (p_X_0 s00 s01 s02 x00 d00 x01 d01 x02 d02) rfl met_nil⟩
theorem al_X:∀ g,orB (notB (memN g yR)) (memN g [29])=true→Ok Tryz.prog E2 g:=yS Uy ok_X
abbrev SY:Es:=SV [29]
theorem p_Y_0 (s00 s01 s02:Bool) (x00 d00 x01 d01 x02 d02:Nat):symCall (cxOf Tryz.prog SY) SY 100 30 [.agg [ze s00,zd x00,zb,zd d00,zb,ze s01,zd x01,zb,zd d01,zb,ze s02,zd x02,zb,zd d02,zb]] []=some (.value (zg s01 x01 d01) (some []),[],[]):=by kernel_rfl
theorem ok_Y:Ok Tryz.prog E2 30:=zM (S:=fun g=>orB (notB (memN g yR)) (memN g [29])) mixed al_X (by kernel_rfl) fun l v h=>by
  have e:E2 30 l=eY l:=by kernel_rfl
  rw [e] at h
  replace h:=zX h; obtain ⟨a,rfl,h⟩:=h
  replace h:=ym h; obtain ⟨s00,x00,d00,s01,x01,d01,s02,x02,d02,rfl,h⟩:=h
  obtain ⟨rfl,_⟩:=zC h
  exact ⟨rfl,rfl,yz (p_Y_0 s00 s01 s02 x00 d00 x01 d01 x02 d02) rfl met_nil⟩
theorem al_Y:∀ g,orB (notB (memN g yR)) (memN g [30,29])=true→Ok Tryz.prog E2 g:=yS al_X ok_Y
abbrev SZ:Es:=SV [30,29]
theorem p_Z_0 (s00 s01 s02:Bool) (x00 d00 x01 d01 x02 d02:Nat):symCall (cxOf Tryz.prog SZ) SZ 100 31 [.agg [ze s00,zd x00,zb,zd d00,zb,ze s01,zd x01,zb,zd d01,zb,ze s02,zd x02,zb,zd d02,zb]] []=some (.value (zg s02 x02 d02) (some []),[],[]):=by kernel_rfl
theorem ok_Z:Ok Tryz.prog E2 31:=zM (S:=fun g=>orB (notB (memN g yR)) (memN g [30,29])) mixed al_Y (by kernel_rfl) fun l v h=>by
  have e:E2 31 l=eZ l:=by kernel_rfl
  rw [e] at h
  replace h:=zX h; obtain ⟨a,rfl,h⟩:=h
  replace h:=ym h; obtain ⟨s00,x00,d00,s01,x01,d01,s02,x02,d02,rfl,h⟩:=h
  obtain ⟨rfl,_⟩:=zC h
  exact ⟨rfl,rfl,yz (p_Z_0 s00 s01 s02 x00 d00 x01 d01 x02 d02) rfl met_nil⟩
theorem al_Z:∀ g,orB (notB (memN g yR)) (memN g [31,30,29])=true→Ok Tryz.prog E2 g:=yS al_Y ok_Z
abbrev v6:Es:=SV [31,30,29]
theorem zcr (s00 s01 s02:Bool) (x00 d00 x01 d01 x02 d02:Nat) (z1 z2 z3:Int):symCall (cxOf Tryz.prog v6) v6 100 28 [.agg [ze s00,zd x00,zb,zd d00,zb,ze s01,zd x01,zb,zd d01,zb,ze s02,zd x02,zb,zd d02,zb]] [.r 60 (zw z1),.t,.t,.t,.t,.r 60 (zw z2),.t,.t,.t,.t,.t,.t,.r 60 (zw z3),.t,.t]=some (.value (ze (eqI z3 0)) (some []),[],((eqI z2 0),true)::((eqI z2 0),true)::(zo (v6 60 [zg s02 x02 d02]=some (zw z3,true)),true)::((eqI z2 0),true)::((eqI z2 0),true)::((eqI z2 0),true)::((eqI z2 0),true)::((eqI z1 0),true)::((eqI z1 0),true)::(zo (v6 60 [zg s01 x01 d01]=some (zw z2,true)),true)::((eqI z1 0),true)::((eqI z1 0),true)::((eqI z1 0),true)::((eqI z1 0),true)::(zo (v6 60 [zg s00 x00 d00]=some (zw z1,true)),true)::[]):=by kernel_rfl
theorem zcs (s00 s01 s02:Bool) (x00 d00 x01 d01 x02 d02:Nat) (z1 z2:Int):symCall (cxOf Tryz.prog v6) v6 100 28 [.agg [ze s00,zd x00,zb,zd d00,zb,ze s01,zd x01,zb,zd d01,zb,ze s02,zd x02,zb,zd d02,zb]] [.r 60 (zw z1),.t,.t,.t,.t,.r 60 (zw z2),.t,.t,.f,.f,.f,.f,.f,.f]=some (.value (ze false) (some []),[],((eqI z2 0),false)::((eqI z2 0),false)::((eqI z2 0),false)::((eqI z2 0),false)::((eqI z2 0),false)::((eqI z2 0),false)::((eqI z1 0),true)::((eqI z1 0),true)::(zo (v6 60 [zg s01 x01 d01]=some (zw z2,true)),true)::((eqI z1 0),true)::((eqI z1 0),true)::((eqI z1 0),true)::((eqI z1 0),true)::(zo (v6 60 [zg s00 x00 d00]=some (zw z1,true)),true)::[]):=by kernel_rfl
theorem zct (s00 s01 s02:Bool) (x00 d00 x01 d01 x02 d02:Nat) (z1:Int):symCall (cxOf Tryz.prog v6) v6 100 28 [.agg [ze s00,zd x00,zb,zd d00,zb,ze s01,zd x01,zb,zd d01,zb,ze s02,zd x02,zb,zd d02,zb]] [.r 60 (zw z1),.f,.f,.f,.f,.f,.f]=some (.value (ze false) (some []),[],((eqI z1 0),false)::((eqI z1 0),false)::((eqI z1 0),false)::((eqI z1 0),false)::((eqI z1 0),false)::((eqI z1 0),false)::(zo (v6 60 [zg s00 x00 d00]=some (zw z1,true)),true)::[]):=by kernel_rfl
theorem zeu:Ok Tryz.prog E2 28:=zM (S:=fun g=>orB (notB (memN g yR)) (memN g [31,30,29])) mixed al_Z (by kernel_rfl) fun l v h=>by
  have e:E2 28 l=Uw l:=by kernel_rfl
  rw [e] at h
  replace h:=zX h; obtain ⟨a,rfl,h⟩:=h
  replace h:=ym h; obtain ⟨s00,x00,d00,s01,x01,d01,s02,x02,d02,rfl,h⟩:=h
  replace h:=wm h; obtain ⟨z1,hq1,h⟩:=h
  cases hc2:(eqI z1 0) with
  |
    true =>
    rw [hc2,ifB_true] at h
    replace h:=wm h; obtain ⟨z2,hq3,h⟩:=h
    cases hc4:(eqI z2 0) with
    |
      true =>
      rw [hc4,ifB_true] at h
      replace h:=wm h; obtain ⟨z3,hq5,h⟩:=h
      obtain ⟨rfl,_⟩:=zC h
      exact ⟨rfl,rfl,yz (zcr s00 s01 s02 x00 d00 x01 d01 x02 d02 z1 z2 z3) rfl (met_cons (hc4) (met_cons (hc4) (met_cons (zk.2 (zI (by kernel_rfl) ((v5 _).trans hq5))) (met_cons (hc4) (met_cons (hc4) (met_cons (hc4) (met_cons (hc4) (met_cons (hc2) (met_cons (hc2) (met_cons (zk.2 (zI (by kernel_rfl) ((v5 _).trans hq3))) (met_cons (hc2) (met_cons (hc2) (met_cons (hc2) (met_cons (hc2) (met_cons (zk.2 (zI (by kernel_rfl) ((v5 _).trans hq1))) met_nil)))))))))))))))⟩
    |
      false =>
      rw [hc4,zj] at h
      obtain ⟨rfl,_⟩:=zC h
      exact ⟨rfl,rfl,yz (zcs s00 s01 s02 x00 d00 x01 d01 x02 d02 z1 z2) rfl (met_cons (hc4) (met_cons (hc4) (met_cons (hc4) (met_cons (hc4) (met_cons (hc4) (met_cons (hc4) (met_cons (hc2) (met_cons (hc2) (met_cons (zk.2 (zI (by kernel_rfl) ((v5 _).trans hq3))) (met_cons (hc2) (met_cons (hc2) (met_cons (hc2) (met_cons (hc2) (met_cons (zk.2 (zI (by kernel_rfl) ((v5 _).trans hq1))) met_nil))))))))))))))⟩
  |
    false =>
    rw [hc2,zj] at h
    obtain ⟨rfl,_⟩:=zC h
    exact ⟨rfl,rfl,yz (zct s00 s01 s02 x00 d00 x01 d01 x02 d02 z1) rfl (met_cons (hc2) (met_cons (hc2) (met_cons (hc2) (met_cons (hc2) (met_cons (hc2) (met_cons (hc2) (met_cons (zk.2 (zI (by kernel_rfl) ((v5 _).trans hq1))) met_nil)))))))⟩
theorem Je:∀ g,orB (notB (memN g yR)) (memN g [28,31,30,29])=true→Ok Tryz.prog E2 g:=yS al_Z zeu
abbrev UA:Es:=SV [28,31,30,29]
theorem zcu (s00 s01 s02 s10 s11 s12 a1 a2 a3:Bool) (x00 d00 x01 d01 x02 d02 x10 d10 x11 d11 x12 d12 n1 e1 n2 e2 n3 e3:Nat):symCall (cxOf Tryz.prog UA) UA 100 61 [.agg [ze s00,zd x00,zb,zd d00,zb,ze s01,zd x01,zb,zd d01,zb,ze s02,zd x02,zb,zd d02,zb],.agg [ze s10,zd x10,zb,zd d10,zb,ze s11,zd x11,zb,zd d11,zb,ze s12,zd x12,zb,zd d12,zb]] [.r 109 (zg a1 n1 e1),.r 109 (zg a2 n2 e2),.r 109 (zg a3 n3 e3)]=some (.value (.agg [ze a1,zd n1,zb,zd e1,zb,ze a2,zd n2,zb,zd e2,zb,ze a3,zd n3,zb,zd e3,zb]) (some []),[],(zo (UA 109 [zg s02 x02 d02,zg s12 x12 d12]=some (zg a3 n3 e3,true)),true)::(zo (UA 109 [zg s01 x01 d01,zg s11 x11 d11]=some (zg a2 n2 e2,true)),true)::(zo (UA 109 [zg s00 x00 d00,zg s10 x10 d10]=some (zg a1 n1 e1,true)),true)::[]):=by kernel_rfl
theorem zev:Ok Tryz.prog E2 61:=zM (S:=fun g=>orB (notB (memN g yR)) (memN g [28,31,30,29])) mixed Je (by kernel_rfl) fun l v h=>by
  have e:E2 61 l=zck l:=by kernel_rfl
  rw [e] at h
  replace h:=zF h; obtain ⟨a,b,rfl,h⟩:=h
  replace h:=ym h; obtain ⟨s00,x00,d00,s01,x01,d01,s02,x02,d02,rfl,h⟩:=h
  replace h:=ym h; obtain ⟨s10,x10,d10,s11,x11,d11,s12,x12,d12,rfl,h⟩:=h
  replace h:=zK h; obtain ⟨a1,n1,e1,hq6,h⟩:=h
  replace h:=zK h; obtain ⟨a2,n2,e2,hq7,h⟩:=h
  replace h:=zK h; obtain ⟨a3,n3,e3,hq8,h⟩:=h
  obtain ⟨rfl,_⟩:=zC h
  exact ⟨rfl,rfl,yz (zcu s00 s01 s02 s10 s11 s12 a1 a2 a3 x00 d00 x01 d01 x02 d02 x10 d10 x11 d11 x12 d12 n1 e1 n2 e2 n3 e3) rfl (met_cons (zk.2 (zI (by kernel_rfl) ((k7 _).trans hq8))) (met_cons (zk.2 (zI (by kernel_rfl) ((k7 _).trans hq7))) (met_cons (zk.2 (zI (by kernel_rfl) ((k7 _).trans hq6))) met_nil)))⟩
theorem Jf:∀ g,orB (notB (memN g yR)) (memN g [61,28,31,30,29])=true→Ok Tryz.prog E2 g:=yS Je zev
abbrev UB:Es:=SV [61,28,31,30,29]
theorem zcv (s00 s01 s02 s10 s11 s12 a1 a2 a3:Bool) (x00 d00 x01 d01 x02 d02 x10 d10 x11 d11 x12 d12 n1 e1 n2 e2 n3 e3:Nat):symCall (cxOf Tryz.prog UB) UB 100 128 [.agg [ze s00,zd x00,zb,zd d00,zb,ze s01,zd x01,zb,zd d01,zb,ze s02,zd x02,zb,zd d02,zb],.agg [ze s10,zd x10,zb,zd d10,zb,ze s11,zd x11,zb,zd d11,zb,ze s12,zd x12,zb,zd d12,zb]] [.r 110 (zg a1 n1 e1),.r 110 (zg a2 n2 e2),.r 110 (zg a3 n3 e3)]=some (.value (.agg [ze a1,zd n1,zb,zd e1,zb,ze a2,zd n2,zb,zd e2,zb,ze a3,zd n3,zb,zd e3,zb]) (some []),[],(zo (UB 110 [zg s02 x02 d02,zg s12 x12 d12]=some (zg a3 n3 e3,true)),true)::(zo (UB 110 [zg s01 x01 d01,zg s11 x11 d11]=some (zg a2 n2 e2,true)),true)::(zo (UB 110 [zg s00 x00 d00,zg s10 x10 d10]=some (zg a1 n1 e1,true)),true)::[]):=by kernel_rfl
theorem zew:Ok Tryz.prog E2 128:=zM (S:=fun g=>orB (notB (memN g yR)) (memN g [61,28,31,30,29])) mixed Jf (by kernel_rfl) fun l v h=>by
  have e:E2 128 l=zcl l:=by kernel_rfl
  rw [e] at h
  replace h:=zF h; obtain ⟨a,b,rfl,h⟩:=h
  replace h:=ym h; obtain ⟨s00,x00,d00,s01,x01,d01,s02,x02,d02,rfl,h⟩:=h
  replace h:=ym h; obtain ⟨s10,x10,d10,s11,x11,d11,s12,x12,d12,rfl,h⟩:=h
  replace h:=zK h; obtain ⟨a1,n1,e1,hq9,h⟩:=h
  replace h:=zK h; obtain ⟨a2,n2,e2,hq10,h⟩:=h
  replace h:=zK h; obtain ⟨a3,n3,e3,hq11,h⟩:=h
  obtain ⟨rfl,_⟩:=zC h
  exact ⟨rfl,rfl,yz (zcv s00 s01 s02 s10 s11 s12 a1 a2 a3 x00 d00 x01 d01 x02 d02 x10 d10 x11 d11 x12 d12 n1 e1 n2 e2 n3 e3) rfl (met_cons (zk.2 (zI (by kernel_rfl) ((Wp _).trans hq11))) (met_cons (zk.2 (zI (by kernel_rfl) ((Wp _).trans hq10))) (met_cons (zk.2 (zI (by kernel_rfl) ((Wp _).trans hq9))) met_nil)))⟩
theorem Jg:∀ g,orB (notB (memN g yR)) (memN g [128,61,28,31,30,29])=true→Ok Tryz.prog E2 g:=yS Jf zew
abbrev ZS:Es:=SV [128,61,28,31,30,29]
theorem zaj (s0 s10 s11 s12 a1 a2 a3:Bool) (x0 d0 x10 d10 x11 d11 x12 d12 n1 e1 n2 e2 n3 e3:Nat):symCall (cxOf Tryz.prog ZS) ZS 100 62 [zg s0 x0 d0,.agg [ze s10,zd x10,zb,zd d10,zb,ze s11,zd x11,zb,zd d11,zb,ze s12,zd x12,zb,zd d12,zb]] [.r 108 (zg a1 n1 e1),.r 108 (zg a2 n2 e2),.r 108 (zg a3 n3 e3)]=some (.value (.agg [ze a1,zd n1,zb,zd e1,zb,ze a2,zd n2,zb,zd e2,zb,ze a3,zd n3,zb,zd e3,zb]) (some []),[],(zo (ZS 108 [zg s0 x0 d0,zg s12 x12 d12]=some (zg a3 n3 e3,true)),true)::(zo (ZS 108 [zg s0 x0 d0,zg s11 x11 d11]=some (zg a2 n2 e2,true)),true)::(zo (ZS 108 [zg s0 x0 d0,zg s10 x10 d10]=some (zg a1 n1 e1,true)),true)::[]):=by kernel_rfl
theorem zcw:Ok Tryz.prog E2 62:=zM (S:=fun g=>orB (notB (memN g yR)) (memN g [128,61,28,31,30,29])) mixed Jg (by kernel_rfl) fun l v h=>by
  have e:E2 62 l=QU l:=by kernel_rfl
  rw [e] at h
  replace h:=zF h; obtain ⟨a,b,rfl,h⟩:=h
  replace h:=z0 h; obtain ⟨s0,x0,d0,rfl,h⟩:=h
  replace h:=ym h; obtain ⟨s10,x10,d10,s11,x11,d11,s12,x12,d12,rfl,h⟩:=h
  replace h:=zK h; obtain ⟨a1,n1,e1,hq12,h⟩:=h
  replace h:=zK h; obtain ⟨a2,n2,e2,hq13,h⟩:=h
  replace h:=zK h; obtain ⟨a3,n3,e3,hq14,h⟩:=h
  obtain ⟨rfl,_⟩:=zC h
  exact ⟨rfl,rfl,yz (zaj s0 s10 s11 s12 a1 a2 a3 x0 d0 x10 d10 x11 d11 x12 d12 n1 e1 n2 e2 n3 e3) rfl (met_cons (zk.2 (zI (by kernel_rfl) ((k8 _).trans hq14))) (met_cons (zk.2 (zI (by kernel_rfl) ((k8 _).trans hq13))) (met_cons (zk.2 (zI (by kernel_rfl) ((k8 _).trans hq12))) met_nil)))⟩
theorem UC:∀ g,orB (notB (memN g yR)) (memN g [62,128,61,28,31,30,29])=true→Ok Tryz.prog E2 g:=yS Jg zcw
abbrev js:Es:=SV [62,128,61,28,31,30,29]
theorem zcx (s00 s01 s02 s10 s11 s12 a1 a2 a3 a4 a5 a6:Bool) (x00 d00 x01 d01 x02 d02 x10 d10 x11 d11 x12 d12 n1 e1 n2 e2 n3 e3 n4 e4 n5 e5 n6 e6:Nat):symCall (cxOf Tryz.prog js) js 100 106 [.agg [ze s00,zd x00,zb,zd d00,zb,ze s01,zd x01,zb,zd d01,zb,ze s02,zd x02,zb,zd d02,zb],.agg [ze s10,zd x10,zb,zd d10,zb,ze s11,zd x11,zb,zd d11,zb,ze s12,zd x12,zb,zd d12,zb]] [.r 108 (zg a1 n1 e1),.r 109 (zg a2 n2 e2),.r 108 (zg a3 n3 e3),.r 109 (zg a4 n4 e4),.r 108 (zg a5 n5 e5),.r 109 (zg a6 n6 e6)]=some (.value (zg a6 n6 e6) (some []),[],(zo (js 109 [zg a4 n4 e4,zg a5 n5 e5]=some (zg a6 n6 e6,true)),true)::(zo (js 108 [zg s02 x02 d02,zg s12 x12 d12]=some (zg a5 n5 e5,true)),true)::(zo (js 109 [zg a2 n2 e2,zg a3 n3 e3]=some (zg a4 n4 e4,true)),true)::(zo (js 108 [zg s01 x01 d01,zg s11 x11 d11]=some (zg a3 n3 e3,true)),true)::(zo (js 109 [zg false 0 0,zg a1 n1 e1]=some (zg a2 n2 e2,true)),true)::(zo (js 108 [zg s00 x00 d00,zg s10 x10 d10]=some (zg a1 n1 e1,true)),true)::[]):=by kernel_rfl
theorem zex:Ok Tryz.prog E2 106:=zM (S:=fun g=>orB (notB (memN g yR)) (memN g [62,128,61,28,31,30,29])) mixed UC (by kernel_rfl) fun l v h=>by
  have e:E2 106 l=Ux l:=by kernel_rfl
  rw [e] at h
  replace h:=zF h; obtain ⟨a,b,rfl,h⟩:=h
  replace h:=ym h; obtain ⟨s00,x00,d00,s01,x01,d01,s02,x02,d02,rfl,h⟩:=h
  replace h:=ym h; obtain ⟨s10,x10,d10,s11,x11,d11,s12,x12,d12,rfl,h⟩:=h
  replace h:=zK h; obtain ⟨a1,n1,e1,hq15,h⟩:=h
  replace h:=zK h; obtain ⟨a2,n2,e2,hq16,h⟩:=h
  replace h:=zK h; obtain ⟨a3,n3,e3,hq17,h⟩:=h
  replace h:=zK h; obtain ⟨a4,n4,e4,hq18,h⟩:=h
  replace h:=zK h; obtain ⟨a5,n5,e5,hq19,h⟩:=h
  replace h:=zK h; obtain ⟨a6,n6,e6,hq20,h⟩:=h
  obtain ⟨rfl,_⟩:=zC h
  exact ⟨rfl,rfl,yz (zcx s00 s01 s02 s10 s11 s12 a1 a2 a3 a4 a5 a6 x00 d00 x01 d01 x02 d02 x10 d10 x11 d11 x12 d12 n1 e1 n2 e2 n3 e3 n4 e4 n5 e5 n6 e6) rfl (met_cons (zk.2 (zI (by kernel_rfl) ((k7 _).trans hq20))) (met_cons (zk.2 (zI (by kernel_rfl) ((k8 _).trans hq19))) (met_cons (zk.2 (zI (by kernel_rfl) ((k7 _).trans hq18))) (met_cons (zk.2 (zI (by kernel_rfl) ((k8 _).trans hq17))) (met_cons (zk.2 (zI (by kernel_rfl) ((k7 _).trans hq16))) (met_cons (zk.2 (zI (by kernel_rfl) ((k8 _).trans hq15))) met_nil))))))⟩
theorem Jh:∀ g,orB (notB (memN g yR)) (memN g [106,62,128,61,28,31,30,29])=true→Ok Tryz.prog E2 g:=yS UC zex
abbrev Wr:Es:=SV [106,62,128,61,28,31,30,29]
theorem QW (s00 s01 s02 s03 c1:Bool) (x00 d00 x01 d01 x02 d02 x03 d03:Nat):symCall (cxOf Tryz.prog Wr) Wr 100 162 [.agg [ze s00,zd x00,zb,zd d00,zb,ze s01,zd x01,zb,zd d01,zb,ze s02,zd x02,zb,zd d02,zb,ze s03,zd x03,zb,zd d03,zb]] [.r 28 (ze c1),.f]=some (.value (.agg [ze s00,zd x00,zb,zd d00,zb,ze s01,zd x01,zb,zd d01,zb,ze s02,zd x02,zb,zd d02,zb]) (some []),[],(c1,false)::(zo (Wr 28 [.agg [ze s00,zd x00,zb,zd d00,zb,ze s01,zd x01,zb,zd d01,zb,ze s02,zd x02,zb,zd d02,zb]]=some (ze c1,true)),true)::[]):=by kernel_rfl
theorem zak:Ok Tryz.prog E2 162:=zM (S:=fun g=>orB (notB (memN g yR)) (memN g [106,62,128,61,28,31,30,29])) mixed Jh (by kernel_rfl) fun l v h=>by
  have e:E2 162 l=uW l:=by kernel_rfl
  rw [e] at h
  replace h:=zX h; obtain ⟨a,rfl,h⟩:=h
  replace h:=xV h; obtain ⟨s00,x00,d00,s01,x01,d01,s02,x02,d02,s03,x03,d03,rfl,h⟩:=h
  replace h:=Qi h; obtain ⟨c1,hq21,h⟩:=h
  cases hc22:c1 with
  |
    true =>
    rw [hc22,ifB_true] at h
    cases h
  |
    false =>
    rw [hc22,zj] at h
    obtain ⟨rfl,_⟩:=zC h
    exact ⟨rfl,rfl,yz (QW s00 s01 s02 s03 c1 x00 d00 x01 d01 x02 d02 x03 d03) rfl (met_cons (hc22) (met_cons (zk.2 (zI (by kernel_rfl) ((zgA _).trans hq21))) met_nil))⟩
theorem YS:∀ g,orB (notB (memN g yR)) (memN g [162,106,62,128,61,28,31,30,29])=true→Ok Tryz.prog E2 g:=yS Jh zak
abbrev Ws:Es:=SV [162,106,62,128,61,28,31,30,29]
theorem QX (s00 s01 s02 s03 a1 a2 a3:Bool) (x00 d00 x01 d01 x02 d02 x03 d03 n1 e1 n2 e2 n3 e3:Nat):symCall (cxOf Tryz.prog Ws) Ws 100 107 [.agg [ze s00,zd x00,zb,zd d00,zb,ze s01,zd x01,zb,zd d01,zb,ze s02,zd x02,zb,zd d02,zb,ze s03,zd x03,zb,zd d03,zb]] [.r 162 (.agg [ze a1,zd n1,zb,zd e1,zb,ze a2,zd n2,zb,zd e2,zb,ze a3,zd n3,zb,zd e3,zb])]=some (.value (.agg [ze a1,zd n1,zb,zd e1,zb,ze a2,zd n2,zb,zd e2,zb,ze a3,zd n3,zb,zd e3,zb]) (some []),[],(zo (Ws 162 [.agg [ze s00,zd x00,zb,zd d00,zb,ze s01,zd x01,zb,zd d01,zb,ze s02,zd x02,zb,zd d02,zb,ze s03,zd x03,zb,zd d03,zb]]=some (.agg [ze a1,zd n1,zb,zd e1,zb,ze a2,zd n2,zb,zd e2,zb,ze a3,zd n3,zb,zd e3,zb],true)),true)::[]):=by kernel_rfl
theorem zal:Ok Tryz.prog E2 107:=zM (S:=fun g=>orB (notB (memN g yR)) (memN g [162,106,62,128,61,28,31,30,29])) mixed YS (by kernel_rfl) fun l v h=>by
  have e:E2 107 l=ks l:=by kernel_rfl
  rw [e] at h
  replace h:=zX h; obtain ⟨a,rfl,h⟩:=h
  replace h:=xV h; obtain ⟨s00,x00,d00,s01,x01,d01,s02,x02,d02,s03,x03,d03,rfl,h⟩:=h
  replace h:=qD h; obtain ⟨a1,n1,e1,a2,n2,e2,a3,n3,e3,hq23,h⟩:=h
  obtain ⟨rfl,_⟩:=zC h
  exact ⟨rfl,rfl,yz (QX s00 s01 s02 s03 a1 a2 a3 x00 d00 x01 d01 x02 d02 x03 d03 n1 e1 n2 e2 n3 e3) rfl (met_cons (zk.2 (zI (by kernel_rfl) ((Uz _).trans hq23))) met_nil)⟩
theorem YT:∀ g,orB (notB (memN g yR)) (memN g [107,162,106,62,128,61,28,31,30,29])=true→Ok Tryz.prog E2 g:=yS YS zal
abbrev Ji:Es:=SV [107,162,106,62,128,61,28,31,30,29]
theorem QY (s00 s01 s02 s03:Bool) (x00 d00 x01 d01 x02 d02 x03 d03:Nat):symCall (cxOf Tryz.prog Ji) Ji 100 192 [.agg [ze s00,zd x00,zb,zd d00,zb,ze s01,zd x01,zb,zd d01,zb,ze s02,zd x02,zb,zd d02,zb,ze s03,zd x03,zb,zd d03,zb]] []=some (.value (zg s03 x03 d03) (some []),[],[]):=by kernel_rfl
theorem zam:Ok Tryz.prog E2 192:=zM (S:=fun g=>orB (notB (memN g yR)) (memN g [107,162,106,62,128,61,28,31,30,29])) mixed YT (by kernel_rfl) fun l v h=>by
  have e:E2 192 l=ku l:=by kernel_rfl
  rw [e] at h
  replace h:=zX h; obtain ⟨a,rfl,h⟩:=h
  replace h:=xV h; obtain ⟨s00,x00,d00,s01,x01,d01,s02,x02,d02,s03,x03,d03,rfl,h⟩:=h
  obtain ⟨rfl,_⟩:=zC h
  exact ⟨rfl,rfl,yz (QY s00 s01 s02 s03 x00 d00 x01 d01 x02 d02 x03 d03) rfl met_nil⟩
theorem YU:∀ g,orB (notB (memN g yR)) (memN g [192,107,162,106,62,128,61,28,31,30,29])=true→Ok Tryz.prog E2 g:=yS YT zam
abbrev SAt:Es:=SV [192,107,162,106,62,128,61,28,31,30,29]
theorem zgD (s00 s01 s02 s03 s10 s11 s12 a1 a2 a3 a4 a5:Bool) (x00 d00 x01 d01 x02 d02 x03 d03 x10 d10 x11 d11 x12 d12 n1 e1 n2 e2 n3 e3 n4 e4 n5 e5:Nat):symCall (cxOf Tryz.prog SAt) SAt 100 105 [.agg [ze s00,zd x00,zb,zd d00,zb,ze s01,zd x01,zb,zd d01,zb,ze s02,zd x02,zb,zd d02,zb,ze s03,zd x03,zb,zd d03,zb],.agg [ze s10,zd x10,zb,zd d10,zb,ze s11,zd x11,zb,zd d11,zb,ze s12,zd x12,zb,zd d12,zb]] [.r 162 (.agg [ze a1,zd n1,zb,zd e1,zb,ze a2,zd n2,zb,zd e2,zb,ze a3,zd n3,zb,zd e3,zb]),.r 106 (zg a4 n4 e4),.r 110 (zg a5 n5 e5)]=some (.value (zg a5 n5 e5) (some []),[],(zo (SAt 110 [zg a4 n4 e4,zg s03 x03 d03]=some (zg a5 n5 e5,true)),true)::(zo (SAt 106 [.agg [ze a1,zd n1,zb,zd e1,zb,ze a2,zd n2,zb,zd e2,zb,ze a3,zd n3,zb,zd e3,zb],.agg [ze s10,zd x10,zb,zd d10,zb,ze s11,zd x11,zb,zd d11,zb,ze s12,zd x12,zb,zd d12,zb]]=some (zg a4 n4 e4,true)),true)::(zo (SAt 162 [.agg [ze s00,zd x00,zb,zd d00,zb,ze s01,zd x01,zb,zd d01,zb,ze s02,zd x02,zb,zd d02,zb,ze s03,zd x03,zb,zd d03,zb]]=some (.agg [ze a1,zd n1,zb,zd e1,zb,ze a2,zd n2,zb,zd e2,zb,ze a3,zd n3,zb,zd e3,zb],true)),true)::[]):=by kernel_rfl
theorem ok_At:Ok Tryz.prog E2 105:=zM (S:=fun g=>orB (notB (memN g yR)) (memN g [192,107,162,106,62,128,61,28,31,30,29])) mixed YU (by kernel_rfl) fun l v h=>by
  have e:E2 105 l=eAt l:=by kernel_rfl
  rw [e] at h
  replace h:=zF h; obtain ⟨a,b,rfl,h⟩:=h
  replace h:=xV h; obtain ⟨s00,x00,d00,s01,x01,d01,s02,x02,d02,s03,x03,d03,rfl,h⟩:=h
  replace h:=ym h; obtain ⟨s10,x10,d10,s11,x11,d11,s12,x12,d12,rfl,h⟩:=h
  replace h:=qD h; obtain ⟨a1,n1,e1,a2,n2,e2,a3,n3,e3,hq24,h⟩:=h
  replace h:=zK h; obtain ⟨a4,n4,e4,hq25,h⟩:=h
  replace h:=zK h; obtain ⟨a5,n5,e5,hq26,h⟩:=h
  obtain ⟨rfl,_⟩:=zC h
  exact ⟨rfl,rfl,yz (zgD s00 s01 s02 s03 s10 s11 s12 a1 a2 a3 a4 a5 x00 d00 x01 d01 x02 d02 x03 d03 x10 d10 x11 d11 x12 d12 n1 e1 n2 e2 n3 e3 n4 e4 n5 e5) rfl (met_cons (zk.2 (zI (by kernel_rfl) ((Wp _).trans hq26))) (met_cons (zk.2 (zI (by kernel_rfl) ((zgB _).trans hq25))) (met_cons (zk.2 (zI (by kernel_rfl) ((Uz _).trans hq24))) met_nil)))⟩
theorem zfw:∀ g,orB (notB (memN g yR)) (memN g [105,192,107,162,106,62,128,61,28,31,30,29])=true→Ok Tryz.prog E2 g:=yS YU ok_At
abbrev Jj:Es:=SV [105,192,107,162,106,62,128,61,28,31,30,29]
theorem zcy (s00 s01 s02 s03 s10 s11 s12 a1:Bool) (x00 d00 x01 d01 x02 d02 x03 d03 x10 d10 x11 d11 x12 d12 n1 e1:Nat) (z2:Int):symCall (cxOf Tryz.prog Jj) Jj 100 68 [.agg [ze s00,zd x00,zb,zd d00,zb,ze s01,zd x01,zb,zd d01,zb,ze s02,zd x02,zb,zd d02,zb,ze s03,zd x03,zb,zd d03,zb],.agg [ze s10,zd x10,zb,zd d10,zb,ze s11,zd x11,zb,zd d11,zb,ze s12,zd x12,zb,zd d12,zb]] [.r 105 (zg a1 n1 e1),.r 60 (zw z2)]=some (.value (zw z2) (some []),[],(zo (Jj 60 [zg a1 n1 e1]=some (zw z2,true)),true)::(zo (Jj 105 [.agg [ze s00,zd x00,zb,zd d00,zb,ze s01,zd x01,zb,zd d01,zb,ze s02,zd x02,zb,zd d02,zb,ze s03,zd x03,zb,zd d03,zb],.agg [ze s10,zd x10,zb,zd d10,zb,ze s11,zd x11,zb,zd d11,zb,ze s12,zd x12,zb,zd d12,zb]]=some (zg a1 n1 e1,true)),true)::[]):=by kernel_rfl
theorem zey:Ok Tryz.prog E2 68:=zM (S:=fun g=>orB (notB (memN g yR)) (memN g [105,192,107,162,106,62,128,61,28,31,30,29])) mixed zfw (by kernel_rfl) fun l v h=>by
  have e:E2 68 l=zcm l:=by kernel_rfl
  rw [e] at h
  replace h:=zF h; obtain ⟨a,b,rfl,h⟩:=h
  replace h:=xV h; obtain ⟨s00,x00,d00,s01,x01,d01,s02,x02,d02,s03,x03,d03,rfl,h⟩:=h
  replace h:=ym h; obtain ⟨s10,x10,d10,s11,x11,d11,s12,x12,d12,rfl,h⟩:=h
  replace h:=zK h; obtain ⟨a1,n1,e1,hq27,h⟩:=h
  replace h:=wm h; obtain ⟨z2,hq28,h⟩:=h
  obtain ⟨rfl,_⟩:=zC h
  exact ⟨rfl,rfl,yz (zcy s00 s01 s02 s03 s10 s11 s12 a1 x00 d00 x01 d01 x02 d02 x03 d03 x10 d10 x11 d11 x12 d12 n1 e1 z2) rfl (met_cons (zk.2 (zI (by kernel_rfl) ((v5 _).trans hq28))) (met_cons (zk.2 (zI (by kernel_rfl) ((q_At _).trans hq27))) met_nil))⟩
theorem Jk:∀ g,orB (notB (memN g yR)) (memN g [68,105,192,107,162,106,62,128,61,28,31,30,29])=true→Ok Tryz.prog E2 g:=yS zfw zey
abbrev jy:Es:=SV [68,105,192,107,162,106,62,128,61,28,31,30,29]
theorem zez (s00 s01 s02 s03 a1 a2 a3 a4 a5 a6 a7 a8 a9 a10 a11 a12:Bool) (x00 d00 x01 d01 x02 d02 x03 d03 n1 e1 n2 e2 n3 e3 n4 e4 n5 n6 e6 n7 n8 e8 n9 n10 e10 n11 n12:Nat):symCall (cxOf Tryz.prog jy) jy 100 150 [.agg [ze s00,zd x00,zb,zd d00,zb,ze s01,zd x01,zb,zd d01,zb,ze s02,zd x02,zb,zd d02,zb,ze s03,zd x03,zb,zd d03,zb]] [.r 107 (.agg [ze a1,zd n1,zb,zd e1,zb,ze a2,zd n2,zb,zd e2,zb,ze a3,zd n3,zb,zd e3,zb]),.r 29 (zg a4 n4 e4),.r 36 (zh a5 n5),.r 30 (zg a6 n6 e6),.r 36 (zh a7 n7),.r 31 (zg a8 n8 e8),.r 36 (zh a9 n9),.r 192 (zg a10 n10 e10),.r 36 (zh a11 n11),.r 39 (zh a12 n12)]=some (.value (.agg [ze a5,zd n5,zb,ze a7,zd n7,zb,ze a9,zd n9,zb,ze a12,zd n12,zb]) (some []),[],(zo (jy 39 [zh a11 n11]=some (zh a12 n12,true)),true)::(zo (jy 36 [zg a10 n10 e10]=some (zh a11 n11,true)),true)::(zo (jy 192 [.agg [ze s00,zd x00,zb,zd d00,zb,ze s01,zd x01,zb,zd d01,zb,ze s02,zd x02,zb,zd d02,zb,ze s03,zd x03,zb,zd d03,zb]]=some (zg a10 n10 e10,true)),true)::(zo (jy 36 [zg a8 n8 e8]=some (zh a9 n9,true)),true)::(zo (jy 31 [.agg [ze a1,zd n1,zb,zd e1,zb,ze a2,zd n2,zb,zd e2,zb,ze a3,zd n3,zb,zd e3,zb]]=some (zg a8 n8 e8,true)),true)::(zo (jy 36 [zg a6 n6 e6]=some (zh a7 n7,true)),true)::(zo (jy 30 [.agg [ze a1,zd n1,zb,zd e1,zb,ze a2,zd n2,zb,zd e2,zb,ze a3,zd n3,zb,zd e3,zb]]=some (zg a6 n6 e6,true)),true)::(zo (jy 36 [zg a4 n4 e4]=some (zh a5 n5,true)),true)::(zo (jy 29 [.agg [ze a1,zd n1,zb,zd e1,zb,ze a2,zd n2,zb,zd e2,zb,ze a3,zd n3,zb,zd e3,zb]]=some (zg a4 n4 e4,true)),true)::(zo (jy 107 [.agg [ze s00,zd x00,zb,zd d00,zb,ze s01,zd x01,zb,zd d01,zb,ze s02,zd x02,zb,zd d02,zb,ze s03,zd x03,zb,zd d03,zb]]=some (.agg [ze a1,zd n1,zb,zd e1,zb,ze a2,zd n2,zb,zd e2,zb,ze a3,zd n3,zb,zd e3,zb],true)),true)::[]):=by kernel_rfl
theorem zgE:Ok Tryz.prog E2 150:=zM (S:=fun g=>orB (notB (memN g yR)) (memN g [68,105,192,107,162,106,62,128,61,28,31,30,29])) mixed Jk (by kernel_rfl) fun l v h=>by
  have e:E2 150 l=zgw l:=by kernel_rfl
  rw [e] at h
  replace h:=zX h; obtain ⟨a,rfl,h⟩:=h
  replace h:=xV h; obtain ⟨s00,x00,d00,s01,x01,d01,s02,x02,d02,s03,x03,d03,rfl,h⟩:=h
  replace h:=qD h; obtain ⟨a1,n1,e1,a2,n2,e2,a3,n3,e3,hq29,h⟩:=h
  replace h:=zK h; obtain ⟨a4,n4,e4,hq30,h⟩:=h
  replace h:=zy h; obtain ⟨a5,n5,hq31,h⟩:=h
  replace h:=zK h; obtain ⟨a6,n6,e6,hq32,h⟩:=h
  replace h:=zy h; obtain ⟨a7,n7,hq33,h⟩:=h
  replace h:=zK h; obtain ⟨a8,n8,e8,hq34,h⟩:=h
  replace h:=zy h; obtain ⟨a9,n9,hq35,h⟩:=h
  replace h:=zK h; obtain ⟨a10,n10,e10,hq36,h⟩:=h
  replace h:=zy h; obtain ⟨a11,n11,hq37,h⟩:=h
  replace h:=zy h; obtain ⟨a12,n12,hq38,h⟩:=h
  obtain ⟨rfl,_⟩:=zC h
  exact ⟨rfl,rfl,yz (zez s00 s01 s02 s03 a1 a2 a3 a4 a5 a6 a7 a8 a9 a10 a11 a12 x00 d00 x01 d01 x02 d02 x03 d03 n1 e1 n2 e2 n3 e3 n4 e4 n5 n6 e6 n7 n8 e8 n9 n10 e10 n11 n12) rfl (met_cons (zk.2 (zI (by kernel_rfl) ((zgC _).trans hq38))) (met_cons (zk.2 (zI (by kernel_rfl) ((ZR _).trans hq37))) (met_cons (zk.2 (zI (by kernel_rfl) ((zcp _).trans hq36))) (met_cons (zk.2 (zI (by kernel_rfl) ((ZR _).trans hq35))) (met_cons (zk.2 (zI (by kernel_rfl) ((q_Z _).trans hq34))) (met_cons (zk.2 (zI (by kernel_rfl) ((ZR _).trans hq33))) (met_cons (zk.2 (zI (by kernel_rfl) ((q_Y _).trans hq32))) (met_cons (zk.2 (zI (by kernel_rfl) ((ZR _).trans hq31))) (met_cons (zk.2 (zI (by kernel_rfl) ((q_X _).trans hq30))) (met_cons (zk.2 (zI (by kernel_rfl) ((zco _).trans hq29))) met_nil))))))))))⟩
theorem zcz:∀ g,orB (notB (memN g yR)) (memN g [150,68,105,192,107,162,106,62,128,61,28,31,30,29])=true→Ok Tryz.prog E2 g:=yS Jk zgE
abbrev wG:Es:=SV [150,68,105,192,107,162,106,62,128,61,28,31,30,29]
theorem zeA (s0 s10 s11 s12 s13 s2 s30 s31 s32 s33 a1 a2 a3 a4 a5 a6 a7 a8 a9 a10 a11 a12 a19 a22 a25 a28:Bool) (x0 x10 x11 x12 x13 x2 x30 x31 x32 x33 n1 n2 n3 n4 n5 n6 n7 n8 n9 n10 n11 n12 n13 n14 n15 n16 n17 n18 n19 n20 n21 n22 n23 n24 n25 n26 n27 n28:Nat):symCall (cxOf Tryz.prog wG) wG 100 194 [zh s0 x0,.agg [ze s10,zd x10,zb,ze s11,zd x11,zb,ze s12,zd x12,zb,ze s13,zd x13,zb],zh s2 x2,.agg [ze s30,zd x30,zb,ze s31,zd x31,zb,ze s32,zd x32,zb,ze s33,zd x33,zb]] [.r 35 (zh a1 n1),.r 35 (zh a2 n2),.r 164 (zh a3 n3),.r 35 (zh a4 n4),.r 35 (zh a5 n5),.r 164 (zh a6 n6),.r 35 (zh a7 n7),.r 35 (zh a8 n8),.r 164 (zh a9 n9),.r 35 (zh a10 n10),.r 35 (zh a11 n11),.r 164 (zh a12 n12),.r 34 (zn n13),.r 34 (zn n14),.r 34 (zn n15),.r 34 (zn n16),.r 32 (.tuple [zn n17,zn n18,zw (.ofNat 0)]),.r 26 (zh a19 n19),.r 32 (.tuple [zn n20,zn n21,zw (.ofNat 0)]),.r 26 (zh a22 n22),.r 32 (.tuple [zn n23,zn n24,zw (.ofNat 0)]),.r 26 (zh a25 n25),.r 32 (.tuple [zn n26,zn n27,zw (.ofNat 0)]),.r 26 (zh a28 n28)]=some (.value (.agg [ze a19,zd n19,zb,ze a22,zd n22,zb,ze a25,zd n25,zb,ze a28,zd n28,zb]) (some []),[],(zo (wG 26 [ze a12,zn n26]=some (zh a28 n28,true)),true)::(zo (wG 32 [zn n12,zn n16]=some (.tuple [zn n26,zn n27,zw (.ofNat 0)],true)),true)::(zo (wG 26 [ze a9,zn n23]=some (zh a25 n25,true)),true)::(zo (wG 32 [zn n9,zn n16]=some (.tuple [zn n23,zn n24,zw (.ofNat 0)],true)),true)::(zo (wG 26 [ze a6,zn n20]=some (zh a22 n22,true)),true)::(zo (wG 32 [zn n6,zn n16]=some (.tuple [zn n20,zn n21,zw (.ofNat 0)],true)),true)::(zo (wG 26 [ze a3,zn n17]=some (zh a19 n19,true)),true)::(zo (wG 32 [zn n3,zn n16]=some (.tuple [zn n17,zn n18,zw (.ofNat 0)],true)),true)::(zo (wG 34 [zn n15,zn n12]=some (zn n16,true)),true)::(zo (wG 34 [zn n14,zn n9]=some (zn n15,true)),true)::(zo (wG 34 [zn n13,zn n6]=some (zn n14,true)),true)::(zo (wG 34 [zn 0,zn n3]=some (zn n13,true)),true)::(zo (wG 164 [zh a10 n10,zh a11 n11]=some (zh a12 n12,true)),true)::(zo (wG 35 [zh s2 x2,zh s33 x33]=some (zh a11 n11,true)),true)::(zo (wG 35 [zh s0 x0,zh s13 x13]=some (zh a10 n10,true)),true)::(zo (wG 164 [zh a7 n7,zh a8 n8]=some (zh a9 n9,true)),true)::(zo (wG 35 [zh s2 x2,zh s32 x32]=some (zh a8 n8,true)),true)::(zo (wG 35 [zh s0 x0,zh s12 x12]=some (zh a7 n7,true)),true)::(zo (wG 164 [zh a4 n4,zh a5 n5]=some (zh a6 n6,true)),true)::(zo (wG 35 [zh s2 x2,zh s31 x31]=some (zh a5 n5,true)),true)::(zo (wG 35 [zh s0 x0,zh s11 x11]=some (zh a4 n4,true)),true)::(zo (wG 164 [zh a1 n1,zh a2 n2]=some (zh a3 n3,true)),true)::(zo (wG 35 [zh s2 x2,zh s30 x30]=some (zh a2 n2,true)),true)::(zo (wG 35 [zh s0 x0,zh s10 x10]=some (zh a1 n1,true)),true)::[]):=by kernel_rfl
theorem zgF:Ok Tryz.prog E2 194:=zM (S:=fun g=>orB (notB (memN g yR)) (memN g [150,68,105,192,107,162,106,62,128,61,28,31,30,29])) mixed zcz (by kernel_rfl) fun l v h=>by
  have e:E2 194 l=zgx l:=by kernel_rfl
  rw [e] at h
  replace h:=zai h; obtain ⟨a,b,c,d,rfl,h⟩:=h
  replace h:=zR h; obtain ⟨s0,x0,rfl,h⟩:=h
  replace h:=wn h; obtain ⟨s10,x10,s11,x11,s12,x12,s13,x13,rfl,h⟩:=h
  replace h:=zR h; obtain ⟨s2,x2,rfl,h⟩:=h
  replace h:=wn h; obtain ⟨s30,x30,s31,x31,s32,x32,s33,x33,rfl,h⟩:=h
  replace h:=zy h; obtain ⟨a1,n1,hq39,h⟩:=h
  replace h:=zy h; obtain ⟨a2,n2,hq40,h⟩:=h
  replace h:=zy h; obtain ⟨a3,n3,hq41,h⟩:=h
  replace h:=zy h; obtain ⟨a4,n4,hq42,h⟩:=h
  replace h:=zy h; obtain ⟨a5,n5,hq43,h⟩:=h
  replace h:=zy h; obtain ⟨a6,n6,hq44,h⟩:=h
  replace h:=zy h; obtain ⟨a7,n7,hq45,h⟩:=h
  replace h:=zy h; obtain ⟨a8,n8,hq46,h⟩:=h
  replace h:=zy h; obtain ⟨a9,n9,hq47,h⟩:=h
  replace h:=zy h; obtain ⟨a10,n10,hq48,h⟩:=h
  replace h:=zy h; obtain ⟨a11,n11,hq49,h⟩:=h
  replace h:=zy h; obtain ⟨a12,n12,hq50,h⟩:=h
  replace h:=zO h; obtain ⟨n13,hq51,h⟩:=h
  replace h:=zO h; obtain ⟨n14,hq52,h⟩:=h
  replace h:=zO h; obtain ⟨n15,hq53,h⟩:=h
  replace h:=zO h; obtain ⟨n16,hq54,h⟩:=h
  replace h:=yq h; obtain ⟨n17,n18,hq55,h⟩:=h
  replace h:=zy h; obtain ⟨a19,n19,hq56,h⟩:=h
  replace h:=yq h; obtain ⟨n20,n21,hq57,h⟩:=h
  replace h:=zy h; obtain ⟨a22,n22,hq58,h⟩:=h
  replace h:=yq h; obtain ⟨n23,n24,hq59,h⟩:=h
  replace h:=zy h; obtain ⟨a25,n25,hq60,h⟩:=h
  replace h:=yq h; obtain ⟨n26,n27,hq61,h⟩:=h
  replace h:=zy h; obtain ⟨a28,n28,hq62,h⟩:=h
  obtain ⟨rfl,_⟩:=zC h
  exact ⟨rfl,rfl,yz (zeA s0 s10 s11 s12 s13 s2 s30 s31 s32 s33 a1 a2 a3 a4 a5 a6 a7 a8 a9 a10 a11 a12 a19 a22 a25 a28 x0 x10 x11 x12 x13 x2 x30 x31 x32 x33 n1 n2 n3 n4 n5 n6 n7 n8 n9 n10 n11 n12 n13 n14 n15 n16 n17 n18 n19 n20 n21 n22 n23 n24 n25 n26 n27 n28) rfl (met_cons (zk.2 (zI (by kernel_rfl) ((ww _).trans hq62))) (met_cons (zk.2 (zI (by kernel_rfl) ((wo _).trans hq61))) (met_cons (zk.2 (zI (by kernel_rfl) ((ww _).trans hq60))) (met_cons (zk.2 (zI (by kernel_rfl) ((wo _).trans hq59))) (met_cons (zk.2 (zI (by kernel_rfl) ((ww _).trans hq58))) (met_cons (zk.2 (zI (by kernel_rfl) ((wo _).trans hq57))) (met_cons (zk.2 (zI (by kernel_rfl) ((ww _).trans hq56))) (met_cons (zk.2 (zI (by kernel_rfl) ((wo _).trans hq55))) (met_cons (zk.2 (zI (by kernel_rfl) ((qg _).trans hq54))) (met_cons (zk.2 (zI (by kernel_rfl) ((qg _).trans hq53))) (met_cons (zk.2 (zI (by kernel_rfl) ((qg _).trans hq52))) (met_cons (zk.2 (zI (by kernel_rfl) ((qg _).trans hq51))) (met_cons (zk.2 (zI (by kernel_rfl) ((Wq _).trans hq50))) (met_cons (zk.2 (zI (by kernel_rfl) ((ve _).trans hq49))) (met_cons (zk.2 (zI (by kernel_rfl) ((ve _).trans hq48))) (met_cons (zk.2 (zI (by kernel_rfl) ((Wq _).trans hq47))) (met_cons (zk.2 (zI (by kernel_rfl) ((ve _).trans hq46))) (met_cons (zk.2 (zI (by kernel_rfl) ((ve _).trans hq45))) (met_cons (zk.2 (zI (by kernel_rfl) ((Wq _).trans hq44))) (met_cons (zk.2 (zI (by kernel_rfl) ((ve _).trans hq43))) (met_cons (zk.2 (zI (by kernel_rfl) ((ve _).trans hq42))) (met_cons (zk.2 (zI (by kernel_rfl) ((Wq _).trans hq41))) (met_cons (zk.2 (zI (by kernel_rfl) ((ve _).trans hq40))) (met_cons (zk.2 (zI (by kernel_rfl) ((ve _).trans hq39))) met_nil))))))))))))))))))))))))⟩
theorem zcA:∀ g,orB (notB (memN g yR)) (memN g [194,150,68,105,192,107,162,106,62,128,61,28,31,30,29])=true→Ok Tryz.prog E2 g:=yS zcz zgF
abbrev zt:Es:=SV [194,150,68,105,192,107,162,106,62,128,61,28,31,30,29]
theorem Yd (s00 s01 s02 a23 a24 a25 a29 a30 a31 a35 a36 a37 a43 a46 a49 a50 a51 a52:Bool) (x00 d00 x01 d01 x02 d02 n1 n2 n3 n4 n5 n6 n7 n8 n9 n10 n11 n12 n13 n14 n15 n16 n17 n18 n19 n20 n21 n22 n23 n24 n25 n26 n27 n28 n29 n30 n31 n32 n33 n34 n35 n36 n37 n38 n39 n40 n41 n42 n43 n44 n45 n46 n47 n48 n49 n50 e50 n51 e51 n52 e52:Nat):symCall (cxOf Tryz.prog zt) zt 100 198 [.agg [ze s00,zd x00,zb,zd d00,zb,ze s01,zd x01,zb,zd d01,zb,ze s02,zd x02,zb,zd d02,zb]] [.r 24 (zn n1),.r 33 (zn n2),.r 33 (zn n3),.r 34 (zn n4),.r 32 (.tuple [zn n5,zn n6,zw (.ofNat 0)]),.r 23 (zn n7),.r 33 (zn n8),.r 33 (zn n9),.r 34 (zn n10),.r 32 (.tuple [zn n11,zn n12,zw (.ofNat 0)]),.r 23 (zn n13),.r 33 (zn n14),.r 33 (zn n15),.r 34 (zn n16),.r 32 (.tuple [zn n17,zn n18,zw (.ofNat 0)]),.r 23 (zn n19),.r 33 (zn n20),.r 32 (.tuple [zn n21,zn n22,zw (.ofNat 0)]),.r 36 (zh a23 n23),.r 26 (zh a24 n24),.r 35 (zh a25 n25),.r 33 (zn n26),.r 32 (.tuple [zn n27,zn n28,zw (.ofNat 0)]),.r 36 (zh a29 n29),.r 26 (zh a30 n30),.r 35 (zh a31 n31),.r 33 (zn n32),.r 32 (.tuple [zn n33,zn n34,zw (.ofNat 0)]),.r 36 (zh a35 n35),.r 26 (zh a36 n36),.r 35 (zh a37 n37),.r 34 (zn n38),.r 34 (zn n39),.r 34 (zn n40),.r 32 (.tuple [zn n41,zn n42,zw (.ofNat 0)]),.r 26 (zh a43 n43),.r 32 (.tuple [zn n44,zn n45,zw (.ofNat 0)]),.r 26 (zh a46 n46),.r 32 (.tuple [zn n47,zn n48,zw (.ofNat 0)]),.r 26 (zh a49 n49),.r 40 (zg a50 n50 e50),.r 40 (zg a51 n51 e51),.r 40 (zg a52 n52 e52)]=some (.value (.agg [ze a50,zd n50,zb,zd e50,zb,ze a51,zd n51,zb,zd e51,zb,ze a52,zd n52,zb,zd e52,zb]) (some []),[],(zo (zt 40 [zh a49 n49]=some (zg a52 n52 e52,true)),true)::(zo (zt 40 [zh a46 n46]=some (zg a51 n51 e51,true)),true)::(zo (zt 40 [zh a43 n43]=some (zg a50 n50 e50,true)),true)::(zo (zt 26 [ze a37,zn n47]=some (zh a49 n49,true)),true)::(zo (zt 32 [zn n37,zn n40]=some (.tuple [zn n47,zn n48,zw (.ofNat 0)],true)),true)::(zo (zt 26 [ze a31,zn n44]=some (zh a46 n46,true)),true)::(zo (zt 32 [zn n31,zn n40]=some (.tuple [zn n44,zn n45,zw (.ofNat 0)],true)),true)::(zo (zt 26 [ze a25,zn n41]=some (zh a43 n43,true)),true)::(zo (zt 32 [zn n25,zn n40]=some (.tuple [zn n41,zn n42,zw (.ofNat 0)],true)),true)::(zo (zt 34 [zn n39,zn n37]=some (zn n40,true)),true)::(zo (zt 34 [zn n38,zn n31]=some (zn n39,true)),true)::(zo (zt 34 [zn 0,zn n25]=some (zn n38,true)),true)::(zo (zt 35 [zh a35 n35,zh a36 n36]=some (zh a37 n37,true)),true)::(zo (zt 26 [ze false,zn n33]=some (zh a36 n36,true)),true)::(zo (zt 36 [zg s02 x02 d02]=some (zh a35 n35,true)),true)::(zo (zt 32 [zn n19,zn n32]=some (.tuple [zn n33,zn n34,zw (.ofNat 0)],true)),true)::(zo (zt 33 [zg s02 x02 d02]=some (zn n32,true)),true)::(zo (zt 35 [zh a29 n29,zh a30 n30]=some (zh a31 n31,true)),true)::(zo (zt 26 [ze false,zn n27]=some (zh a30 n30,true)),true)::(zo (zt 36 [zg s01 x01 d01]=some (zh a29 n29,true)),true)::(zo (zt 32 [zn n19,zn n26]=some (.tuple [zn n27,zn n28,zw (.ofNat 0)],true)),true)::(zo (zt 33 [zg s01 x01 d01]=some (zn n26,true)),true)::(zo (zt 35 [zh a23 n23,zh a24 n24]=some (zh a25 n25,true)),true)::(zo (zt 26 [ze false,zn n21]=some (zh a24 n24,true)),true)::(zo (zt 36 [zg s00 x00 d00]=some (zh a23 n23,true)),true)::(zo (zt 32 [zn n19,zn n20]=some (.tuple [zn n21,zn n22,zw (.ofNat 0)],true)),true)::(zo (zt 33 [zg s00 x00 d00]=some (zn n20,true)),true)::(zo (zt 23 [zn n13,zn n17]=some (zn n19,true)),true)::(zo (zt 32 [zn n14,zn n16]=some (.tuple [zn n17,zn n18,zw (.ofNat 0)],true)),true)::(zo (zt 34 [zn n13,zn n15]=some (zn n16,true)),true)::(zo (zt 33 [zg s02 x02 d02]=some (zn n15,true)),true)::(zo (zt 33 [zg s02 x02 d02]=some (zn n14,true)),true)::(zo (zt 23 [zn n7,zn n11]=some (zn n13,true)),true)::(zo (zt 32 [zn n8,zn n10]=some (.tuple [zn n11,zn n12,zw (.ofNat 0)],true)),true)::(zo (zt 34 [zn n7,zn n9]=some (zn n10,true)),true)::(zo (zt 33 [zg s01 x01 d01]=some (zn n9,true)),true)::(zo (zt 33 [zg s01 x01 d01]=some (zn n8,true)),true)::(zo (zt 23 [zn n1,zn n5]=some (zn n7,true)),true)::(zo (zt 32 [zn n2,zn n4]=some (.tuple [zn n5,zn n6,zw (.ofNat 0)],true)),true)::(zo (zt 34 [zn n1,zn n3]=some (zn n4,true)),true)::(zo (zt 33 [zg s00 x00 d00]=some (zn n3,true)),true)::(zo (zt 33 [zg s00 x00 d00]=some (zn n2,true)),true)::(zo (zt 24 [zd 1]=some (zn n1,true)),true)::[]):=by kernel_rfl
theorem Wt:Ok Tryz.prog E2 198:=zM (S:=fun g=>orB (notB (memN g yR)) (memN g [194,150,68,105,192,107,162,106,62,128,61,28,31,30,29])) mixed zcA (by kernel_rfl) fun l v h=>by
  have e:E2 198 l=qH l:=by kernel_rfl
  rw [e] at h
  replace h:=zX h; obtain ⟨a,rfl,h⟩:=h
  replace h:=ym h; obtain ⟨s00,x00,d00,s01,x01,d01,s02,x02,d02,rfl,h⟩:=h
  replace h:=zO h; obtain ⟨n1,hq63,h⟩:=h
  replace h:=zO h; obtain ⟨n2,hq64,h⟩:=h
  replace h:=zO h; obtain ⟨n3,hq65,h⟩:=h
  replace h:=zO h; obtain ⟨n4,hq66,h⟩:=h
  replace h:=yq h; obtain ⟨n5,n6,hq67,h⟩:=h
  replace h:=zO h; obtain ⟨n7,hq68,h⟩:=h
  replace h:=zO h; obtain ⟨n8,hq69,h⟩:=h
  replace h:=zO h; obtain ⟨n9,hq70,h⟩:=h
  replace h:=zO h; obtain ⟨n10,hq71,h⟩:=h
  replace h:=yq h; obtain ⟨n11,n12,hq72,h⟩:=h
  replace h:=zO h; obtain ⟨n13,hq73,h⟩:=h
  replace h:=zO h; obtain ⟨n14,hq74,h⟩:=h
  replace h:=zO h; obtain ⟨n15,hq75,h⟩:=h
  replace h:=zO h; obtain ⟨n16,hq76,h⟩:=h
  replace h:=yq h; obtain ⟨n17,n18,hq77,h⟩:=h
  replace h:=zO h; obtain ⟨n19,hq78,h⟩:=h
  replace h:=zO h; obtain ⟨n20,hq79,h⟩:=h
  replace h:=yq h; obtain ⟨n21,n22,hq80,h⟩:=h
  replace h:=zy h; obtain ⟨a23,n23,hq81,h⟩:=h
  replace h:=zy h; obtain ⟨a24,n24,hq82,h⟩:=h
  replace h:=zy h; obtain ⟨a25,n25,hq83,h⟩:=h
  replace h:=zO h; obtain ⟨n26,hq84,h⟩:=h
  replace h:=yq h; obtain ⟨n27,n28,hq85,h⟩:=h
  replace h:=zy h; obtain ⟨a29,n29,hq86,h⟩:=h
  replace h:=zy h; obtain ⟨a30,n30,hq87,h⟩:=h
  replace h:=zy h; obtain ⟨a31,n31,hq88,h⟩:=h
  replace h:=zO h; obtain ⟨n32,hq89,h⟩:=h
  replace h:=yq h; obtain ⟨n33,n34,hq90,h⟩:=h
  replace h:=zy h; obtain ⟨a35,n35,hq91,h⟩:=h
  replace h:=zy h; obtain ⟨a36,n36,hq92,h⟩:=h
  replace h:=zy h; obtain ⟨a37,n37,hq93,h⟩:=h
  replace h:=zO h; obtain ⟨n38,hq94,h⟩:=h
  replace h:=zO h; obtain ⟨n39,hq95,h⟩:=h
  replace h:=zO h; obtain ⟨n40,hq96,h⟩:=h
  replace h:=yq h; obtain ⟨n41,n42,hq97,h⟩:=h
  replace h:=zy h; obtain ⟨a43,n43,hq98,h⟩:=h
  replace h:=yq h; obtain ⟨n44,n45,hq99,h⟩:=h
  replace h:=zy h; obtain ⟨a46,n46,hq100,h⟩:=h
  replace h:=yq h; obtain ⟨n47,n48,hq101,h⟩:=h
  replace h:=zy h; obtain ⟨a49,n49,hq102,h⟩:=h
  replace h:=zK h; obtain ⟨a50,n50,e50,hq103,h⟩:=h
  replace h:=zK h; obtain ⟨a51,n51,e51,hq104,h⟩:=h
  replace h:=zK h; obtain ⟨a52,n52,e52,hq105,h⟩:=h
  obtain ⟨rfl,_⟩:=zC h
  exact ⟨rfl,rfl,yz (Yd s00 s01 s02 a23 a24 a25 a29 a30 a31 a35 a36 a37 a43 a46 a49 a50 a51 a52 x00 d00 x01 d01 x02 d02 n1 n2 n3 n4 n5 n6 n7 n8 n9 n10 n11 n12 n13 n14 n15 n16 n17 n18 n19 n20 n21 n22 n23 n24 n25 n26 n27 n28 n29 n30 n31 n32 n33 n34 n35 n36 n37 n38 n39 n40 n41 n42 n43 n44 n45 n46 n47 n48 n49 n50 e50 n51 e51 n52 e52) rfl (met_cons (zk.2 (zI (by kernel_rfl) ((zcq _).trans hq105))) (met_cons (zk.2 (zI (by kernel_rfl) ((zcq _).trans hq104))) (met_cons (zk.2 (zI (by kernel_rfl) ((zcq _).trans hq103))) (met_cons (zk.2 (zI (by kernel_rfl) ((ww _).trans hq102))) (met_cons (zk.2 (zI (by kernel_rfl) ((wo _).trans hq101))) (met_cons (zk.2 (zI (by kernel_rfl) ((ww _).trans hq100))) (met_cons (zk.2 (zI (by kernel_rfl) ((wo _).trans hq99))) (met_cons (zk.2 (zI (by kernel_rfl) ((ww _).trans hq98))) (met_cons (zk.2 (zI (by kernel_rfl) ((wo _).trans hq97))) (met_cons (zk.2 (zI (by kernel_rfl) ((qg _).trans hq96))) (met_cons (zk.2 (zI (by kernel_rfl) ((qg _).trans hq95))) (met_cons (zk.2 (zI (by kernel_rfl) ((qg _).trans hq94))) (met_cons (zk.2 (zI (by kernel_rfl) ((ve _).trans hq93))) (met_cons (zk.2 (zI (by kernel_rfl) ((ww _).trans hq92))) (met_cons (zk.2 (zI (by kernel_rfl) ((ZR _).trans hq91))) (met_cons (zk.2 (zI (by kernel_rfl) ((wo _).trans hq90))) (met_cons (zk.2 (zI (by kernel_rfl) ((kx _).trans hq89))) (met_cons (zk.2 (zI (by kernel_rfl) ((ve _).trans hq88))) (met_cons (zk.2 (zI (by kernel_rfl) ((ww _).trans hq87))) (met_cons (zk.2 (zI (by kernel_rfl) ((ZR _).trans hq86))) (met_cons (zk.2 (zI (by kernel_rfl) ((wo _).trans hq85))) (met_cons (zk.2 (zI (by kernel_rfl) ((kx _).trans hq84))) (met_cons (zk.2 (zI (by kernel_rfl) ((ve _).trans hq83))) (met_cons (zk.2 (zI (by kernel_rfl) ((ww _).trans hq82))) (met_cons (zk.2 (zI (by kernel_rfl) ((ZR _).trans hq81))) (met_cons (zk.2 (zI (by kernel_rfl) ((wo _).trans hq80))) (met_cons (zk.2 (zI (by kernel_rfl) ((kx _).trans hq79))) (met_cons (zk.2 (zI (by kernel_rfl) ((QV _).trans hq78))) (met_cons (zk.2 (zI (by kernel_rfl) ((wo _).trans hq77))) (met_cons (zk.2 (zI (by kernel_rfl) ((qg _).trans hq76))) (met_cons (zk.2 (zI (by kernel_rfl) ((kx _).trans hq75))) (met_cons (zk.2 (zI (by kernel_rfl) ((kx _).trans hq74))) (met_cons (zk.2 (zI (by kernel_rfl) ((QV _).trans hq73))) (met_cons (zk.2 (zI (by kernel_rfl) ((wo _).trans hq72))) (met_cons (zk.2 (zI (by kernel_rfl) ((qg _).trans hq71))) (met_cons (zk.2 (zI (by kernel_rfl) ((kx _).trans hq70))) (met_cons (zk.2 (zI (by kernel_rfl) ((kx _).trans hq69))) (met_cons (zk.2 (zI (by kernel_rfl) ((QV _).trans hq68))) (met_cons (zk.2 (zI (by kernel_rfl) ((wo _).trans hq67))) (met_cons (zk.2 (zI (by kernel_rfl) ((qg _).trans hq66))) (met_cons (zk.2 (zI (by kernel_rfl) ((kx _).trans hq65))) (met_cons (zk.2 (zI (by kernel_rfl) ((kx _).trans hq64))) (met_cons (zk.2 (zI (by kernel_rfl) ((zet _).trans hq63))) met_nil)))))))))))))))))))))))))))))))))))))))))))⟩
theorem Wu:∀ g,orB (notB (memN g yR)) (memN g [198,194,150,68,105,192,107,162,106,62,128,61,28,31,30,29])=true→Ok Tryz.prog E2 g:=yS zcA Wt
theorem all_ok2:∀ f,Ok Tryz.prog E2 f:=fun f=>Wu f (by
  cases h:memN f yR with
  | true=>rfl
  | false=>rfl)
end
end Go.Proofs.YtdomagdnaohpbaaGreatDoor.num
