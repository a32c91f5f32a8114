/- FUNCTIONS ON VECTORS, PLANES, ROWS of small numbers: what they answer, out of what the functions on numbers answer. Printed by a program (wip/vec/gen_vec.py). -/
import Derived.Test.YtcgnkejpcjcaoaaGreatDot
set_option linter.unusedSimpArgs false
set_option linter.unusedVariables false
set_option maxRecDepth 100000
namespace Go.Proofs.YtcgnkejpcjcaoaaGreat.num
open Go.Abs
noncomputable def arg4 {β:Type} (l:List AV) (k:AV → AV → AV → AV → Option β) : Option β:=uncons l fun a l => uncons l fun b l => uncons l fun c l => uncons l fun d l => endL l (k a b c d)
theorem arg4_some {β:Type} {l:List AV} {k:AV → AV → AV → AV → Option β} {y : β} (h:arg4 l k = some y) : ∃ a b c d,l = [a,b,c,d] ∧ k a b c d = some y:=by
  replace h:=uncons_some h; obtain ⟨a,l1,rfl,h⟩:=h
  replace h:=uncons_some h; obtain ⟨b,l1,rfl,h⟩:=h
  replace h:=uncons_some h; obtain ⟨c,l1,rfl,h⟩:=h
  replace h:=uncons_some h; obtain ⟨d,l1,rfl,h⟩:=h
  replace h:=endL_some h; obtain ⟨rfl,h⟩:=h
  exact ⟨a,b,c,d,rfl,h⟩
noncomputable def eX (l:List AV) : Q:=arg1 l fun a => vecP a fun s00 x00 d00 s01 x01 d01 s02 x02 d02 =>
  some (fracA s00 x00 d00,true)
noncomputable def eY (l:List AV) : Q:=arg1 l fun a => vecP a fun s00 x00 d00 s01 x01 d01 s02 x02 d02 =>
  some (fracA s01 x01 d01,true)
noncomputable def eZ (l:List AV) : Q:=arg1 l fun a => vecP a fun s00 x00 d00 s01 x01 d01 s02 x02 d02 =>
  some (fracA s02 x02 d02,true)
noncomputable def eZero (l:List AV) : Q:=arg1 l fun a => vecP a fun s00 x00 d00 s01 x01 d01 s02 x02 d02 =>
  callI ((E1 27) [fracA s00 x00 d00]) fun z1 =>
  ifB (eqI z1 0) (callI ((E1 27) [fracA s01 x01 d01]) fun z2 =>
    ifB (eqI z2 0) (callI ((E1 27) [fracA s02 x02 d02]) fun z3 =>
      some (boolA (eqI z3 0),true)) (some (boolA false,true))) (some (boolA false,true))
noncomputable def eVAdd (l:List AV) : Q:=arg2 l fun a b => vecP a fun s00 x00 d00 s01 x01 d01 s02 x02 d02 => vecP b fun s10 x10 d10 s11 x11 d11 s12 x12 d12 =>
  callF ((E1 149) [fracA s00 x00 d00,fracA s10 x10 d10]) fun a1 n1 e1 =>
  callF ((E1 149) [fracA s01 x01 d01,fracA s11 x11 d11]) fun a2 n2 e2 =>
  callF ((E1 149) [fracA s02 x02 d02,fracA s12 x12 d12]) fun a3 n3 e3 =>
  some (.agg [boolA a1,u64A n1,nilS,u64A e1,nilS,boolA a2,u64A n2,nilS,u64A e2,nilS,boolA a3,u64A n3,nilS,u64A e3,nilS],true)
noncomputable def eVSub (l:List AV) : Q:=arg2 l fun a b => vecP a fun s00 x00 d00 s01 x01 d01 s02 x02 d02 => vecP b fun s10 x10 d10 s11 x11 d11 s12 x12 d12 =>
  callF ((E1 153) [fracA s00 x00 d00,fracA s10 x10 d10]) fun a1 n1 e1 =>
  callF ((E1 153) [fracA s01 x01 d01,fracA s11 x11 d11]) fun a2 n2 e2 =>
  callF ((E1 153) [fracA s02 x02 d02,fracA s12 x12 d12]) fun a3 n3 e3 =>
  some (.agg [boolA a1,u64A n1,nilS,u64A e1,nilS,boolA a2,u64A n2,nilS,u64A e2,nilS,boolA a3,u64A n3,nilS,u64A e3,nilS],true)
noncomputable def eScale (l:List AV) : Q:=arg2 l fun a b => fracP a fun s0 x0 d0 => vecP b fun s10 x10 d10 s11 x11 d11 s12 x12 d12 =>
  callF ((E1 150) [fracA s0 x0 d0,fracA s10 x10 d10]) fun a1 n1 e1 =>
  callF ((E1 150) [fracA s0 x0 d0,fracA s11 x11 d11]) fun a2 n2 e2 =>
  callF ((E1 150) [fracA s0 x0 d0,fracA s12 x12 d12]) fun a3 n3 e3 =>
  some (.agg [boolA a1,u64A n1,nilS,u64A e1,nilS,boolA a2,u64A n2,nilS,u64A e2,nilS,boolA a3,u64A n3,nilS,u64A e3,nilS],true)
noncomputable def eVDot (l:List AV) : Q:=arg2 l fun a b => vecP a fun s00 x00 d00 s01 x01 d01 s02 x02 d02 => vecP b fun s10 x10 d10 s11 x11 d11 s12 x12 d12 =>
  callF ((E1 150) [fracA s00 x00 d00,fracA s10 x10 d10]) fun a1 n1 e1 =>
  callF ((E1 149) [fracA false 0 0,fracA a1 n1 e1]) fun a2 n2 e2 =>
  callF ((E1 150) [fracA s01 x01 d01,fracA s11 x11 d11]) fun a3 n3 e3 =>
  callF ((E1 149) [fracA a2 n2 e2,fracA a3 n3 e3]) fun a4 n4 e4 =>
  callF ((E1 150) [fracA s02 x02 d02,fracA s12 x12 d12]) fun a5 n5 e5 =>
  callF ((E1 149) [fracA a4 n4 e4,fracA a5 n5 e5]) fun a6 n6 e6 =>
  some (fracA a6 n6 e6,true)
noncomputable def eCross (l:List AV) : Q:=arg2 l fun a b => vecP a fun s00 x00 d00 s01 x01 d01 s02 x02 d02 => vecP b fun s10 x10 d10 s11 x11 d11 s12 x12 d12 =>
  callF ((E1 150) [fracA s01 x01 d01,fracA s12 x12 d12]) fun a1 n1 e1 =>
  callF ((E1 150) [fracA s02 x02 d02,fracA s11 x11 d11]) fun a2 n2 e2 =>
  callF ((E1 153) [fracA a1 n1 e1,fracA a2 n2 e2]) fun a3 n3 e3 =>
  callF ((E1 150) [fracA s02 x02 d02,fracA s10 x10 d10]) fun a4 n4 e4 =>
  callF ((E1 150) [fracA s00 x00 d00,fracA s12 x12 d12]) fun a5 n5 e5 =>
  callF ((E1 153) [fracA a4 n4 e4,fracA a5 n5 e5]) fun a6 n6 e6 =>
  callF ((E1 150) [fracA s00 x00 d00,fracA s11 x11 d11]) fun a7 n7 e7 =>
  callF ((E1 150) [fracA s01 x01 d01,fracA s10 x10 d10]) fun a8 n8 e8 =>
  callF ((E1 153) [fracA a7 n7 e7,fracA a8 n8 e8]) fun a9 n9 e9 =>
  some (.agg [boolA a3,u64A n3,nilS,u64A e3,nilS,boolA a6,u64A n6,nilS,u64A e6,nilS,boolA a9,u64A n9,nilS,u64A e9,nilS],true)
noncomputable def eVCmp (l:List AV) : Q:=arg2 l fun a b => vecP a fun s00 x00 d00 s01 x01 d01 s02 x02 d02 => vecP b fun s10 x10 d10 s11 x11 d11 s12 x12 d12 =>
  callI ((E1 67) [fracA s00 x00 d00,fracA s10 x10 d10]) fun z1 =>
  ifB (notB (eqI z1 0)) (some (i64A z1,true)) (callI ((E1 67) [fracA s01 x01 d01,fracA s11 x11 d11]) fun z2 =>
    ifB (notB (eqI z2 0)) (some (i64A z2,true)) (callI ((E1 67) [fracA s02 x02 d02,fracA s12 x12 d12]) fun z3 =>
      ifB (notB (eqI z3 0)) (some (i64A z3,true)) (some (i64A (.ofNat 0),true))))
noncomputable def enormal (l:List AV) : Q:=arg1 l fun a => planeP a fun s00 x00 d00 s01 x01 d01 s02 x02 d02 s03 x03 d03 =>
  callB (eZero [.agg [boolA s00,u64A x00,nilS,u64A d00,nilS,boolA s01,u64A x01,nilS,u64A d01,nilS,boolA s02,u64A x02,nilS,u64A d02,nilS]]) fun c1 =>
  ifB c1 (none) (some (.agg [boolA s00,u64A x00,nilS,u64A d00,nilS,boolA s01,u64A x01,nilS,u64A d01,nilS,boolA s02,u64A x02,nilS,u64A d02,nilS],true))
noncomputable def eNormal (l:List AV) : Q:=arg1 l fun a => planeP a fun s00 x00 d00 s01 x01 d01 s02 x02 d02 s03 x03 d03 =>
  callV (enormal [.agg [boolA s00,u64A x00,nilS,u64A d00,nilS,boolA s01,u64A x01,nilS,u64A d01,nilS,boolA s02,u64A x02,nilS,u64A d02,nilS,boolA s03,u64A x03,nilS,u64A d03,nilS]]) fun a1 n1 e1 a2 n2 e2 a3 n3 e3 =>
  some (.agg [boolA a1,u64A n1,nilS,u64A e1,nilS,boolA a2,u64A n2,nilS,u64A e2,nilS,boolA a3,u64A n3,nilS,u64A e3,nilS],true)
noncomputable def eOffset (l:List AV) : Q:=arg1 l fun a => planeP a fun s00 x00 d00 s01 x01 d01 s02 x02 d02 s03 x03 d03 =>
  some (fracA s03 x03 d03,true)
noncomputable def eAt (l:List AV) : Q:=arg2 l fun a b => planeP a fun s00 x00 d00 s01 x01 d01 s02 x02 d02 s03 x03 d03 => vecP b fun s10 x10 d10 s11 x11 d11 s12 x12 d12 =>
  callV (enormal [.agg [boolA s00,u64A x00,nilS,u64A d00,nilS,boolA s01,u64A x01,nilS,u64A d01,nilS,boolA s02,u64A x02,nilS,u64A d02,nilS,boolA s03,u64A x03,nilS,u64A d03,nilS]]) fun a1 n1 e1 a2 n2 e2 a3 n3 e3 =>
  callF (eVDot [.agg [boolA a1,u64A n1,nilS,u64A e1,nilS,boolA a2,u64A n2,nilS,u64A e2,nilS,boolA a3,u64A n3,nilS,u64A e3,nilS],.agg [boolA s10,u64A x10,nilS,u64A d10,nilS,boolA s11,u64A x11,nilS,u64A d11,nilS,boolA s12,u64A x12,nilS,u64A d12,nilS]]) fun a4 n4 e4 =>
  callF ((E1 153) [fracA a4 n4 e4,fracA s03 x03 d03]) fun a5 n5 e5 =>
  some (fracA a5 n5 e5,true)
noncomputable def eSide (l:List AV) : Q:=arg2 l fun a b => planeP a fun s00 x00 d00 s01 x01 d01 s02 x02 d02 s03 x03 d03 => vecP b fun s10 x10 d10 s11 x11 d11 s12 x12 d12 =>
  callF (eAt [.agg [boolA s00,u64A x00,nilS,u64A d00,nilS,boolA s01,u64A x01,nilS,u64A d01,nilS,boolA s02,u64A x02,nilS,u64A d02,nilS,boolA s03,u64A x03,nilS,u64A d03,nilS],.agg [boolA s10,u64A x10,nilS,u64A d10,nilS,boolA s11,u64A x11,nilS,u64A d11,nilS,boolA s12,u64A x12,nilS,u64A d12,nilS]]) fun a1 n1 e1 =>
  callI ((E1 27) [fracA a1 n1 e1]) fun z2 =>
  some (i64A z2,true)
noncomputable def ecof (l:List AV) : Q:=arg1 l fun a => planeP a fun s00 x00 d00 s01 x01 d01 s02 x02 d02 s03 x03 d03 =>
  callV (eNormal [.agg [boolA s00,u64A x00,nilS,u64A d00,nilS,boolA s01,u64A x01,nilS,u64A d01,nilS,boolA s02,u64A x02,nilS,u64A d02,nilS,boolA s03,u64A x03,nilS,u64A d03,nilS]]) fun a1 n1 e1 a2 n2 e2 a3 n3 e3 =>
  callF (eX [.agg [boolA a1,u64A n1,nilS,u64A e1,nilS,boolA a2,u64A n2,nilS,u64A e2,nilS,boolA a3,u64A n3,nilS,u64A e3,nilS]]) fun a4 n4 e4 =>
  callW ((E1 38) [fracA a4 n4 e4]) fun a5 n5 =>
  callF (eY [.agg [boolA a1,u64A n1,nilS,u64A e1,nilS,boolA a2,u64A n2,nilS,u64A e2,nilS,boolA a3,u64A n3,nilS,u64A e3,nilS]]) fun a6 n6 e6 =>
  callW ((E1 38) [fracA a6 n6 e6]) fun a7 n7 =>
  callF (eZ [.agg [boolA a1,u64A n1,nilS,u64A e1,nilS,boolA a2,u64A n2,nilS,u64A e2,nilS,boolA a3,u64A n3,nilS,u64A e3,nilS]]) fun a8 n8 e8 =>
  callW ((E1 38) [fracA a8 n8 e8]) fun a9 n9 =>
  callF (eOffset [.agg [boolA s00,u64A x00,nilS,u64A d00,nilS,boolA s01,u64A x01,nilS,u64A d01,nilS,boolA s02,u64A x02,nilS,u64A d02,nilS,boolA s03,u64A x03,nilS,u64A d03,nilS]]) fun a10 n10 e10 =>
  callW ((E1 38) [fracA a10 n10 e10]) fun a11 n11 =>
  callW ((E1 42) [wholeA a11 n11]) fun a12 n12 =>
  some (.agg [boolA a5,u64A n5,nilS,boolA a7,u64A n7,nilS,boolA a9,u64A n9,nilS,boolA a12,u64A n12,nilS],true)
noncomputable def emix (l:List AV) : Q:=arg4 l fun a b c d => wholeP a fun s0 x0 => rowP b fun s10 x10 s11 x11 s12 x12 s13 x13 => wholeP c fun s2 x2 => rowP d fun s30 x30 s31 x31 s32 x32 s33 x33 =>
  callW ((E1 37) [wholeA s0 x0,wholeA s10 x10]) fun a1 n1 =>
  callW ((E1 37) [wholeA s2 x2,wholeA s30 x30]) fun a2 n2 =>
  callW ((E1 195) [wholeA a1 n1,wholeA a2 n2]) fun a3 n3 =>
  callW ((E1 37) [wholeA s0 x0,wholeA s11 x11]) fun a4 n4 =>
  callW ((E1 37) [wholeA s2 x2,wholeA s31 x31]) fun a5 n5 =>
  callW ((E1 195) [wholeA a4 n4,wholeA a5 n5]) fun a6 n6 =>
  callW ((E1 37) [wholeA s0 x0,wholeA s12 x12]) fun a7 n7 =>
  callW ((E1 37) [wholeA s2 x2,wholeA s32 x32]) fun a8 n8 =>
  callW ((E1 195) [wholeA a7 n7,wholeA a8 n8]) fun a9 n9 =>
  callW ((E1 37) [wholeA s0 x0,wholeA s13 x13]) fun a10 n10 =>
  callW ((E1 37) [wholeA s2 x2,wholeA s33 x33]) fun a11 n11 =>
  callW ((E1 195) [wholeA a10 n10,wholeA a11 n11]) fun a12 n12 =>
  callN ((E1 35) [natA 0,natA n3]) fun n13 =>
  callN ((E1 35) [natA n13,natA n6]) fun n14 =>
  callN ((E1 35) [natA n14,natA n9]) fun n15 =>
  callN ((E1 35) [natA n15,natA n12]) fun n16 =>
  callT ((E1 33) [natA n3,natA n16]) fun n17 n18 =>
  callW ((E1 39) [boolA a3,natA n17]) fun a19 n19 =>
  callT ((E1 33) [natA n6,natA n16]) fun n20 n21 =>
  callW ((E1 39) [boolA a6,natA n20]) fun a22 n22 =>
  callT ((E1 33) [natA n9,natA n16]) fun n23 n24 =>
  callW ((E1 39) [boolA a9,natA n23]) fun a25 n25 =>
  callT ((E1 33) [natA n12,natA n16]) fun n26 n27 =>
  callW ((E1 39) [boolA a12,natA n26]) fun a28 n28 =>
  some (.agg [boolA a19,u64A n19,nilS,boolA a22,u64A n22,nilS,boolA a25,u64A n25,nilS,boolA a28,u64A n28,nilS],true)
noncomputable def eDirection (l:List AV) : Q:=arg1 l fun a => vecP a fun s00 x00 d00 s01 x01 d01 s02 x02 d02 =>
  callN ((E1 32) [u64A 1]) fun n1 =>
  callN ((E1 34) [fracA s00 x00 d00]) fun n2 =>
  callN ((E1 34) [fracA s00 x00 d00]) fun n3 =>
  callN ((E1 35) [natA n1,natA n3]) fun n4 =>
  callT ((E1 33) [natA n2,natA n4]) fun n5 n6 =>
  callN ((E1 36) [natA n1,natA n5]) fun n7 =>
  callN ((E1 34) [fracA s01 x01 d01]) fun n8 =>
  callN ((E1 34) [fracA s01 x01 d01]) fun n9 =>
  callN ((E1 35) [natA n7,natA n9]) fun n10 =>
  callT ((E1 33) [natA n8,natA n10]) fun n11 n12 =>
  callN ((E1 36) [natA n7,natA n11]) fun n13 =>
  callN ((E1 34) [fracA s02 x02 d02]) fun n14 =>
  callN ((E1 34) [fracA s02 x02 d02]) fun n15 =>
  callN ((E1 35) [natA n13,natA n15]) fun n16 =>
  callT ((E1 33) [natA n14,natA n16]) fun n17 n18 =>
  callN ((E1 36) [natA n13,natA n17]) fun n19 =>
  callN ((E1 34) [fracA s00 x00 d00]) fun n20 =>
  callT ((E1 33) [natA n19,natA n20]) fun n21 n22 =>
  callW ((E1 38) [fracA s00 x00 d00]) fun a23 n23 =>
  callW ((E1 39) [boolA false,natA n21]) fun a24 n24 =>
  callW ((E1 37) [wholeA a23 n23,wholeA a24 n24]) fun a25 n25 =>
  callN ((E1 34) [fracA s01 x01 d01]) fun n26 =>
  callT ((E1 33) [natA n19,natA n26]) fun n27 n28 =>
  callW ((E1 38) [fracA s01 x01 d01]) fun a29 n29 =>
  callW ((E1 39) [boolA false,natA n27]) fun a30 n30 =>
  callW ((E1 37) [wholeA a29 n29,wholeA a30 n30]) fun a31 n31 =>
  callN ((E1 34) [fracA s02 x02 d02]) fun n32 =>
  callT ((E1 33) [natA n19,natA n32]) fun n33 n34 =>
  callW ((E1 38) [fracA s02 x02 d02]) fun a35 n35 =>
  callW ((E1 39) [boolA false,natA n33]) fun a36 n36 =>
  callW ((E1 37) [wholeA a35 n35,wholeA a36 n36]) fun a37 n37 =>
  callN ((E1 35) [natA 0,natA n25]) fun n38 =>
  callN ((E1 35) [natA n38,natA n31]) fun n39 =>
  callN ((E1 35) [natA n39,natA n37]) fun n40 =>
  callT ((E1 33) [natA n25,natA n40]) fun n41 n42 =>
  callW ((E1 39) [boolA a25,natA n41]) fun a43 n43 =>
  callT ((E1 33) [natA n31,natA n40]) fun n44 n45 =>
  callW ((E1 39) [boolA a31,natA n44]) fun a46 n46 =>
  callT ((E1 33) [natA n37,natA n40]) fun n47 n48 =>
  callW ((E1 39) [boolA a37,natA n47]) fun a49 n49 =>
  callF ((E1 44) [wholeA a43 n43]) fun a50 n50 e50 =>
  callF ((E1 44) [wholeA a46 n46]) fun a51 n51 e51 =>
  callF ((E1 44) [wholeA a49 n49]) fun a52 n52 e52 =>
  some (.agg [boolA a50,u64A n50,nilS,u64A e50,nilS,boolA a51,u64A n51,nilS,u64A e51,nilS,boolA a52,u64A n52,nilS,u64A e52,nilS],true)
noncomputable def tblV : T (List AV → Q):=
  T.set 134 eDirection <|
  T.set 191 emix <|
  T.set 136 ecof <|
  T.set 48 eSide <|
  T.set 105 eAt <|
  T.set 189 eOffset <|
  T.set 70 eNormal <|
  T.set 132 enormal <|
  T.set 24 eVCmp <|
  T.set 84 eCross <|
  T.set 79 eVDot <|
  T.set 133 eScale <|
  T.set 82 eVSub <|
  T.set 182 eVAdd <|
  T.set 23 eZero <|
  T.set 31 eZ <|
  T.set 30 eY <|
  T.set 29 eX <|
  T.nil
noncomputable def E2 : Es:=fun f l => elimO (T.get tblV f) (E1 f l) fun g => g l
abbrev newF : List Nat:=[134,191,136,48,105,189,70,132,24,84,79,133,82,182,23,31,30,29]
noncomputable abbrev pairsV : List (Nat × (List AV → Q)):=[(134,eDirection),(191,emix),(136,ecof),(48,eSide),(105,eAt),(189,eOffset),(70,eNormal),(132,enormal),(24,eVCmp),(84,eCross),(79,eVDot),(133,eScale),(82,eVSub),(182,eVAdd),(23,eZero),(31,eZ),(30,eY),(29,eX)]
theorem tblV_eq : tblV = tblOf pairsV:=rfl
theorem E2_old {g:Nat} (h:memN g newF = false) (l:List AV) : E2 g l = E1 g l:=by
  unfold E2
  rw [tblV_eq,tblOf_none (l:=pairsV) h]
  rfl
theorem al_old : ∀ g,notB (memN g newF) = true → Ok Tryz.prog E2 g:=fun g h l v hv => by
  rw [E2_old (notB_t.1 h)] at hv
  exact all_ok1 g l v hv
noncomputable def SV (prev:List Nat) : Es:=only (fun g => orB (notB (memN g newF)) (memN g prev)) E2
theorem said {prev:List Nat} {g:Nat} {l:List AV} {q:AV × Bool} (hg:orB (notB (memN g newF)) (memN g prev) = true) (h:E2 g l = some q) : SV prev g l = some q:=by
  show guardB (orB (notB (memN g newF)) (memN g prev)) (E2 g l) = _
  rw [hg]; exact h
theorem al_cons {prev:List Nat} {f:Nat} (h : ∀ g,orB (notB (memN g newF)) (memN g prev) = true → Ok Tryz.prog E2 g) (hf:Ok Tryz.prog E2 f) : ∀ g,orB (notB (memN g newF)) (memN g (f::prev)) = true → Ok Tryz.prog E2 g:=fun g hg => by
  cases e : Nat.beq g f with
  | true => rw [Abs.beq_true.1 e]; exact hf
  | false =>
    refine h g ?_
    have e2 : memN g (f::prev) = memN g prev:=by show ifB (Nat.beq g f) true (memN g prev) = _; rw [e]; rfl
    rw [e2] at hg; exact hg
theorem al_start : ∀ g,orB (notB (memN g newF)) (memN g []) = true → Ok Tryz.prog E2 g:=fun g hg => al_old g (by cases h:notB (memN g newF) with | true => rfl | false => rw [h] at hg; exact hg)
theorem q_FSign (l:List AV) : E2 27 l = (E1 27) l:=by kernel_rfl
theorem q_FAdd (l:List AV) : E2 149 l = (E1 149) l:=by kernel_rfl
theorem q_FSub (l:List AV) : E2 153 l = (E1 153) l:=by kernel_rfl
theorem q_FMul (l:List AV) : E2 150 l = (E1 150) l:=by kernel_rfl
theorem q_FCmp (l:List AV) : E2 67 l = (E1 67) l:=by kernel_rfl
theorem q_Zero (l:List AV) : E2 23 l = eZero l:=by kernel_rfl
theorem q_normal (l:List AV) : E2 132 l = enormal l:=by kernel_rfl
theorem q_VDot (l:List AV) : E2 79 l = eVDot l:=by kernel_rfl
theorem q_At (l:List AV) : E2 105 l = eAt l:=by kernel_rfl
theorem q_Normal (l:List AV) : E2 70 l = eNormal l:=by kernel_rfl
theorem q_X (l:List AV) : E2 29 l = eX l:=by kernel_rfl
theorem q_Num (l:List AV) : E2 38 l = (E1 38) l:=by kernel_rfl
theorem q_Y (l:List AV) : E2 30 l = eY l:=by kernel_rfl
theorem q_Z (l:List AV) : E2 31 l = eZ l:=by kernel_rfl
theorem q_Offset (l:List AV) : E2 189 l = eOffset l:=by kernel_rfl
theorem q_WNeg (l:List AV) : E2 42 l = (E1 42) l:=by kernel_rfl
theorem q_WMul (l:List AV) : E2 37 l = (E1 37) l:=by kernel_rfl
theorem q_WAdd (l:List AV) : E2 195 l = (E1 195) l:=by kernel_rfl
theorem q_Gcd (l:List AV) : E2 35 l = (E1 35) l:=by kernel_rfl
theorem q_NDiv (l:List AV) : E2 33 l = (E1 33) l:=by kernel_rfl
theorem q_WMake (l:List AV) : E2 39 l = (E1 39) l:=by kernel_rfl
theorem q_NatOf (l:List AV) : E2 32 l = (E1 32) l:=by kernel_rfl
theorem q_Den (l:List AV) : E2 34 l = (E1 34) l:=by kernel_rfl
theorem q_NMul (l:List AV) : E2 36 l = (E1 36) l:=by kernel_rfl
theorem q_FOf (l:List AV) : E2 44 l = (E1 44) l:=by kernel_rfl
noncomputable abbrev SX : Es:=SV []
theorem p_X_0 (s00 s01 s02:Bool) (x00 d00 x01 d01 x02 d02:Nat) : symCall (cxOf Tryz.prog SX) SX 100 29 [.agg [boolA s00,u64A x00,nilS,u64A d00,nilS,boolA s01,u64A x01,nilS,u64A d01,nilS,boolA s02,u64A x02,nilS,u64A d02,nilS]] [] = some (.value (fracA s00 x00 d00) (some []),[],[]):=by kernel_rfl
theorem ok_X : Ok Tryz.prog E2 29:=ok_sym (S:=fun g => orB (notB (memN g newF)) (memN g [])) mixed al_start (by kernel_rfl) fun l v h => by
  have e : E2 29 l = eX l:=by kernel_rfl
  rw [e] at h
  replace h:=arg1_some h; obtain ⟨a,rfl,h⟩:=h
  replace h:=vecP_some h; obtain ⟨s00,x00,d00,s01,x01,d01,s02,x02,d02,rfl,h⟩:=h
  obtain ⟨rfl,_⟩:=q_some h
  exact ⟨rfl,rfl,leaf_ok (p_X_0 s00 s01 s02 x00 d00 x01 d01 x02 d02) rfl met_nil⟩
theorem al_X : ∀ g,orB (notB (memN g newF)) (memN g [29]) = true → Ok Tryz.prog E2 g:=al_cons al_start ok_X
noncomputable abbrev SY : Es:=SV [29]
theorem p_Y_0 (s00 s01 s02:Bool) (x00 d00 x01 d01 x02 d02:Nat) : symCall (cxOf Tryz.prog SY) SY 100 30 [.agg [boolA s00,u64A x00,nilS,u64A d00,nilS,boolA s01,u64A x01,nilS,u64A d01,nilS,boolA s02,u64A x02,nilS,u64A d02,nilS]] [] = some (.value (fracA s01 x01 d01) (some []),[],[]):=by kernel_rfl
theorem ok_Y : Ok Tryz.prog E2 30:=ok_sym (S:=fun g => orB (notB (memN g newF)) (memN g [29])) mixed al_X (by kernel_rfl) fun l v h => by
  have e : E2 30 l = eY l:=by kernel_rfl
  rw [e] at h
  replace h:=arg1_some h; obtain ⟨a,rfl,h⟩:=h
  replace h:=vecP_some h; obtain ⟨s00,x00,d00,s01,x01,d01,s02,x02,d02,rfl,h⟩:=h
  obtain ⟨rfl,_⟩:=q_some h
  exact ⟨rfl,rfl,leaf_ok (p_Y_0 s00 s01 s02 x00 d00 x01 d01 x02 d02) rfl met_nil⟩
theorem al_Y : ∀ g,orB (notB (memN g newF)) (memN g [30,29]) = true → Ok Tryz.prog E2 g:=al_cons al_X ok_Y
noncomputable abbrev SZ : Es:=SV [30,29]
theorem p_Z_0 (s00 s01 s02:Bool) (x00 d00 x01 d01 x02 d02:Nat) : symCall (cxOf Tryz.prog SZ) SZ 100 31 [.agg [boolA s00,u64A x00,nilS,u64A d00,nilS,boolA s01,u64A x01,nilS,u64A d01,nilS,boolA s02,u64A x02,nilS,u64A d02,nilS]] [] = some (.value (fracA s02 x02 d02) (some []),[],[]):=by kernel_rfl
theorem ok_Z : Ok Tryz.prog E2 31:=ok_sym (S:=fun g => orB (notB (memN g newF)) (memN g [30,29])) mixed al_Y (by kernel_rfl) fun l v h => by
  have e : E2 31 l = eZ l:=by kernel_rfl
  rw [e] at h
  replace h:=arg1_some h; obtain ⟨a,rfl,h⟩:=h
  replace h:=vecP_some h; obtain ⟨s00,x00,d00,s01,x01,d01,s02,x02,d02,rfl,h⟩:=h
  obtain ⟨rfl,_⟩:=q_some h
  exact ⟨rfl,rfl,leaf_ok (p_Z_0 s00 s01 s02 x00 d00 x01 d01 x02 d02) rfl met_nil⟩
theorem al_Z : ∀ g,orB (notB (memN g newF)) (memN g [31,30,29]) = true → Ok Tryz.prog E2 g:=al_cons al_Y ok_Z
noncomputable abbrev SZero : Es:=SV [31,30,29]
theorem p_Zero_0 (s00 s01 s02:Bool) (x00 d00 x01 d01 x02 d02:Nat) (z1 z2 z3:Int) : symCall (cxOf Tryz.prog SZero) SZero 100 23 [.agg [boolA s00,u64A x00,nilS,u64A d00,nilS,boolA s01,u64A x01,nilS,u64A d01,nilS,boolA s02,u64A x02,nilS,u64A d02,nilS]] [.r 27 (i64A z1),.t,.t,.t,.t,.r 27 (i64A z2),.t,.t,.t,.t,.t,.t,.r 27 (i64A z3),.t,.t] = some (.value (boolA (eqI z3 0)) (some []),[],((eqI z2 0),true)::((eqI z2 0),true)::(claimB (SZero 27 [fracA s02 x02 d02] = some (i64A z3,true)),true)::((eqI z2 0),true)::((eqI z2 0),true)::((eqI z2 0),true)::((eqI z2 0),true)::((eqI z1 0),true)::((eqI z1 0),true)::(claimB (SZero 27 [fracA s01 x01 d01] = some (i64A z2,true)),true)::((eqI z1 0),true)::((eqI z1 0),true)::((eqI z1 0),true)::((eqI z1 0),true)::(claimB (SZero 27 [fracA s00 x00 d00] = some (i64A z1,true)),true)::[]):=by kernel_rfl
theorem p_Zero_1 (s00 s01 s02:Bool) (x00 d00 x01 d01 x02 d02:Nat) (z1 z2:Int) : symCall (cxOf Tryz.prog SZero) SZero 100 23 [.agg [boolA s00,u64A x00,nilS,u64A d00,nilS,boolA s01,u64A x01,nilS,u64A d01,nilS,boolA s02,u64A x02,nilS,u64A d02,nilS]] [.r 27 (i64A z1),.t,.t,.t,.t,.r 27 (i64A z2),.t,.t,.f,.f,.f,.f,.f,.f] = some (.value (boolA false) (some []),[],((eqI z2 0),false)::((eqI z2 0),false)::((eqI z2 0),false)::((eqI z2 0),false)::((eqI z2 0),false)::((eqI z2 0),false)::((eqI z1 0),true)::((eqI z1 0),true)::(claimB (SZero 27 [fracA s01 x01 d01] = some (i64A z2,true)),true)::((eqI z1 0),true)::((eqI z1 0),true)::((eqI z1 0),true)::((eqI z1 0),true)::(claimB (SZero 27 [fracA s00 x00 d00] = some (i64A z1,true)),true)::[]):=by kernel_rfl
theorem p_Zero_2 (s00 s01 s02:Bool) (x00 d00 x01 d01 x02 d02:Nat) (z1:Int) : symCall (cxOf Tryz.prog SZero) SZero 100 23 [.agg [boolA s00,u64A x00,nilS,u64A d00,nilS,boolA s01,u64A x01,nilS,u64A d01,nilS,boolA s02,u64A x02,nilS,u64A d02,nilS]] [.r 27 (i64A z1),.f,.f,.f,.f,.f,.f] = some (.value (boolA false) (some []),[],((eqI z1 0),false)::((eqI z1 0),false)::((eqI z1 0),false)::((eqI z1 0),false)::((eqI z1 0),false)::((eqI z1 0),false)::(claimB (SZero 27 [fracA s00 x00 d00] = some (i64A z1,true)),true)::[]):=by kernel_rfl
theorem ok_Zero : Ok Tryz.prog E2 23:=ok_sym (S:=fun g => orB (notB (memN g newF)) (memN g [31,30,29])) mixed al_Z (by kernel_rfl) fun l v h => by
  have e : E2 23 l = eZero l:=by kernel_rfl
  rw [e] at h
  replace h:=arg1_some h; obtain ⟨a,rfl,h⟩:=h
  replace h:=vecP_some h; obtain ⟨s00,x00,d00,s01,x01,d01,s02,x02,d02,rfl,h⟩:=h
  replace h:=callI_some h; obtain ⟨z1,hq1,h⟩:=h
  cases hc2 : (eqI z1 0) with
  | true =>
    rw [hc2,ifB_true] at h
    replace h:=callI_some h; obtain ⟨z2,hq3,h⟩:=h
    cases hc4 : (eqI z2 0) with
    | true =>
      rw [hc4,ifB_true] at h
      replace h:=callI_some h; obtain ⟨z3,hq5,h⟩:=h
      obtain ⟨rfl,_⟩:=q_some h
      exact ⟨rfl,rfl,leaf_ok (p_Zero_0 s00 s01 s02 x00 d00 x01 d01 x02 d02 z1 z2 z3) rfl (met_cons (hc4) (met_cons (hc4) (met_cons (claimB_t.2 (said (by kernel_rfl) ((q_FSign _).trans hq5))) (met_cons (hc4) (met_cons (hc4) (met_cons (hc4) (met_cons (hc4) (met_cons (hc2) (met_cons (hc2) (met_cons (claimB_t.2 (said (by kernel_rfl) ((q_FSign _).trans hq3))) (met_cons (hc2) (met_cons (hc2) (met_cons (hc2) (met_cons (hc2) (met_cons (claimB_t.2 (said (by kernel_rfl) ((q_FSign _).trans hq1))) met_nil)))))))))))))))⟩
    | false =>
      rw [hc4,ifB_false] at h
      obtain ⟨rfl,_⟩:=q_some h
      exact ⟨rfl,rfl,leaf_ok (p_Zero_1 s00 s01 s02 x00 d00 x01 d01 x02 d02 z1 z2) rfl (met_cons (hc4) (met_cons (hc4) (met_cons (hc4) (met_cons (hc4) (met_cons (hc4) (met_cons (hc4) (met_cons (hc2) (met_cons (hc2) (met_cons (claimB_t.2 (said (by kernel_rfl) ((q_FSign _).trans hq3))) (met_cons (hc2) (met_cons (hc2) (met_cons (hc2) (met_cons (hc2) (met_cons (claimB_t.2 (said (by kernel_rfl) ((q_FSign _).trans hq1))) met_nil))))))))))))))⟩
  | false =>
    rw [hc2,ifB_false] at h
    obtain ⟨rfl,_⟩:=q_some h
    exact ⟨rfl,rfl,leaf_ok (p_Zero_2 s00 s01 s02 x00 d00 x01 d01 x02 d02 z1) rfl (met_cons (hc2) (met_cons (hc2) (met_cons (hc2) (met_cons (hc2) (met_cons (hc2) (met_cons (hc2) (met_cons (claimB_t.2 (said (by kernel_rfl) ((q_FSign _).trans hq1))) met_nil)))))))⟩
theorem al_Zero : ∀ g,orB (notB (memN g newF)) (memN g [23,31,30,29]) = true → Ok Tryz.prog E2 g:=al_cons al_Z ok_Zero
noncomputable abbrev SVAdd : Es:=SV [23,31,30,29]
theorem p_VAdd_0 (s00 s01 s02 s10 s11 s12 a1 a2 a3:Bool) (x00 d00 x01 d01 x02 d02 x10 d10 x11 d11 x12 d12 n1 e1 n2 e2 n3 e3:Nat) : symCall (cxOf Tryz.prog SVAdd) SVAdd 100 182 [.agg [boolA s00,u64A x00,nilS,u64A d00,nilS,boolA s01,u64A x01,nilS,u64A d01,nilS,boolA s02,u64A x02,nilS,u64A d02,nilS],.agg [boolA s10,u64A x10,nilS,u64A d10,nilS,boolA s11,u64A x11,nilS,u64A d11,nilS,boolA s12,u64A x12,nilS,u64A d12,nilS]] [.r 149 (fracA a1 n1 e1),.r 149 (fracA a2 n2 e2),.r 149 (fracA a3 n3 e3)] = some (.value (.agg [boolA a1,u64A n1,nilS,u64A e1,nilS,boolA a2,u64A n2,nilS,u64A e2,nilS,boolA a3,u64A n3,nilS,u64A e3,nilS]) (some []),[],(claimB (SVAdd 149 [fracA s02 x02 d02,fracA s12 x12 d12] = some (fracA a3 n3 e3,true)),true)::(claimB (SVAdd 149 [fracA s01 x01 d01,fracA s11 x11 d11] = some (fracA a2 n2 e2,true)),true)::(claimB (SVAdd 149 [fracA s00 x00 d00,fracA s10 x10 d10] = some (fracA a1 n1 e1,true)),true)::[]):=by kernel_rfl
theorem ok_VAdd : Ok Tryz.prog E2 182:=ok_sym (S:=fun g => orB (notB (memN g newF)) (memN g [23,31,30,29])) mixed al_Zero (by kernel_rfl) fun l v h => by
  have e : E2 182 l = eVAdd l:=by kernel_rfl
  rw [e] at h
  replace h:=arg2_some h; obtain ⟨a,b,rfl,h⟩:=h
  replace h:=vecP_some h; obtain ⟨s00,x00,d00,s01,x01,d01,s02,x02,d02,rfl,h⟩:=h
  replace h:=vecP_some h; obtain ⟨s10,x10,d10,s11,x11,d11,s12,x12,d12,rfl,h⟩:=h
  replace h:=callF_some h; obtain ⟨a1,n1,e1,hq6,h⟩:=h
  replace h:=callF_some h; obtain ⟨a2,n2,e2,hq7,h⟩:=h
  replace h:=callF_some h; obtain ⟨a3,n3,e3,hq8,h⟩:=h
  obtain ⟨rfl,_⟩:=q_some h
  exact ⟨rfl,rfl,leaf_ok (p_VAdd_0 s00 s01 s02 s10 s11 s12 a1 a2 a3 x00 d00 x01 d01 x02 d02 x10 d10 x11 d11 x12 d12 n1 e1 n2 e2 n3 e3) rfl (met_cons (claimB_t.2 (said (by kernel_rfl) ((q_FAdd _).trans hq8))) (met_cons (claimB_t.2 (said (by kernel_rfl) ((q_FAdd _).trans hq7))) (met_cons (claimB_t.2 (said (by kernel_rfl) ((q_FAdd _).trans hq6))) met_nil)))⟩
theorem al_VAdd : ∀ g,orB (notB (memN g newF)) (memN g [182,23,31,30,29]) = true → Ok Tryz.prog E2 g:=al_cons al_Zero ok_VAdd
noncomputable abbrev SVSub : Es:=SV [182,23,31,30,29]
theorem p_VSub_0 (s00 s01 s02 s10 s11 s12 a1 a2 a3:Bool) (x00 d00 x01 d01 x02 d02 x10 d10 x11 d11 x12 d12 n1 e1 n2 e2 n3 e3:Nat) : symCall (cxOf Tryz.prog SVSub) SVSub 100 82 [.agg [boolA s00,u64A x00,nilS,u64A d00,nilS,boolA s01,u64A x01,nilS,u64A d01,nilS,boolA s02,u64A x02,nilS,u64A d02,nilS],.agg [boolA s10,u64A x10,nilS,u64A d10,nilS,boolA s11,u64A x11,nilS,u64A d11,nilS,boolA s12,u64A x12,nilS,u64A d12,nilS]] [.r 153 (fracA a1 n1 e1),.r 153 (fracA a2 n2 e2),.r 153 (fracA a3 n3 e3)] = some (.value (.agg [boolA a1,u64A n1,nilS,u64A e1,nilS,boolA a2,u64A n2,nilS,u64A e2,nilS,boolA a3,u64A n3,nilS,u64A e3,nilS]) (some []),[],(claimB (SVSub 153 [fracA s02 x02 d02,fracA s12 x12 d12] = some (fracA a3 n3 e3,true)),true)::(claimB (SVSub 153 [fracA s01 x01 d01,fracA s11 x11 d11] = some (fracA a2 n2 e2,true)),true)::(claimB (SVSub 153 [fracA s00 x00 d00,fracA s10 x10 d10] = some (fracA a1 n1 e1,true)),true)::[]):=by kernel_rfl
theorem ok_VSub : Ok Tryz.prog E2 82:=ok_sym (S:=fun g => orB (notB (memN g newF)) (memN g [182,23,31,30,29])) mixed al_VAdd (by kernel_rfl) fun l v h => by
  have e : E2 82 l = eVSub l:=by kernel_rfl
  rw [e] at h
  replace h:=arg2_some h; obtain ⟨a,b,rfl,h⟩:=h
  replace h:=vecP_some h; obtain ⟨s00,x00,d00,s01,x01,d01,s02,x02,d02,rfl,h⟩:=h
  replace h:=vecP_some h; obtain ⟨s10,x10,d10,s11,x11,d11,s12,x12,d12,rfl,h⟩:=h
  replace h:=callF_some h; obtain ⟨a1,n1,e1,hq9,h⟩:=h
  replace h:=callF_some h; obtain ⟨a2,n2,e2,hq10,h⟩:=h
  replace h:=callF_some h; obtain ⟨a3,n3,e3,hq11,h⟩:=h
  obtain ⟨rfl,_⟩:=q_some h
  exact ⟨rfl,rfl,leaf_ok (p_VSub_0 s00 s01 s02 s10 s11 s12 a1 a2 a3 x00 d00 x01 d01 x02 d02 x10 d10 x11 d11 x12 d12 n1 e1 n2 e2 n3 e3) rfl (met_cons (claimB_t.2 (said (by kernel_rfl) ((q_FSub _).trans hq11))) (met_cons (claimB_t.2 (said (by kernel_rfl) ((q_FSub _).trans hq10))) (met_cons (claimB_t.2 (said (by kernel_rfl) ((q_FSub _).trans hq9))) met_nil)))⟩
theorem al_VSub : ∀ g,orB (notB (memN g newF)) (memN g [82,182,23,31,30,29]) = true → Ok Tryz.prog E2 g:=al_cons al_VAdd ok_VSub
noncomputable abbrev SScale : Es:=SV [82,182,23,31,30,29]
theorem p_Scale_0 (s0 s10 s11 s12 a1 a2 a3:Bool) (x0 d0 x10 d10 x11 d11 x12 d12 n1 e1 n2 e2 n3 e3:Nat) : symCall (cxOf Tryz.prog SScale) SScale 100 133 [fracA s0 x0 d0,.agg [boolA s10,u64A x10,nilS,u64A d10,nilS,boolA s11,u64A x11,nilS,u64A d11,nilS,boolA s12,u64A x12,nilS,u64A d12,nilS]] [.r 150 (fracA a1 n1 e1),.r 150 (fracA a2 n2 e2),.r 150 (fracA a3 n3 e3)] = some (.value (.agg [boolA a1,u64A n1,nilS,u64A e1,nilS,boolA a2,u64A n2,nilS,u64A e2,nilS,boolA a3,u64A n3,nilS,u64A e3,nilS]) (some []),[],(claimB (SScale 150 [fracA s0 x0 d0,fracA s12 x12 d12] = some (fracA a3 n3 e3,true)),true)::(claimB (SScale 150 [fracA s0 x0 d0,fracA s11 x11 d11] = some (fracA a2 n2 e2,true)),true)::(claimB (SScale 150 [fracA s0 x0 d0,fracA s10 x10 d10] = some (fracA a1 n1 e1,true)),true)::[]):=by kernel_rfl
theorem ok_Scale : Ok Tryz.prog E2 133:=ok_sym (S:=fun g => orB (notB (memN g newF)) (memN g [82,182,23,31,30,29])) mixed al_VSub (by kernel_rfl) fun l v h => by
  have e : E2 133 l = eScale l:=by kernel_rfl
  rw [e] at h
  replace h:=arg2_some h; obtain ⟨a,b,rfl,h⟩:=h
  replace h:=fracP_some h; obtain ⟨s0,x0,d0,rfl,h⟩:=h
  replace h:=vecP_some h; obtain ⟨s10,x10,d10,s11,x11,d11,s12,x12,d12,rfl,h⟩:=h
  replace h:=callF_some h; obtain ⟨a1,n1,e1,hq12,h⟩:=h
  replace h:=callF_some h; obtain ⟨a2,n2,e2,hq13,h⟩:=h
  replace h:=callF_some h; obtain ⟨a3,n3,e3,hq14,h⟩:=h
  obtain ⟨rfl,_⟩:=q_some h
  exact ⟨rfl,rfl,leaf_ok (p_Scale_0 s0 s10 s11 s12 a1 a2 a3 x0 d0 x10 d10 x11 d11 x12 d12 n1 e1 n2 e2 n3 e3) rfl (met_cons (claimB_t.2 (said (by kernel_rfl) ((q_FMul _).trans hq14))) (met_cons (claimB_t.2 (said (by kernel_rfl) ((q_FMul _).trans hq13))) (met_cons (claimB_t.2 (said (by kernel_rfl) ((q_FMul _).trans hq12))) met_nil)))⟩
theorem al_Scale : ∀ g,orB (notB (memN g newF)) (memN g [133,82,182,23,31,30,29]) = true → Ok Tryz.prog E2 g:=al_cons al_VSub ok_Scale
noncomputable abbrev SVDot : Es:=SV [133,82,182,23,31,30,29]
theorem p_VDot_0 (s00 s01 s02 s10 s11 s12 a1 a2 a3 a4 a5 a6:Bool) (x00 d00 x01 d01 x02 d02 x10 d10 x11 d11 x12 d12 n1 e1 n2 e2 n3 e3 n4 e4 n5 e5 n6 e6:Nat) : symCall (cxOf Tryz.prog SVDot) SVDot 100 79 [.agg [boolA s00,u64A x00,nilS,u64A d00,nilS,boolA s01,u64A x01,nilS,u64A d01,nilS,boolA s02,u64A x02,nilS,u64A d02,nilS],.agg [boolA s10,u64A x10,nilS,u64A d10,nilS,boolA s11,u64A x11,nilS,u64A d11,nilS,boolA s12,u64A x12,nilS,u64A d12,nilS]] [.r 150 (fracA a1 n1 e1),.r 149 (fracA a2 n2 e2),.r 150 (fracA a3 n3 e3),.r 149 (fracA a4 n4 e4),.r 150 (fracA a5 n5 e5),.r 149 (fracA a6 n6 e6)] = some (.value (fracA a6 n6 e6) (some []),[],(claimB (SVDot 149 [fracA a4 n4 e4,fracA a5 n5 e5] = some (fracA a6 n6 e6,true)),true)::(claimB (SVDot 150 [fracA s02 x02 d02,fracA s12 x12 d12] = some (fracA a5 n5 e5,true)),true)::(claimB (SVDot 149 [fracA a2 n2 e2,fracA a3 n3 e3] = some (fracA a4 n4 e4,true)),true)::(claimB (SVDot 150 [fracA s01 x01 d01,fracA s11 x11 d11] = some (fracA a3 n3 e3,true)),true)::(claimB (SVDot 149 [fracA false 0 0,fracA a1 n1 e1] = some (fracA a2 n2 e2,true)),true)::(claimB (SVDot 150 [fracA s00 x00 d00,fracA s10 x10 d10] = some (fracA a1 n1 e1,true)),true)::[]):=by kernel_rfl
theorem ok_VDot : Ok Tryz.prog E2 79:=ok_sym (S:=fun g => orB (notB (memN g newF)) (memN g [133,82,182,23,31,30,29])) mixed al_Scale (by kernel_rfl) fun l v h => by
  have e : E2 79 l = eVDot l:=by kernel_rfl
  rw [e] at h
  replace h:=arg2_some h; obtain ⟨a,b,rfl,h⟩:=h
  replace h:=vecP_some h; obtain ⟨s00,x00,d00,s01,x01,d01,s02,x02,d02,rfl,h⟩:=h
  replace h:=vecP_some h; obtain ⟨s10,x10,d10,s11,x11,d11,s12,x12,d12,rfl,h⟩:=h
  replace h:=callF_some h; obtain ⟨a1,n1,e1,hq15,h⟩:=h
  replace h:=callF_some h; obtain ⟨a2,n2,e2,hq16,h⟩:=h
  replace h:=callF_some h; obtain ⟨a3,n3,e3,hq17,h⟩:=h
  replace h:=callF_some h; obtain ⟨a4,n4,e4,hq18,h⟩:=h
  replace h:=callF_some h; obtain ⟨a5,n5,e5,hq19,h⟩:=h
  replace h:=callF_some h; obtain ⟨a6,n6,e6,hq20,h⟩:=h
  obtain ⟨rfl,_⟩:=q_some h
  exact ⟨rfl,rfl,leaf_ok (p_VDot_0 s00 s01 s02 s10 s11 s12 a1 a2 a3 a4 a5 a6 x00 d00 x01 d01 x02 d02 x10 d10 x11 d11 x12 d12 n1 e1 n2 e2 n3 e3 n4 e4 n5 e5 n6 e6) rfl (met_cons (claimB_t.2 (said (by kernel_rfl) ((q_FAdd _).trans hq20))) (met_cons (claimB_t.2 (said (by kernel_rfl) ((q_FMul _).trans hq19))) (met_cons (claimB_t.2 (said (by kernel_rfl) ((q_FAdd _).trans hq18))) (met_cons (claimB_t.2 (said (by kernel_rfl) ((q_FMul _).trans hq17))) (met_cons (claimB_t.2 (said (by kernel_rfl) ((q_FAdd _).trans hq16))) (met_cons (claimB_t.2 (said (by kernel_rfl) ((q_FMul _).trans hq15))) met_nil))))))⟩
theorem al_VDot : ∀ g,orB (notB (memN g newF)) (memN g [79,133,82,182,23,31,30,29]) = true → Ok Tryz.prog E2 g:=al_cons al_Scale ok_VDot
noncomputable abbrev SCross : Es:=SV [79,133,82,182,23,31,30,29]
theorem p_Cross_0 (s00 s01 s02 s10 s11 s12 a1 a2 a3 a4 a5 a6 a7 a8 a9:Bool) (x00 d00 x01 d01 x02 d02 x10 d10 x11 d11 x12 d12 n1 e1 n2 e2 n3 e3 n4 e4 n5 e5 n6 e6 n7 e7 n8 e8 n9 e9:Nat) : symCall (cxOf Tryz.prog SCross) SCross 100 84 [.agg [boolA s00,u64A x00,nilS,u64A d00,nilS,boolA s01,u64A x01,nilS,u64A d01,nilS,boolA s02,u64A x02,nilS,u64A d02,nilS],.agg [boolA s10,u64A x10,nilS,u64A d10,nilS,boolA s11,u64A x11,nilS,u64A d11,nilS,boolA s12,u64A x12,nilS,u64A d12,nilS]] [.r 150 (fracA a1 n1 e1),.r 150 (fracA a2 n2 e2),.r 153 (fracA a3 n3 e3),.r 150 (fracA a4 n4 e4),.r 150 (fracA a5 n5 e5),.r 153 (fracA a6 n6 e6),.r 150 (fracA a7 n7 e7),.r 150 (fracA a8 n8 e8),.r 153 (fracA a9 n9 e9)] = some (.value (.agg [boolA a3,u64A n3,nilS,u64A e3,nilS,boolA a6,u64A n6,nilS,u64A e6,nilS,boolA a9,u64A n9,nilS,u64A e9,nilS]) (some []),[],(claimB (SCross 153 [fracA a7 n7 e7,fracA a8 n8 e8] = some (fracA a9 n9 e9,true)),true)::(claimB (SCross 150 [fracA s01 x01 d01,fracA s10 x10 d10] = some (fracA a8 n8 e8,true)),true)::(claimB (SCross 150 [fracA s00 x00 d00,fracA s11 x11 d11] = some (fracA a7 n7 e7,true)),true)::(claimB (SCross 153 [fracA a4 n4 e4,fracA a5 n5 e5] = some (fracA a6 n6 e6,true)),true)::(claimB (SCross 150 [fracA s00 x00 d00,fracA s12 x12 d12] = some (fracA a5 n5 e5,true)),true)::(claimB (SCross 150 [fracA s02 x02 d02,fracA s10 x10 d10] = some (fracA a4 n4 e4,true)),true)::(claimB (SCross 153 [fracA a1 n1 e1,fracA a2 n2 e2] = some (fracA a3 n3 e3,true)),true)::(claimB (SCross 150 [fracA s02 x02 d02,fracA s11 x11 d11] = some (fracA a2 n2 e2,true)),true)::(claimB (SCross 150 [fracA s01 x01 d01,fracA s12 x12 d12] = some (fracA a1 n1 e1,true)),true)::[]):=by kernel_rfl
theorem ok_Cross : Ok Tryz.prog E2 84:=ok_sym (S:=fun g => orB (notB (memN g newF)) (memN g [79,133,82,182,23,31,30,29])) mixed al_VDot (by kernel_rfl) fun l v h => by
  have e : E2 84 l = eCross l:=by kernel_rfl
  rw [e] at h
  replace h:=arg2_some h; obtain ⟨a,b,rfl,h⟩:=h
  replace h:=vecP_some h; obtain ⟨s00,x00,d00,s01,x01,d01,s02,x02,d02,rfl,h⟩:=h
  replace h:=vecP_some h; obtain ⟨s10,x10,d10,s11,x11,d11,s12,x12,d12,rfl,h⟩:=h
  replace h:=callF_some h; obtain ⟨a1,n1,e1,hq21,h⟩:=h
  replace h:=callF_some h; obtain ⟨a2,n2,e2,hq22,h⟩:=h
  replace h:=callF_some h; obtain ⟨a3,n3,e3,hq23,h⟩:=h
  replace h:=callF_some h; obtain ⟨a4,n4,e4,hq24,h⟩:=h
  replace h:=callF_some h; obtain ⟨a5,n5,e5,hq25,h⟩:=h
  replace h:=callF_some h; obtain ⟨a6,n6,e6,hq26,h⟩:=h
  replace h:=callF_some h; obtain ⟨a7,n7,e7,hq27,h⟩:=h
  replace h:=callF_some h; obtain ⟨a8,n8,e8,hq28,h⟩:=h
  replace h:=callF_some h; obtain ⟨a9,n9,e9,hq29,h⟩:=h
  obtain ⟨rfl,_⟩:=q_some h
  exact ⟨rfl,rfl,leaf_ok (p_Cross_0 s00 s01 s02 s10 s11 s12 a1 a2 a3 a4 a5 a6 a7 a8 a9 x00 d00 x01 d01 x02 d02 x10 d10 x11 d11 x12 d12 n1 e1 n2 e2 n3 e3 n4 e4 n5 e5 n6 e6 n7 e7 n8 e8 n9 e9) rfl (met_cons (claimB_t.2 (said (by kernel_rfl) ((q_FSub _).trans hq29))) (met_cons (claimB_t.2 (said (by kernel_rfl) ((q_FMul _).trans hq28))) (met_cons (claimB_t.2 (said (by kernel_rfl) ((q_FMul _).trans hq27))) (met_cons (claimB_t.2 (said (by kernel_rfl) ((q_FSub _).trans hq26))) (met_cons (claimB_t.2 (said (by kernel_rfl) ((q_FMul _).trans hq25))) (met_cons (claimB_t.2 (said (by kernel_rfl) ((q_FMul _).trans hq24))) (met_cons (claimB_t.2 (said (by kernel_rfl) ((q_FSub _).trans hq23))) (met_cons (claimB_t.2 (said (by kernel_rfl) ((q_FMul _).trans hq22))) (met_cons (claimB_t.2 (said (by kernel_rfl) ((q_FMul _).trans hq21))) met_nil)))))))))⟩
theorem al_Cross : ∀ g,orB (notB (memN g newF)) (memN g [84,79,133,82,182,23,31,30,29]) = true → Ok Tryz.prog E2 g:=al_cons al_VDot ok_Cross
noncomputable abbrev SVCmp : Es:=SV [84,79,133,82,182,23,31,30,29]
theorem p_VCmp_0 (s00 s01 s02 s10 s11 s12:Bool) (x00 d00 x01 d01 x02 d02 x10 d10 x11 d11 x12 d12:Nat) (z1:Int) : symCall (cxOf Tryz.prog SVCmp) SVCmp 100 24 [.agg [boolA s00,u64A x00,nilS,u64A d00,nilS,boolA s01,u64A x01,nilS,u64A d01,nilS,boolA s02,u64A x02,nilS,u64A d02,nilS],.agg [boolA s10,u64A x10,nilS,u64A d10,nilS,boolA s11,u64A x11,nilS,u64A d11,nilS,boolA s12,u64A x12,nilS,u64A d12,nilS]] [.r 67 (i64A z1),.t] = some (.value (i64A z1) (some []),[],((notB (eqI z1 0)),true)::(claimB (SVCmp 67 [fracA s00 x00 d00,fracA s10 x10 d10] = some (i64A z1,true)),true)::[]):=by kernel_rfl
theorem p_VCmp_1 (s00 s01 s02 s10 s11 s12:Bool) (x00 d00 x01 d01 x02 d02 x10 d10 x11 d11 x12 d12:Nat) (z1 z2:Int) : symCall (cxOf Tryz.prog SVCmp) SVCmp 100 24 [.agg [boolA s00,u64A x00,nilS,u64A d00,nilS,boolA s01,u64A x01,nilS,u64A d01,nilS,boolA s02,u64A x02,nilS,u64A d02,nilS],.agg [boolA s10,u64A x10,nilS,u64A d10,nilS,boolA s11,u64A x11,nilS,u64A d11,nilS,boolA s12,u64A x12,nilS,u64A d12,nilS]] [.r 67 (i64A z1),.f,.r 67 (i64A z2),.t] = some (.value (i64A z2) (some []),[],((notB (eqI z2 0)),true)::(claimB (SVCmp 67 [fracA s01 x01 d01,fracA s11 x11 d11] = some (i64A z2,true)),true)::((notB (eqI z1 0)),false)::(claimB (SVCmp 67 [fracA s00 x00 d00,fracA s10 x10 d10] = some (i64A z1,true)),true)::[]):=by kernel_rfl
theorem p_VCmp_2 (s00 s01 s02 s10 s11 s12:Bool) (x00 d00 x01 d01 x02 d02 x10 d10 x11 d11 x12 d12:Nat) (z1 z2 z3:Int) : symCall (cxOf Tryz.prog SVCmp) SVCmp 100 24 [.agg [boolA s00,u64A x00,nilS,u64A d00,nilS,boolA s01,u64A x01,nilS,u64A d01,nilS,boolA s02,u64A x02,nilS,u64A d02,nilS],.agg [boolA s10,u64A x10,nilS,u64A d10,nilS,boolA s11,u64A x11,nilS,u64A d11,nilS,boolA s12,u64A x12,nilS,u64A d12,nilS]] [.r 67 (i64A z1),.f,.r 67 (i64A z2),.f,.r 67 (i64A z3),.t] = some (.value (i64A z3) (some []),[],((notB (eqI z3 0)),true)::(claimB (SVCmp 67 [fracA s02 x02 d02,fracA s12 x12 d12] = some (i64A z3,true)),true)::((notB (eqI z2 0)),false)::(claimB (SVCmp 67 [fracA s01 x01 d01,fracA s11 x11 d11] = some (i64A z2,true)),true)::((notB (eqI z1 0)),false)::(claimB (SVCmp 67 [fracA s00 x00 d00,fracA s10 x10 d10] = some (i64A z1,true)),true)::[]):=by kernel_rfl
theorem p_VCmp_3 (s00 s01 s02 s10 s11 s12:Bool) (x00 d00 x01 d01 x02 d02 x10 d10 x11 d11 x12 d12:Nat) (z1 z2 z3:Int) : symCall (cxOf Tryz.prog SVCmp) SVCmp 100 24 [.agg [boolA s00,u64A x00,nilS,u64A d00,nilS,boolA s01,u64A x01,nilS,u64A d01,nilS,boolA s02,u64A x02,nilS,u64A d02,nilS],.agg [boolA s10,u64A x10,nilS,u64A d10,nilS,boolA s11,u64A x11,nilS,u64A d11,nilS,boolA s12,u64A x12,nilS,u64A d12,nilS]] [.r 67 (i64A z1),.f,.r 67 (i64A z2),.f,.r 67 (i64A z3),.f] = some (.value (i64A (.ofNat 0)) (some []),[],((notB (eqI z3 0)),false)::(claimB (SVCmp 67 [fracA s02 x02 d02,fracA s12 x12 d12] = some (i64A z3,true)),true)::((notB (eqI z2 0)),false)::(claimB (SVCmp 67 [fracA s01 x01 d01,fracA s11 x11 d11] = some (i64A z2,true)),true)::((notB (eqI z1 0)),false)::(claimB (SVCmp 67 [fracA s00 x00 d00,fracA s10 x10 d10] = some (i64A z1,true)),true)::[]):=by kernel_rfl
theorem ok_VCmp : Ok Tryz.prog E2 24:=ok_sym (S:=fun g => orB (notB (memN g newF)) (memN g [84,79,133,82,182,23,31,30,29])) mixed al_Cross (by kernel_rfl) fun l v h => by
  have e : E2 24 l = eVCmp l:=by kernel_rfl
  rw [e] at h
  replace h:=arg2_some h; obtain ⟨a,b,rfl,h⟩:=h
  replace h:=vecP_some h; obtain ⟨s00,x00,d00,s01,x01,d01,s02,x02,d02,rfl,h⟩:=h
  replace h:=vecP_some h; obtain ⟨s10,x10,d10,s11,x11,d11,s12,x12,d12,rfl,h⟩:=h
  replace h:=callI_some h; obtain ⟨z1,hq30,h⟩:=h
  cases hc31 : (notB (eqI z1 0)) with
  | true =>
    rw [hc31,ifB_true] at h
    obtain ⟨rfl,_⟩:=q_some h
    exact ⟨rfl,rfl,leaf_ok (p_VCmp_0 s00 s01 s02 s10 s11 s12 x00 d00 x01 d01 x02 d02 x10 d10 x11 d11 x12 d12 z1) rfl (met_cons (hc31) (met_cons (claimB_t.2 (said (by kernel_rfl) ((q_FCmp _).trans hq30))) met_nil))⟩
  | false =>
    rw [hc31,ifB_false] at h
    replace h:=callI_some h; obtain ⟨z2,hq32,h⟩:=h
    cases hc33 : (notB (eqI z2 0)) with
    | true =>
      rw [hc33,ifB_true] at h
      obtain ⟨rfl,_⟩:=q_some h
      exact ⟨rfl,rfl,leaf_ok (p_VCmp_1 s00 s01 s02 s10 s11 s12 x00 d00 x01 d01 x02 d02 x10 d10 x11 d11 x12 d12 z1 z2) rfl (met_cons (hc33) (met_cons (claimB_t.2 (said (by kernel_rfl) ((q_FCmp _).trans hq32))) (met_cons (hc31) (met_cons (claimB_t.2 (said (by kernel_rfl) ((q_FCmp _).trans hq30))) met_nil))))⟩
    | false =>
      rw [hc33,ifB_false] at h
      replace h:=callI_some h; obtain ⟨z3,hq34,h⟩:=h
      cases hc35 : (notB (eqI z3 0)) with
      | true =>
        rw [hc35,ifB_true] at h
        obtain ⟨rfl,_⟩:=q_some h
        exact ⟨rfl,rfl,leaf_ok (p_VCmp_2 s00 s01 s02 s10 s11 s12 x00 d00 x01 d01 x02 d02 x10 d10 x11 d11 x12 d12 z1 z2 z3) rfl (met_cons (hc35) (met_cons (claimB_t.2 (said (by kernel_rfl) ((q_FCmp _).trans hq34))) (met_cons (hc33) (met_cons (claimB_t.2 (said (by kernel_rfl) ((q_FCmp _).trans hq32))) (met_cons (hc31) (met_cons (claimB_t.2 (said (by kernel_rfl) ((q_FCmp _).trans hq30))) met_nil))))))⟩
      | false =>
        rw [hc35,ifB_false] at h
        obtain ⟨rfl,_⟩:=q_some h
        exact ⟨rfl,rfl,leaf_ok (p_VCmp_3 s00 s01 s02 s10 s11 s12 x00 d00 x01 d01 x02 d02 x10 d10 x11 d11 x12 d12 z1 z2 z3) rfl (met_cons (hc35) (met_cons (claimB_t.2 (said (by kernel_rfl) ((q_FCmp _).trans hq34))) (met_cons (hc33) (met_cons (claimB_t.2 (said (by kernel_rfl) ((q_FCmp _).trans hq32))) (met_cons (hc31) (met_cons (claimB_t.2 (said (by kernel_rfl) ((q_FCmp _).trans hq30))) met_nil))))))⟩
theorem al_VCmp : ∀ g,orB (notB (memN g newF)) (memN g [24,84,79,133,82,182,23,31,30,29]) = true → Ok Tryz.prog E2 g:=al_cons al_Cross ok_VCmp
noncomputable abbrev Snormal : Es:=SV [24,84,79,133,82,182,23,31,30,29]
theorem p_normal_0 (s00 s01 s02 s03 c1:Bool) (x00 d00 x01 d01 x02 d02 x03 d03:Nat) : symCall (cxOf Tryz.prog Snormal) Snormal 100 132 [.agg [boolA s00,u64A x00,nilS,u64A d00,nilS,boolA s01,u64A x01,nilS,u64A d01,nilS,boolA s02,u64A x02,nilS,u64A d02,nilS,boolA s03,u64A x03,nilS,u64A d03,nilS]] [.r 23 (boolA c1),.f] = some (.value (.agg [boolA s00,u64A x00,nilS,u64A d00,nilS,boolA s01,u64A x01,nilS,u64A d01,nilS,boolA s02,u64A x02,nilS,u64A d02,nilS]) (some []),[],(c1,false)::(claimB (Snormal 23 [.agg [boolA s00,u64A x00,nilS,u64A d00,nilS,boolA s01,u64A x01,nilS,u64A d01,nilS,boolA s02,u64A x02,nilS,u64A d02,nilS]] = some (boolA c1,true)),true)::[]):=by kernel_rfl
theorem ok_normal : Ok Tryz.prog E2 132:=ok_sym (S:=fun g => orB (notB (memN g newF)) (memN g [24,84,79,133,82,182,23,31,30,29])) mixed al_VCmp (by kernel_rfl) fun l v h => by
  have e : E2 132 l = enormal l:=by kernel_rfl
  rw [e] at h
  replace h:=arg1_some h; obtain ⟨a,rfl,h⟩:=h
  replace h:=planeP_some h; obtain ⟨s00,x00,d00,s01,x01,d01,s02,x02,d02,s03,x03,d03,rfl,h⟩:=h
  replace h:=callB_some h; obtain ⟨c1,hq36,h⟩:=h
  cases hc37 : c1 with
  | true =>
    rw [hc37,ifB_true] at h
    cases h
  | false =>
    rw [hc37,ifB_false] at h
    obtain ⟨rfl,_⟩:=q_some h
    exact ⟨rfl,rfl,leaf_ok (p_normal_0 s00 s01 s02 s03 c1 x00 d00 x01 d01 x02 d02 x03 d03) rfl (met_cons (hc37) (met_cons (claimB_t.2 (said (by kernel_rfl) ((q_Zero _).trans hq36))) met_nil))⟩
theorem al_normal : ∀ g,orB (notB (memN g newF)) (memN g [132,24,84,79,133,82,182,23,31,30,29]) = true → Ok Tryz.prog E2 g:=al_cons al_VCmp ok_normal
noncomputable abbrev SNormal : Es:=SV [132,24,84,79,133,82,182,23,31,30,29]
theorem p_Normal_0 (s00 s01 s02 s03 a1 a2 a3:Bool) (x00 d00 x01 d01 x02 d02 x03 d03 n1 e1 n2 e2 n3 e3:Nat) : symCall (cxOf Tryz.prog SNormal) SNormal 100 70 [.agg [boolA s00,u64A x00,nilS,u64A d00,nilS,boolA s01,u64A x01,nilS,u64A d01,nilS,boolA s02,u64A x02,nilS,u64A d02,nilS,boolA s03,u64A x03,nilS,u64A d03,nilS]] [.r 132 (.agg [boolA a1,u64A n1,nilS,u64A e1,nilS,boolA a2,u64A n2,nilS,u64A e2,nilS,boolA a3,u64A n3,nilS,u64A e3,nilS])] = some (.value (.agg [boolA a1,u64A n1,nilS,u64A e1,nilS,boolA a2,u64A n2,nilS,u64A e2,nilS,boolA a3,u64A n3,nilS,u64A e3,nilS]) (some []),[],(claimB (SNormal 132 [.agg [boolA s00,u64A x00,nilS,u64A d00,nilS,boolA s01,u64A x01,nilS,u64A d01,nilS,boolA s02,u64A x02,nilS,u64A d02,nilS,boolA s03,u64A x03,nilS,u64A d03,nilS]] = some (.agg [boolA a1,u64A n1,nilS,u64A e1,nilS,boolA a2,u64A n2,nilS,u64A e2,nilS,boolA a3,u64A n3,nilS,u64A e3,nilS],true)),true)::[]):=by kernel_rfl
theorem ok_Normal : Ok Tryz.prog E2 70:=ok_sym (S:=fun g => orB (notB (memN g newF)) (memN g [132,24,84,79,133,82,182,23,31,30,29])) mixed al_normal (by kernel_rfl) fun l v h => by
  have e : E2 70 l = eNormal l:=by kernel_rfl
  rw [e] at h
  replace h:=arg1_some h; obtain ⟨a,rfl,h⟩:=h
  replace h:=planeP_some h; obtain ⟨s00,x00,d00,s01,x01,d01,s02,x02,d02,s03,x03,d03,rfl,h⟩:=h
  replace h:=callV_some h; obtain ⟨a1,n1,e1,a2,n2,e2,a3,n3,e3,hq38,h⟩:=h
  obtain ⟨rfl,_⟩:=q_some h
  exact ⟨rfl,rfl,leaf_ok (p_Normal_0 s00 s01 s02 s03 a1 a2 a3 x00 d00 x01 d01 x02 d02 x03 d03 n1 e1 n2 e2 n3 e3) rfl (met_cons (claimB_t.2 (said (by kernel_rfl) ((q_normal _).trans hq38))) met_nil)⟩
theorem al_Normal : ∀ g,orB (notB (memN g newF)) (memN g [70,132,24,84,79,133,82,182,23,31,30,29]) = true → Ok Tryz.prog E2 g:=al_cons al_normal ok_Normal
noncomputable abbrev SOffset : Es:=SV [70,132,24,84,79,133,82,182,23,31,30,29]
theorem p_Offset_0 (s00 s01 s02 s03:Bool) (x00 d00 x01 d01 x02 d02 x03 d03:Nat) : symCall (cxOf Tryz.prog SOffset) SOffset 100 189 [.agg [boolA s00,u64A x00,nilS,u64A d00,nilS,boolA s01,u64A x01,nilS,u64A d01,nilS,boolA s02,u64A x02,nilS,u64A d02,nilS,boolA s03,u64A x03,nilS,u64A d03,nilS]] [] = some (.value (fracA s03 x03 d03) (some []),[],[]):=by kernel_rfl
theorem ok_Offset : Ok Tryz.prog E2 189:=ok_sym (S:=fun g => orB (notB (memN g newF)) (memN g [70,132,24,84,79,133,82,182,23,31,30,29])) mixed al_Normal (by kernel_rfl) fun l v h => by
  have e : E2 189 l = eOffset l:=by kernel_rfl
  rw [e] at h
  replace h:=arg1_some h; obtain ⟨a,rfl,h⟩:=h
  replace h:=planeP_some h; obtain ⟨s00,x00,d00,s01,x01,d01,s02,x02,d02,s03,x03,d03,rfl,h⟩:=h
  obtain ⟨rfl,_⟩:=q_some h
  exact ⟨rfl,rfl,leaf_ok (p_Offset_0 s00 s01 s02 s03 x00 d00 x01 d01 x02 d02 x03 d03) rfl met_nil⟩
theorem al_Offset : ∀ g,orB (notB (memN g newF)) (memN g [189,70,132,24,84,79,133,82,182,23,31,30,29]) = true → Ok Tryz.prog E2 g:=al_cons al_Normal ok_Offset
noncomputable abbrev SAt : Es:=SV [189,70,132,24,84,79,133,82,182,23,31,30,29]
theorem p_At_0 (s00 s01 s02 s03 s10 s11 s12 a1 a2 a3 a4 a5:Bool) (x00 d00 x01 d01 x02 d02 x03 d03 x10 d10 x11 d11 x12 d12 n1 e1 n2 e2 n3 e3 n4 e4 n5 e5:Nat) : symCall (cxOf Tryz.prog SAt) SAt 100 105 [.agg [boolA s00,u64A x00,nilS,u64A d00,nilS,boolA s01,u64A x01,nilS,u64A d01,nilS,boolA s02,u64A x02,nilS,u64A d02,nilS,boolA s03,u64A x03,nilS,u64A d03,nilS],.agg [boolA s10,u64A x10,nilS,u64A d10,nilS,boolA s11,u64A x11,nilS,u64A d11,nilS,boolA s12,u64A x12,nilS,u64A d12,nilS]] [.r 132 (.agg [boolA a1,u64A n1,nilS,u64A e1,nilS,boolA a2,u64A n2,nilS,u64A e2,nilS,boolA a3,u64A n3,nilS,u64A e3,nilS]),.r 79 (fracA a4 n4 e4),.r 153 (fracA a5 n5 e5)] = some (.value (fracA a5 n5 e5) (some []),[],(claimB (SAt 153 [fracA a4 n4 e4,fracA s03 x03 d03] = some (fracA a5 n5 e5,true)),true)::(claimB (SAt 79 [.agg [boolA a1,u64A n1,nilS,u64A e1,nilS,boolA a2,u64A n2,nilS,u64A e2,nilS,boolA a3,u64A n3,nilS,u64A e3,nilS],.agg [boolA s10,u64A x10,nilS,u64A d10,nilS,boolA s11,u64A x11,nilS,u64A d11,nilS,boolA s12,u64A x12,nilS,u64A d12,nilS]] = some (fracA a4 n4 e4,true)),true)::(claimB (SAt 132 [.agg [boolA s00,u64A x00,nilS,u64A d00,nilS,boolA s01,u64A x01,nilS,u64A d01,nilS,boolA s02,u64A x02,nilS,u64A d02,nilS,boolA s03,u64A x03,nilS,u64A d03,nilS]] = some (.agg [boolA a1,u64A n1,nilS,u64A e1,nilS,boolA a2,u64A n2,nilS,u64A e2,nilS,boolA a3,u64A n3,nilS,u64A e3,nilS],true)),true)::[]):=by kernel_rfl
theorem ok_At : Ok Tryz.prog E2 105:=ok_sym (S:=fun g => orB (notB (memN g newF)) (memN g [189,70,132,24,84,79,133,82,182,23,31,30,29])) mixed al_Offset (by kernel_rfl) fun l v h => by
  have e : E2 105 l = eAt l:=by kernel_rfl
  rw [e] at h
  replace h:=arg2_some h; obtain ⟨a,b,rfl,h⟩:=h
  replace h:=planeP_some h; obtain ⟨s00,x00,d00,s01,x01,d01,s02,x02,d02,s03,x03,d03,rfl,h⟩:=h
  replace h:=vecP_some h; obtain ⟨s10,x10,d10,s11,x11,d11,s12,x12,d12,rfl,h⟩:=h
  replace h:=callV_some h; obtain ⟨a1,n1,e1,a2,n2,e2,a3,n3,e3,hq39,h⟩:=h
  replace h:=callF_some h; obtain ⟨a4,n4,e4,hq40,h⟩:=h
  replace h:=callF_some h; obtain ⟨a5,n5,e5,hq41,h⟩:=h
  obtain ⟨rfl,_⟩:=q_some h
  exact ⟨rfl,rfl,leaf_ok (p_At_0 s00 s01 s02 s03 s10 s11 s12 a1 a2 a3 a4 a5 x00 d00 x01 d01 x02 d02 x03 d03 x10 d10 x11 d11 x12 d12 n1 e1 n2 e2 n3 e3 n4 e4 n5 e5) rfl (met_cons (claimB_t.2 (said (by kernel_rfl) ((q_FSub _).trans hq41))) (met_cons (claimB_t.2 (said (by kernel_rfl) ((q_VDot _).trans hq40))) (met_cons (claimB_t.2 (said (by kernel_rfl) ((q_normal _).trans hq39))) met_nil)))⟩
theorem al_At : ∀ g,orB (notB (memN g newF)) (memN g [105,189,70,132,24,84,79,133,82,182,23,31,30,29]) = true → Ok Tryz.prog E2 g:=al_cons al_Offset ok_At
noncomputable abbrev SSide : Es:=SV [105,189,70,132,24,84,79,133,82,182,23,31,30,29]
theorem p_Side_0 (s00 s01 s02 s03 s10 s11 s12 a1:Bool) (x00 d00 x01 d01 x02 d02 x03 d03 x10 d10 x11 d11 x12 d12 n1 e1:Nat) (z2:Int) : symCall (cxOf Tryz.prog SSide) SSide 100 48 [.agg [boolA s00,u64A x00,nilS,u64A d00,nilS,boolA s01,u64A x01,nilS,u64A d01,nilS,boolA s02,u64A x02,nilS,u64A d02,nilS,boolA s03,u64A x03,nilS,u64A d03,nilS],.agg [boolA s10,u64A x10,nilS,u64A d10,nilS,boolA s11,u64A x11,nilS,u64A d11,nilS,boolA s12,u64A x12,nilS,u64A d12,nilS]] [.r 105 (fracA a1 n1 e1),.r 27 (i64A z2)] = some (.value (i64A z2) (some []),[],(claimB (SSide 27 [fracA a1 n1 e1] = some (i64A z2,true)),true)::(claimB (SSide 105 [.agg [boolA s00,u64A x00,nilS,u64A d00,nilS,boolA s01,u64A x01,nilS,u64A d01,nilS,boolA s02,u64A x02,nilS,u64A d02,nilS,boolA s03,u64A x03,nilS,u64A d03,nilS],.agg [boolA s10,u64A x10,nilS,u64A d10,nilS,boolA s11,u64A x11,nilS,u64A d11,nilS,boolA s12,u64A x12,nilS,u64A d12,nilS]] = some (fracA a1 n1 e1,true)),true)::[]):=by kernel_rfl
theorem ok_Side : Ok Tryz.prog E2 48:=ok_sym (S:=fun g => orB (notB (memN g newF)) (memN g [105,189,70,132,24,84,79,133,82,182,23,31,30,29])) mixed al_At (by kernel_rfl) fun l v h => by
  have e : E2 48 l = eSide l:=by kernel_rfl
  rw [e] at h
  replace h:=arg2_some h; obtain ⟨a,b,rfl,h⟩:=h
  replace h:=planeP_some h; obtain ⟨s00,x00,d00,s01,x01,d01,s02,x02,d02,s03,x03,d03,rfl,h⟩:=h
  replace h:=vecP_some h; obtain ⟨s10,x10,d10,s11,x11,d11,s12,x12,d12,rfl,h⟩:=h
  replace h:=callF_some h; obtain ⟨a1,n1,e1,hq42,h⟩:=h
  replace h:=callI_some h; obtain ⟨z2,hq43,h⟩:=h
  obtain ⟨rfl,_⟩:=q_some h
  exact ⟨rfl,rfl,leaf_ok (p_Side_0 s00 s01 s02 s03 s10 s11 s12 a1 x00 d00 x01 d01 x02 d02 x03 d03 x10 d10 x11 d11 x12 d12 n1 e1 z2) rfl (met_cons (claimB_t.2 (said (by kernel_rfl) ((q_FSign _).trans hq43))) (met_cons (claimB_t.2 (said (by kernel_rfl) ((q_At _).trans hq42))) met_nil))⟩
theorem al_Side : ∀ g,orB (notB (memN g newF)) (memN g [48,105,189,70,132,24,84,79,133,82,182,23,31,30,29]) = true → Ok Tryz.prog E2 g:=al_cons al_At ok_Side
noncomputable abbrev Scof : Es:=SV [48,105,189,70,132,24,84,79,133,82,182,23,31,30,29]
theorem p_cof_0 (s00 s01 s02 s03 a1 a2 a3 a4 a5 a6 a7 a8 a9 a10 a11 a12:Bool) (x00 d00 x01 d01 x02 d02 x03 d03 n1 e1 n2 e2 n3 e3 n4 e4 n5 n6 e6 n7 n8 e8 n9 n10 e10 n11 n12:Nat) : symCall (cxOf Tryz.prog Scof) Scof 100 136 [.agg [boolA s00,u64A x00,nilS,u64A d00,nilS,boolA s01,u64A x01,nilS,u64A d01,nilS,boolA s02,u64A x02,nilS,u64A d02,nilS,boolA s03,u64A x03,nilS,u64A d03,nilS]] [.r 70 (.agg [boolA a1,u64A n1,nilS,u64A e1,nilS,boolA a2,u64A n2,nilS,u64A e2,nilS,boolA a3,u64A n3,nilS,u64A e3,nilS]),.r 29 (fracA a4 n4 e4),.r 38 (wholeA a5 n5),.r 30 (fracA a6 n6 e6),.r 38 (wholeA a7 n7),.r 31 (fracA a8 n8 e8),.r 38 (wholeA a9 n9),.r 189 (fracA a10 n10 e10),.r 38 (wholeA a11 n11),.r 42 (wholeA a12 n12)] = some (.value (.agg [boolA a5,u64A n5,nilS,boolA a7,u64A n7,nilS,boolA a9,u64A n9,nilS,boolA a12,u64A n12,nilS]) (some []),[],(claimB (Scof 42 [wholeA a11 n11] = some (wholeA a12 n12,true)),true)::(claimB (Scof 38 [fracA a10 n10 e10] = some (wholeA a11 n11,true)),true)::(claimB (Scof 189 [.agg [boolA s00,u64A x00,nilS,u64A d00,nilS,boolA s01,u64A x01,nilS,u64A d01,nilS,boolA s02,u64A x02,nilS,u64A d02,nilS,boolA s03,u64A x03,nilS,u64A d03,nilS]] = some (fracA a10 n10 e10,true)),true)::(claimB (Scof 38 [fracA a8 n8 e8] = some (wholeA a9 n9,true)),true)::(claimB (Scof 31 [.agg [boolA a1,u64A n1,nilS,u64A e1,nilS,boolA a2,u64A n2,nilS,u64A e2,nilS,boolA a3,u64A n3,nilS,u64A e3,nilS]] = some (fracA a8 n8 e8,true)),true)::(claimB (Scof 38 [fracA a6 n6 e6] = some (wholeA a7 n7,true)),true)::(claimB (Scof 30 [.agg [boolA a1,u64A n1,nilS,u64A e1,nilS,boolA a2,u64A n2,nilS,u64A e2,nilS,boolA a3,u64A n3,nilS,u64A e3,nilS]] = some (fracA a6 n6 e6,true)),true)::(claimB (Scof 38 [fracA a4 n4 e4] = some (wholeA a5 n5,true)),true)::(claimB (Scof 29 [.agg [boolA a1,u64A n1,nilS,u64A e1,nilS,boolA a2,u64A n2,nilS,u64A e2,nilS,boolA a3,u64A n3,nilS,u64A e3,nilS]] = some (fracA a4 n4 e4,true)),true)::(claimB (Scof 70 [.agg [boolA s00,u64A x00,nilS,u64A d00,nilS,boolA s01,u64A x01,nilS,u64A d01,nilS,boolA s02,u64A x02,nilS,u64A d02,nilS,boolA s03,u64A x03,nilS,u64A d03,nilS]] = some (.agg [boolA a1,u64A n1,nilS,u64A e1,nilS,boolA a2,u64A n2,nilS,u64A e2,nilS,boolA a3,u64A n3,nilS,u64A e3,nilS],true)),true)::[]):=by kernel_rfl
theorem ok_cof : Ok Tryz.prog E2 136:=ok_sym (S:=fun g => orB (notB (memN g newF)) (memN g [48,105,189,70,132,24,84,79,133,82,182,23,31,30,29])) mixed al_Side (by kernel_rfl) fun l v h => by
  have e : E2 136 l = ecof l:=by kernel_rfl
  rw [e] at h
  replace h:=arg1_some h; obtain ⟨a,rfl,h⟩:=h
  replace h:=planeP_some h; obtain ⟨s00,x00,d00,s01,x01,d01,s02,x02,d02,s03,x03,d03,rfl,h⟩:=h
  replace h:=callV_some h; obtain ⟨a1,n1,e1,a2,n2,e2,a3,n3,e3,hq44,h⟩:=h
  replace h:=callF_some h; obtain ⟨a4,n4,e4,hq45,h⟩:=h
  replace h:=callW_some h; obtain ⟨a5,n5,hq46,h⟩:=h
  replace h:=callF_some h; obtain ⟨a6,n6,e6,hq47,h⟩:=h
  replace h:=callW_some h; obtain ⟨a7,n7,hq48,h⟩:=h
  replace h:=callF_some h; obtain ⟨a8,n8,e8,hq49,h⟩:=h
  replace h:=callW_some h; obtain ⟨a9,n9,hq50,h⟩:=h
  replace h:=callF_some h; obtain ⟨a10,n10,e10,hq51,h⟩:=h
  replace h:=callW_some h; obtain ⟨a11,n11,hq52,h⟩:=h
  replace h:=callW_some h; obtain ⟨a12,n12,hq53,h⟩:=h
  obtain ⟨rfl,_⟩:=q_some h
  exact ⟨rfl,rfl,leaf_ok (p_cof_0 s00 s01 s02 s03 a1 a2 a3 a4 a5 a6 a7 a8 a9 a10 a11 a12 x00 d00 x01 d01 x02 d02 x03 d03 n1 e1 n2 e2 n3 e3 n4 e4 n5 n6 e6 n7 n8 e8 n9 n10 e10 n11 n12) rfl (met_cons (claimB_t.2 (said (by kernel_rfl) ((q_WNeg _).trans hq53))) (met_cons (claimB_t.2 (said (by kernel_rfl) ((q_Num _).trans hq52))) (met_cons (claimB_t.2 (said (by kernel_rfl) ((q_Offset _).trans hq51))) (met_cons (claimB_t.2 (said (by kernel_rfl) ((q_Num _).trans hq50))) (met_cons (claimB_t.2 (said (by kernel_rfl) ((q_Z _).trans hq49))) (met_cons (claimB_t.2 (said (by kernel_rfl) ((q_Num _).trans hq48))) (met_cons (claimB_t.2 (said (by kernel_rfl) ((q_Y _).trans hq47))) (met_cons (claimB_t.2 (said (by kernel_rfl) ((q_Num _).trans hq46))) (met_cons (claimB_t.2 (said (by kernel_rfl) ((q_X _).trans hq45))) (met_cons (claimB_t.2 (said (by kernel_rfl) ((q_Normal _).trans hq44))) met_nil))))))))))⟩
theorem al_cof : ∀ g,orB (notB (memN g newF)) (memN g [136,48,105,189,70,132,24,84,79,133,82,182,23,31,30,29]) = true → Ok Tryz.prog E2 g:=al_cons al_Side ok_cof
noncomputable abbrev Smix : Es:=SV [136,48,105,189,70,132,24,84,79,133,82,182,23,31,30,29]
theorem p_mix_0 (s0 s10 s11 s12 s13 s2 s30 s31 s32 s33 a1 a2 a3 a4 a5 a6 a7 a8 a9 a10 a11 a12 a19 a22 a25 a28:Bool) (x0 x10 x11 x12 x13 x2 x30 x31 x32 x33 n1 n2 n3 n4 n5 n6 n7 n8 n9 n10 n11 n12 n13 n14 n15 n16 n17 n18 n19 n20 n21 n22 n23 n24 n25 n26 n27 n28:Nat) : symCall (cxOf Tryz.prog Smix) Smix 100 191 [wholeA s0 x0,.agg [boolA s10,u64A x10,nilS,boolA s11,u64A x11,nilS,boolA s12,u64A x12,nilS,boolA s13,u64A x13,nilS],wholeA s2 x2,.agg [boolA s30,u64A x30,nilS,boolA s31,u64A x31,nilS,boolA s32,u64A x32,nilS,boolA s33,u64A x33,nilS]] [.r 37 (wholeA a1 n1),.r 37 (wholeA a2 n2),.r 195 (wholeA a3 n3),.r 37 (wholeA a4 n4),.r 37 (wholeA a5 n5),.r 195 (wholeA a6 n6),.r 37 (wholeA a7 n7),.r 37 (wholeA a8 n8),.r 195 (wholeA a9 n9),.r 37 (wholeA a10 n10),.r 37 (wholeA a11 n11),.r 195 (wholeA a12 n12),.r 35 (natA n13),.r 35 (natA n14),.r 35 (natA n15),.r 35 (natA n16),.r 33 (.tuple [natA n17,natA n18,i64A (.ofNat 0)]),.r 39 (wholeA a19 n19),.r 33 (.tuple [natA n20,natA n21,i64A (.ofNat 0)]),.r 39 (wholeA a22 n22),.r 33 (.tuple [natA n23,natA n24,i64A (.ofNat 0)]),.r 39 (wholeA a25 n25),.r 33 (.tuple [natA n26,natA n27,i64A (.ofNat 0)]),.r 39 (wholeA a28 n28)] = some (.value (.agg [boolA a19,u64A n19,nilS,boolA a22,u64A n22,nilS,boolA a25,u64A n25,nilS,boolA a28,u64A n28,nilS]) (some []),[],(claimB (Smix 39 [boolA a12,natA n26] = some (wholeA a28 n28,true)),true)::(claimB (Smix 33 [natA n12,natA n16] = some (.tuple [natA n26,natA n27,i64A (.ofNat 0)],true)),true)::(claimB (Smix 39 [boolA a9,natA n23] = some (wholeA a25 n25,true)),true)::(claimB (Smix 33 [natA n9,natA n16] = some (.tuple [natA n23,natA n24,i64A (.ofNat 0)],true)),true)::(claimB (Smix 39 [boolA a6,natA n20] = some (wholeA a22 n22,true)),true)::(claimB (Smix 33 [natA n6,natA n16] = some (.tuple [natA n20,natA n21,i64A (.ofNat 0)],true)),true)::(claimB (Smix 39 [boolA a3,natA n17] = some (wholeA a19 n19,true)),true)::(claimB (Smix 33 [natA n3,natA n16] = some (.tuple [natA n17,natA n18,i64A (.ofNat 0)],true)),true)::(claimB (Smix 35 [natA n15,natA n12] = some (natA n16,true)),true)::(claimB (Smix 35 [natA n14,natA n9] = some (natA n15,true)),true)::(claimB (Smix 35 [natA n13,natA n6] = some (natA n14,true)),true)::(claimB (Smix 35 [natA 0,natA n3] = some (natA n13,true)),true)::(claimB (Smix 195 [wholeA a10 n10,wholeA a11 n11] = some (wholeA a12 n12,true)),true)::(claimB (Smix 37 [wholeA s2 x2,wholeA s33 x33] = some (wholeA a11 n11,true)),true)::(claimB (Smix 37 [wholeA s0 x0,wholeA s13 x13] = some (wholeA a10 n10,true)),true)::(claimB (Smix 195 [wholeA a7 n7,wholeA a8 n8] = some (wholeA a9 n9,true)),true)::(claimB (Smix 37 [wholeA s2 x2,wholeA s32 x32] = some (wholeA a8 n8,true)),true)::(claimB (Smix 37 [wholeA s0 x0,wholeA s12 x12] = some (wholeA a7 n7,true)),true)::(claimB (Smix 195 [wholeA a4 n4,wholeA a5 n5] = some (wholeA a6 n6,true)),true)::(claimB (Smix 37 [wholeA s2 x2,wholeA s31 x31] = some (wholeA a5 n5,true)),true)::(claimB (Smix 37 [wholeA s0 x0,wholeA s11 x11] = some (wholeA a4 n4,true)),true)::(claimB (Smix 195 [wholeA a1 n1,wholeA a2 n2] = some (wholeA a3 n3,true)),true)::(claimB (Smix 37 [wholeA s2 x2,wholeA s30 x30] = some (wholeA a2 n2,true)),true)::(claimB (Smix 37 [wholeA s0 x0,wholeA s10 x10] = some (wholeA a1 n1,true)),true)::[]):=by kernel_rfl
theorem ok_mix : Ok Tryz.prog E2 191:=ok_sym (S:=fun g => orB (notB (memN g newF)) (memN g [136,48,105,189,70,132,24,84,79,133,82,182,23,31,30,29])) mixed al_cof (by kernel_rfl) fun l v h => by
  have e : E2 191 l = emix l:=by kernel_rfl
  rw [e] at h
  replace h:=arg4_some h; obtain ⟨a,b,c,d,rfl,h⟩:=h
  replace h:=wholeP_some h; obtain ⟨s0,x0,rfl,h⟩:=h
  replace h:=rowP_some h; obtain ⟨s10,x10,s11,x11,s12,x12,s13,x13,rfl,h⟩:=h
  replace h:=wholeP_some h; obtain ⟨s2,x2,rfl,h⟩:=h
  replace h:=rowP_some h; obtain ⟨s30,x30,s31,x31,s32,x32,s33,x33,rfl,h⟩:=h
  replace h:=callW_some h; obtain ⟨a1,n1,hq54,h⟩:=h
  replace h:=callW_some h; obtain ⟨a2,n2,hq55,h⟩:=h
  replace h:=callW_some h; obtain ⟨a3,n3,hq56,h⟩:=h
  replace h:=callW_some h; obtain ⟨a4,n4,hq57,h⟩:=h
  replace h:=callW_some h; obtain ⟨a5,n5,hq58,h⟩:=h
  replace h:=callW_some h; obtain ⟨a6,n6,hq59,h⟩:=h
  replace h:=callW_some h; obtain ⟨a7,n7,hq60,h⟩:=h
  replace h:=callW_some h; obtain ⟨a8,n8,hq61,h⟩:=h
  replace h:=callW_some h; obtain ⟨a9,n9,hq62,h⟩:=h
  replace h:=callW_some h; obtain ⟨a10,n10,hq63,h⟩:=h
  replace h:=callW_some h; obtain ⟨a11,n11,hq64,h⟩:=h
  replace h:=callW_some h; obtain ⟨a12,n12,hq65,h⟩:=h
  replace h:=callN_some h; obtain ⟨n13,hq66,h⟩:=h
  replace h:=callN_some h; obtain ⟨n14,hq67,h⟩:=h
  replace h:=callN_some h; obtain ⟨n15,hq68,h⟩:=h
  replace h:=callN_some h; obtain ⟨n16,hq69,h⟩:=h
  replace h:=callT_some h; obtain ⟨n17,n18,hq70,h⟩:=h
  replace h:=callW_some h; obtain ⟨a19,n19,hq71,h⟩:=h
  replace h:=callT_some h; obtain ⟨n20,n21,hq72,h⟩:=h
  replace h:=callW_some h; obtain ⟨a22,n22,hq73,h⟩:=h
  replace h:=callT_some h; obtain ⟨n23,n24,hq74,h⟩:=h
  replace h:=callW_some h; obtain ⟨a25,n25,hq75,h⟩:=h
  replace h:=callT_some h; obtain ⟨n26,n27,hq76,h⟩:=h
  replace h:=callW_some h; obtain ⟨a28,n28,hq77,h⟩:=h
  obtain ⟨rfl,_⟩:=q_some h
  exact ⟨rfl,rfl,leaf_ok (p_mix_0 s0 s10 s11 s12 s13 s2 s30 s31 s32 s33 a1 a2 a3 a4 a5 a6 a7 a8 a9 a10 a11 a12 a19 a22 a25 a28 x0 x10 x11 x12 x13 x2 x30 x31 x32 x33 n1 n2 n3 n4 n5 n6 n7 n8 n9 n10 n11 n12 n13 n14 n15 n16 n17 n18 n19 n20 n21 n22 n23 n24 n25 n26 n27 n28) rfl (met_cons (claimB_t.2 (said (by kernel_rfl) ((q_WMake _).trans hq77))) (met_cons (claimB_t.2 (said (by kernel_rfl) ((q_NDiv _).trans hq76))) (met_cons (claimB_t.2 (said (by kernel_rfl) ((q_WMake _).trans hq75))) (met_cons (claimB_t.2 (said (by kernel_rfl) ((q_NDiv _).trans hq74))) (met_cons (claimB_t.2 (said (by kernel_rfl) ((q_WMake _).trans hq73))) (met_cons (claimB_t.2 (said (by kernel_rfl) ((q_NDiv _).trans hq72))) (met_cons (claimB_t.2 (said (by kernel_rfl) ((q_WMake _).trans hq71))) (met_cons (claimB_t.2 (said (by kernel_rfl) ((q_NDiv _).trans hq70))) (met_cons (claimB_t.2 (said (by kernel_rfl) ((q_Gcd _).trans hq69))) (met_cons (claimB_t.2 (said (by kernel_rfl) ((q_Gcd _).trans hq68))) (met_cons (claimB_t.2 (said (by kernel_rfl) ((q_Gcd _).trans hq67))) (met_cons (claimB_t.2 (said (by kernel_rfl) ((q_Gcd _).trans hq66))) (met_cons (claimB_t.2 (said (by kernel_rfl) ((q_WAdd _).trans hq65))) (met_cons (claimB_t.2 (said (by kernel_rfl) ((q_WMul _).trans hq64))) (met_cons (claimB_t.2 (said (by kernel_rfl) ((q_WMul _).trans hq63))) (met_cons (claimB_t.2 (said (by kernel_rfl) ((q_WAdd _).trans hq62))) (met_cons (claimB_t.2 (said (by kernel_rfl) ((q_WMul _).trans hq61))) (met_cons (claimB_t.2 (said (by kernel_rfl) ((q_WMul _).trans hq60))) (met_cons (claimB_t.2 (said (by kernel_rfl) ((q_WAdd _).trans hq59))) (met_cons (claimB_t.2 (said (by kernel_rfl) ((q_WMul _).trans hq58))) (met_cons (claimB_t.2 (said (by kernel_rfl) ((q_WMul _).trans hq57))) (met_cons (claimB_t.2 (said (by kernel_rfl) ((q_WAdd _).trans hq56))) (met_cons (claimB_t.2 (said (by kernel_rfl) ((q_WMul _).trans hq55))) (met_cons (claimB_t.2 (said (by kernel_rfl) ((q_WMul _).trans hq54))) met_nil))))))))))))))))))))))))⟩
theorem al_mix : ∀ g,orB (notB (memN g newF)) (memN g [191,136,48,105,189,70,132,24,84,79,133,82,182,23,31,30,29]) = true → Ok Tryz.prog E2 g:=al_cons al_cof ok_mix
noncomputable abbrev SDirection : Es:=SV [191,136,48,105,189,70,132,24,84,79,133,82,182,23,31,30,29]
theorem p_Direction_0 (s00 s01 s02 a23 a24 a25 a29 a30 a31 a35 a36 a37 a43 a46 a49 a50 a51 a52:Bool) (x00 d00 x01 d01 x02 d02 n1 n2 n3 n4 n5 n6 n7 n8 n9 n10 n11 n12 n13 n14 n15 n16 n17 n18 n19 n20 n21 n22 n23 n24 n25 n26 n27 n28 n29 n30 n31 n32 n33 n34 n35 n36 n37 n38 n39 n40 n41 n42 n43 n44 n45 n46 n47 n48 n49 n50 e50 n51 e51 n52 e52:Nat) : symCall (cxOf Tryz.prog SDirection) SDirection 100 134 [.agg [boolA s00,u64A x00,nilS,u64A d00,nilS,boolA s01,u64A x01,nilS,u64A d01,nilS,boolA s02,u64A x02,nilS,u64A d02,nilS]] [.r 32 (natA n1),.r 34 (natA n2),.r 34 (natA n3),.r 35 (natA n4),.r 33 (.tuple [natA n5,natA n6,i64A (.ofNat 0)]),.r 36 (natA n7),.r 34 (natA n8),.r 34 (natA n9),.r 35 (natA n10),.r 33 (.tuple [natA n11,natA n12,i64A (.ofNat 0)]),.r 36 (natA n13),.r 34 (natA n14),.r 34 (natA n15),.r 35 (natA n16),.r 33 (.tuple [natA n17,natA n18,i64A (.ofNat 0)]),.r 36 (natA n19),.r 34 (natA n20),.r 33 (.tuple [natA n21,natA n22,i64A (.ofNat 0)]),.r 38 (wholeA a23 n23),.r 39 (wholeA a24 n24),.r 37 (wholeA a25 n25),.r 34 (natA n26),.r 33 (.tuple [natA n27,natA n28,i64A (.ofNat 0)]),.r 38 (wholeA a29 n29),.r 39 (wholeA a30 n30),.r 37 (wholeA a31 n31),.r 34 (natA n32),.r 33 (.tuple [natA n33,natA n34,i64A (.ofNat 0)]),.r 38 (wholeA a35 n35),.r 39 (wholeA a36 n36),.r 37 (wholeA a37 n37),.r 35 (natA n38),.r 35 (natA n39),.r 35 (natA n40),.r 33 (.tuple [natA n41,natA n42,i64A (.ofNat 0)]),.r 39 (wholeA a43 n43),.r 33 (.tuple [natA n44,natA n45,i64A (.ofNat 0)]),.r 39 (wholeA a46 n46),.r 33 (.tuple [natA n47,natA n48,i64A (.ofNat 0)]),.r 39 (wholeA a49 n49),.r 44 (fracA a50 n50 e50),.r 44 (fracA a51 n51 e51),.r 44 (fracA a52 n52 e52)] = some (.value (.agg [boolA a50,u64A n50,nilS,u64A e50,nilS,boolA a51,u64A n51,nilS,u64A e51,nilS,boolA a52,u64A n52,nilS,u64A e52,nilS]) (some []),[],(claimB (SDirection 44 [wholeA a49 n49] = some (fracA a52 n52 e52,true)),true)::(claimB (SDirection 44 [wholeA a46 n46] = some (fracA a51 n51 e51,true)),true)::(claimB (SDirection 44 [wholeA a43 n43] = some (fracA a50 n50 e50,true)),true)::(claimB (SDirection 39 [boolA a37,natA n47] = some (wholeA a49 n49,true)),true)::(claimB (SDirection 33 [natA n37,natA n40] = some (.tuple [natA n47,natA n48,i64A (.ofNat 0)],true)),true)::(claimB (SDirection 39 [boolA a31,natA n44] = some (wholeA a46 n46,true)),true)::(claimB (SDirection 33 [natA n31,natA n40] = some (.tuple [natA n44,natA n45,i64A (.ofNat 0)],true)),true)::(claimB (SDirection 39 [boolA a25,natA n41] = some (wholeA a43 n43,true)),true)::(claimB (SDirection 33 [natA n25,natA n40] = some (.tuple [natA n41,natA n42,i64A (.ofNat 0)],true)),true)::(claimB (SDirection 35 [natA n39,natA n37] = some (natA n40,true)),true)::(claimB (SDirection 35 [natA n38,natA n31] = some (natA n39,true)),true)::(claimB (SDirection 35 [natA 0,natA n25] = some (natA n38,true)),true)::(claimB (SDirection 37 [wholeA a35 n35,wholeA a36 n36] = some (wholeA a37 n37,true)),true)::(claimB (SDirection 39 [boolA false,natA n33] = some (wholeA a36 n36,true)),true)::(claimB (SDirection 38 [fracA s02 x02 d02] = some (wholeA a35 n35,true)),true)::(claimB (SDirection 33 [natA n19,natA n32] = some (.tuple [natA n33,natA n34,i64A (.ofNat 0)],true)),true)::(claimB (SDirection 34 [fracA s02 x02 d02] = some (natA n32,true)),true)::(claimB (SDirection 37 [wholeA a29 n29,wholeA a30 n30] = some (wholeA a31 n31,true)),true)::(claimB (SDirection 39 [boolA false,natA n27] = some (wholeA a30 n30,true)),true)::(claimB (SDirection 38 [fracA s01 x01 d01] = some (wholeA a29 n29,true)),true)::(claimB (SDirection 33 [natA n19,natA n26] = some (.tuple [natA n27,natA n28,i64A (.ofNat 0)],true)),true)::(claimB (SDirection 34 [fracA s01 x01 d01] = some (natA n26,true)),true)::(claimB (SDirection 37 [wholeA a23 n23,wholeA a24 n24] = some (wholeA a25 n25,true)),true)::(claimB (SDirection 39 [boolA false,natA n21] = some (wholeA a24 n24,true)),true)::(claimB (SDirection 38 [fracA s00 x00 d00] = some (wholeA a23 n23,true)),true)::(claimB (SDirection 33 [natA n19,natA n20] = some (.tuple [natA n21,natA n22,i64A (.ofNat 0)],true)),true)::(claimB (SDirection 34 [fracA s00 x00 d00] = some (natA n20,true)),true)::(claimB (SDirection 36 [natA n13,natA n17] = some (natA n19,true)),true)::(claimB (SDirection 33 [natA n14,natA n16] = some (.tuple [natA n17,natA n18,i64A (.ofNat 0)],true)),true)::(claimB (SDirection 35 [natA n13,natA n15] = some (natA n16,true)),true)::(claimB (SDirection 34 [fracA s02 x02 d02] = some (natA n15,true)),true)::(claimB (SDirection 34 [fracA s02 x02 d02] = some (natA n14,true)),true)::(claimB (SDirection 36 [natA n7,natA n11] = some (natA n13,true)),true)::(claimB (SDirection 33 [natA n8,natA n10] = some (.tuple [natA n11,natA n12,i64A (.ofNat 0)],true)),true)::(claimB (SDirection 35 [natA n7,natA n9] = some (natA n10,true)),true)::(claimB (SDirection 34 [fracA s01 x01 d01] = some (natA n9,true)),true)::(claimB (SDirection 34 [fracA s01 x01 d01] = some (natA n8,true)),true)::(claimB (SDirection 36 [natA n1,natA n5] = some (natA n7,true)),true)::(claimB (SDirection 33 [natA n2,natA n4] = some (.tuple [natA n5,natA n6,i64A (.ofNat 0)],true)),true)::(claimB (SDirection 35 [natA n1,natA n3] = some (natA n4,true)),true)::(claimB (SDirection 34 [fracA s00 x00 d00] = some (natA n3,true)),true)::(claimB (SDirection 34 [fracA s00 x00 d00] = some (natA n2,true)),true)::(claimB (SDirection 32 [u64A 1] = some (natA n1,true)),true)::[]):=by kernel_rfl
theorem ok_Direction : Ok Tryz.prog E2 134:=ok_sym (S:=fun g => orB (notB (memN g newF)) (memN g [191,136,48,105,189,70,132,24,84,79,133,82,182,23,31,30,29])) mixed al_mix (by kernel_rfl) fun l v h => by
  have e : E2 134 l = eDirection l:=by kernel_rfl
  rw [e] at h
  replace h:=arg1_some h; obtain ⟨a,rfl,h⟩:=h
  replace h:=vecP_some h; obtain ⟨s00,x00,d00,s01,x01,d01,s02,x02,d02,rfl,h⟩:=h
  replace h:=callN_some h; obtain ⟨n1,hq78,h⟩:=h
  replace h:=callN_some h; obtain ⟨n2,hq79,h⟩:=h
  replace h:=callN_some h; obtain ⟨n3,hq80,h⟩:=h
  replace h:=callN_some h; obtain ⟨n4,hq81,h⟩:=h
  replace h:=callT_some h; obtain ⟨n5,n6,hq82,h⟩:=h
  replace h:=callN_some h; obtain ⟨n7,hq83,h⟩:=h
  replace h:=callN_some h; obtain ⟨n8,hq84,h⟩:=h
  replace h:=callN_some h; obtain ⟨n9,hq85,h⟩:=h
  replace h:=callN_some h; obtain ⟨n10,hq86,h⟩:=h
  replace h:=callT_some h; obtain ⟨n11,n12,hq87,h⟩:=h
  replace h:=callN_some h; obtain ⟨n13,hq88,h⟩:=h
  replace h:=callN_some h; obtain ⟨n14,hq89,h⟩:=h
  replace h:=callN_some h; obtain ⟨n15,hq90,h⟩:=h
  replace h:=callN_some h; obtain ⟨n16,hq91,h⟩:=h
  replace h:=callT_some h; obtain ⟨n17,n18,hq92,h⟩:=h
  replace h:=callN_some h; obtain ⟨n19,hq93,h⟩:=h
  replace h:=callN_some h; obtain ⟨n20,hq94,h⟩:=h
  replace h:=callT_some h; obtain ⟨n21,n22,hq95,h⟩:=h
  replace h:=callW_some h; obtain ⟨a23,n23,hq96,h⟩:=h
  replace h:=callW_some h; obtain ⟨a24,n24,hq97,h⟩:=h
  replace h:=callW_some h; obtain ⟨a25,n25,hq98,h⟩:=h
  replace h:=callN_some h; obtain ⟨n26,hq99,h⟩:=h
  replace h:=callT_some h; obtain ⟨n27,n28,hq100,h⟩:=h
  replace h:=callW_some h; obtain ⟨a29,n29,hq101,h⟩:=h
  replace h:=callW_some h; obtain ⟨a30,n30,hq102,h⟩:=h
  replace h:=callW_some h; obtain ⟨a31,n31,hq103,h⟩:=h
  replace h:=callN_some h; obtain ⟨n32,hq104,h⟩:=h
  replace h:=callT_some h; obtain ⟨n33,n34,hq105,h⟩:=h
  replace h:=callW_some h; obtain ⟨a35,n35,hq106,h⟩:=h
  replace h:=callW_some h; obtain ⟨a36,n36,hq107,h⟩:=h
  replace h:=callW_some h; obtain ⟨a37,n37,hq108,h⟩:=h
  replace h:=callN_some h; obtain ⟨n38,hq109,h⟩:=h
  replace h:=callN_some h; obtain ⟨n39,hq110,h⟩:=h
  replace h:=callN_some h; obtain ⟨n40,hq111,h⟩:=h
  replace h:=callT_some h; obtain ⟨n41,n42,hq112,h⟩:=h
  replace h:=callW_some h; obtain ⟨a43,n43,hq113,h⟩:=h
  replace h:=callT_some h; obtain ⟨n44,n45,hq114,h⟩:=h
  replace h:=callW_some h; obtain ⟨a46,n46,hq115,h⟩:=h
  replace h:=callT_some h; obtain ⟨n47,n48,hq116,h⟩:=h
  replace h:=callW_some h; obtain ⟨a49,n49,hq117,h⟩:=h
  replace h:=callF_some h; obtain ⟨a50,n50,e50,hq118,h⟩:=h
  replace h:=callF_some h; obtain ⟨a51,n51,e51,hq119,h⟩:=h
  replace h:=callF_some h; obtain ⟨a52,n52,e52,hq120,h⟩:=h
  obtain ⟨rfl,_⟩:=q_some h
  exact ⟨rfl,rfl,leaf_ok (p_Direction_0 s00 s01 s02 a23 a24 a25 a29 a30 a31 a35 a36 a37 a43 a46 a49 a50 a51 a52 x00 d00 x01 d01 x02 d02 n1 n2 n3 n4 n5 n6 n7 n8 n9 n10 n11 n12 n13 n14 n15 n16 n17 n18 n19 n20 n21 n22 n23 n24 n25 n26 n27 n28 n29 n30 n31 n32 n33 n34 n35 n36 n37 n38 n39 n40 n41 n42 n43 n44 n45 n46 n47 n48 n49 n50 e50 n51 e51 n52 e52) rfl (met_cons (claimB_t.2 (said (by kernel_rfl) ((q_FOf _).trans hq120))) (met_cons (claimB_t.2 (said (by kernel_rfl) ((q_FOf _).trans hq119))) (met_cons (claimB_t.2 (said (by kernel_rfl) ((q_FOf _).trans hq118))) (met_cons (claimB_t.2 (said (by kernel_rfl) ((q_WMake _).trans hq117))) (met_cons (claimB_t.2 (said (by kernel_rfl) ((q_NDiv _).trans hq116))) (met_cons (claimB_t.2 (said (by kernel_rfl) ((q_WMake _).trans hq115))) (met_cons (claimB_t.2 (said (by kernel_rfl) ((q_NDiv _).trans hq114))) (met_cons (claimB_t.2 (said (by kernel_rfl) ((q_WMake _).trans hq113))) (met_cons (claimB_t.2 (said (by kernel_rfl) ((q_NDiv _).trans hq112))) (met_cons (claimB_t.2 (said (by kernel_rfl) ((q_Gcd _).trans hq111))) (met_cons (claimB_t.2 (said (by kernel_rfl) ((q_Gcd _).trans hq110))) (met_cons (claimB_t.2 (said (by kernel_rfl) ((q_Gcd _).trans hq109))) (met_cons (claimB_t.2 (said (by kernel_rfl) ((q_WMul _).trans hq108))) (met_cons (claimB_t.2 (said (by kernel_rfl) ((q_WMake _).trans hq107))) (met_cons (claimB_t.2 (said (by kernel_rfl) ((q_Num _).trans hq106))) (met_cons (claimB_t.2 (said (by kernel_rfl) ((q_NDiv _).trans hq105))) (met_cons (claimB_t.2 (said (by kernel_rfl) ((q_Den _).trans hq104))) (met_cons (claimB_t.2 (said (by kernel_rfl) ((q_WMul _).trans hq103))) (met_cons (claimB_t.2 (said (by kernel_rfl) ((q_WMake _).trans hq102))) (met_cons (claimB_t.2 (said (by kernel_rfl) ((q_Num _).trans hq101))) (met_cons (claimB_t.2 (said (by kernel_rfl) ((q_NDiv _).trans hq100))) (met_cons (claimB_t.2 (said (by kernel_rfl) ((q_Den _).trans hq99))) (met_cons (claimB_t.2 (said (by kernel_rfl) ((q_WMul _).trans hq98))) (met_cons (claimB_t.2 (said (by kernel_rfl) ((q_WMake _).trans hq97))) (met_cons (claimB_t.2 (said (by kernel_rfl) ((q_Num _).trans hq96))) (met_cons (claimB_t.2 (said (by kernel_rfl) ((q_NDiv _).trans hq95))) (met_cons (claimB_t.2 (said (by kernel_rfl) ((q_Den _).trans hq94))) (met_cons (claimB_t.2 (said (by kernel_rfl) ((q_NMul _).trans hq93))) (met_cons (claimB_t.2 (said (by kernel_rfl) ((q_NDiv _).trans hq92))) (met_cons (claimB_t.2 (said (by kernel_rfl) ((q_Gcd _).trans hq91))) (met_cons (claimB_t.2 (said (by kernel_rfl) ((q_Den _).trans hq90))) (met_cons (claimB_t.2 (said (by kernel_rfl) ((q_Den _).trans hq89))) (met_cons (claimB_t.2 (said (by kernel_rfl) ((q_NMul _).trans hq88))) (met_cons (claimB_t.2 (said (by kernel_rfl) ((q_NDiv _).trans hq87))) (met_cons (claimB_t.2 (said (by kernel_rfl) ((q_Gcd _).trans hq86))) (met_cons (claimB_t.2 (said (by kernel_rfl) ((q_Den _).trans hq85))) (met_cons (claimB_t.2 (said (by kernel_rfl) ((q_Den _).trans hq84))) (met_cons (claimB_t.2 (said (by kernel_rfl) ((q_NMul _).trans hq83))) (met_cons (claimB_t.2 (said (by kernel_rfl) ((q_NDiv _).trans hq82))) (met_cons (claimB_t.2 (said (by kernel_rfl) ((q_Gcd _).trans hq81))) (met_cons (claimB_t.2 (said (by kernel_rfl) ((q_Den _).trans hq80))) (met_cons (claimB_t.2 (said (by kernel_rfl) ((q_Den _).trans hq79))) (met_cons (claimB_t.2 (said (by kernel_rfl) ((q_NatOf _).trans hq78))) met_nil)))))))))))))))))))))))))))))))))))))))))))⟩
theorem al_Direction : ∀ g,orB (notB (memN g newF)) (memN g [134,191,136,48,105,189,70,132,24,84,79,133,82,182,23,31,30,29]) = true → Ok Tryz.prog E2 g:=al_cons al_mix ok_Direction
theorem all_ok2 : ∀ f,Ok Tryz.prog E2 f:=fun f => al_Direction f (by
  cases h : memN f newF with
  | true => rfl
  | false => rfl)
end Go.Proofs.YtcgnkejpcjcaoaaGreat.num
