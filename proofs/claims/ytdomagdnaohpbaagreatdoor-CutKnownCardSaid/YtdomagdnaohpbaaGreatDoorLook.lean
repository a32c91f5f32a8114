/- cone.look: which signs a plane's numbers have at the lines and rays of a set: what it answers; its two loops by induction over symbolic rounds. -/
import Derived.Test.YtdomagdnaohpbaaGreatDoorVec
import Derived.Test.YtdomagdnaohpbaaGreatDoorEvFlat
import Derived.Test.YtdomagdnaohpbaaGreatDoorEvMachOk
set_option linter.unusedSimpArgs false
set_option linter.unusedVariables false
set_option maxRecDepth 100000
namespace Go.Proofs.YtdomagdnaohpbaaGreatDoor.look
noncomputable section
open Go.Abs Go.Proofs.YtdomagdnaohpbaaGreatDoor.num
def SK:Es:=only (fun g=>notB (Nat.beq g 151)) E2
def cK:Cx:=cxOf Tryz.prog SK
def sub:Code→List Nat→Code
  | .seq a _,0::l=>sub a l
  | .seq _ b,1::l=>sub b l
  | .cond _ a _,0::l=>sub a l
  | .cond _ _ b,1::l=>sub b l
  | .block _ a,0::l=>sub a l
  | .loop a,0::l=>sub a l
  | .scope a,0::l=>sub a l
  | c,[]=>c
  | _,_=>.skip
def K:Code:=elimO (funcOf cK 151) Code.skip (fun p=>p.2)
def stK (r:Option DO):S:=Option.rec ⟨T.nil,T.nil,0,0⟩ (fun r=>Out.rec (motive:=fun _=>S) (fun s=>s) (fun _ s=>s) (fun s=>s) (fun _=>⟨T.nil,T.nil,0,0⟩) r.1) r
def R0:Code:=sub K [0]
def R1:Code:=sub K [1,0,0]
def B1:Code:=sub K [1,0,1,0,0]
def R7:Code:=sub K [1,1,0,0]
def B2:Code:=sub K [1,1,0,1,0,0]
def R9:Code:=sub K [1,1,1]
theorem K_eq:K=.seq R0 (.seq (.seq R1 (.block 0 (.loop B1))) (.seq (.seq R7 (.block 2 (.loop B2))) R9)):=by kernel_rfl
structure Sl where
  t:T AV
  off:Nat
  len:Nat
  lo:Nat
  ex:Bool
  nil:Bool
abbrev Sl.av (s:Sl):AV:=Bool.rec (.vs s.t s.off s.len 12 s.lo s.ex) zb s.nil
abbrev Sl.n (s:Sl):Nat:=Bool.rec s.len 0 s.nil
structure Row where
  s0:Bool
  x0:Nat
  s1:Bool
  x1:Nat
  s2:Bool
  x2:Nat
  s3:Bool
  x3:Nat
abbrev Row.av (r:Row):AV:=Qj r.s0 r.x0 r.s1 r.x1 r.s2 r.x2 r.s3 r.x3
def Z12:T AV:=zu 0 T.nil (Qj false 0 false 0 false 0 false 0).cells
section
variable (made a3 a4 a5 a6:AV) (L R:Sl) (c:Row)
def pA:AV:=.agg [made,L.av,R.av,a3,a4,a5,a6]
def s0:S:=⟨zu 0 T.nil [pA made a3 a4 a5 a6 L R,c.av],T.nil,0,far⟩
def sA:S:=stK (yj cK SK 20 R0 (s0 made a3 a4 a5 a6 L R c) [] [])
def sB:S:=stK (yj cK SK 20 R1 (sA made a3 a4 a5 a6 L R c) [] [])
theorem go0 (m:Nat):yj cK SK (m + 5) R0 (s0 made a3 a4 a5 a6 L R c) [] []=some (.nrm (sA made a3 a4 a5 a6 L R c),[],[]):=by
  obtain ⟨t,off,len,lo,ex,nil⟩:=L; obtain ⟨t',off',len',lo',ex',nil'⟩:=R; cases nil <;> cases nil' <;> kernel_rfl
theorem go1 (m:Nat):yj cK SK (m + 5) R1 (sA made a3 a4 a5 a6 L R c) [] []=some (.nrm (sB made a3 a4 a5 a6 L R c),[],[]):=by
  obtain ⟨t,off,len,lo,ex,nil⟩:=L; obtain ⟨t',off',len',lo',ex',nil'⟩:=R; cases nil <;> cases nil' <;> kernel_rfl
structure J1 where
  a:AV
  b:AV
  c:AV
  d:AV
  e:AV
  f:AV
  g:AV
  h:AV
  k:AV
  l:AV
def put1 (j:J1) (E:T AV):T AV:=T.set 8 j.a (T.set 15 j.b (T.set 16 j.c (T.set 17 j.d (T.set 18 j.e (T.set 19 j.f (T.set 20 j.g (T.set 21 j.h (T.set 22 j.k (T.set 23 j.l E)))))))))
def env1 (b:Bool) (j:J1):T AV:=Bool.rec (S.env (sB made a3 a4 a5 a6 L R c)) (put1 j (S.env (sB made a3 a4 a5 a6 L R c))) b
def L1 (b:Bool) (i:Nat) (j:J1) (H:T Blk) (n low:Nat):S:=⟨T.set 14 (zw (.ofNat i)) (env1 made a3 a4 a5 a6 L R c b j),H,n,low⟩
abbrev nb1 (n:Nat):Nat:=Nat.add (Nat.add n 1) 2
abbrev n1 (n:Nat):Nat:=Nat.add (Nat.add (Nat.add n 1) 4) 5
abbrev H1a (H:T Blk) (n:Nat):T Blk:=T.set (nb1 n) (.cells Z12 12) H
abbrev H1 (H:T Blk) (n:Nat) (r:Row):T Blk:=T.set (nb1 n) (.cells (zu 0 Z12 r.av.cells) 12) (H1a H n)
abbrev xr (low n:Nat) (r:Row):Nat:=lower (lower low [(nb1 n,.cells Z12 12)]) [(nb1 n,.cells (zu 0 Z12 r.av.cells) 12)]
abbrev j1 (i n:Nat) (r:Row) (s:Bool) (d:Nat) (z:Int) (l:AV):J1:=
  ⟨.hp (nb1 n) 0,ze (ltI (.ofNat i) (.ofNat L.n)),.vp L.t (Nat.add L.off (Nat.mul i 12)),r.av,c.av,r.av,zh s d,zw z,ze (notB (eqI z 0)),l⟩
abbrev ob1 (i n:Nat) (H:T Blk) (r:Row) (s:Bool) (d:Nat) (z:Int):Ob:=
  [(zo (SK 38 [zh s d]=some (zw z,true)),true),(zo (SK 193 [c.av,r.av]=some (zh s d,true)),true),
   (zo (zf (cellsOf (H1 H n r) (nb1 n)) (fun p=>loadT cK 200 p.1 0)=some r.av),true),(zo (zf (cellsOf (H1 H n r) 1) (fun p=>loadT cK 200 p.1 0)=some c.av),true),
   (zo (yD (H1a H n) (nb1 n)=some (Z12,12)),true),(zo (loadT cK 200 L.t (Nat.add L.off (Nat.mul i 12))=some r.av),true),(Nat.ble (Nat.succ i) L.len,true),(ltI (.ofNat i) (.ofNat L.n),true)]
abbrev ds1 (r:Row) (s:Bool) (d:Nat) (z:Int) (l:List Dc):List Dc:=.t::.i::.l r.av::.s Z12 12::.l c.av::.l r.av::.r 193 (zh s d)::.r 38 (zw z)::l
theorem zcB (hn:L.nil=false) (b:Bool) (i:Nat) (j:J1) (H:T Blk) (n low:Nat) (r:Row) (s:Bool) (d:Nat) (z:Int) (m:Nat) :
    yj cK SK (m + 10) B1 (L1 made a3 a4 a5 a6 L R c b i j H n low) (ds1 c r s d z [.f,.a]) [] =
      some (.nrm (L1 made a3 a4 a5 a6 L R c true (Nat.add i 1) (j1 L c i n r s d z (zw (.ofNat (Nat.add i 1)))) (H1 H n r) (Nat.add (n1 n) 2) (xr low n r)),[],
        (Nat.ble (Nat.add i 1) 9223372036854775807,true)::(notB (eqI z 0),false)::ob1 L c i n H r s d z):=by
  obtain ⟨t,off,len,lo,ex,nil⟩:=L; cases hn; obtain ⟨t',off',len',lo',ex',nil'⟩:=R; cases nil' <;> cases b <;> kernel_rfl
def X1 (b:Bool) (i:Nat) (j:J1) (H:T Blk) (n low:Nat):S:=⟨T.set 15 (ze (ltI (.ofNat i) (.ofNat L.n))) (T.set 14 (zw (.ofNat i)) (env1 made a3 a4 a5 a6 L R c b j)),H,Nat.add n 1,low⟩
theorem exit1 (b:Bool) (i:Nat) (j:J1) (H:T Blk) (n low m:Nat) :
    yj cK SK (m + 10) B1 (L1 made a3 a4 a5 a6 L R c b i j H n low) [.f] []=some (.ext 0 (X1 made a3 a4 a5 a6 L R c b i j H n low),[],[(ltI (.ofNat i) (.ofNat L.n),false)]):=by
  obtain ⟨t,off,len,lo,ex,nil⟩:=L; cases nil <;> (obtain ⟨t',off',len',lo',ex',nil'⟩:=R; cases nil' <;> cases b <;> kernel_rfl)
def Ye (r:Out):CR:=elimO (funcOf cK 151) (.bad 1) fun p=>zD (finPure cK p.1) r
theorem ret1 (hn:L.nil=false) (b:Bool) (i:Nat) (j:J1) (H:T Blk) (n low:Nat) (r:Row) (s:Bool) (d:Nat) (z:Int) (m:Nat) :
    elimO (yj cK SK (m + 10) B1 (L1 made a3 a4 a5 a6 L R c b i j H n low) (ds1 c r s d z [.t]) []) none (fun q=>Out.rec (motive:=fun _=>Option (CR×List Dc×Ob)) (fun _=>none) (fun _ _=>none) (fun s=>some (Ye (.ret s),q.2.1,q.2.2)) (fun _=>none) q.1) =
      some (.value (.tuple [ze true,ze true,ze true]) (some []),[],(notB (eqI z 0),true)::ob1 L c i n H r s d z):=by
  obtain ⟨t,off,len,lo,ex,nil⟩:=L; cases hn; obtain ⟨t',off',len',lo',ex',nil'⟩:=R; cases nil' <;> cases b <;> kernel_rfl
end
theorem UD (H:T Blk) (b:Nat) (t:T AV) (n:Nat):cellsOf (T.set b (.cells t n) H) b=some (t,n):=by
  unfold cellsOf
  rw [T.getB_eq,T.get_set,if_pos rfl]; rfl
theorem zgG (H:T Blk) (b:Nat) (t:T AV) (n:Nat):yD (T.set b (.cells t n) H) b=some (t,n):=by
  unfold yD
  rw [T.getB_eq,T.get_set,if_pos rfl]; rfl
theorem ky (H:T Blk) {b b':Nat} (k:Blk) (h:b≠b'):cellsOf (T.set b' k H) b=cellsOf H b:=by
  unfold cellsOf
  rw [T.getB_eq,T.getB_eq,T.get_set,if_neg h]
theorem zcC (r:Row):loadT cK 200 (zu 0 Z12 r.av.cells) 0=some r.av:=by kernel_rfl
theorem vv {c:Code} {s:S} {ds:List Dc} {o:Out} {ob:Ob} {n:Nat} (h:yj cK SK n c s ds []=some (o,[],ob)) (hm:Met ob) (ho:∀ w,o≠.bad w):Ev cK c s o:=by
  have h1:=(we (C:=cK) (E:=SK) rfl _ h hm).2
  refine ⟨ho,n,fun k hk => ?_⟩
  rcases Ql (C:=cK) k hk c s with e | ⟨w,e⟩
  · rw [← e]; exact h1
  · rw [h1] at e; exact absurd e (ho w)
def Inv (R:Sl) (c:Row) (H:T Blk):Prop:=zf (cellsOf H 1) (fun p=>loadT cK 200 p.1 0)=some c.av∧zf (cellsOf H 0) (fun p=>loadT cK 90 p.1 2)=some R.av
theorem Inv.next {R:Sl} {c:Row} {H:T Blk} (h:Inv R c H) {n:Nat} (hn:2≤n) (r:Row):Inv R c (H1 H n r):=by
  have e:∀ b,b < 2→cellsOf (H1 H n r) b=cellsOf H b:=fun b hb=>by
    have hne:b≠nb1 n:=by show b≠n + 1 + 2; omega
    rw [ky _ _ hne,ky _ _ hne]
  unfold Inv
  rw [e 1 (by omega),e 0 (by omega)]
  exact h
theorem zfx {g:Nat} {l:List AV} {q:AV×Bool} (hg:notB (Nat.beq g 151)=true) (h:E2 g l=some q):SK g l=some q:=by
  show zm (notB (Nat.beq g 151)) (E2 g l)=_
  rw [hg]; exact h
theorem zgH {L R:Sl} {c:Row} {i n:Nat} {H:T Blk} {r:Row} {s:Bool} {d:Nat} {z:Int} (hI:Inv R c H) (hn:2≤n) (hN:L.nil=false) (hi:i < L.len) (hl:loadT cK 200 L.t (Nat.add L.off (Nat.mul i 12))=some r.av)
    (hd:E2 193 [c.av,r.av]=some (zh s d,true)) (hz:E2 38 [zh s d]=some (zw z,true)):Met (ob1 L c i n H r s d z):=by
  have e1:SK 38 [zh s d]=some (zw z,true):=zfx (by kernel_rfl) hz
  have e2:SK 193 [c.av,r.av]=some (zh s d,true):=zfx (by kernel_rfl) hd
  have e3:zf (cellsOf (H1 H n r) (nb1 n)) (fun p=>loadT cK 200 p.1 0)=some r.av:=by
    unfold H1
    rw [UD,zs]
    exact zcC r
  have e4:=(hI.next hn r).1
  have e5:yD (H1a H n) (nb1 n)=some (Z12,12):=zgG H (nb1 n) Z12 12
  have e6:Nat.ble (Nat.succ i) L.len=true:=zq.2 (by omega)
  have e7:ltI (.ofNat i) (.ofNat L.n)=true:=by
    have:L.n=L.len:=by obtain ⟨t,off,len,lo,ex,nil⟩:=L; cases hN; rfl
    rw [this]; exact YC.2 hi
  exact ⟨zk.2 e1,zk.2 e2,zk.2 e3,zk.2 e4,zk.2 e5,zk.2 hl,e6,e7,trivial⟩
def ZT (c:Row) (t:T AV) (off:Nat) (k:Nat):Nat→Option Bool:=
  Nat.rec (fun _=>some false) (fun _ ih i=>zf (Fast.loadT cK 200 t (Nat.add off (Nat.mul i 12))) fun v=>Vt v fun s0 x0 s1 x1 s2 x2 s3 x3 =>
    yr (E2 193 [c.av,Qj s0 x0 s1 x1 s2 x2 s3 x3]) fun s d=>ZJ (E2 38 [zh s d]) fun z=>ifB (eqI z 0) (force (Nat.succ i) ih) (some true)) k
theorem ZU {c:Row} {t:T AV} {off k i:Nat} {y:Bool} (h:ZT c t off (k + 1) i=some y):∃ (r:Row) (s:Bool) (d:Nat) (z:Int),loadT cK 200 t (Nat.add off (Nat.mul i 12))=some r.av ∧
    E2 193 [c.av,r.av]=some (zh s d,true)∧E2 38 [zh s d]=some (zw z,true)∧(if eqI z 0=true then ZT c t off k (i + 1)=some y else y=true):=by
  replace h:=za.1 h; obtain ⟨v,h1,h⟩:=h
  rw [Fast.loadT_e] at h1
  replace h:=wn h; obtain ⟨s0,x0,s1,x1,s2,x2,s3,x3,rfl,h⟩:=h
  replace h:=zy h; obtain ⟨s,d,h2,h⟩:=h
  replace h:=wm h; obtain ⟨z,h3,h⟩:=h
  refine ⟨⟨s0,x0,s1,x1,s2,x2,s3,x3⟩,s,d,z,h1,h2,h3,?_⟩
  cases hz:eqI z 0 with
  | true=>rw [hz,ifB_true,zr] at h; exact h
  | false=>rw [hz,zj] at h; simp at h ⊢; exact h
section
variable (made a3 a4 a5 a6:AV) (L R:Sl) (c:Row)
theorem Sl.n_false {s:Sl} (h:s.nil=false):s.n=s.len:=by obtain ⟨t,off,len,lo,ex,nil⟩:=s; cases h; rfl
theorem loop1 (hL:L.n≤1000000):∀ (k i:Nat) (b:Bool) (j:J1) (H:T Blk) (n low:Nat),ZT c L.t L.off k i=some false→i + k=L.n→Inv R c H→2≤n →
    ∃ b' j' H' n' low',Ev cK (.loop B1) (L1 made a3 a4 a5 a6 L R c b i j H n low) (.ext 0 (X1 made a3 a4 a5 a6 L R c b' L.n j' H' n' low'))∧Inv R c H'∧2≤n':=by
  intro k
  induction k with
  |
    zero =>
    intro i b j H n low _ hi hI hn
    obtain rfl:i=L.n:=by omega
    exact ⟨b,j,H,n,low,Ev.loop_out (vv (exit1 made a3 a4 a5 a6 L R c b L.n j H n low 0) (met_cons (v3.2 (Nat.le_refl _)) met_nil) (by simp)) (by simp),hI,hn⟩
  |
    succ k ih =>
    intro i b j H n low hs hi hI hn
    have hN:L.nil=false:=by
      cases h:L.nil with
      | false=>rfl
      | true =>
                have:L.n=0:=by obtain ⟨t,off,len,lo,ex,nil⟩:=L; cases h; rfl
                omega
    have hlen:=Sl.n_false hN
    obtain ⟨r,s,d,z,h1,h2,h3,h4⟩:=ZU hs
    have hz:eqI z 0=true:=by
      by_cases h:eqI z 0=true
      · exact h
      · rw [if_neg h] at h4; cases h4
    rw [if_pos hz] at h4
    have hm:=zgH (L:=L) (n:=n) hI hn hN (show i < L.len by omega) h1 h2 h3
    have hr:=vv (zcB made a3 a4 a5 a6 L R c hN b i j H n low r s d z 0) (met_cons (zq.2 (show i + 1≤9223372036854775807 by omega)) (met_cons (by rw [hz]; rfl) hm)) (by simp)
    obtain ⟨b',j',H',n',low',g1,g2,g3⟩:=ih (i + 1) true _ (H1 H n r) (Nat.add (n1 n) 2) (xr low n r) h4 (by omega) (hI.next hn r) (by show 2≤n + 1 + 4 + 5 + 2; omega)
    exact ⟨b',j',H',n',low',Ev.loop_nrm hr g1,g2,g3⟩
end
structure J2 where
  a:AV
  b:AV
  c:AV
  d:AV
  e:AV
  f:AV
  g:AV
  h:AV
  k:AV
  l:AV
def put2 (j:J2) (E:T AV):T AV:=T.set 10 j.a (T.set 28 j.b (T.set 29 j.c (T.set 30 j.d (T.set 31 j.e (T.set 32 j.f (T.set 33 j.g (T.set 34 j.h (T.set 35 j.k (T.set 36 j.k (T.set 39 j.l E))))))))))
def put3 (v:AV) (E:T AV):T AV:=T.set 37 v (T.set 38 v E)
section
variable (made a3 a4 a5 a6:AV) (L R:Sl) (c:Row)
def zeB (b:Bool) (i1:Nat) (j:J1):T AV:=S.env (stK (yj cK SK 20 R7 (X1 made a3 a4 a5 a6 L R c b i1 j T.nil 0 0) [.l R.av] []))
def env2 (b b2 b3:Bool) (i1:Nat) (j:J1) (k:J2) (v:AV):T AV:=
  Bool.rec (Bool.rec (zeB made a3 a4 a5 a6 L R c b i1 j) (put2 k (zeB made a3 a4 a5 a6 L R c b i1 j)) b2) (put3 v (Bool.rec (zeB made a3 a4 a5 a6 L R c b i1 j) (put2 k (zeB made a3 a4 a5 a6 L R c b i1 j)) b2)) b3
def L2 (b b2 b3 f4 f6:Bool) (i1:Nat) (j:J1) (i:Nat) (k:J2) (v:AV) (H:T Blk) (n low:Nat):S:=
  ⟨T.set 27 (zw (.ofNat i)) (T.set 4 (ze f4) (T.set 6 (ze f6) (env2 made a3 a4 a5 a6 L R c b b2 b3 i1 j k v))),H,n,low⟩
theorem go7 (b:Bool) (i1:Nat) (j:J1) (k:J2) (v:AV) (H:T Blk) (n low m:Nat):yj cK SK (m + 5) R7 (X1 made a3 a4 a5 a6 L R c b i1 j H n low) [.l R.av] [] =
    some (.nrm (L2 made a3 a4 a5 a6 L R c b false false false false i1 j 0 k v H (Nat.add (Nat.add n 1) 4) low),[],[(zo (zf (cellsOf H 0) (fun p=>loadT cK 90 p.1 2)=some R.av),true)]):=by
  obtain ⟨t',off',len',lo',ex',nil'⟩:=R; obtain ⟨t,off,len,lo,ex,nil⟩:=L; cases nil' <;> cases nil <;> cases b <;> kernel_rfl
abbrev n2 (n:Nat):Nat:=Nat.add (Nat.add (Nat.add (Nat.add n 1) 4) 4) 2
abbrev k2 (i n:Nat) (r:Row) (s:Bool) (d:Nat) (z:Int):J2:=
  ⟨.hp (nb1 n) 0,ze (ltI (.ofNat i) (.ofNat R.n)),.vp R.t (Nat.add R.off (Nat.mul i 12)),r.av,c.av,r.av,zh s d,zw z,ze (eqI z (.negSucc 0)),zw (.ofNat (Nat.add i 1))⟩
theorem zeC (hn:R.nil=false) (b b2 b3 f4 f6:Bool) (i1:Nat) (j:J1) (i:Nat) (k:J2) (v:AV) (H:T Blk) (n low:Nat) (r:Row) (s:Bool) (d:Nat) (z:Int) (m:Nat) :
    yj cK SK (m + 10) B2 (L2 made a3 a4 a5 a6 L R c b b2 b3 f4 f6 i1 j i k v H n low) (ds1 c r s d z [.t,.a]) [] =
      some (.nrm (L2 made a3 a4 a5 a6 L R c b true b3 true f6 i1 j (Nat.add i 1) (k2 R c i n r s d z) v (H1 H n r) (Nat.add (Nat.add (n2 n) 1) 2) (xr low n r)),[],
        (Nat.ble (Nat.add i 1) 9223372036854775807,true)::(eqI z (.negSucc 0),true)::ob1 R c i n H r s d z):=by
  obtain ⟨t',off',len',lo',ex',nil'⟩:=R; cases hn; obtain ⟨t,off,len,lo,ex,nil⟩:=L; cases nil <;> cases b <;> cases b2 <;> cases b3 <;> kernel_rfl
theorem zeD (hn:R.nil=false) (b b2 b3 f4 f6:Bool) (i1:Nat) (j:J1) (i:Nat) (k:J2) (v:AV) (H:T Blk) (n low:Nat) (r:Row) (s:Bool) (d:Nat) (z:Int) (m:Nat) :
    yj cK SK (m + 12) B2 (L2 made a3 a4 a5 a6 L R c b b2 b3 f4 f6 i1 j i k v H n low) (ds1 c r s d z [.f,.t,.a]) [] =
      some (.nrm (L2 made a3 a4 a5 a6 L R c b true true f4 true i1 j (Nat.add i 1) (k2 R c i n r s d z) (ze (eqI z (.ofNat 1))) (H1 H n r) (Nat.add (Nat.add (Nat.add (n2 n) 2) 1) 2) (xr low n r)),[],
        (Nat.ble (Nat.add i 1) 9223372036854775807,true)::(eqI z (.ofNat 1),true)::(eqI z (.negSucc 0),false)::ob1 R c i n H r s d z):=by
  obtain ⟨t',off',len',lo',ex',nil'⟩:=R; cases hn; obtain ⟨t,off,len,lo,ex,nil⟩:=L; cases nil <;> cases b <;> cases b2 <;> cases b3 <;> kernel_rfl
theorem zeE (hn:R.nil=false) (b b2 b3 f4 f6:Bool) (i1:Nat) (j:J1) (i:Nat) (k:J2) (v:AV) (H:T Blk) (n low:Nat) (r:Row) (s:Bool) (d:Nat) (z:Int) (m:Nat) :
    yj cK SK (m + 12) B2 (L2 made a3 a4 a5 a6 L R c b b2 b3 f4 f6 i1 j i k v H n low) (ds1 c r s d z [.f,.f,.a]) [] =
      some (.nrm (L2 made a3 a4 a5 a6 L R c b true true f4 f6 i1 j (Nat.add i 1) (k2 R c i n r s d z) (ze (eqI z (.ofNat 1))) (H1 H n r) (Nat.add (Nat.add (n2 n) 2) 2) (xr low n r)),[],
        (Nat.ble (Nat.add i 1) 9223372036854775807,true)::(eqI z (.ofNat 1),false)::(eqI z (.negSucc 0),false)::ob1 R c i n H r s d z):=by
  obtain ⟨t',off',len',lo',ex',nil'⟩:=R; cases hn; obtain ⟨t,off,len,lo,ex,nil⟩:=L; cases nil <;> cases b <;> cases b2 <;> cases b3 <;> kernel_rfl
def X2 (b b2 b3 f4 f6:Bool) (i1:Nat) (j:J1) (i:Nat) (k:J2) (v:AV) (H:T Blk) (n low:Nat):S:=
  ⟨T.set 28 (ze (ltI (.ofNat i) (.ofNat R.n))) (T.set 27 (zw (.ofNat i)) (T.set 4 (ze f4) (T.set 6 (ze f6) (env2 made a3 a4 a5 a6 L R c b b2 b3 i1 j k v)))),H,Nat.add n 1,low⟩
theorem exit2 (b b2 b3 f4 f6:Bool) (i1:Nat) (j:J1) (i:Nat) (k:J2) (v:AV) (H:T Blk) (n low m:Nat) :
    yj cK SK (m + 10) B2 (L2 made a3 a4 a5 a6 L R c b b2 b3 f4 f6 i1 j i k v H n low) [.f] []=some (.ext 2 (X2 made a3 a4 a5 a6 L R c b b2 b3 f4 f6 i1 j i k v H n low),[],[(ltI (.ofNat i) (.ofNat R.n),false)]):=by
  obtain ⟨t',off',len',lo',ex',nil'⟩:=R; obtain ⟨t,off,len,lo,ex,nil⟩:=L; cases nil' <;> cases nil <;> cases b <;> cases b2 <;> cases b3 <;> kernel_rfl
def eqB (x y:Bool):Bool:=ifB x y (notB y)
theorem ret2 (b b2 b3 f4 f6:Bool) (i1:Nat) (j:J1) (i:Nat) (k:J2) (v:AV) (H:T Blk) (n low m:Nat) :
    elimO (yj cK SK (m + 10) R9 (X2 made a3 a4 a5 a6 L R c b b2 b3 f4 f6 i1 j i k v H n low) [] []) none (fun q=>Out.rec (motive:=fun _=>Option (CR×List Dc×Ob)) (fun _=>none) (fun _ _=>none) (fun s=>some (Ye (.ret s),q.2.1,q.2.2)) (fun _=>none) q.1) =
      some (.value (.tuple [ze f4,ze (eqB f4 f6),ze f6]) (some []),[],[]):=by
  cases f4 <;> cases f6 <;> (obtain ⟨t',off',len',lo',ex',nil'⟩:=R; obtain ⟨t,off,len,lo,ex,nil⟩:=L; cases nil' <;> cases nil <;> cases b <;> cases b2 <;> cases b3 <;> kernel_rfl)
end
def UE (c:Row) (t:T AV) (off:Nat) (k:Nat):Nat→Bool→Bool→Option (Bool×Bool):=
  Nat.rec (fun _ x y=>some (x,y)) (fun _ ih i x y=>zf (Fast.loadT cK 200 t (Nat.add off (Nat.mul i 12))) fun v=>Vt v fun s0 x0 s1 x1 s2 x2 s3 x3 =>
    yr (E2 193 [c.av,Qj s0 x0 s1 x1 s2 x2 s3 x3]) fun s d=>ZJ (E2 38 [zh s d]) fun z =>
      forceB (ifB (eqI z (.negSucc 0)) true x) fun x'=>forceB (ifB (eqI z (.negSucc 0)) y (ifB (eqI z (.ofNat 1)) true y)) fun y'=>force (Nat.succ i) fun i=>ih i x' y') k
theorem QZ {c:Row} {t:T AV} {off k i:Nat} {x y:Bool} {q:Bool×Bool} (h:UE c t off (k + 1) i x y=some q):∃ (r:Row) (s:Bool) (d:Nat) (z:Int),loadT cK 200 t (Nat.add off (Nat.mul i 12))=some r.av ∧
    E2 193 [c.av,r.av]=some (zh s d,true)∧E2 38 [zh s d]=some (zw z,true) ∧
    UE c t off k (i + 1) (ifB (eqI z (.negSucc 0)) true x) (ifB (eqI z (.negSucc 0)) y (ifB (eqI z (.ofNat 1)) true y))=some q:=by
  replace h:=za.1 h; obtain ⟨v,h1,h⟩:=h
  rw [Fast.loadT_e] at h1
  replace h:=wn h; obtain ⟨s0,x0,s1,x1,s2,x2,s3,x3,rfl,h⟩:=h
  replace h:=zy h; obtain ⟨s,d,h2,h⟩:=h
  replace h:=wm h; obtain ⟨z,h3,h⟩:=h
  refine ⟨⟨s0,x0,s1,x1,s2,x2,s3,x3⟩,s,d,z,h1,h2,h3,?_⟩
  rw [forceB_eq,forceB_eq,zr] at h
  exact h
section
variable (made a3 a4 a5 a6:AV) (L R:Sl) (c:Row)
theorem loop2 (hR:R.n≤1000000) (b:Bool) (i1:Nat) (j:J1) (y4 y6:Bool):∀ (k i:Nat) (b2 b3 f4 f6:Bool) (q:J2) (v:AV) (H:T Blk) (n low:Nat),UE c R.t R.off k i f4 f6=some (y4,y6)→i + k=R.n→Inv R c H→2≤n →
    ∃ b2' b3' q' v' H' n' low',Ev cK (.loop B2) (L2 made a3 a4 a5 a6 L R c b b2 b3 f4 f6 i1 j i q v H n low) (.ext 2 (X2 made a3 a4 a5 a6 L R c b b2' b3' y4 y6 i1 j R.n q' v' H' n' low')):=by
  intro k
  induction k with
  |
    zero =>
    intro i b2 b3 f4 f6 q v H n low hs hi hI hn
    obtain rfl:i=R.n:=by omega
    cases (show some (f4,f6)=some (y4,y6) from hs)
    exact ⟨b2,b3,q,v,H,n,low,Ev.loop_out (vv (exit2 made a3 a4 a5 a6 L R c b b2 b3 y4 y6 i1 j R.n q v H n low 0) (met_cons (v3.2 (Nat.le_refl _)) met_nil) (by simp)) (by simp)⟩
  |
    succ k ih =>
    intro i b2 b3 f4 f6 q v H n low hs hi hI hn
    have hN:R.nil=false:=by
      cases h:R.nil with
      | false=>rfl
      | true =>
                have:R.n=0:=by obtain ⟨t,off,len,lo,ex,nil⟩:=R; cases h; rfl
                omega
    have hlen:=Sl.n_false hN
    obtain ⟨r,s,d,z,h1,h2,h3,h4⟩:=QZ hs
    have hm:=zgH (L:=R) (n:=n) hI hn hN (show i < R.len by omega) h1 h2 h3
    have hb:Nat.ble (Nat.add i 1) 9223372036854775807=true:=zq.2 (show i + 1≤9223372036854775807 by omega)
    cases z1:eqI z (.negSucc 0) with
    |
      true =>
      rw [z1,ifB_true,ifB_true] at h4
      have hr:=vv (zeC made a3 a4 a5 a6 L R c hN b b2 b3 f4 f6 i1 j i q v H n low r s d z 0) (met_cons hb (met_cons z1 hm)) (by simp)
      obtain ⟨b2',b3',q',v',H',n',low',g⟩:=ih (i + 1) true b3 true f6 _ _ (H1 H n r) _ (xr low n r) h4 (by omega) (hI.next hn r) (show 2≤n + 1 + 4 + 4 + 2 + 1 + 2 by omega)
      exact ⟨b2',b3',q',v',H',n',low',Ev.loop_nrm hr g⟩
    |
      false =>
      rw [z1,zj,zj] at h4
      cases z2:eqI z (.ofNat 1) with
      |
        true =>
        rw [z2,ifB_true] at h4
        have hr:=vv (zeD made a3 a4 a5 a6 L R c hN b b2 b3 f4 f6 i1 j i q v H n low r s d z 0) (met_cons hb (met_cons z2 (met_cons z1 hm))) (by simp)
        obtain ⟨b2',b3',q',v',H',n',low',g⟩:=ih (i + 1) true true f4 true _ _ (H1 H n r) _ (xr low n r) h4 (by omega) (hI.next hn r) (show 2≤n + 1 + 4 + 4 + 2 + 2 + 1 + 2 by omega)
        exact ⟨b2',b3',q',v',H',n',low',Ev.loop_nrm hr g⟩
      |
        false =>
        rw [z2,zj] at h4
        have hr:=vv (zeE made a3 a4 a5 a6 L R c hN b b2 b3 f4 f6 i1 j i q v H n low r s d z 0) (met_cons hb (met_cons z2 (met_cons z1 hm))) (by simp)
        obtain ⟨b2',b3',q',v',H',n',low',g⟩:=ih (i + 1) true true f4 f6 _ _ (H1 H n r) _ (xr low n r) h4 (by omega) (hI.next hn r) (show 2≤n + 1 + 4 + 4 + 2 + 2 + 2 by omega)
        exact ⟨b2',b3',q',v',H',n',low',Ev.loop_nrm hr g⟩
theorem zgI (hL:L.n≤1000000):∀ (k i:Nat) (b:Bool) (j:J1) (H:T Blk) (n low:Nat),ZT c L.t L.off k i=some true→i + k=L.n→Inv R c H→2≤n →
    ∃ st,Ev cK (.loop B1) (L1 made a3 a4 a5 a6 L R c b i j H n low) (.ret st)∧Ye (.ret st)=.value (.tuple [ze true,ze true,ze true]) (some []):=by
  intro k
  induction k with
  | zero=>intro i b j H n low hs; cases (show some false=some true from hs)
  |
    succ k ih =>
    intro i b j H n low hs hi hI hn
    have hN:L.nil=false:=by
      cases h:L.nil with
      | false=>rfl
      | true =>
                have:L.n=0:=by obtain ⟨t,off,len,lo,ex,nil⟩:=L; cases h; rfl
                omega
    have hlen:=Sl.n_false hN
    obtain ⟨r,s,d,z,h1,h2,h3,h4⟩:=ZU hs
    have hm:=zgH (L:=L) (n:=n) hI hn hN (show i < L.len by omega) h1 h2 h3
    by_cases hz:eqI z 0=true
    ·
      rw [if_pos hz] at h4
      have hr:=vv (zcB made a3 a4 a5 a6 L R c hN b i j H n low r s d z 0) (met_cons (zq.2 (show i + 1≤9223372036854775807 by omega)) (met_cons (by rw [hz]; rfl) hm)) (by simp)
      obtain ⟨st,g1,g2⟩:=ih (i + 1) true _ (H1 H n r) (Nat.add (n1 n) 2) (xr low n r) h4 (by omega) (hI.next hn r) (by show 2≤n + 1 + 4 + 5 + 2; omega)
      exact ⟨st,Ev.loop_nrm hr g1,g2⟩
    ·
      have hz':eqI z 0=false:=by simpa using hz
      have h:=ret1 made a3 a4 a5 a6 L R c hN b i j H n low r s d z 0
      cases hr:yj cK SK (0 + 10) B1 (L1 made a3 a4 a5 a6 L R c b i j H n low) (ds1 c r s d z [.t]) [] with
      | none=>rw [hr] at h; cases h
      |
        some q =>
        obtain ⟨o,ds,ob⟩:=q
        rw [hr,elimO_some] at h
        cases o with
        |
          ret st =>
          replace h:some (Ye (.ret st),ds,ob)=some (CR.value (.tuple [ze true,ze true,ze true]) (some []),[],(notB (eqI z 0),true)::ob1 L c i n H r s d z):=h
          injection h with h; injection h with ha hb; injection hb with hb hc
          subst hb; subst hc
          exact ⟨st,Ev.loop_out (vv hr (met_cons (by rw [hz']; rfl) hm) (by simp)) (by simp),ha⟩
        | _=>cases h
theorem zfy (j:J1):sB made a3 a4 a5 a6 L R c=L1 made a3 a4 a5 a6 L R c false 0 j (S.H (sB made a3 a4 a5 a6 L R c)) (S.nx (sB made a3 a4 a5 a6 L R c)) (S.low (sB made a3 a4 a5 a6 L R c)):=by
  obtain ⟨t',off',len',lo',ex',nil'⟩:=R; obtain ⟨t,off,len,lo,ex,nil⟩:=L; cases nil' <;> cases nil <;> kernel_rfl
theorem zfz:S.nx (sB made a3 a4 a5 a6 L R c)=9:=by
  obtain ⟨t',off',len',lo',ex',nil'⟩:=R; obtain ⟨t,off,len,lo,ex,nil⟩:=L; cases nil' <;> cases nil <;> kernel_rfl
theorem zcD:Inv R c (S.H (sB made a3 a4 a5 a6 L R c)):=by
  constructor
  · obtain ⟨t',off',len',lo',ex',nil'⟩:=R; obtain ⟨t,off,len,lo,ex,nil⟩:=L; cases nil' <;> cases nil <;> kernel_rfl
  · obtain ⟨t',off',len',lo',ex',nil'⟩:=R; obtain ⟨t,off,len,lo,ex,nil⟩:=L; cases nil' <;> cases nil <;> kernel_rfl
def j0:J1:=⟨zb,zb,zb,zb,zb,zb,zb,zb,zb,zb⟩
def q0:J2:=⟨zb,zb,zb,zb,zb,zb,zb,zb,zb,zb⟩
theorem zeF (hL:L.n≤1000000) (h:ZT c L.t L.off L.n 0=some true):∃ st,Ev cK K (s0 made a3 a4 a5 a6 L R c) (.ret st)∧Ye (.ret st)=.value (.tuple [ze true,ze true,ze true]) (some []):=by
  obtain ⟨st,g1,g2⟩:=zgI made a3 a4 a5 a6 L R c hL L.n 0 false j0 (S.H (sB made a3 a4 a5 a6 L R c)) (S.nx (sB made a3 a4 a5 a6 L R c)) (S.low (sB made a3 a4 a5 a6 L R c)) h (by omega) (zcD made a3 a4 a5 a6 L R c) (by rw [zfz]; omega)
  rw [← zfy] at g1
  refine ⟨st,?_,g2⟩
  rw [K_eq]
  exact Ev.seq_nrm (vv (go0 made a3 a4 a5 a6 L R c 0) met_nil (by simp)) (Ev.seq_out (Ev.seq_nrm (vv (go1 made a3 a4 a5 a6 L R c 0) met_nil (by simp)) (Ev.block (id:=0) g1)) (by simp [ZL]))
theorem zeG (hL:L.n≤1000000) (hR:R.n≤1000000) {y4 y6:Bool} (h:ZT c L.t L.off L.n 0=some false) (h':UE c R.t R.off R.n 0 false false=some (y4,y6)) :
    ∃ st,Ev cK K (s0 made a3 a4 a5 a6 L R c) (.ret st)∧Ye (.ret st)=.value (.tuple [ze y4,ze (eqB y4 y6),ze y6]) (some []):=by
  obtain ⟨b,j,H,n,low,g1,g2,g3⟩:=loop1 made a3 a4 a5 a6 L R c hL L.n 0 false j0 (S.H (sB made a3 a4 a5 a6 L R c)) (S.nx (sB made a3 a4 a5 a6 L R c)) (S.low (sB made a3 a4 a5 a6 L R c)) h (by omega) (zcD made a3 a4 a5 a6 L R c) (by rw [zfz]; omega)
  rw [← zfy] at g1
  have e7:=vv (go7 made a3 a4 a5 a6 L R c b L.n j q0 zb H n low 0) (met_cons (zk.2 g2.2) met_nil) (by simp)
  obtain ⟨b2,b3,q,v,H2,n2,low2,g4⟩:=loop2 made a3 a4 a5 a6 L R c hR b L.n j y4 y6 R.n 0 false false false false q0 zb H (Nat.add (Nat.add n 1) 4) low h' (by omega) g2 (show 2≤n + 1 + 4 by omega)
  have h9:=ret2 made a3 a4 a5 a6 L R c b b2 b3 y4 y6 L.n j R.n q v H2 n2 low2 0
  cases hr:yj cK SK (0 + 10) R9 (X2 made a3 a4 a5 a6 L R c b b2 b3 y4 y6 L.n j R.n q v H2 n2 low2) [] [] with
  | none=>rw [hr] at h9; cases h9
  |
    some w =>
    obtain ⟨o,ds,ob⟩:=w
    rw [hr,elimO_some] at h9
    cases o with
    |
      ret st =>
      replace h9:some (Ye (.ret st),ds,ob)=some (CR.value (.tuple [ze y4,ze (eqB y4 y6),ze y6]) (some []),[],[]):=h9
      injection h9 with h9; injection h9 with ha hb; injection hb with hb hc
      subst hb; subst hc
      refine ⟨st,?_,ha⟩
      rw [K_eq]
      exact Ev.seq_nrm (vv (go0 made a3 a4 a5 a6 L R c 0) met_nil (by simp)) (Ev.seq_nrm (Ev.seq_nrm (vv (go1 made a3 a4 a5 a6 L R c 0) met_nil (by simp)) (Ev.block (id:=0) g1))
        (Ev.seq_nrm (Ev.seq_nrm e7 (Ev.block (id:=2) g4)) (vv hr met_nil (by simp))))
    | _=>cases h9
end
def slP (x:AV) (k:T AV→Nat→Nat→Nat→Bool→Bool→Q):Q:=
  elimO (zf (zdo x) fun p=>zm (Nat.beq p.2.2.2.1 12) (some p)) (ifB (Xp x) (k T.nil 0 0 0 false true) none) fun p=>k p.1 p.2.1 p.2.2.1 p.2.2.2.2.1 p.2.2.2.2.2 false
def zcE (x:AV) (k:AV→AV→AV→AV→AV→AV→AV→Q):Q:=
  zf (KH x) fun l=>yB l fun a l=>yB l fun b l=>yB l fun c l=>yB l fun d l=>yB l fun e l=>yB l fun f l=>yB l fun g l=>uD l (k a b c d e f g)
theorem UF {x:AV} {k:T AV→Nat→Nat→Nat→Bool→Bool→Q} {y:AV×Bool} (h:slP x k=some y):∃ s:Sl,x=s.av∧k s.t s.off s.n s.lo s.ex s.nil=some y:=by
  unfold slP at h
  cases hb:(zf (zdo x) fun p=>zm (Nat.beq p.2.2.2.1 12) (some p)) with
  |
    some p =>
    rw [hb,elimO_some] at h
    obtain ⟨p',h1,h2⟩:=za.1 hb
    obtain ⟨h3,h4⟩:=zi.1 h2
    cases h4
    obtain ⟨t,off,len,es,lo,ex⟩:=p
    obtain rfl:=YG h1
    obtain rfl:=Abs.beq_true.1 h3
    exact ⟨⟨t,off,len,lo,ex,false⟩,rfl,h⟩
  |
    none =>
    rw [hb,elimO_none] at h
    cases hn:Xp x with
    | false=>rw [hn] at h; cases h
    |
      true =>
      rw [hn,ifB_true] at h
      obtain rfl:=jo hn
      exact ⟨⟨T.nil,0,0,0,false,true⟩,rfl,h⟩
theorem UG {x:AV} {k:AV→AV→AV→AV→AV→AV→AV→Q} {y:AV×Bool} (h:zcE x k=some y):∃ a b c d e f g,x=.agg [a,b,c,d,e,f,g]∧k a b c d e f g=some y:=by
  replace h:=za.1 h; obtain ⟨l,h1,h⟩:=h
  obtain rfl:=qE h1
  replace h:=zG h; obtain ⟨a,l,rfl,h⟩:=h
  replace h:=zG h; obtain ⟨b,l,rfl,h⟩:=h
  replace h:=zG h; obtain ⟨c,l,rfl,h⟩:=h
  replace h:=zG h; obtain ⟨d,l,rfl,h⟩:=h
  replace h:=zG h; obtain ⟨e,l,rfl,h⟩:=h
  replace h:=zG h; obtain ⟨f,l,rfl,h⟩:=h
  replace h:=zG h; obtain ⟨g,l,rfl,h⟩:=h
  replace h:=yy h; obtain ⟨rfl,h⟩:=h
  exact ⟨a,b,c,d,e,f,g,rfl,h⟩
def zfA (l:List AV):Q:=zm (allB (flat 4) l) (xI l fun p c=>zcE p fun _ ls rs _ _ _ _=>slP ls fun t off n _ _ _=>slP rs fun t' off' n' _ _ _=>Vt c fun s0 x0 s1 x1 s2 x2 s3 x3 =>
  zm (andB (Nat.ble n 1000000) (Nat.ble n' 1000000)) (zf (ZT ⟨s0,x0,s1,x1,s2,x2,s3,x3⟩ t off n 0) fun y =>
    ifB y (some (.tuple [ze true,ze true,ze true],true)) (zf (UE ⟨s0,x0,s1,x1,s2,x2,s3,x3⟩ t' off' n' 0 false false) fun q=>some (.tuple [ze q.1,ze (eqB q.1 q.2),ze q.2],true))))
def E3:Es:=fun f l=>ifB (Nat.beq f 151) (zfA l) (E2 f l)
theorem YV {args:List AV} {s:S} {st:S} (hs:s=⟨zu 0 T.nil args,T.nil,0,far⟩) (hf:allB (flat 4) args=true) (hl:Nat.ble (lenL args) 2=true) {v:AV} (h:Ev cK K s (.ret st)) (hv:Ye (.ret st)=.value v (some [])):∃ n rd,Go.Abs.call cK n 151 args=.value v rd:=by
  obtain ⟨p,hp⟩:=Option.isSome_iff_exists.1 (show (funcOf cK 151).isSome=true by kernel_rfl)
  have hx:cK.ext 151 args=none:=by
    have e:cK.ext=extOf SK:=rfl
    rw [e]
    have e2:SK 151 args=none:=by
      show zm (notB (Nat.beq 151 151)) (E2 151 args)=none
      rw [show notB (Nat.beq 151 151)=false by kernel_rfl]; rfl
    unfold extOf
    rw [e2]; rfl
  have hn:Nat.ble (lenL args) p.1.ntmps=true:=by
    have h1:elimO (funcOf cK 151) false (fun p=>Nat.ble 2 p.1.ntmps)=true:=by kernel_rfl
    rw [hp,elimO_some] at h1
    have:=zq.1 h1; have:=zq.1 hl
    exact zq.2 (by omega)
  obtain ⟨n0,hc⟩:=yQ (low:=far) (H:=T.nil) (nx:=0) (md:=0) hx hp hn (.inl ⟨rfl,by rw [hf]; rfl,hs⟩) (show Ev cK (xP cK 151 []) s (.ret st) from h)
  refine ⟨n0,some [],?_⟩
  have e:=hc n0 (Nat.le_refl _)
  rw [kn _ _ _ _ _ hp] at e
  have ho:Ye (.ret st)=zD (finPure cK p.1) (.ret st):=by unfold Ye; rw [hp]; rfl
  rw [ho] at hv
  exact e.trans hv
theorem zeH:Ok Tryz.prog E3 151:=XB (C:=cK) rfl mixed (vN fun g _=>all_ok2 g) fun l v h=>by
  have e:E3 151 l=zfA l:=by
    unfold E3
    rw [show Nat.beq 151 151=true by kernel_rfl]; rfl
  rw [e] at h
  replace h:=zi.1 h; obtain ⟨hf,h⟩:=h
  replace h:=zF h; obtain ⟨p,c,rfl,h⟩:=h
  replace h:=UG h; obtain ⟨made,ls,rs,a3,a4,a5,a6,rfl,h⟩:=h
  replace h:=UF h; obtain ⟨L,rfl,h⟩:=h
  replace h:=UF h; obtain ⟨R,rfl,h⟩:=h
  replace h:=wn h; obtain ⟨s0,x0,s1,x1,s2,x2,s3,x3,rfl,h⟩:=h
  replace h:=zi.1 h; obtain ⟨hg,h⟩:=h
  obtain ⟨g1,g2⟩:=zl.1 hg
  have g1:=zq.1 g1
  have g2:=zq.1 g2
  replace h:=za.1 h; obtain ⟨y,h1,h⟩:=h
  cases y with
  |
    true =>
    rw [ifB_true] at h
    obtain ⟨rfl,_⟩:=zC h
    obtain ⟨st,q1,q2⟩:=zeF made a3 a4 a5 a6 L R ⟨s0,x0,s1,x1,s2,x2,s3,x3⟩ g1 h1
    exact ⟨hf,rfl,YV rfl hf rfl q1 q2⟩
  |
    false =>
    rw [zj] at h
    replace h:=za.1 h; obtain ⟨⟨y4,y6⟩,h2,h⟩:=h
    obtain ⟨rfl,_⟩:=zC h
    obtain ⟨st,q1,q2⟩:=zeG made a3 a4 a5 a6 L R ⟨s0,x0,s1,x1,s2,x2,s3,x3⟩ g1 g2 h1 h2
    exact ⟨hf,rfl,YV rfl hf rfl q1 q2⟩
theorem all_ok3:∀ f,Ok Tryz.prog E3 f:=fun f=>by
  cases h:Nat.beq f 151 with
  | true=>rw [Abs.beq_true.1 h]; exact zeH
  |
    false =>
    intro l v hv
    have e:E3 f l=E2 f l:=by unfold E3; rw [h]; rfl
    rw [e] at hv
    exact all_ok2 f l v hv
end
end Go.Proofs.YtdomagdnaohpbaaGreatDoor.look
