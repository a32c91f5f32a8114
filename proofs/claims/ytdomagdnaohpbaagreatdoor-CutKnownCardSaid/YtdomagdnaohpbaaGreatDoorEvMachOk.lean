/- A RUN IN PIECES is the evaluator's: from the machine's last state back to the call. -/
import Derived.Test.YtdomagdnaohpbaaGreatDoorEvMach
set_option linter.unusedSimpArgs false
set_option linter.unusedVariables false
namespace Go.Abs
section
variable {C:Cx}
def Ev (C:Cx) (c:Code) (s:S) (o:Out):Prop:=(∀ w,o≠.bad w)∧∃ n0,∀ n,n0≤n→Go.Abs.run C n c s=o
def StepsEv (C:Cx) (ops:Array Oper) (base:Nat) (l:List Oper) (i:Nat) (s:S) (fs:List Foot) (s1:S) (fs1:List Foot):Prop:=∃ n0,∀ n,n0≤n→steps C (Go.Abs.run C n) ops base l i s fs=.ok s1 fs1
def OpsEv (C:Cx) (ops:Array Oper) (draw:Bool) (base:Nat) (l:List Oper) (i:Nat) (s:S) (fs:List Foot) (o:Out):Prop:=
  ∃ s1 fs1,StepsEv C ops base l i s fs s1 fs1∧o=.nrm s1∧(draw=true→andB (ys ops) (xw fs1.reverse (openPairs ops))=true)
theorem Ev.skip (s:S):Ev C .skip s (.nrm s):=⟨fun w=>by simp,1,fun n hn=>by obtain ⟨m,rfl⟩:∃ m,n=m + 1:=⟨n - 1,by omega⟩; rfl⟩
theorem Ev.label (s:S) (x):Ev C (.label x) s (.nrm s):=⟨fun w=>by simp,1,fun n hn=>by obtain ⟨m,rfl⟩:∃ m,n=m + 1:=⟨n - 1,by omega⟩; rfl⟩
theorem Ev.exit (s:S) (x):Ev C (.exit x) s (.ext x s):=⟨fun w=>by simp,1,fun n hn=>by obtain ⟨m,rfl⟩:∃ m,n=m + 1:=⟨n - 1,by omega⟩; rfl⟩
theorem Ev.ret (s:S):Ev C .ret s (.ret s):=⟨fun w=>by simp,1,fun n hn=>by obtain ⟨m,rfl⟩:∃ m,n=m + 1:=⟨n - 1,by omega⟩; rfl⟩
theorem Ev.scope {a:Code} {s:S} {o:Out} (h:Ev C a s o):Ev C (.scope a) s o:=by
  obtain ⟨hg,n0,h⟩:=h
  exact ⟨hg,n0 + 1,fun n hn=>by obtain ⟨m,rfl⟩:∃ m,n=m + 1:=⟨n - 1,by omega⟩; exact h m (by omega)⟩
theorem KF (n:Nat) (a b:Code) (s:S):Go.Abs.run C (n + 1) (.seq a b) s=Out.rec (motive:=fun _=>Out) (fun s'=>Go.Abs.run C n b s') (fun i s'=>.ext i s') (fun s'=>.ret s') (fun w=>.bad w) (Go.Abs.run C n a s):=rfl
theorem JM (n:Nat) (id:Nat) (a:Code) (s:S):Go.Abs.run C (n + 1) (.block id a) s=Out.rec (motive:=fun _=>Out) (fun s'=>.nrm s') (fun id' s'=>ifB (Nat.beq id' id) (.nrm s') (.ext id' s')) (fun s'=>.ret s') (fun w=>.bad w) (Go.Abs.run C n a s):=rfl
theorem Vy (n:Nat) (a:Code) (s:S):Go.Abs.run C (n + 1) (.loop a) s=Out.rec (motive:=fun _=>Out) (fun s'=>Go.Abs.run C n (.loop a) s') (fun i s'=>.ext i s') (fun s'=>.ret s') (fun w=>.bad w) (Go.Abs.run C n a s):=rfl
theorem Ev.seq_nrm {a b:Code} {s s':S} {o:Out} (h1:Ev C a s (.nrm s')) (h2:Ev C b s' o):Ev C (.seq a b) s o:=by
  obtain ⟨_,n1,h1⟩:=h1; obtain ⟨hg,n2,h2⟩:=h2
  refine ⟨hg,max n1 n2 + 1,fun n hn => ?_⟩
  obtain ⟨m,rfl⟩:∃ m,n=m + 1:=⟨n - 1,by omega⟩
  rw [KF,h1 m (by omega)]; exact h2 m (by omega)
theorem Ev.seq_out {a b:Code} {s:S} {o:Out} (h1:Ev C a s o) (hn:∀ s',o≠.nrm s'):Ev C (.seq a b) s o:=by
  obtain ⟨hg,n1,h1⟩:=h1
  refine ⟨hg,n1 + 1,fun n h => ?_⟩
  obtain ⟨m,rfl⟩:∃ m,n=m + 1:=⟨n - 1,by omega⟩
  rw [KF,h1 m (by omega)]
  cases o with
  | nrm s'=>exact absurd rfl (hn s')
  | _=>rfl
theorem Ev.loop_nrm {a:Code} {s s':S} {o:Out} (h1:Ev C a s (.nrm s')) (h2:Ev C (.loop a) s' o):Ev C (.loop a) s o:=by
  obtain ⟨_,n1,h1⟩:=h1; obtain ⟨hg,n2,h2⟩:=h2
  refine ⟨hg,max n1 n2 + 1,fun n hn => ?_⟩
  obtain ⟨m,rfl⟩:∃ m,n=m + 1:=⟨n - 1,by omega⟩
  rw [Vy,h1 m (by omega)]; exact h2 m (by omega)
theorem Ev.loop_out {a:Code} {s:S} {o:Out} (h1:Ev C a s o) (hn:∀ s',o≠.nrm s'):Ev C (.loop a) s o:=by
  obtain ⟨hg,n1,h1⟩:=h1
  refine ⟨hg,n1 + 1,fun n h => ?_⟩
  obtain ⟨m,rfl⟩:∃ m,n=m + 1:=⟨n - 1,by omega⟩
  rw [Vy,h1 m (by omega)]
  cases o with
  | nrm s'=>exact absurd rfl (hn s')
  | _=>rfl
noncomputable def ZL (id:Nat) (o:Out):Out:=Out.rec (motive:=fun _=>Out) (fun s'=>.nrm s') (fun id' s'=>ifB (Nat.beq id' id) (.nrm s') (.ext id' s')) (fun s'=>.ret s') (fun w=>.bad w) o
theorem Ev.block {id:Nat} {a:Code} {s:S} {o:Out} (h1:Ev C a s o):Ev C (.block id a) s (ZL id o):=by
  obtain ⟨hg,n1,h1⟩:=h1
  refine ⟨fun w => ?_,n1 + 1,fun n h => ?_⟩
  ·
    cases o with
    | nrm s'=>simp [ZL]
    | ext i s'=>show ifB _ _ _≠_; cases Nat.beq i id <;> simp
    | ret s'=>simp [ZL]
    | bad w'=>exact absurd rfl (hg w')
  ·
    obtain ⟨m,rfl⟩:∃ m,n=m + 1:=⟨n - 1,by omega⟩
    rw [JM,h1 m (by omega)]; rfl
theorem Ev.cond {c:Operand} {a b:Code} {env:T AV} {H:T Blk} {nx low:Nat} {x:Bool} {o:Out} (hx:zf (opd env c) z9=some x) (h:Ev C (ifB x a b) ⟨env,H,nx,low⟩ o):Ev C (.cond c a b) ⟨env,H,nx,low⟩ o:=by
  obtain ⟨hg,n1,h1⟩:=h
  refine ⟨hg,n1 + 1,fun n h => ?_⟩
  obtain ⟨m,rfl⟩:∃ m,n=m + 1:=⟨n - 1,by omega⟩
  have e:Go.Abs.run C (m + 1) (.cond c a b) ⟨env,H,nx,low⟩=elimO (zf (opd env c) z9) (.bad 101) (fun x=>Go.Abs.run C m (ifB x a b) ⟨env,H,nx,low⟩):=rfl
  rw [e,hx]; exact h1 m (by omega)
theorem Ev.region {id:Nat} {ops:Array Oper} {draw:Bool} {env:T AV} {H:T Blk} {nx low:Nat} {o:Out} (h:OpsEv C ops draw nx ops.toList 0 (drop C ops.toList ⟨env,H,nx + lenL ops.toList,low⟩) [] o):Ev C (.region id ops draw) ⟨env,H,nx,low⟩ o:=by
  obtain ⟨s1,fs1,⟨n0,hs⟩,rfl,hd⟩:=h
  refine ⟨fun w=>by simp,n0 + 1,fun n h => ?_⟩
  obtain ⟨m,rfl⟩:∃ m,n=m + 1:=⟨n - 1,by omega⟩
  have e:Go.Abs.run C (m + 1) (.region id ops draw) ⟨env,H,nx,low⟩=Go.Abs.region C (Go.Abs.run C m) id ops draw ⟨env,H,nx,low⟩:=rfl
  rw [e]
  rw [vM,hs m (by omega)]
  cases draw with
  | false=>rfl
  | true=>show ifB true (ifB _ _ _) _=_; rw [hd rfl]; rfl
def Ret (C:Cx):List Fr→Out→CR→Prop
  | [],_,_=>False
  | .seq f p::k,.nrm s,r=>∃ o',Ev C (xP C f p) s o'∧Ret C k o' r
  | .seq f p::k,o,r=>Ret C k o r
  | .blk id::k,o,r=>Ret C k (ZL id o) r
  | .lp f p::k,.nrm s,r=>∃ o',Ev C (xP C f p) s o'∧Ret C k o' r
  | .lp f p::k,o,r=>Ret C k o r
  | .cl g md nx0 low0 f p i base s fs::k,o,r=>∃ op l s' ft o',v8 i (uG C f p).toList=op::l∧Vx op.dst s.env s.H s.nx s.low (Yb C g md nx0 low0 o)=.ok s' ft ∧
      OpsEv C (uG C f p) (ZK C f p) base l (Nat.succ i) s' (ft::fs) o'∧Ret C k o' r
  | .top g md nx0 low0::_,o,r=>Yb C g md nx0 low0 o=r
def Den (C:Cx):M→CR→Prop
  | .code f p s k,r=>∃ o,Ev C (xP C f p) s o∧Ret C k o r
  | .out o k,r=>(∀ w,o≠.bad w)∧Ret C k o r
  | .fin r',r=>r'=r
  | .stuck _,_=>False
theorem kn (g:FuncId) (md nx0 low0:Nat) (o:Out) {p:Func×Code} (hp:funcOf C g=some p):Yb C g md nx0 low0 o =
    zD (Nat.rec (motive:=fun _=>S→CR) (finPure C p.1) (fun m _=>Nat.rec (motive:=fun _=>S→CR) (finFresh C p.1 nx0) (fun _ _=>finHeap C p.1 (C.nf g) nx0 low0) m) md) o:=by
  unfold Yb
  rw [hp,elimO_some,Fast.finPure_e,Fast.finFresh_e,Fast.finHeap_e]
theorem yQ {g:FuncId} {args:List AV} {H:T Blk} {nx low:Nat} {p:Func×Code} (hx:C.ext g args=none) (hp:funcOf C g=some p) (hl:Nat.ble (lenL args) p.1.ntmps=true) {md:Nat} {s:S}
    (hm:(md=0∧andB (allB (flat 4) args) (notB (C.nf g))=true∧s=⟨zu 0 T.nil args,T.nil,0,far⟩) ∨
      (md=1∧andB (allB (flat 4) args) (notB (C.nf g))=false∧allB (flat 4) args=true∧s=⟨zu 0 T.nil args,T.nil,nx,far⟩) ∨
      (md=2∧andB (allB (flat 4) args) (notB (C.nf g))=false∧allB (flat 4) args=false∧s=⟨zu 0 T.nil args,H,nx,far⟩))
    {o:Out} (h:Ev C (xP C g []) s o):∃ n0,∀ n,n0≤n→zx C (Go.Abs.run C n) g args H nx low=Yb C g md nx low o:=by
  obtain ⟨hg,n0,h⟩:=h
  have hc:xP C g []=p.2:=by show Qm C g=_; unfold Qm; rw [hp]; rfl
  rw [hc] at h
  refine ⟨n0,fun n hn => ?_⟩
  rw [kn g md nx low o hp]
  unfold zx
  rw [hx,elimO_none,hp,elimO_some,hl,ifB_true]
  unfold y9
  rw [zZ]
  rcases hm with ⟨rfl,e1,rfl⟩ | ⟨rfl,e1,e2,rfl⟩ | ⟨rfl,e1,e2,rfl⟩
  · rw [e1,ifB_true,h n hn]; rfl
  · rw [e1,zj,e2,ifB_true,h n hn]; rfl
  · rw [e1,zj,e2,zj,h n hn]; rfl
theorem YF {g:FuncId} {args:List AV} {H:T Blk} {nx low:Nat} {fr:Nat→List Fr} {r:CR} (hx:C.ext g args=none) (h:Den C (kZ C g args H nx fr) r) :
    ∃ md o,(∃ n0,∀ n,n0≤n→zx C (Go.Abs.run C n) g args H nx low=Yb C g md nx low o)∧Ret C (fr md) o r:=by
  unfold kZ at h
  cases hp:funcOf C g with
  | none=>rw [hp] at h; exact h.elim
  |
    some p =>
    rw [hp,elimO_some] at h
    cases hl:Nat.ble (lenL args) p.1.ntmps with
    | false=>rw [hl] at h; exact h.elim
    |
      true =>
      rw [hl,ifB_true,Fast.fillN_eq,zZ] at h
      cases h1:andB (allB (flat 4) args) (notB (C.nf g)) with
      |
        true =>
        rw [h1,ifB_true] at h
        obtain ⟨o,h2,h3⟩:=h
        exact ⟨0,o,yQ hx hp hl (.inl ⟨rfl,h1,rfl⟩) h2,h3⟩
      |
        false =>
        rw [h1,zj] at h
        cases h4:allB (flat 4) args with
        |
          true =>
          rw [h4,ifB_true] at h
          obtain ⟨o,h2,h3⟩:=h
          exact ⟨1,o,yQ hx hp hl (.inr (.inl ⟨rfl,h1,h4,rfl⟩)) h2,h3⟩
        |
          false =>
          rw [h4,zj] at h
          obtain ⟨o,h2,h3⟩:=h
          exact ⟨2,o,yQ hx hp hl (.inr (.inr ⟨rfl,h1,h4,rfl⟩)) h2,h3⟩
theorem qd (run:Code→S→Out) (dst:Option Tmp) (f:Operand) (args:Array Operand) (env:T AV) (H:T Blk) (nx low:Nat) {q:FuncId×List AV} (hq:yd env f args=some q) (hb:C.bor q.1=false) :
    ye C run dst f args env H nx low=Vx dst env H nx low (zx C run q.1 q.2 H nx low):=by
  unfold ye
  rw [hq,elimO_some,hb]; rfl
theorem JN {sp:FuncId→Bool} {o:Oper} {q:FuncId×Array Operand} (h:zbw C sp o=some q):vU o.op=some (.func q.1,q.2)∧C.bor q.1=false:=by
  obtain ⟨⟨x,args⟩,h1,h2⟩:=za.1 h
  cases x with
  |
    func g =>
    obtain ⟨hg,h3⟩:=zi.1 (show zm (andB (sp g) (notB (C.bor g))) (some (g,args))=some q from h2)
    cases h3
    exact ⟨h1,xR.1 (zl.1 hg).2⟩
  | _=>cases h2
theorem StepsEv.nil (ops:Array Oper) (base i:Nat) (s:S) (fs:List Foot):StepsEv C ops base [] i s fs s fs:=⟨0,fun _ _=>rfl⟩
theorem Qn (run:Code→S→Out) (ops:Array Oper) (base:Nat) (o:Oper) (l:List Oper) (i:Nat) (s:S) (fs:List Foot):steps C run ops base (o::l) i s fs =
    StepR.rec (motive:=fun _=>StepsR) (fun s' f=>steps C run ops base l (Nat.succ i) s' (f::fs)) (fun w=>.bad (ifB (Nat.ble w 999) (Nat.add w (Nat.mul 1000 (Nat.succ i))) w)) (stepOp C run ops (Nat.add base i) o s):=rfl
theorem OpsEv.cons {ops:Array Oper} {draw:Bool} {base:Nat} {op:Oper} {l:List Oper} {i:Nat} {s s':S} {fs:List Foot} {ft:Foot} {o:Out}
    (h1:∃ n0,∀ n,n0≤n→stepOp C (Go.Abs.run C n) ops (Nat.add base i) op s=.ok s' ft) (h2:OpsEv C ops draw base l (Nat.succ i) s' (ft::fs) o):OpsEv C ops draw base (op::l) i s fs o:=by
  obtain ⟨n1,h1⟩:=h1
  obtain ⟨s1,fs1,⟨n2,h2⟩,h3,h4⟩:=h2
  refine ⟨s1,fs1,⟨max n1 n2,fun n hn => ?_⟩,h3,h4⟩
  rw [Qn,h1 n (by omega)]
  exact h2 n (by omega)
theorem yA {N:Nat} {ops:Array Oper} {nb:Nat} {o:Oper} {s s':S} {f:Foot} (h:Fast.stepOp C (Go.Abs.run C N) ops nb o s=.ok s' f):∃ n0,∀ n,n0≤n→stepOp C (Go.Abs.run C n) ops nb o s=.ok s' f:=by
  rw [Fast.stepOp_e] at h
  refine ⟨N,fun n hn => ?_⟩
  rcases jq (C:=C) (Ql n hn) ops nb o s with e | ⟨w,e⟩
  · rw [← e]; exact h
  · rw [h] at e; cases e
variable {N:Nat} {sp:FuncId→Bool}
theorem KG {f:FuncId} {p:List Nat} {k:List Fr} {base:Nat} {r:CR} (ops:Array Oper) (draw:Bool) (ho:uG C f p=ops) (hd:ZK C f p=draw):∀ (l:List Oper) (i:Nat) (s:S) (fs:List Foot),v8 i ops.toList=l →
    Den C (Vw C (Fast.run C N) sp f p ops draw base k l i s fs) r→∃ o,OpsEv C ops draw base l i s fs o∧Ret C k o r:=by
  intro l
  induction l with
  |
    nil =>
    intro i s fs hl h
    replace h:Den C (ifB draw (ifB (andB (ys ops) (xw fs.reverse (openPairs ops))) (.out (.nrm s) k) (.stuck 3)) (.out (.nrm s) k)) r:=h
    cases draw with
    | false=>exact ⟨.nrm s,⟨s,fs,StepsEv.nil _ _ _ _ _,rfl,fun h=>by cases h⟩,h.2⟩
    |
      true =>
      rw [ifB_true] at h
      cases hx:andB (ys ops) (xw fs.reverse (openPairs ops)) with
      | false=>rw [hx] at h; exact h.elim
      |
        true =>
        rw [hx,ifB_true] at h
        exact ⟨.nrm s,⟨s,fs,StepsEv.nil _ _ _ _ _,rfl,fun _=>hx⟩,h.2⟩
  |
    cons op l ih =>
    intro i s fs hl h
    have hl':v8 (Nat.succ i) ops.toList=l:=by
      rw [vG] at hl ⊢
      have:ops.toList.drop (i + 1)=(ops.toList.drop i).drop 1:=by rw [List.drop_drop]
      rw [this,hl]; rfl
    cases hs:zbw C sp op with
    |
      none =>
      replace h:Den C (elimO (zbw C sp op) (StepR.rec (motive:=fun _=>M) (fun s' ft=>Vw C (Fast.run C N) sp f p ops draw base k l (Nat.succ i) s' (ft::fs)) (fun w=>.stuck w) (Fast.stepOp C (Fast.run C N) ops (Nat.add base i) op s)) fun q =>
        S.rec (motive:=fun _=>M) (fun env H nx low=>ifB (wanted env ops op) (elimO (vP env q.2.toList) (.stuck 4) fun l=>xg (z5 l []) fun l=>elimO (C.ext q.1 l) (kZ C q.1 l H nx fun md=>.cl q.1 md nx low f p i base ⟨env,H,nx,low⟩ fs::k) fun _=>.stuck 5)
          (StepR.rec (motive:=fun _=>M) (fun s' ft=>Vw C (Fast.run C N) sp f p ops draw base k l (Nat.succ i) s' (ft::fs)) (fun w=>.stuck w) (Fast.stepOp C (Fast.run C N) ops (Nat.add base i) op ⟨env,H,nx,low⟩))) s) r:=h
      rw [hs,elimO_none] at h
      rw [show Fast.run C N=Go.Abs.run C N by rw [Fast.run_e]] at h ih
      cases hq:Fast.stepOp C (Go.Abs.run C N) ops (Nat.add base i) op s with
      | bad w=>rw [hq] at h; exact h.elim
      |
        ok s' ft =>
        rw [hq] at h
        obtain ⟨o,h1,h2⟩:=ih (Nat.succ i) s' (ft::fs) hl' h
        exact ⟨o,OpsEv.cons (yA hq) h1,h2⟩
    |
      some q =>
      obtain ⟨env,H,nx,low⟩:=s
      replace h:Den C (elimO (zbw C sp op) (StepR.rec (motive:=fun _=>M) (fun s' ft=>Vw C (Fast.run C N) sp f p ops draw base k l (Nat.succ i) s' (ft::fs)) (fun w=>.stuck w) (Fast.stepOp C (Fast.run C N) ops (Nat.add base i) op ⟨env,H,nx,low⟩)) fun q =>
        ifB (wanted env ops op) (elimO (vP env q.2.toList) (.stuck 4) fun l=>xg (z5 l []) fun l=>elimO (C.ext q.1 l) (kZ C q.1 l H nx fun md=>.cl q.1 md nx low f p i base ⟨env,H,nx,low⟩ fs::k) fun _=>.stuck 5)
          (StepR.rec (motive:=fun _=>M) (fun s' ft=>Vw C (Fast.run C N) sp f p ops draw base k l (Nat.succ i) s' (ft::fs)) (fun w=>.stuck w) (Fast.stepOp C (Fast.run C N) ops (Nat.add base i) op ⟨env,H,nx,low⟩))) r:=h
      rw [hs,elimO_some] at h
      have hc:=JN hs
      cases hw:wanted env ops op with
      |
        false =>
        rw [hw,zj] at h
        rw [show Fast.run C N=Go.Abs.run C N by rw [Fast.run_e]] at h ih
        cases hq:Fast.stepOp C (Go.Abs.run C N) ops (Nat.add base i) op ⟨env,H,nx,low⟩ with
        | bad w=>rw [hq] at h; exact h.elim
        |
          ok s' ft =>
          rw [hq] at h
          obtain ⟨o,h1,h2⟩:=ih (Nat.succ i) s' (ft::fs) hl' h
          exact ⟨o,OpsEv.cons (yA hq) h1,h2⟩
      | true =>
      rw [hw,ifB_true] at h
      cases ha:vP env q.2.toList with
      | none=>rw [ha] at h; exact h.elim
      |
        some args =>
        rw [ha,elimO_some,y_] at h
        cases hx:C.ext q.1 (z5 args []) with
        | some _=>rw [hx] at h; exact h.elim
        |
          none =>
          rw [hx,elimO_none] at h
          obtain ⟨md,o,hcall,hr⟩:=YF (low:=low) hx h
          obtain ⟨op',l',s',ft,o',e1,e2,e3,e4⟩:=hr
          rw [ho] at e1 e3
          rw [hl] at e1
          injection e1 with ea eb
          subst ea; subst eb
          rw [hd] at e3
          refine ⟨o',OpsEv.cons ?_ e3,e4⟩
          obtain ⟨n0,hcall⟩:=hcall
          refine ⟨n0,fun n hn => ?_⟩
          have hca:yd env (.func q.1) q.2=some (q.1,z5 args []):=by
            unfold yd
            show zf (some (AV.fn (.func q.1) [] [])) _=_
            rw [zs,ha,zs]
            show xg (z5 [] (z5 args [])) _=_
            rw [y_]; rfl
          rw [yC]
          rw [hw,ifB_true]
          unfold wN
          rw [hc.1,elimO_some,qd _ _ _ _ _ _ _ _ hca hc.2]
          rw [show (q.1,z5 args []).1=q.1 from rfl,show (q.1,z5 args []).2=z5 args [] from rfl,hcall n hn]
          exact e2
theorem xW (f:FuncId) (p:List Nat) (d:Nat):xP C f (d::p)=child (xP C f p) d:=rfl
theorem zbz {f:FuncId} {p:List Nat} {s:S} {k:List Fr} {r:CR} (h:Den C (KE C (Fast.run C N) sp f p s k) r):Den C (.code f p s k) r:=by
  unfold KE at h
  cases hc:xP C f p with
  | skip=>rw [hc] at h; exact ⟨_,hc ▸ Ev.skip s,h.2⟩
  | label x=>rw [hc] at h; exact ⟨_,hc ▸ Ev.label s x,h.2⟩
  | exit id=>rw [hc] at h; exact ⟨_,hc ▸ Ev.exit s id,h.2⟩
  | ret=>rw [hc] at h; exact ⟨_,hc ▸ Ev.ret s,h.2⟩
  |
    region id ops draw =>
    rw [hc] at h
    obtain ⟨env,H,nx,low⟩:=s
    obtain ⟨o,h1,h2⟩:=KG ops draw (by unfold uG; rw [hc]) (by unfold ZK; rw [hc]) ops.toList 0 _ _ rfl h
    exact ⟨o,hc ▸ Ev.region h1,h2⟩
  |
    seq a b =>
    rw [hc] at h
    obtain ⟨o,h1,h2⟩:=h
    rw [xW,hc] at h1
    replace h1:Ev C a s o:=h1
    cases o with
    |
      nrm s' =>
      obtain ⟨o',h3,h4⟩:=h2
      rw [xW,hc] at h3
      exact ⟨o',hc ▸ Ev.seq_nrm h1 h3,h4⟩
    | ext i s'=>exact ⟨_,hc ▸ Ev.seq_out h1 (by simp),h2⟩
    | ret s'=>exact ⟨_,hc ▸ Ev.seq_out h1 (by simp),h2⟩
    | bad w=>exact absurd rfl (h1.1 w)
  |
    cond c a b =>
    rw [hc] at h
    obtain ⟨env,H,nx,low⟩:=s
    replace h:Den C (elimO (zf (opd env c) z9) (.stuck 101) fun x=>.code f (ifB x 0 1::p) ⟨env,H,nx,low⟩ k) r:=h
    cases hx:zf (opd env c) z9 with
    | none=>rw [hx] at h; exact h.elim
    |
      some x =>
      rw [hx,elimO_some] at h
      obtain ⟨o,h1,h2⟩:=h
      rw [xW,hc] at h1
      refine ⟨o,hc ▸ Ev.cond hx ?_,h2⟩
      cases x <;> exact h1
  |
    block id a =>
    rw [hc] at h
    obtain ⟨o,h1,h2⟩:=h
    rw [xW,hc] at h1
    exact ⟨_,hc ▸ Ev.block h1,h2⟩
  |
    loop a =>
    rw [hc] at h
    obtain ⟨o,h1,h2⟩:=h
    rw [xW,hc] at h1
    replace h1:Ev C a s o:=h1
    cases o with
    |
      nrm s' =>
      obtain ⟨o',h3,h4⟩:=h2
      rw [hc] at h3
      exact ⟨o',hc ▸ Ev.loop_nrm h1 h3,h4⟩
    | ext i s'=>exact ⟨_,hc ▸ Ev.loop_out h1 (by simp),h2⟩
    | ret s'=>exact ⟨_,hc ▸ Ev.loop_out h1 (by simp),h2⟩
    | bad w=>exact absurd rfl (h1.1 w)
  |
    scope a =>
    rw [hc] at h
    obtain ⟨o,h1,h2⟩:=h
    rw [xW,hc] at h1
    exact ⟨o,hc ▸ Ev.scope h1,h2⟩
  | rangeFunc _ _ _ _=>rw [hc] at h; exact h.elim
  | goto _=>rw [hc] at h; exact h.elim
  | refuse _=>rw [hc] at h; exact h.elim
theorem zdn {o:Out} {k:List Fr} {r:CR} (hg:∀ w,o≠.bad w) (h:Den C (zby C (Fast.run C N) sp o k) r):Ret C k o r:=by
  have hb:badO o=false:=by
    cases o with
    | bad w=>exact absurd rfl (hg w)
    | _=>rfl
  unfold zby at h
  rw [hb,zj] at h
  clear hb
  cases k with
  | nil=>exact h.elim
  |
    cons fr k =>
    cases fr with
    |
      seq f p =>
      cases o with
      | nrm s=>exact h
      | ext i s=>exact h.2
      | ret s=>exact h.2
      | bad w=>exact absurd rfl (hg w)
    |
      lp f p =>
      cases o with
      | nrm s=>exact h
      | ext i s=>exact h.2
      | ret s=>exact h.2
      | bad w=>exact absurd rfl (hg w)
    |
      blk id =>
      cases o with
      | nrm s=>exact h.2
      |
        ext i s =>
        replace h:Den C (ifB (Nat.beq i id) (.out (.nrm s) k) (.out (.ext i s) k)) r:=h
        show Ret C k (ifB (Nat.beq i id) (.nrm s) (.ext i s)) r
        cases hb:Nat.beq i id with
        | true=>rw [hb] at h; exact h.2
        | false=>rw [hb] at h; exact h.2
      | ret s=>exact h.2
      | bad w=>exact absurd rfl (hg w)
    | top g md nx0 low0=>exact h
    |
      cl g md nx0 low0 f p i base s fs =>
      replace h:Den C (zbx C (Fast.run C N) sp g md nx0 low0 f p i base s fs k o) r:=h
      unfold zbx at h
      cases hl:v8 i (uG C f p).toList with
      | nil=>rw [hl] at h; exact h.elim
      |
        cons op l =>
        rw [hl] at h
        obtain ⟨env,H,nx,low⟩:=s
        replace h:Den C (StepR.rec (motive:=fun _=>M) (fun s' ft=>Vw C (Fast.run C N) sp f p (uG C f p) (ZK C f p) base k l (Nat.succ i) s' (ft::fs)) (fun w=>.stuck w) (Vx op.dst env H nx low (Yb C g md nx0 low0 o))) r:=h
        cases ht:Vx op.dst env H nx low (Yb C g md nx0 low0 o) with
        | bad w=>rw [ht] at h; exact h.elim
        |
          ok s' ft =>
          rw [ht] at h
          have hl':v8 (Nat.succ i) (uG C f p).toList=l:=by
            rw [vG] at hl ⊢
            have:(uG C f p).toList.drop (i + 1)=((uG C f p).toList.drop i).drop 1:=by rw [List.drop_drop]
            rw [this,hl]; rfl
          obtain ⟨o',h1,h2⟩:=KG _ _ rfl rfl l (Nat.succ i) s' (ft::fs) hl' h
          exact ⟨op,l,s',ft,o',hl,ht,h1,h2⟩
theorem msteps_ok (n:Nat):∀ {m:M} {r:CR},Den C (msteps C (Fast.run C N) sp n m) r→Den C m r:=by
  induction n with
  | zero=>intro m r h; exact h
  |
    succ n ih =>
    intro m r h
    cases m with
    | code f p s k=>exact zbz (ih (m:=KE C (Fast.run C N) sp f p s k) h)
    |
      out o k =>
      by_cases hg:∃ w,o=.bad w
      ·
        obtain ⟨w,rfl⟩:=hg
        exact (ih (m:=zby C (Fast.run C N) sp (.bad w) k) h).elim
      · exact ⟨fun w e=>hg ⟨w,e⟩,zdn (fun w e=>hg ⟨w,e⟩) (ih (m:=zby C (Fast.run C N) sp o k) h)⟩
    | fin r'=>exact h
    | stuck w=>exact h
theorem start_ok {g:FuncId} {args:List AV} {v:AV} {rd:Option (List Nat)} (hx:C.ext g args=none) (h:Den C (startM C g args) (.value v rd)):∃ n,Go.Abs.call C n g args=.value v rd:=by
  obtain ⟨md,o,⟨n0,h1⟩,h2⟩:=YF (low:=far) hx h
  exact ⟨n0,(h1 n0 (Nat.le_refl _)).trans h2⟩
end
end Go.Abs
