/- REGIONS, CODE: what the evaluator says of them, the machine does. -/
import Derived.Test.YtdomagdnaohpbaaGreatDoorEvRun
set_option linter.unusedSimpArgs false
set_option linter.unusedVariables false
namespace Go.Abs
section
variable {C:Cx} {D:List Deferred} {F:Nat→Prop} {j:J} {env:T AV} {H:T Blk} {w:World} {N:Nat} {a:Act} {X:Nat→Prop} {run:Code→S→Out} {ops:Array Oper}
theorem Sim.world {w1:World} (sim:Sim D F N j env H a w) (h:w1.heap=w.heap):Sim D F N j env H a w1:=
  ⟨fun t=>(sim.env t).mono_w (fun _ _ h=>h) (fun B _ _=>by rw [h]) (by rw [h]; exact Nat.le_refl _),sim.heap.stay (by rw [h]; exact Nat.le_refl _) (fun B _=>by rw [h]),fun B hB=>by rw [h]; exact sim.frame B hB,sim.size,sim.defers⟩
theorem Zs {o:Oper} {nb:Nat} {s s1:S} {f:Foot} (h:stepOp C run ops nb o s=.ok s1 f) (hl:uX o.op=false):f=⟨some [],some [],false,nu⟩:=by
  obtain ⟨env,H,nx,low⟩:=s
  rw [yC] at h
  cases hw:wanted env ops o with
  | false=>rw [hw,zj,zJ] at h; cases h; rfl
  |
    true =>
    rw [hw,ifB_true] at h
    rcases vy C run o with ⟨c,g,ho,_,_⟩ | e
    · rw [ho] at hl; cases hl
    ·
      rw [e] at h
      cases hs:zY o.op C env H nb o.type with
      | none=>rw [hs] at h; cases h
      |
        some r =>
        rw [hs,zU] at h
        obtain ⟨h1,h2⟩:=qZ hl r hs
        cases h
        rw [h1,h2]; rfl
theorem kc:∀ (l:List Nat),j4 l []=false
  | []=>rfl
  | x::l=>by show ifB (memN x []) true (j4 l [])=false; rw [kc l]; rfl
theorem Vk (y:Foot):clear2 ⟨some [],some [],false,nu⟩ y=true:=by
  obtain ⟨rd,wr,mv,un⟩:=y
  unfold clear2
  rw [zl]
  refine ⟨by cases mv <;> rfl,?_⟩
  cases wr with
  | none=>rfl
  |
    some wy =>
    show andB (notB (j4 [] wy)) (andB (wJ [] rd) (wJ wy (some [])))=true
    rw [zl,zl]
    refine ⟨rfl,rfl,?_⟩
    unfold wJ
    rw [uv]
    exact .inr (by show notB (j4 wy [])=true; rw [kc]; rfl)
theorem Xk (x:Foot):clear2 x ⟨some [],some [],false,nu⟩=true:=by
  obtain ⟨rd,wr,mv,un⟩:=x
  unfold clear2
  rw [zl]
  refine ⟨by cases mv <;> rfl,?_⟩
  cases wr with
  | none=>rfl
  |
    some wx =>
    show andB (notB (j4 wx [])) (andB (wJ wx (some [])) (wJ [] rd))=true
    rw [zl,zl]
    refine ⟨by rw [kc]; rfl,?_,rfl⟩
    unfold wJ
    rw [uv]
    exact .inr (by show notB (j4 wx [])=true; rw [kc]; rfl)
theorem Zt {nx0:Nat} {ft:Nat→Foot} {s':S}:∀ {l:List Nat} {s:S},U4 C run ops nx0 ft l s s'→∀ k ∈ l,∃ o s0 s1,ops[k]? = some o∧stepOp C run ops (nx0 + k) o s0=.ok s1 (ft k)
  | [],_,_,k,hk=>by cases hk
  |
    i::l,s,h,k,hk=>by
    obtain ⟨o,s1,ho,hs,h⟩:=h
    rcases List.mem_cons.1 hk with rfl | hk
    · exact ⟨o,s,s1,ho,hs⟩
    · exact Zt h k hk
theorem Km (m i:Nat):zaJ m i=m.testBit i:=by
  unfold zaJ
  have e:Nat.land (Nat.shiftRight m i) 1=1 &&& (m >>> i):=Nat.and_comm ..
  rw [e]
  unfold Nat.testBit
  have h:1 &&& m >>> i=0∨1 &&& m >>> i=1:=by rw [Nat.one_and_eq_mod_two]; omega
  rcases h with h | h <;> rw [h] <;> rfl
theorem JJ (A:Array Nat) (l:List Edge):∀ s,jY A.toList l s=l.foldl (fun s e=>if Region.binds .any e then s ||| 2 ^ e.on ||| A.getD e.on 0 else s) s:=by
  induction l with
  | nil=>intro s; rfl
  |
    cons e l ih =>
    intro s
    rw [List.foldl_cons,← ih]
    show jY A.toList l (ifB (Region.binds .any e) (Nat.lor (Nat.lor s (Nat.pow 2 e.on)) (elimO (nthL A.toList e.on) 0 fun x=>x)) s)=_
    have h:elimO (nthL A.toList e.on) 0 (fun x=>x)=A.getD e.on 0:=by
      rw [ws,Array.getD_eq_getD_getElem?,← Array.getElem?_toList]
      cases A.toList[e.on]? <;> rfl
    rw [h]
    cases Region.binds .any e <;> rfl
theorem za2 (l:List Oper):∀ A:Array Nat,jZ l A.toList=(l.foldl (fun acc o=>acc.push (o.after.foldl (fun s e=>if Region.binds .any e then s ||| 2 ^ e.on ||| acc.getD e.on 0 else s) 0)) A).toList:=by
  induction l with
  | nil=>intro A; rfl
  |
    cons o l ih =>
    intro A
    show force (jY A.toList o.after.toList 0) (fun m=>xg (z5 A.toList [m]) (jZ l))=_
    rw [zr,y_,yg,JJ,List.foldl_cons,← ih,Array.toList_push,Array.foldl_toList]
theorem vZ (ops:Array Oper):jZ ops.toList []=(Region.before ops).toList:=by
  have h:=za2 ops.toList #[]
  rw [show (#[]:Array Nat).toList=[] from rfl] at h
  rw [h,Array.foldl_toList]; rfl
theorem JK (l:List Oper):∀ acc,(jZ l acc).length=acc.length + l.length:=by
  induction l with
  | nil=>intro acc; rfl
  |
    cons o l ih =>
    intro acc
    show (force (jY acc o.after.toList 0) (fun m=>xg (z5 acc [m]) (jZ l))).length=_
    rw [zr,y_,yg,ih]; simp; omega
theorem Vl (ops:Array Oper):(Region.before ops).size=ops.size:=by
  have h:=JK ops.toList []
  rw [vZ] at h
  simpa using h
theorem Zu {f:Oper→Nat→Nat→Bool}:∀ {l:List Oper} {ms:List Nat} {i:Nat},zaK f l ms i=true→∀ k o,l[k]? = some o→∃ m,ms[k]? = some m∧f o m (i + k)=true
  | [],_,_,_,k,o,hk=>by simp at hk
  | x::l,[],i,h,k,o,hk=>by cases h
  |
    x::l,m::ms,i,h,k,o,hk=>by
    replace h:force i (fun i=>ifB (f x m i) (zaK f l ms (Nat.succ i)) false)=true:=h
    rw [zr] at h
    cases hf:f x m i with
    | false=>rw [hf] at h; cases h
    |
      true =>
      rw [hf,ifB_true] at h
      cases k with
      | zero=>simp at hk; subst hk; exact ⟨m,rfl,hf⟩
      |
        succ k =>
        obtain ⟨m',h1,h2⟩:=Zu h k o (by simpa using hk)
        exact ⟨m',by simpa using h1,by rw [show i + (k + 1)=i.succ + k by omega]; exact h2⟩
theorem jm {f:Oper→Nat→Bool}:∀ {l:List Oper} {k0 n:Nat},UO f l k0 n=true→∀ k x,k < n→l[k]? = some x→f x (k0 + k)=true
  | [],_,_,_,k,x,_,hk=>by simp at hk
  | y::l,k0,0,h,k,x,hlt,hk=>by omega
  |
    y::l,k0,n + 1,h,k,x,hlt,hk=>by
    replace h:force k0 (fun k=>ifB (f y k) (UO f l (Nat.succ k) n) false)=true:=h
    rw [zr] at h
    cases hf:f y k0 with
    | false=>rw [hf] at h; cases h
    |
      true =>
      rw [hf,ifB_true] at h
      cases k with
      | zero=>simp at hk; subst hk; exact hf
      |
        succ k =>
        have:=jm h k x (by omega) (by simpa using hk)
        rw [show k0 + (k + 1)=k0.succ + k by omega]; exact this
theorem Yv {m i:Nat} (h:WH m i=0) {k:Nat} (hk:k < i):m.testBit k=true:=by
  unfold WH at h
  have h1:(2 ^ i - 1) &&& m≤2 ^ i - 1:=Nat.and_le_left
  have h2:(2 ^ i - 1) &&& m=2 ^ i - 1:=Nat.le_antisymm h1 (Nat.le_of_sub_eq_zero h)
  have h3:((2 ^ i - 1) &&& m).testBit k=true:=by rw [h2,Nat.testBit_two_pow_sub_one]; simpa using hk
  rw [Nat.testBit_and,Bool.and_eq_true] at h3
  exact h3.2
theorem Zv (h:ys ops=true) {i:Nat} {o:Oper} (ho:ops[i]? = some o):zeS ops o ((Region.before ops).getD i 0) i=true:=by
  unfold ys at h
  rw [vZ] at h
  obtain ⟨m,h1,h2⟩:=Zu h i o (by simpa using ho)
  rw [Nat.zero_add] at h2
  have:(Region.before ops).getD i 0=m:=by rw [Array.getD_eq_getD_getElem?,← Array.getElem?_toList,h1]; rfl
  rw [this]; exact h2
theorem Z8 (h:ys ops=true):zaY ops:=by
  intro i o ho e he hb
  have h1:=(zl.1 (Zv h ho)).1
  have h2:=z6.1 h1 e (by simpa using he)
  rw [hb] at h2
  exact zq.1 h2
theorem Zw (h:ys ops=true) {k i:Nat} {ok oi:Oper} (hlt:k < i) (hk:ops[k]? = some ok) (hi:ops[i]? = some oi) (hb:((Region.before ops).getD i 0).testBit k=false):Oper.apart ops ok oi=true:=by
  have h1:=(zl.1 (Zv h hi)).2
  generalize (Region.before ops).getD i 0=m at *
  cases hf:Nat.beq (WH m i) 0 with
  | true=>rw [Yv (beq_true.1 hf) hlt] at hb; cases hb
  |
    false =>
    rw [hf,zj] at h1
    have h2:=jm h1 k ok hlt (by simpa using hk)
    rw [Nat.zero_add,Km,hb] at h2
    exact h2
theorem Zx {m i:Nat}:∀ {l:List Oper} {k0 n:Nat},∀ k x,k < n→l[k]? = some x→uX x.op=true→m.testBit (k0 + k)=false→(k0 + k,i) ∈ kA m i l k0 n
  | [],_,_,k,x,_,hk,_,_=>by simp at hk
  | y::l,k0,0,k,x,hlt,hk,_,_=>by omega
  |
    y::l,k0,n + 1,k,x,hlt,hk,hl,hb=>by
    show _ ∈ force k0 (fun k=>ifB (uX y.op) (ifB (zaJ m k) (kA m i l (Nat.succ k) n) ((k,i)::kA m i l (Nat.succ k) n)) (kA m i l (Nat.succ k) n))
    rw [zr,Km]
    cases k with
    |
      zero =>
      simp at hk; subst hk
      rw [hl,ifB_true,show m.testBit k0=false from hb,zj]
      exact List.mem_cons_self ..
    |
      succ k =>
      have h:=Zx (m:=m) (i:=i) (l:=l) (k0:=k0.succ) (n:=n) k x (by omega) (by simpa using hk) hl (by rw [show k0.succ + k=k0 + (k + 1) by omega]; exact hb)
      rw [show k0.succ + k=k0 + (k + 1) by omega] at h
      cases uX y.op with
      | false=>exact h
      |
        true =>
        rw [ifB_true]
        cases m.testBit k0 with
        | true=>exact h
        | false=>exact List.mem_cons_of_mem _ h
theorem Yw {os:List Oper} {k:Nat} {ok oi:Oper} (hk:os[k]? = some ok) (l1:uX ok.op=true) (l2:uX oi.op=true):∀ {l:List Oper} {ms:List Nat} {i0 i:Nat} {m:Nat},l[i]? = some oi→ms[i]? = some m→k < i0 + i →
    m.testBit k=false→(k,i0 + i) ∈ WI os l ms i0
  | [],_,_,i,m,hi,_,_,_=>by simp at hi
  | x::l,[],_,i,m,_,hm,_,_=>by simp at hm
  |
    x::l,m0::ms,i0,i,m,hi,hm,hlt,hb=>by
    show _ ∈ force i0 (fun i=>ifB (uX x.op) (ifB (Nat.beq (WH m0 i) 0) (WI os l ms (Nat.succ i)) (z5 (kA m0 i os 0 i) (WI os l ms (Nat.succ i)))) (WI os l ms (Nat.succ i)))
    rw [zr]
    cases i with
    |
      zero =>
      simp at hi hm
      subst hi; subst hm
      rw [l2,ifB_true]
      cases hf:Nat.beq (WH m0 i0) 0 with
      | true=>rw [Yv (beq_true.1 hf) (by omega)] at hb; cases hb
      |
        false =>
        rw [zj,yg]
        have h:=Zx (m:=m0) (i:=i0) (l:=os) (k0:=0) (n:=i0) k ok (by omega) hk l1 (by rw [Nat.zero_add]; exact hb)
        rw [Nat.zero_add] at h
        exact List.mem_append_left _ h
    |
      succ i =>
      have h:=Yw hk l1 l2 (l:=l) (ms:=ms) (i0:=i0.succ) (i:=i) (m:=m) (by simpa using hi) (by simpa using hm) (by omega) hb
      rw [show i0.succ + i=i0 + (i + 1) by omega] at h
      cases uX x.op with
      | false=>exact h
      |
        true =>
        rw [ifB_true]
        cases Nat.beq (WH m0 i0) 0 with
        | true=>exact h
        | false=>rw [zj,yg]; exact List.mem_append_right _ h
theorem Z9 {k i:Nat} {ok oi:Oper} (hlt:k < i) (hk:ops[k]? = some ok) (hi:ops[i]? = some oi) (hb:((Region.before ops).getD i 0).testBit k=false) (l1:uX ok.op=true) (l2:uX oi.op=true):(k,i) ∈ openPairs ops:=by
  unfold openPairs
  rw [vZ]
  have hsz:(Region.before ops).toList[i]? = some ((Region.before ops).getD i 0):=by
    have hi':i < ops.size:=(Array.getElem?_eq_some_iff.1 hi).1
    have:(Region.before ops).size=ops.size:=Vl ops
    rw [Array.getElem?_toList,Array.getD_eq_getD_getElem?]
    simp [show i < (Region.before ops).size by omega]
  have h:=Yw (os:=ops.toList) (k:=k) (by simpa using hk) l1 l2 (l:=ops.toList) (ms:=(Region.before ops).toList) (i0:=0) (i:=i) (by simpa using hi) hsz (by omega) hb
  rw [Nat.zero_add] at h
  exact h
theorem vM (id:Nat) (draw:Bool) (env:T AV) (H:T Blk) (nx0 low:Nat):region C run id ops draw ⟨env,H,nx0,low⟩ =
    StepsR.rec (motive:=fun _=>Out) (fun s' fs=>ifB draw (ifB (andB (ys ops) (xw fs.reverse (openPairs ops))) (.nrm s') (.bad (Nat.add 900000 id))) (.nrm s')) (fun w=>.bad (Nat.add w (Nat.mul 1000000 id)))
      (steps C run ops nx0 ops.toList 0 (drop C ops.toList ⟨env,H,nx0 + lenL ops.toList,low⟩) []):=rfl
theorem Zy:∀ {us:List (Nat×Blk)} {H:T Blk},(∀ u ∈ us,u.2=.gone)→HeapOk (XX F j H) j w H→Trans j H w j (z_ H us) w∧HeapOk (XX F j (z_ H us)) j w (z_ H us)
  | [],H,_,ho=>⟨Trans.refl ..,ho⟩
  |
    (b,k)::us,H,h,ho=>by
    obtain rfl:k=.gone:=h (b,k) (List.mem_cons_self ..)
    obtain ⟨t1,h1⟩:=kH (b:=b) ho
    obtain ⟨t2,h2⟩:=Zy (us:=us) (H:=T.set b .gone H) (fun u hu=>h u (List.mem_cons_of_mem _ hu)) h1
    exact ⟨t1.trans t2,h2⟩
theorem Vm {env:T AV} {o:Oper}:∀ u ∈ YZ env o,u.2=.gone:=by
  intro u hu
  unfold YZ at hu
  generalize zeT o.op=x at hu
  cases x with
  | false=>cases hu
  |
    true =>
    rw [ifB_true] at hu
    cases hd:o.dst with
    | none=>rw [hd] at hu; cases hu
    |
      some d =>
      rw [hd,elimO_some] at hu
      cases hv:env.getA d with
      | none=>rw [hv] at hu; cases hu
      |
        some v =>
        rw [hv,elimO_some] at hu
        have one:∀ (b off:Nat),u ∈ ifB (Nat.beq off 0) [(b,Blk.gone)] []→u.2=.gone:=fun b off hu=>by
          cases hb:Nat.beq off 0 with
          | false=>rw [hb] at hu; cases hu
          | true=>rw [hb,ifB_true] at hu; rw [List.mem_singleton.1 hu]
        cases v <;> first | exact one _ _ hu | (cases hu; done)
theorem Zz {env:T AV}:∀ {l:List Oper},∀ u ∈ jb env l,u.2=.gone
  | [],u,hu=>by cases hu
  |
    o::l,u,hu=>by
    have hu':u ∈ z5 (YZ env o) (jb env l):=hu
    rw [yg] at hu'
    rcases List.mem_append.1 hu' with h | h
    · exact Vm u h
    · exact Zz u h
theorem za3 (C:Cx) (l:List Oper) (env:T AV) (H:T Blk) (nx low:Nat):∃ H1 xr,drop C l ⟨env,H,nx,low⟩=⟨env,H1,nx,xr⟩∧xr≤low∧(∀ b,b < xr→H1.get b=H.get b) ∧
    ∀ {D:List Deferred} {F:Nat→Prop} {N:Nat} {j:J} {a:Act} {w:World},Sim D F N j env H a w→Trans j H w j H1 w∧Sim D F N j env H1 a w:=by
  unfold drop
  cases C.dr with
  | false=>exact ⟨H,low,rfl,Nat.le_refl _,fun _ _=>rfl,fun sim=>⟨Trans.refl ..,sim⟩⟩
  |
    true =>
    rw [ifB_true]
    refine ⟨z_ H (jb env l),lower low (jb env l),?_,ka _ _,fun b hb=>yh (ut hb),fun sim => ?_⟩
    ·
      show Go.Abs.ups H (jb env l) (fun H=>force (lower low (jb env l)) fun low=>(⟨env,H,nx,low⟩:S))=_
      rw [vx,zr]
    ·
      obtain ⟨t1,h1⟩:=Zy (us:=jb env l) Zz sim.heap
      exact ⟨t1,sim.put t1 h1 (d:=none) (fun t h=>by cases h) (x:=.v (.bool true)) (v:=.bool true) (.v rfl)⟩
theorem xS {P:Program} {b:Frame} {a:Act} {k:List Item} {cs:List Frame} {w:World} {c:Code}:step P (lone (b.atR a (.code (.scope c)::k)) cs w)=.next (lone (b.atR a (.code c::.inScope c::k)) cs w):=
  step_lone_go (by simp [stepG,stepG.exec,Frame.atR])
theorem Z_ {P:Program} {b:Frame} {a:Act} {k:List Item} {cs:List Frame} {w:World} {c:Code}:step P (lone (b.atR a (.inScope c::k)) cs w)=.next (lone (b.atR a k) cs w):=
  step_lone_go (by simp [stepG,stepG.exec,Frame.atR])
theorem wL {F:Fence} {n:Nat} {P:Program} {Q:Exit→Act→World→Prop} {a:Act} {w:World} {c:Code} (h:c.wpIn F n P (Exit.noGoto Q) a w):(Code.scope c).wpIn F n P Q a w:=by
  intro b k cs hro hb hr
  have h0:(lone (b.atR a (.code (.scope c)::k)) cs w).fenced P F:=fenced_calm hb hr rfl
  obtain ⟨e,a₁,w₁,hq,harr⟩:=h b (.inScope c::k) cs hro hb hr
  cases e with
  | normal=>exact ⟨.normal,a₁,w₁,hq,.head h0 xS (StepsIn.trans harr (.one (fenced_calm hb hr rfl) Z_))⟩
  |
    exit id =>
    have hx:exitTo id (.inScope c::k)=exitTo id k:=by simp [exitTo]
    exact ⟨.exit id,a₁,w₁,hq,fun k' hk=>.head h0 xS (harr.1 k' (by rw [hx]; exact hk)),
        fun hr' hk=>let ⟨k₁,h1,h2⟩:=harr.2 hr' (by rw [hx]; exact hk); ⟨k₁,h1,.head h0 xS h2⟩⟩
  | goto l=>exact hq.elim
  | ret=>exact ⟨_,a₁,w₁,hq,.of_steps (.one h0 xS) harr⟩
  | panic ch=>exact ⟨_,a₁,w₁,hq,.of_steps (.one h0 xS) harr⟩
  | outgrown=>exact ⟨_,a₁,w₁,hq,.of_steps (.one h0 xS) harr⟩
theorem Yx (hm:C.P.follows .mixedOrders=true) (hrun:Vd C run) (hext:ExtOk C) {id:Nat} {draw:Bool} {s:S} (hd:ops.toList.all (uh N)=true) (hb:∀ n,region C run id ops draw s≠.bad n) (st:Start D F N j s a w) :
    ∀ (r:Option Nat) (m:Nat),(Code.region id ops draw).wpIn (fW r) m C.P (PostOut D F N j s w (region C run id ops draw s)) a w:=by
  intro r m
  have hnd:∀ (i:Nat) (o:Oper),ops[i]? = some o→∀ c,o.op≠.defer c:=fun i o ho c =>
    Vj (List.all_eq_true.1 hd o (by have:=Array.mem_of_getElem? ho; simpa using this)) c
  have hQ:∀ (s0:S) (out:Out),¬ LetsOut (PostOut D F N j s0 w out):=fun s0 out ⟨a',w',s',j',_,h⟩=>by
    rcases h with ⟨_,h⟩ | ⟨_,_,h⟩ | ⟨_,h⟩ <;> cases h
  obtain ⟨env,H,nx0,low⟩:=s
  rw [vM] at hb ⊢
  rw [yb,Array.length_toList] at hb ⊢
  obtain ⟨H1,xr,e0,hlow1,hsame1,hdrop⟩:=za3 C ops.toList env H (nx0 + ops.size) low
  rw [e0] at hb ⊢
  cases hst:steps C run ops nx0 ops.toList 0 ⟨env,H1,nx0 + ops.size,xr⟩ [] with
  | bad w=>rw [hst] at hb; exact absurd rfl (hb _)
  |
    ok s' fs =>
    rw [hst] at hb
    obtain ⟨g,e1,e2,e3⟩:=Zm (ops:=ops) (fun k=>.inl (by simp)) hst
    rw [List.append_nil] at e1
    have hruns:=e3 (fun (i:Nat)=>(g[i]?).getD ⟨none,none,true,nu⟩) (fun k x hk=>by simp [hk])
    have e2:g.length=ops.size:=by rw [e2,Array.length_toList]
    rw [Array.length_toList] at hruns
    generalize hft:(fun (i:Nat)=>(g[i]?).getD (⟨none,none,true,nu⟩:Foot))=ft at hruns
    let Inv:List Nat→S→Act→World→Prop:=fun l s a' w'=>∃ j',Post D F N nx0 j ⟨env,H,nx0 + ops.size,low⟩ w s a' w' j'∧(∀ i ∈ l,j' (nx0 + i)=none)∧∀ i ∈ l,i < ops.size
    have start:∀ w1:World,Still w w1→w1.heap=w.heap→Inv (List.range' 0 ops.size) ⟨env,H1,nx0 + ops.size,xr⟩ a w1:=fun w1 hst1 hw1 =>
      ⟨j,⟨Trans.trans ⟨hst1,by rw [hw1]; exact Nat.le_refl _,fun _ _ _=>by rw [hw1],fun _ _ h=>h,fun _ _ h=>h⟩ (hdrop (st.sim.world hw1)).1,(hdrop (st.sim.world hw1)).2,fun _ _=>rfl,fun b hb=>st.fresh b (Nat.le_trans (Nat.le_add_right ..) hb),Nat.le_refl _,hlow1,hsame1⟩,
        fun i _=>st.fresh _ (Nat.le_add_right ..),fun i hi=>by have:=List.mem_range'_1.1 hi; omega⟩
    have step:∀ {Q:Exit→Act→World→Prop} (i:Nat) (l:List Nat) (s s1:S) (a:Act) (w:World) (o:Oper) (K:Act→World→Prop),ops[i]? = some o→i ∉ l→Inv (i::l) s a w→stepOp C run ops (nx0 + i) o s=.ok s1 (ft i) →
        (∀ a' w',Inv l s1 a' w'→K a' w')→wpOp C.P ops Q i K a w:=by
      rintro Q i l s s1 a w o K ho hni ⟨j',hp,hpend,hlt⟩ hs hK
      unfold wpOp
      rw [ho]
      have hdi:uh N o=true:=List.all_eq_true.1 hd o (by have:=Array.mem_of_getElem? ho; simpa using this)
      have hi:=hlt i (List.mem_cons_self ..)
      have hnx:nx0 + ops.size≤s.nx:=hp.nx
      refine Kl hrun hext hs hdi hp.start (hpend i (List.mem_cons_self ..)) (by omega) fun j'' a' w' hst=>hK a' w' ?_
      refine ⟨j'',⟨hp.trans.trans hst.trans,hst.sim,fun b hb=>(hst.old b (by omega) (by omega)).trans (hp.old b hb),hst.fresh,Nat.le_trans hp.nx hst.nx,Nat.le_trans hst.low hp.low,fun b hb=>(hst.same b hb).trans (hp.same b (Nat.lt_of_lt_of_le hb hst.low))⟩,fun i' hi' => ?_,fun i' hi'=>hlt i' (List.mem_cons_of_mem _ hi')⟩
      have hne:i'≠i:=fun e=>hni (e ▸ hi')
      have:=hlt i' (List.mem_cons_of_mem _ hi')
      rw [hst.old _ (by omega) (by omega)]
      exact hpend i' (List.mem_cons_of_mem _ hi')
    have fin:∀ {out:Out},out=.nrm s'→∀ a' w',Inv [] s' a' w'→PostOut D F N j ⟨env,H,nx0,low⟩ w out .normal a' w':=by
      rintro out rfl a' w' ⟨j',hp,_,_⟩
      exact ⟨s',j',⟨hp.trans,hp.sim,hp.old,hp.fresh,Nat.le_trans (Nat.le_add_right ..) hp.nx,hp.low,hp.same⟩,.inl ⟨rfl,rfl⟩⟩
    cases draw with
    |
      false =>
      have hout:StepsR.rec (motive:=fun _=>Out) (fun s' fs=>ifB false (ifB (andB (ys ops) (xw fs.reverse (openPairs ops))) (.nrm s') (.bad (Nat.add 900000 id))) (.nrm s')) (fun w=>.bad (Nat.add w (Nat.mul 1000000 id))) (StepsR.ok s' fs)=Out.nrm s':=rfl
      rw [hout]
      refine wpIn_region (U8 hnd (hQ _ _) ?_)
      have list:∀ (w0:World) (l:List Nat) (s:S) (a:Act) (w':World),w0=w→l.Nodup→U4 C run ops nx0 ft l s s'→Inv l s a w'→wpOps C.P ops (PostOut D F N j ⟨env,H,nx0,low⟩ w (.nrm s')) l a w':=by
        intro w0 l
        induction l with
        |
          nil =>
          intro s a w' _ _ hr hi
          have:s=s':=hr
          subst this
          exact fin rfl a w' hi
        |
          cons i l ih =>
          intro s a w' hw0 hnd hr hi
          obtain ⟨o,s1,ho,hs,hr⟩:=hr
          rw [wpOps_cons]
          exact step i l s s1 a w' o _ ho (List.nodup_cons.1 hnd).1 hi hs fun a' w'' hi'=>ih s1 a' w'' hw0 (List.nodup_cons.1 hnd).2 hr hi'
      rw [List.range_eq_range']
      exact list w _ _ a w rfl List.nodup_range' hruns (start w (Still.refl w) rfl)
    |
      true =>
      have hout:StepsR.rec (motive:=fun _=>Out) (fun s' fs=>ifB true (ifB (andB (ys ops) (xw fs.reverse (openPairs ops))) (.nrm s') (.bad (Nat.add 900000 id))) (.nrm s')) (fun w=>.bad (Nat.add w (Nat.mul 1000000 id))) (StepsR.ok s' fs) =
        ifB (andB (ys ops) (xw fs.reverse (openPairs ops))) (.nrm s') (.bad (Nat.add 900000 id)):=rfl
      rw [hout] at hb ⊢
      cases hc:andB (ys ops) (xw fs.reverse (openPairs ops)) with
      | false=>rw [hc] at hb; exact absurd rfl (hb _)
      |
        true =>
        rw [ifB_true]
        obtain ⟨c1,c2⟩:=zl.1 hc
        refine wpIn_region_any hm (U9 hnd (hQ _ _) _ (JI (C:=C) (run:=run) (nx0:=nx0) (ft:=ft) (Inv:=Inv) (s':=s') (Z8 c1) (fun k i ok oi hlt hk hi hbit=>⟨Zw c1 hlt hk hi hbit,?_⟩) step
          (fun l l' s a w hsub ⟨j',h1,h2,h3⟩=>⟨j',h1,fun i hi=>h2 i (hsub i hi),fun i hi=>h3 i (hsub i hi)⟩) (fin rfl) ops.size (Array.replicate ops.size false) (List.range' 0 ops.size) _ a _ (by simp) (by simp) (fun k => ?_) List.pairwise_lt_range' ?_ hruns (start _ ⟨rfl,rfl,fun _=>rfl⟩ rfl)))
        ·
          have hki:k < ops.size∧i < ops.size:=⟨(Array.getElem?_eq_some_iff.1 hk).1,(Array.getElem?_eq_some_iff.1 hi).1⟩
          obtain ⟨ok',s0,s1,hok',hsk⟩:=Zt hruns k (List.mem_range'_1.2 (by omega))
          obtain ⟨oi',s2,s3,hoi',hsi⟩:=Zt hruns i (List.mem_range'_1.2 (by omega))
          rw [hk] at hok'; cases hok'
          rw [hi] at hoi'; cases hoi'
          cases lk:uX ok.op with
          | false=>rw [Zs hsk lk]; exact Vk _
          |
            true =>
            cases li:uX oi.op with
            | false=>rw [Zs hsi li]; exact Xk _
            |
              true =>
              have h1:=z6.1 c2 _ (Z9 hlt hk hi hbit lk li)
              rw [e1,List.reverse_reverse] at h1
              simp only [ws] at h1
              have gk:g[k]? = some (ft k):=by rw [← hft]; simp [show k < g.length by omega]
              have gi:g[i]? = some (ft i):=by rw [← hft]; simp [show i < g.length by omega]
              rw [gk,gi] at h1
              exact h1
        ·
          rw [List.mem_range'_1]
          constructor
          · intro h; exact ⟨by omega,by simp [Array.getD_eq_getD_getElem?,show k < ops.size by omega]⟩
          · rintro ⟨h,_⟩; omega
        ·
          intro i o ho hl
          exfalso
          simp only [Array.getD_eq_getD_getElem?,Array.getElem?_replicate] at hl
          split at hl <;> cases hl
theorem PostOut.trans {s s1:S} {j1:J} {a1:Act} {w1:World} {out:Out} {e:Exit} {a':Act} {w':World} (h:Post D F N s.nx j s w s1 a1 w1 j1) (h':PostOut D F N j1 s1 w1 out e a' w'):PostOut D F N j s w out e a' w':=by
  obtain ⟨s',j',hp,ho⟩:=h'
  exact ⟨s',j',h.comp hp h.nx,ho⟩
def za4 (C:Cx) (n:Nat):Prop:=∀ (c:Code) (s:S),(∀ k,Go.Abs.run C n (.loop c) s≠.bad k)→∀ (r:Option Nat) (m:Nat) (D:List Deferred) (F:Nat→Prop) (N:Nat) (j:J) (a:Act) (w:World),yl N c=true→Start D F N j s a w →
  ∀ Q:Exit→Act→World→Prop,(∀ e a' w',PostOut D F N j s w (Go.Abs.run C n (.loop c) s) e a' w'→Q e a' w')→Code.roundsIn (fW r) m C.P c Q n a w
theorem Vn (n:Nat) (c:Code) (s:S):Go.Abs.run C (n + 1) c s=wO C (Go.Abs.run C n) c s:=rfl
theorem v1 (hm:C.P.follows .mixedOrders=true) (hext:ExtOk C):∀ n,Vd C (Go.Abs.run C n)∧za4 C n:=by
  intro n
  induction n with
  | zero=>exact ⟨fun c s hb=>absurd rfl (hb 0),fun c s hb=>absurd rfl (hb 0)⟩
  |
    succ n ih =>
    obtain ⟨ihr,ihl⟩:=ih
    have loop:za4 C (n + 1):=by
      intro c s hb r m D F N j a w hlt st Q hQ
      have e:Go.Abs.run C (n + 1) (.loop c) s=Out.rec (motive:=fun _=>Out) (fun s'=>Go.Abs.run C n (.loop c) s') (fun i s'=>.ext i s') (fun s'=>.ret s') (fun w=>.bad w) (Go.Abs.run C n c s):=rfl
      rw [e] at hb hQ
      have hb0:∀ k,Go.Abs.run C n c s≠.bad k:=fun k hk=>by rw [hk] at hb; exact absurd rfl (hb k)
      rw [roundsIn_succ]
      refine wpIn_mono (ihr c s hb0 r m D F N j a w hlt st) fun ex a' w' hpost => ?_
      obtain ⟨s',j',hp,hout⟩:=hpost
      rcases hout with ⟨h1,rfl⟩ | ⟨id,h1,rfl⟩ | ⟨h1,rfl⟩
      ·
        rw [h1] at hb hQ
        exact ihl c s' hb r m D F N j' a' w' hlt hp.start Q fun e a'' w'' hq=>hQ e a'' w'' (PostOut.trans hp hq)
      ·
        rw [h1] at hQ
        exact hQ _ _ _ ⟨s',j',hp,.inr (.inl ⟨id,rfl,rfl⟩)⟩
      ·
        rw [h1] at hQ
        exact hQ _ _ _ ⟨s',j',hp,.inr (.inr ⟨rfl,rfl⟩)⟩
    refine ⟨fun c s hb r m D F N j a w hlt st => ?_,loop⟩
    cases c with
    | region id ops draw=>exact Yx hm ihr hext hlt hb st r m
    | skip=>exact wpIn_skip ⟨s,j,st.post,.inl ⟨rfl,rfl⟩⟩
    | label l=>exact wpIn_label ⟨s,j,st.post,.inl ⟨rfl,rfl⟩⟩
    |
      seq x y =>
      have e:Go.Abs.run C (n + 1) (.seq x y) s=Out.rec (motive:=fun _=>Out) (fun s'=>Go.Abs.run C n y s') (fun i s'=>.ext i s') (fun s'=>.ret s') (fun w=>.bad w) (Go.Abs.run C n x s):=rfl
      rw [e] at hb ⊢
      have hlt':=Bool.and_eq_true _ _ ▸ hlt
      have hb0:∀ k,Go.Abs.run C n x s≠.bad k:=fun k hk=>by rw [hk] at hb; exact absurd rfl (hb k)
      refine wpIn_seq (wpIn_mono (ihr x s hb0 r m D F N j a w hlt'.1 st) fun ex a' w' hpost => ?_)
      obtain ⟨s',j',hp,hout⟩:=hpost
      rcases hout with ⟨h1,rfl⟩ | ⟨id,h1,rfl⟩ | ⟨h1,rfl⟩
      ·
        rw [h1] at hb ⊢
        exact wpIn_mono (ihr y s' hb r m D F N j' a' w' hlt'.2 hp.start) fun e a'' w'' hq=>PostOut.trans hp hq
      ·
        rw [h1]
        exact ⟨s',j',hp,.inr (.inl ⟨id,rfl,rfl⟩)⟩
      ·
        rw [h1]
        exact ⟨s',j',hp,.inr (.inr ⟨rfl,rfl⟩)⟩
    |
      cond c x y =>
      obtain ⟨env,H,nx,low⟩:=s
      have e:Go.Abs.run C (n + 1) (.cond c x y) ⟨env,H,nx,low⟩=elimO (zf (opd env c) z9) (.bad 101) (fun b=>Go.Abs.run C n (ifB b x y) ⟨env,H,nx,low⟩):=rfl
      rw [e] at hb ⊢
      have hlt':=Bool.and_eq_true _ _ ▸ hlt
      cases hx:zf (opd env c) z9 with
      | none=>rw [hx] at hb; exact absurd rfl (hb 101)
      |
        some t =>
        rw [hx] at hb
        obtain ⟨v,hv,ht⟩:=za.1 hx
        have hr:=st.sim.pre.opd c v hv
        rw [hr.bool_of] at ht
        have hc:a.eval c=.bool t:=by
          cases hac:a.eval c <;> rw [hac] at ht <;> cases ht
          rfl
        refine wpIn_cond hc ?_
        cases t with
        | true=>exact ihr x _ hb r m D F N j a w hlt'.1 st
        | false=>exact ihr y _ hb r m D F N j a w hlt'.2 st
    |
      block id x =>
      have e:Go.Abs.run C (n + 1) (.block id x) s=Out.rec (motive:=fun _=>Out) (fun s'=>.nrm s') (fun id' s'=>ifB (Nat.beq id' id) (.nrm s') (.ext id' s')) (fun s'=>.ret s') (fun w=>.bad w) (Go.Abs.run C n x s):=rfl
      rw [e] at hb ⊢
      have hb0:∀ k,Go.Abs.run C n x s≠.bad k:=fun k hk=>by rw [hk] at hb; exact absurd rfl (hb k)
      refine wpIn_block (wpIn_mono (ihr x s hb0 r m D F N j a w hlt st) fun ex a' w' hpost => ?_)
      obtain ⟨s',j',hp,hout⟩:=hpost
      rcases hout with ⟨h1,rfl⟩ | ⟨id',h1,rfl⟩ | ⟨h1,rfl⟩
      ·
        rw [h1]
        exact ⟨s',j',hp,.inl ⟨rfl,rfl⟩⟩
      ·
        rw [h1]
        show if id'=id then PostOut D F N j s w (ifB (Nat.beq id' id) (.nrm s') (.ext id' s')) .normal a' w' else PostOut D F N j s w (ifB (Nat.beq id' id) (.nrm s') (.ext id' s')) (.exit id') a' w'
        by_cases h:id'=id
        ·
          rw [if_pos h,beq_true.2 h]
          exact ⟨s',j',hp,.inl ⟨rfl,rfl⟩⟩
        ·
          rw [if_neg h]
          have hf:Nat.beq id' id=false:=by
            cases hb:Nat.beq id' id with
            | false=>rfl
            | true=>exact absurd (beq_true.1 hb) h
          rw [hf]
          exact ⟨s',j',hp,.inr (.inl ⟨id',rfl,rfl⟩)⟩
      ·
        rw [h1]
        exact ⟨s',j',hp,.inr (.inr ⟨rfl,rfl⟩)⟩
    | loop x=>exact wpIn_loop_rounds (n + 1) (loop x s hb r m D F N j a w hlt st _ fun e a' w' h=>h)
    |
      scope x =>
      have e:Go.Abs.run C (n + 1) (.scope x) s=Go.Abs.run C n x s:=rfl
      rw [e] at hb ⊢
      refine wL (wpIn_mono (ihr x s hb r m D F N j a w hlt st) fun ex a' w' hpost => ?_)
      have hp:=hpost
      obtain ⟨s',j',_,hout⟩:=hpost
      rcases hout with ⟨_,rfl⟩ | ⟨id,_,rfl⟩ | ⟨_,rfl⟩ <;> exact hp
    | exit id=>exact wpIn_exit ⟨s,j,st.post,.inr (.inl ⟨id,rfl,rfl⟩)⟩
    | ret=>exact wpIn_ret ⟨s,j,st.post,.inr (.inr ⟨rfl,rfl⟩)⟩
    | _=>exact absurd rfl (hb 102)
theorem qv (hm:C.P.follows .mixedOrders=true) (hext:ExtOk C) {n:Nat} {f:FuncId} {args:List AV} {v:AV} {rd:Option (List Nat)} (h:Go.Abs.call C n f args=.value v rd) (w:World) (vs:Array Value) (hr:wK (fun _=>False) J0 w args vs) :
    Answers C.P f vs w fun rv w'=>Still w w'∧w.heap.size≤w'.heap.size∧(∀ B,B < w.heap.size→w'.heap[B]? = w.heap[B]?)∧Rel (fun _=>False) J0 w' v rv:=by
  have own0:∀ (j:J) B,¬ Own j T.nil B:=fun j B ⟨b,k,S,hb,_⟩=>by simp at hb
  have hX:∀ B,XX (fun _=>False) J0 T.nil B→False:=fun B h=>h.elim id (own0 J0 B)
  have hbad:∀ k,zx C (Go.Abs.run C n) f args T.nil 0 far≠.bad k:=fun k hk=>by
    unfold Go.Abs.call at h
    rw [hk] at h; cases h
  have hans:=jD (v1 hm hext n).1 hext (F:=fun _=>False) (j:=J0) (H:=T.nil) (w:=w) hbad ⟨fun b k t n hb=>by simp at hb,fun b l hb=>by simp at hb,fun b b' k k' B S S' hb=>by simp at hb,Full.nil⟩ (fun B hB=>hB.elim) (fun _ _=>rfl)
    ⟨hr.1,fun i x y hx hy=>(hr.2 i x y hx hy).mono_w (fun B _ h=>(hX B h).elim) (fun _ _ _=>rfl) (Nat.le_refl _)⟩
  refine hans.mono fun rv w' ⟨v',j',H',nx',low',hcr,ht,hrel,_,_,hfr,_,_,_⟩ => ?_
  unfold Go.Abs.call at h
  rcases hcr with ⟨rd',hcr,rfl,rfl,rfl⟩ | hcr | ⟨us,hcr,rfl,rfl⟩
  ·
    rw [h] at hcr; cases hcr
    refine ⟨ht.still,ht.size,fun B hB=>ht.keep B hB (own0 J0 B),?_⟩
    have hj':j'=J0:=funext fun b=>hfr b (Nat.zero_le _)
    subst hj'
    exact hrel.mono_w (fun B _ h=>h.elim) (fun _ _ _=>rfl) (Nat.le_refl _)
  · rw [h] at hcr; cases hcr
  · rw [h] at hcr; cases hcr
end
end Go.Abs
