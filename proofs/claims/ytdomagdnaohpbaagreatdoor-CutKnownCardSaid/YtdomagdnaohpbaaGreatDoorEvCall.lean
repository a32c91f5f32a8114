/- A CALL: what the evaluator says of it, the machine does. -/
import Derived.Test.YtdomagdnaohpbaaGreatDoorEvFreeze
import Derived.Test.YtdomagdnaohpbaaGreatDoorEvOrder
import Derived.LoopN
import Derived.Scope
import Derived.Tactics
set_option linter.unusedSimpArgs false
set_option linter.unusedVariables false
namespace Go.Abs
structure Post (D:List Deferred) (F:Nat→Prop) (N m:Nat) (j:J) (s:S) (w:World) (s':S) (a':Act) (w':World) (j':J):Prop where
  trans:Trans j s.H w j' s'.H w'
  sim:Sim D F N j' s'.env s'.H a' w'
  old:∀ b,b < m→j' b=j b
  fresh:∀ b,s'.nx≤b→j' b=none
  nx:s.nx≤s'.nx
  low:s'.low≤s.low
  same:∀ b,b < s'.low→s'.H.get b=s.H.get b
structure Start (D:List Deferred) (F:Nat→Prop) (N:Nat) (j:J) (s:S) (a:Act) (w:World):Prop where
  sim:Sim D F N j s.env s.H a w
  fresh:∀ b,s.nx≤b→j b=none
theorem Start.post {D:List Deferred} {F:Nat→Prop} {N m:Nat} {j:J} {s:S} {a:Act} {w:World} (h:Start D F N j s a w):Post D F N m j s w s a w j:=
  ⟨Trans.refl ..,h.sim,fun _ _=>rfl,h.fresh,Nat.le_refl _,Nat.le_refl _,fun _ _=>rfl⟩
theorem Post.start {D:List Deferred} {F:Nat→Prop} {N m:Nat} {j j':J} {s s':S} {a':Act} {w w':World} (h:Post D F N m j s w s' a' w' j'):Start D F N j' s' a' w':=⟨h.sim,h.fresh⟩
theorem Post.comp {D:List Deferred} {F:Nat→Prop} {N m m':Nat} {j j' j'':J} {s s' s'':S} {a' a'':Act} {w w' w'':World} (h:Post D F N m j s w s' a' w' j') (h':Post D F N m' j' s' w' s'' a'' w'' j'') (hm:m≤m'):Post D F N m j s w s'' a'' w'' j'':=
  ⟨
   h.trans.trans h'.trans,h'.sim,fun b hb=>(h'.old b (by omega)).trans (h.old b hb),h'.fresh,Nat.le_trans h.nx h'.nx,Nat.le_trans h'.low h.low,
   fun b hb=>(h'.same b hb).trans (h.same b (Nat.lt_of_lt_of_le hb h'.low))⟩
def PostOut (D:List Deferred) (F:Nat→Prop) (N:Nat) (j:J) (s:S) (w:World) (out:Out) (e:Exit) (a':Act) (w':World):Prop:=
  ∃ s' j',Post D F N s.nx j s w s' a' w' j'∧((out=.nrm s'∧e=.normal)∨(∃ id,out=.ext id s'∧e=.exit id)∨(out=.ret s'∧e=.ret))
abbrev fW (r:Option Nat):Fence:={ Fence.wide with round:=r }
def Vd (C:Cx) (run:Code→S→Out):Prop:=∀ (c:Code) (s:S),(∀ n,run c s≠.bad n)→∀ (r:Option Nat) (m:Nat) (D:List Deferred) (F:Nat→Prop) (N:Nat) (j:J) (a:Act) (w:World),yl N c=true→Start D F N j s a w →
  c.wpIn (fW r) m C.P (PostOut D F N j s w (run c s)) a w
def Answers (P:Program) (f:FuncId) (args:Array Value) (w:World) (R:Value→World→Prop):Prop:=
  (∃ rv w',(callFunc f args).run P w=.ok (.value rv) w'∧R rv w')∨((callFunc f args).run P w=.ok (.enter f args) w∧Calls P f args w fun e w'=>∃ rv,e=.returned rv∧R rv w')
theorem Answers.mono {P:Program} {f:FuncId} {args:Array Value} {w:World} {R R':Value→World→Prop} (h:Answers P f args w R) (hr:∀ v w',R v w'→R' v w'):Answers P f args w R':=by
  rcases h with ⟨rv,w',h1,h2⟩ | ⟨h1,h2⟩
  · exact .inl ⟨rv,w',h1,hr _ _ h2⟩
  · exact .inr ⟨h1,Calls.mono h2 fun e w' ⟨rv,he,h⟩=>⟨rv,he,hr _ _ h⟩⟩
def wK (X:Nat→Prop) (j:J) (w:World) (l:List AV) (vs:Array Value):Prop:=l.length=vs.size∧∀ (i:Nat) (x:AV) (y:Value),l[i]? = some x→vs[i]? = some y→Rel X j w x y
def ExtOk (C:Cx):Prop:=∀ (f:FuncId) (l:List AV) (v:AV),C.ext f l=some v→∀ (X:Nat→Prop) (j:J) (w:World) (args:Array Value),(∀ B,X B→B < w.heap.size)→wK X j w l args →
  Answers C.P f args w fun rv w'=>Still w w'∧w.heap.size≤w'.heap.size∧(∀ B,B < w.heap.size→w'.heap[B]? = w.heap[B]?)∧Rel X j w' v rv
section
variable {C:Cx} {D:List Deferred} {F:Nat→Prop} {j:J} {env:T AV} {H:T Blk} {w:World} {N:Nat} {a:Act} {X:Nat→Prop}
noncomputable def kQ (l:List AV):AV:=if l.length=1 then (l[0]?).getD (.tuple l) else .tuple l
theorem w9 {β:Type} (l:List AV) (k:AV→β):xH l k=k (kQ l):=by
  unfold xH kQ
  rw [yb,ws]
  cases h:Nat.beq l.length 1 with
  |
    true =>
    rw [ifB_true,if_pos (beq_true.1 h)]
    cases l[0]? <;> rfl
  | false=>rw [zj,if_neg (fun e=>by rw [beq_true.2 e] at h; cases h)]
def Xj (tmps:Array Value) (r:ResultVar):Sem Value:=match r with
  | .tmp t=>pure (tmps.getD t undef)
  | .cell b t=>do loadVar t (← asAddr (tmps.getD b undef))
theorem Ve (fn:Func) (tmps:Array Value):results fn tmps=(do let vs ← fn.results.mapM (Xj tmps); pure (if h:vs.size=1 then vs[0] else .tuple vs)):=by
  unfold results
  have e:(fun (r:ResultVar)=>(match r with | .tmp t=>pure (tmps.getD t undef) | .cell a t=>do loadVar t (← asAddr (tmps.getD a undef)):Sem Value))=Xj tmps:=by
    funext r; cases r <;> rfl
  rw [← e]
  rfl
theorem za0 {r:ResultVar} {x:AV} (sim:Sim D F N j env H a w) (h:zfG C env H r=some x) :
    ∃ v,(Xj a.tmps r).run C.P w=.ok v w∧Rel (XX F j H) j w x v:=by
  cases r with
  |
    tmp t =>
    have this:=sim.env t
    change elimO (env.get t) (some (.tuple [])) some=some x at h
    refine ⟨_,rfl,?_⟩
    cases hg:env.get t with
    | none=>rw [hg] at h this; cases h; exact this
    | some z=>rw [hg] at h this; cases h; exact this
  |
    cell b ty =>
    replace h:=za.1 h; obtain ⟨y,hy,h⟩:=h
    have this:=sim.env b
    rw [T.getA_eq] at hy; rw [hy] at this
    change Rel (XX F j H) j w y _ at this
    cases y <;> try (cases h; done)
    rename_i k off
    replace h:=za.1 h; obtain ⟨q,hq,h⟩:=h
    show ∃ v,(do loadVar ty (← asAddr (a.tmps.getD b undef)):Sem Value).run C.P w=.ok v w∧_
    generalize a.tmps.getD b undef=u at this
    cases this with
    |
      hp hb =>
      rename_i B S
      obtain ⟨v,hv,hr⟩:=kJ (C:=C) (sim.heap.at (wc hq) hb off) h
      exact ⟨v,by simp [asAddr,hv],hr⟩
theorem wd {fn:Func} {l:List AV} (sim:Sim D F N j env H a w) (h:zN C env H fn.results.toList=some l) :
    ∃ rv,(results fn a.tmps).run C.P w=.ok rv w∧Rel (XX F j H) j w (kQ l) rv:=by
  have key:∀ (rs:List ResultVar) (l:List AV),xE (zfG C env H) rs=some l →
      ∃ vs:List Value,(rs.mapM (Xj a.tmps)).run C.P w=.ok vs w∧wK (XX F j H) j w l vs.toArray:=by
    intro rs
    induction rs with
    | nil=>intro l h; cases h; exact ⟨[],by simp,rfl,fun i x y hx=>by simp at hx⟩
    |
      cons r rs ih =>
      intro l h
      rw [kE] at h
      replace h:=za.1 h; obtain ⟨x,hx,h⟩:=h
      replace h:=za.1 h; obtain ⟨l',hl',h⟩:=h
      cases h
      obtain ⟨v,h1,h2⟩:=za0 sim hx
      obtain ⟨vs,h3,h4,h5⟩:=ih l' hl'
      refine ⟨v::vs,by rw [List.mapM_cons]; simp only [Sem.run_bind,h1,Result.andThen_ok,h3,Sem.run_pure],by simpa using h4,fun i y u hy hu => ?_⟩
      cases i with
      | zero=>simp at hy hu; subst hy; subst hu; exact h2
      | succ i=>simp at hy hu; exact h5 i y u hy (by simpa using hu)
  obtain ⟨vs,h1,h2,h3⟩:=key _ _ h
  refine ⟨_,by rw [Ve,Array.mapM_eq_mapM_toList]; simp only [Sem.run_bind,Sem.run_map,h1,Result.andThen_ok,Sem.run_pure]; rfl,?_⟩
  unfold kQ
  have hlen:l.length=vs.length:=by simpa using h2
  by_cases h1:l.length=1
  ·
    rw [if_pos h1,dif_pos (by simpa using hlen ▸ h1)]
    have hl0:l[0]? = some l[0]:=by simp [h1]
    rw [hl0]
    exact h3 0 l[0] vs[0] (by simp [h1]) (by simp)
  ·
    rw [if_neg h1,dif_neg (by simpa using hlen ▸ h1)]
    exact .tuple h2 h3
theorem uz {fn:Func} {c:Code} (h:enters fn=some c):fn.body=some c∧fn.name ≠ "runtime.NumGoroutine" ∧ yl fn.ntmps c=true:=by
  unfold enters at h
  split at h
  ·
    rename_i c' hb
    split at h
    · cases h
    ·
      rename_i hc
      cases h
      simp only [Bool.or_eq_true,not_or,Bool.not_eq_true',Bool.not_eq_false,decide_eq_true_eq] at hc
      exact ⟨hb,hc.1,hc.2⟩
  · cases h
theorem xk {f:FuncId} {p:Func×Code} (h:funcOf C f=some p):C.P.funcs[f]? = some p.1∧enters p.1=some p.2:=by
  unfold funcOf at h
  rw [Kc] at h
  split at h
  ·
    rename_i fn hf
    split at h
    · rename_i c he; cases h; exact ⟨hf,he⟩
    · cases h
  · cases h
theorem xB {f:FuncId} {fn:Func} {c:Code} {args:Array Value} (hf:C.P.funcs[f]? = some fn) (he:enters fn=some c):(callFunc f args).run C.P w=.ok (.enter f args) w:=by
  obtain ⟨h1,h2,_⟩:=uz he
  simp [callFunc,hf,h1,h2]
theorem uA {args:List AV} {vs:Array Value} {n:Nat} (hr:wK X j w args vs) (hn:args.length≤n) (t:Nat) :
    Rel X j w (((zu 0 T.nil args).get t).getD (.tuple [])) ((vs++Array.replicate (n - vs.size) undef).getD t undef):=by
  rw [wT]
  by_cases h:t < args.length
  ·
    rw [if_pos (by omega)]
    have hx:args[t - 0]? = some args[t]:=by simp [h]
    rw [hx]
    have hlt:t < vs.size:=by have:=hr.1; omega
    have e:(vs++Array.replicate (n - vs.size) undef).getD t undef=vs[t]:=by
      simp [Array.getD_eq_getD_getElem?,Array.getElem?_append,show t < vs.size by omega]
    rw [e]
    exact hr.2 t _ _ (by simp [h]) (by simp [hlt])
  ·
    rw [if_neg (by omega),T.get_nil]
    have e:(vs++Array.replicate (n - vs.size) undef).getD t undef=undef:=by
      have:=hr.1
      simp only [Array.getD_eq_getD_getElem?,Array.getElem?_append,if_neg (show ¬ t < vs.size by omega),Array.getElem?_replicate]
      split <;> rfl
    rw [e]
    exact .tuple rfl (fun i x y hx=>by simp at hx)
def kR (F:Nat→Prop) (j:J) (H:T Blk) (nx low:Nat) (w:World) (cr:CR) (rv:Value) (w':World):Prop:=
  ∃
    v j' H' nx' low',((∃ rd,cr=.value v rd∧H'=H∧nx'=nx∧low'=low)∨cr=.heap v H' nx' low'∨∃ us,cr=.fresh v us nx'∧H'=z_ H us∧low'=lower low us)∧Trans j H w j' H' w'∧Rel (XX F j' H') j' w' v rv∧HeapOk (XX F j' H') j' w' H' ∧
    (∀ b,b < nx→j' b=j b)∧(∀ b,nx'≤b→j' b=none)∧nx≤nx'∧low'≤low∧∀ b,b < low'→H'.get b=H.get b
theorem Zo {fn:Func} {s:S} (h:∀ n,finPure C fn s≠.bad n):∃ l v,zN C s.env s.H fn.results.toList=some l∧freeze s.H 0 20 (kQ l)=some v∧finPure C fn s=.value v (some []):=by
  obtain ⟨env,H,nx,low⟩:=s
  have e:finPure C fn ⟨env,H,nx,low⟩=elimO (zf (zN C env H fn.results.toList) fun l=>xH l (freeze H 0 20)) (.bad 5) (fun v=>.value v (some [])):=rfl
  rw [e] at h ⊢
  cases hr:zN C env H fn.results.toList with
  | none=>rw [hr] at h; exact absurd rfl (h 5)
  |
    some l =>
    rw [hr] at h
    simp only [zs,w9] at h ⊢
    cases hf:freeze H 0 20 (kQ l) with
    | none=>rw [hf] at h; exact absurd rfl (h 5)
    | some v=>exact ⟨l,v,rfl,hf,rfl⟩
theorem U5 {fn:Func} {keep:Bool} {nx low:Nat} {s:S} (h:∀ n,finHeap C fn keep nx low s≠.bad n):∃ l,zN C s.env s.H fn.results.toList=some l ∧
    (finHeap C fn keep nx low s=.heap (kQ l) s.H s.nx (min low s.low)∨(nx≤s.low∧∃ v,zV s.H nx 20 (kQ l)=some v∧finHeap C fn keep nx low s=.value v none)):=by
  obtain ⟨env,H,nx',low'⟩:=s
  have e:finHeap C fn keep nx low ⟨env,H,nx',low'⟩=elimO (zN C env H fn.results.toList) (CR.bad 7) (fun l=>xH l fun r =>
    ifB (orB keep (Nat.ble (Nat.succ low') nx)) (force (wM low low') fun low=>CR.heap r H nx' low)
      (elimO (zV H nx 20 r) (force (wM low low') fun low=>CR.heap r H nx' low) (fun v=>CR.value v none))):=rfl
  rw [e] at h ⊢
  cases hr:zN C env H fn.results.toList with
  | none=>rw [hr] at h; exact absurd rfl (h 7)
  |
    some l =>
    refine ⟨l,rfl,?_⟩
    simp only [elimO_some,w9,zr,xA]
    cases hk:orB keep (Nat.ble (Nat.succ low') nx) with
    | true=>exact .inl rfl
    |
      false =>
      rw [zj]
      cases hf:zV H nx 20 (kQ l) with
      | none=>exact .inl rfl
      |
        some v =>
        refine .inr ⟨?_,v,rfl,rfl⟩
        apply Nat.le_of_not_lt
        intro hlt
        rw [j5,Bool.or_eq_false_iff] at hk
        have:Nat.ble (Nat.succ low') nx=true:=zq.2 hlt
        rw [this] at hk; cases hk.2
theorem Vf {fn:Func} {nx:Nat} {s:S} (h:∀ n,finFresh C fn nx s≠.bad n):∃ l us,zN C s.env s.H fn.results.toList=some l ∧
    (∀ q ∈ us,nx≤q.1∧s.H.get q.1=some q.2)∧finFresh C fn nx s=.fresh (kQ l) us s.nx:=by
  obtain ⟨env,H,nx',low'⟩:=s
  have e:finFresh C fn nx ⟨env,H,nx',low'⟩=elimO (zN C env H fn.results.toList) (CR.bad 7) (fun l=>xH l fun r =>
    elimO (zf (kz H 20 r) fun bs=>xE (fun b=>zf (H.get b) fun k=>zm (Nat.ble nx b) (some (b,k))) bs) (CR.bad 9) fun us=>CR.fresh r us nx'):=rfl
  rw [e] at h ⊢
  cases hr:zN C env H fn.results.toList with
  | none=>rw [hr] at h; exact absurd rfl (h 7)
  |
    some l =>
    rw [hr] at h
    simp only [elimO_some,w9] at h ⊢
    cases hg:zf (kz H 20 (kQ l)) fun bs=>xE (fun b=>zf (H.get b) fun k=>zm (Nat.ble nx b) (some (b,k))) bs with
    | none=>rw [hg] at h; exact absurd rfl (h 9)
    |
      some us =>
      obtain ⟨bs,hbs,hb⟩:=za.1 hg
      refine ⟨l,us,rfl,?_,rfl⟩
      clear hg h hbs
      induction bs generalizing us with
      | nil=>cases hb; exact fun q hq=>by cases hq
      |
        cons b bs ih =>
        rw [kE] at hb
        obtain ⟨q,h1,hb⟩:=za.1 hb
        obtain ⟨us',h2,hb⟩:=za.1 hb
        cases hb
        intro q' hq'
        rcases List.mem_cons.1 hq' with rfl | hq'
        ·
          obtain ⟨k,h3,h4⟩:=za.1 h1
          obtain ⟨h5,h6⟩:=zi.1 h4
          cases h6
          exact ⟨zq.1 h5,h3⟩
        · exact ih us' h2 q' hq'
theorem xa {us:List (Nat×Blk)}:∀ {H:T Blk} {b:Nat} {k:Blk},(z_ H us).get b=some k→(b,k) ∈ us∨(b ∉ us.map (·.1)∧H.get b=some k):=by
  induction us with
  | nil=>intro H b k h; exact .inr ⟨by simp,h⟩
  |
    cons x us ih =>
    intro H b k h
    rcases ih (H:=T.set x.1 x.2 H) h with h | ⟨h1,h2⟩
    · exact .inl (List.mem_cons_of_mem _ h)
    ·
      rw [T.get_set] at h2
      by_cases e:b=x.1
      ·
        rw [if_pos e] at h2; cases h2
        subst e
        exact .inl (List.mem_cons_self ..)
      ·
        rw [if_neg e] at h2
        exact .inr ⟨by simp only [List.map_cons,List.mem_cons,not_or]; exact ⟨e,h1⟩,h2⟩
theorem vq {f:S→CR} {o:Out} (h:∀ n,zD f o≠.bad n):∃ s,(o=.nrm s∨o=.ret s)∧zD f o=f s:=by
  cases o with
  | nrm s=>exact ⟨s,.inl rfl,rfl⟩
  | ret s=>exact ⟨s,.inr rfl,rfl⟩
  | ext i s=>exact absurd rfl (h 6)
  | bad w=>exact absurd rfl (h w)
theorem jD {run:Code→S→Out} (hrun:Vd C run) (hext:ExtOk C) {f:FuncId} {args:List AV} {nx low:Nat} {vs:Array Value} (hbad:∀ n,zx C run f args H nx low≠.bad n)
    (ho:HeapOk (XX F j H) j w H) (hframe:∀ B,F B→B < w.heap.size ∧ ¬ Own j H B) (hfresh:∀ b,nx≤b→j b=none) (hr:wK (XX F j H) j w args vs) :
    Answers C.P f vs w (kR F j H nx low w (zx C run f args H nx low)):=by
  have hXlt:∀ B,XX F j H B→B < w.heap.size:=fun B hB=>hB.elim (fun h=>(hframe B h).1) (fun h=>ho.own_lt h)
  have stay:∀ {w':World},Still w w'→w.heap.size≤w'.heap.size→(∀ B,B < w.heap.size→w'.heap[B]? = w.heap[B]?)→Trans j H w j H w':=fun hst hs hk=>⟨hst,hs,fun B hB _=>hk B hB,fun _ _ h=>h,fun _ _ h=>h⟩
  have valued:∀ {w':World} {v:AV} {rv:Value} {rd:Option (List Nat)} {cr:CR},cr=.value v rd→Trans j H w j H w'→HeapOk (XX F j H) j w' H→Rel (XX F j H) j w' v rv→kR F j H nx low w cr rv w':=
    fun {w'} {v} {rv} {rd} {cr} hcr ht ho' hr'=>⟨v,j,H,nx,low,.inl ⟨rd,hcr,rfl,rfl,rfl⟩,ht,hr',ho',fun _ _=>rfl,hfresh,Nat.le_refl _,Nat.le_refl _,fun _ _=>rfl⟩
  cases hx:C.ext f args with
  |
    some v =>
    have e:zx C run f args H nx low=.value v (some []):=by unfold zx; rw [hx]; rfl
    rw [e]
    exact (hext f args v hx _ j w vs hXlt hr).mono fun rv w' ⟨h0,h1,h2,h3⟩=>valued rfl (stay h0 h1 h2) (ho.stay h1 h2) h3
  |
    none =>
    cases hf:funcOf C f with
    | none=>exact absurd (by unfold zx; rw [hx,hf]; rfl) (hbad 1)
    |
      some p =>
      cases hb:Nat.ble (lenL args) p.1.ntmps with
      | false=>exact absurd (by unfold zx; rw [hx,hf]; simp only [elimO_none,elimO_some]; rw [hb]; rfl) (hbad 2)
      |
        true =>
        have e:zx C run f args H nx low=y9 C run f args H nx low p.1 p.2:=by unfold zx; rw [hx,hf]; simp only [elimO_none,elimO_some]; rw [hb]; rfl
        rw [e] at hbad ⊢
        have hle:args.length≤p.1.ntmps:=by rw [← yb]; exact zq.1 hb
        obtain ⟨hfn,hen⟩:=xk hf
        obtain ⟨hbody,_,hlt⟩:=uz hen
        refine .inr ⟨xB hfn hen,calls_of_wp hfn hbody ?_⟩
        have hsize:(vs++Array.replicate (p.1.ntmps - vs.size) undef).size=p.1.ntmps:=by have:=hr.1; simp; omega
        have e2:y9 C run f args H nx low p.1 p.2=ifB (andB (allB (flat 4) args) (notB (C.nf f))) (zD (finPure C p.1) (run p.2 ⟨zu 0 T.nil args,T.nil,0,far⟩))
            (ifB (allB (flat 4) args) (zD (finFresh C p.1 nx) (run p.2 ⟨zu 0 T.nil args,T.nil,nx,far⟩)) (zD (finHeap C p.1 (C.nf f) nx low) (run p.2 ⟨zu 0 T.nil args,H,nx,far⟩))):=by unfold y9; rw [zZ]
        rw [e2] at hbad ⊢
        cases hc:andB (allB (flat 4) args) (notB (C.nf f)) with
        |
          true =>
          rw [hc,ifB_true] at hbad
          rw [ifB_true]
          obtain ⟨hflat,_⟩:=zl.1 hc
          have own0:∀ B,¬ Own J0 T.nil B:=fun B ⟨b,k,S,hb,_⟩=>by simp at hb
          have start:Start [] (XX F j H) p.1.ntmps J0 ⟨zu 0 T.nil args,T.nil,0,far⟩ { tmps:=vs++Array.replicate (p.1.ntmps - vs.size) undef,defers:=[] } w:=by
            refine ⟨⟨fun t=>uA ⟨hr.1,fun i x y hx hy => ?_⟩ hle t,⟨fun b k t n hb=>by simp at hb,fun b l hb=>by simp at hb,fun b b' k k' B S S' hb=>by simp at hb,Full.nil⟩,fun B hB=>⟨hXlt B hB,own0 B⟩,hsize,rfl⟩,fun _ _=>rfl⟩
            exact ((hr.2 i x y hx hy).flat 4 (z6.1 hflat x (List.mem_of_getElem? hx))).mono_w (fun B _ h=>h.elim id (fun h=>absurd h (own0 B))) (fun _ _ _=>rfl) (Nat.le_refl _)
          obtain ⟨s',hs',hd⟩:=vq hbad
          rw [hd] at hbad ⊢
          obtain ⟨l,v,hl,hv,hfin⟩:=Zo hbad
          rw [hfin]
          have hnb:∀ n,run p.2 ⟨zu 0 T.nil args,T.nil,0,far⟩≠.bad n:=fun n hn=>by rcases hs' with h | h <;> rw [h] at hn <;> cases hn
          refine wp_mono (wpIn_wide.1 (hrun p.2 _ hnb none 0 _ _ _ _ _ _ hlt start)) fun ex a' w' hpost => ?_
          obtain ⟨s2,j',post,hout⟩:=hpost
          have fin:∀ s2,Post [] (XX F j H) p.1.ntmps 0 J0 ⟨zu 0 T.nil args,T.nil,0,far⟩ w s2 a' w' j'→s2=s'→a'.defers=[]∧∃ u,(results p.1 a'.tmps).run C.P w'=.ok u w' ∧
              ∃ rv,Ending.returned u=.returned rv∧kR F j H nx low w (.value v (some [])) rv w':=by
            intro s2 post e
            subst e
            obtain ⟨rv,g1,g2⟩:=wd post.sim hl
            refine ⟨post.sim.defers,rv,g1,rv,rfl,?_⟩
            have hk:∀ B,B < w.heap.size→w'.heap[B]? = w.heap[B]?:=fun B hB=>post.trans.keep B hB (own0 B)
            exact valued rfl (stay post.trans.still post.trans.size hk) (ho.stay post.trans.size hk) (qu post.sim.heap (fun B _ hB=>.inl hB) (fun b k B S _ h1 h2 h3 _ hB=>(post.sim.frame B hB).2 ⟨b,k,S,h1,h2,h3⟩) 20 _ _ _ hv g2).lift
          rcases hout with ⟨e1,rfl⟩ | ⟨id,e1,rfl⟩ | ⟨e1,rfl⟩ <;> rcases hs' with h | h <;> rw [h] at e1 <;> cases e1
          · exact fin _ post rfl
          · exact fin _ post rfl
        |
          false =>
          rw [hc,zj] at hbad
          rw [zj]
          cases hfl:allB (flat 4) args with
          | true =>
          rw [hfl,ifB_true] at hbad
          rw [ifB_true]
          have own0:∀ B,¬ Own J0 T.nil B:=fun B ⟨b,k,S,hb,_⟩=>by simp at hb
          have start:Start [] (XX F j H) p.1.ntmps J0 ⟨zu 0 T.nil args,T.nil,nx,far⟩ { tmps:=vs++Array.replicate (p.1.ntmps - vs.size) undef,defers:=[] } w:=by
            refine ⟨⟨fun t=>uA ⟨hr.1,fun i x y hx hy => ?_⟩ hle t,⟨fun b k t n hb=>by simp at hb,fun b l hb=>by simp at hb,fun b b' k k' B S S' hb=>by simp at hb,Full.nil⟩,fun B hB=>⟨hXlt B hB,own0 B⟩,hsize,rfl⟩,fun _ _=>rfl⟩
            exact ((hr.2 i x y hx hy).flat 4 (z6.1 hfl x (List.mem_of_getElem? hx))).mono_w (fun B _ h=>h.elim id (fun h=>absurd h (own0 B))) (fun _ _ _=>rfl) (Nat.le_refl _)
          obtain ⟨s',hs',hd⟩:=vq hbad
          rw [hd] at hbad ⊢
          obtain ⟨l,us,hl,hus,hfin⟩:=Vf hbad
          rw [hfin]
          have hnb:∀ n,run p.2 ⟨zu 0 T.nil args,T.nil,nx,far⟩≠.bad n:=fun n hn=>by rcases hs' with h | h <;> rw [h] at hn <;> cases hn
          refine wp_mono (wpIn_wide.1 (hrun p.2 _ hnb none 0 _ _ _ _ _ _ hlt start)) fun ex a' w' hpost => ?_
          obtain ⟨s2,j',post,hout⟩:=hpost
          have fin:∀ s2,Post [] (XX F j H) p.1.ntmps nx J0 ⟨zu 0 T.nil args,T.nil,nx,far⟩ w s2 a' w' j'→s2=s'→a'.defers=[]∧∃ u,(results p.1 a'.tmps).run C.P w'=.ok u w' ∧
              ∃ rv,Ending.returned u=.returned rv∧kR F j H nx low w (.fresh (kQ l) us s'.nx) rv w':=by
            intro s2 post e
            subst e
            obtain ⟨rv,g1,g2⟩:=wd post.sim hl
            refine ⟨post.sim.defers,rv,g1,rv,rfl,?_⟩
            have hk:∀ B,B < w.heap.size→w'.heap[B]? = w.heap[B]?:=fun B hB=>post.trans.keep B hB (own0 B)
            have hjn:∀ b p,j' b=some p→nx≤b:=fun b p hp=>by
              apply Nat.le_of_not_lt; intro hlt2
              rw [post.old b hlt2] at hp; cases hp
            have hjo:∀ b p,j b=some p→b < nx:=fun b p hp=>by
              apply Nat.lt_of_not_le; intro hge; rw [hfresh b hge] at hp; cases hp
            obtain ⟨j2,hj2⟩:∃ j2:J,j2=fun b=>if b < nx then j b else j' b:=⟨_,rfl⟩
            have sub1:∀ b p,j b=some p→j2 b=some p:=fun b p hp=>by rw [hj2]; show (if b < nx then j b else j' b)=_; rw [if_pos (hjo b p hp)]; exact hp
            have sub2:∀ b p,j' b=some p→j2 b=some p:=fun b p hp=>by rw [hj2]; show (if b < nx then j b else j' b)=_; rw [if_neg (by have:=hjn b p hp; omega)]; exact hp
            have part:∀ b k,(z_ H us).get b=some k→k.live=true→∀ p,j2 b=some p→(nx≤b∧s2.H.get b=some k∧j' b=some p)∨(b < nx∧H.get b=some k∧j b=some p):=by
              intro b k hb hlv p hp
              rcases xa hb with hm | ⟨_,hb⟩
              ·
                obtain ⟨h1,h2⟩:=hus _ hm
                refine .inl ⟨h1,h2,?_⟩
                rw [hj2] at hp
                replace hp:(if b < nx then j b else j' b)=some p:=hp
                rw [if_neg (by omega)] at hp; exact hp
              ·
                obtain ⟨B,S,hjb,_⟩:=ho.block hb hlv
                have:=hjo b _ hjb
                refine .inr ⟨this,hb,?_⟩
                rw [hj2] at hp
                replace hp:(if b < nx then j b else j' b)=some p:=hp
                rw [if_pos this] at hp; exact hp
            have own2:∀ B,Own j2 (z_ H us) B→Own j' s2.H B∨Own j H B:=fun B ⟨b,k,S,h1,h2,h3⟩=>by
              rcases part b k h1 h2 _ h3 with ⟨_,h4,h5⟩ | ⟨_,h4,h5⟩
              · exact .inl ⟨b,k,S,h4,h2,h5⟩
              · exact .inr ⟨b,k,S,h4,h2,h5⟩
            have newB:∀ B,Own j' s2.H B→w.heap.size≤B:=fun B hB=>by
              apply Nat.le_of_not_lt; intro hlt2
              exact own0 B (post.trans.own B hlt2 hB)
            have ownOld:∀ B,B < w.heap.size→Own j2 (z_ H us) B→Own j H B:=fun B hB h=>(own2 B h).elim (fun h=>absurd (newB B h) (by omega)) id
            have relN:∀ {x:AV} {v:Value},Rel (XX (XX F j H) j' s2.H) j' w' x v→Rel (XX F j2 (z_ H us)) j2 w' x v:=fun h =>
              h.mono (fun B _ hX=>hX.elim (fun h=>.inl (.inl h)) (fun h=>(own2 B h).elim (fun h=>.inr h) (fun h=>.inl (.inr h)))) sub2 (fun _ _ _=>rfl) (Nat.le_refl _)
            have relO:∀ {x:AV} {v:Value},Rel (XX F j H) j w x v→Rel (XX F j2 (z_ H us)) j2 w' x v:=fun h =>
              h.mono (fun B hB hX=>hX.elim (fun h=>.inl h) (fun h=>.inr (ownOld B hB h))) sub1 (fun B hB _=>hk B hB) post.trans.size
            refine ⟨kQ l,j2,z_ H us,s2.nx,lower low us,.inr (.inr ⟨us,rfl,rfl,rfl⟩),⟨post.trans.still,post.trans.size,fun B hB _=>hk B hB,ownOld,sub1⟩,relN g2,⟨?_,?_,?_,fun b t n hb=>(xa hb).elim (fun hm=>post.sim.heap.full b t n (hus _ hm).2) (fun h=>ho.full b t n h.2)⟩,fun b hb => ?_,fun b hb => ?_,post.nx,ka _ _,fun b hb=>yh (ut hb)⟩
            ·
              intro b kk t n hb hkk
              rcases xa hb with hm | ⟨_,hb⟩
              ·
                obtain ⟨B,S,arr,e,q1,q2,q3,q4,q5⟩:=post.sim.heap.body b kk t n (hus _ hm).2 hkk
                exact ⟨B,S,arr,e,sub2 _ _ q1,q2,q3,q4,fun i x hx=>by obtain ⟨v,q6,q7⟩:=q5 i x hx; exact ⟨v,q6,relN q7⟩⟩
              ·
                obtain ⟨B,S,arr,e,q1,q2,q3,q4,q5⟩:=ho.body b kk t n hb hkk
                have hBlt:B < w.heap.size:=(Array.getElem?_eq_some_iff.1 q2).1
                exact ⟨B,S,arr,e,sub1 _ _ q1,by rw [hk B hBlt]; exact q2,q3,q4,fun i x hx=>by obtain ⟨v,q6,q7⟩:=q5 i x hx; exact ⟨v,q6,relO q7⟩⟩
            ·
              intro b m hb
              rcases xa hb with hm | ⟨_,hb⟩
              ·
                obtain ⟨B,S,es,c,q1,q2,q3,q4,q5⟩:=post.sim.heap.maps b m (hus _ hm).2
                exact ⟨B,S,es,c,sub2 _ _ q1,q2,q3,q4,fun i k x e hx he=>relN (q5 i k x e hx he)⟩
              ·
                obtain ⟨B,S,es,c,q1,q2,q3,q4,q5⟩:=ho.maps b m hb
                have hBlt:B < w.heap.size:=(Array.getElem?_eq_some_iff.1 q2).1
                exact ⟨B,S,es,c,sub1 _ _ q1,by rw [hk B hBlt]; exact q2,q3,q4,fun i k x e hx he=>relO (q5 i k x e hx he)⟩
            ·
              intro b b' k k' B S S' h1 h2 h3 h4 h5 h6
              rcases part b k h1 h2 _ h5 with ⟨_,p1,p2⟩ | ⟨_,p1,p2⟩ <;> rcases part b' k' h3 h4 _ h6 with ⟨_,r1,r2⟩ | ⟨_,r1,r2⟩
              · exact post.sim.heap.inj b b' k k' B S S' p1 h2 r1 h4 p2 r2
              ·
                have:=newB B ⟨b,k,S,p1,h2,p2⟩
                have:=ho.own_lt ⟨b',k',S',r1,h4,r2⟩
                omega
              ·
                have:=newB B ⟨b',k',S',r1,h4,r2⟩
                have:=ho.own_lt ⟨b,k,S,p1,h2,p2⟩
                omega
              · exact ho.inj b b' k k' B S S' p1 h2 r1 h4 p2 r2
            · rw [hj2]; show (if b < nx then j b else j' b)=_; rw [if_pos hb]
            ·
              rw [hj2]; show (if b < nx then j b else j' b)=_
              have:=post.nx
              replace this:nx≤s2.nx:=this
              rw [if_neg (by omega)]; exact post.fresh b hb
          rcases hout with ⟨e1,rfl⟩ | ⟨id,e1,rfl⟩ | ⟨e1,rfl⟩ <;> rcases hs' with h | h <;> rw [h] at e1 <;> cases e1
          · exact fin _ post rfl
          · exact fin _ post rfl
          | false =>
          rw [hfl,zj] at hbad
          rw [zj]
          have start:Start [] F p.1.ntmps j ⟨zu 0 T.nil args,H,nx,far⟩ { tmps:=vs++Array.replicate (p.1.ntmps - vs.size) undef,defers:=[] } w:=
            ⟨⟨fun t=>uA hr hle t,ho,hframe,hsize,rfl⟩,hfresh⟩
          obtain ⟨s',hs',hd⟩:=vq hbad
          rw [hd] at hbad ⊢
          obtain ⟨l,hl,hfin⟩:=U5 hbad
          have hnb:∀ n,run p.2 ⟨zu 0 T.nil args,H,nx,far⟩≠.bad n:=fun n hn=>by rcases hs' with h | h <;> rw [h] at hn <;> cases hn
          refine wp_mono (wpIn_wide.1 (hrun p.2 _ hnb none 0 _ _ _ _ _ _ hlt start)) fun ex a' w' hpost => ?_
          obtain ⟨s2,j',post,hout⟩:=hpost
          have fin:∀ s2,Post [] F p.1.ntmps nx j ⟨zu 0 T.nil args,H,nx,far⟩ w s2 a' w' j'→s2=s'→a'.defers=[]∧∃ u,(results p.1 a'.tmps).run C.P w'=.ok u w' ∧
              ∃ rv,Ending.returned u=.returned rv∧kR F j H nx low w (finHeap C p.1 (C.nf f) nx low s') rv w':=by
            intro s2 post e
            subst e
            obtain ⟨rv,g1,g2⟩:=wd post.sim hl
            refine ⟨post.sim.defers,rv,g1,rv,rfl,?_⟩
            rcases hfin with hfin | ⟨hlow,v,hv,hfin⟩
            ·
              rw [hfin]
              exact ⟨_,j',_,_,_,.inr (.inl rfl),post.trans,g2,post.sim.heap,post.old,post.fresh,post.nx,Nat.min_le_left ..,fun b hb=>post.same b (Nat.lt_of_lt_of_le hb (Nat.min_le_right ..))⟩
            ·
              rw [hfin]
              obtain ⟨t1,t2⟩:=ho.same post.trans post.sim.heap hfresh (fun b hb=>post.same b (by omega))
              have lt:∀ b p,j b=some p→b < nx:=fun b p h=>by
                apply Nat.lt_of_not_le; intro hge; rw [hfresh b hge] at h; cases h
              have sub:∀ b k S B,H.get b=some k→k.live=true→j b=some (B,S)→s2.H.get b=some k∧j' b=some (B,S):=fun b k S B h1 h2 h3 =>
                ⟨by rw [post.same b (by have:=lt b _ h3; omega)]; exact h1,post.trans.j _ _ h3⟩
              have hr0:=fun x y v hv g2=>qu (n:=nx) (X:=XX F j H) post.sim.heap (fun B _ hB=>hB.imp id fun ⟨b,k,S,h1,h2,h3⟩=>⟨b,k,S,(sub b k S B h1 h2 h3).1,h2,(sub b k S B h1 h2 h3).2⟩)
                (fun b k B S hb h1 h2 h3 h9 hB=>by
                  rcases hB with hB | ⟨b2,k2,S2,h4,h5,h6⟩
                  · exact (post.sim.frame B hB).2 ⟨b,k,S,h1,h2,h3⟩
                  ·
                    have:=sub b2 k2 S2 B h4 h5 h6
                    have:=lt b2 _ h6
                    rcases post.sim.heap.inj b b2 k k2 B S S2 h1 h2 (sub b2 k2 S2 B h4 h5 h6).1 h5 h3 (sub b2 k2 S2 B h4 h5 h6).2 with e | ⟨t,t',e,_⟩
                    · omega
                    · have:=h9 _ _ e; omega) 20 x y v hv g2
              exact valued rfl t1 t2 (Z7 (fun x y v h1 h2=>(hr0 x y v h1 h2).lift) (fun b hb=>post.old b hb) 20 _ _ _ hv g2)
          rcases hout with ⟨e1,rfl⟩ | ⟨id,e1,rfl⟩ | ⟨e1,rfl⟩ <;> rcases hs' with h | h <;> rw [h] at e1 <;> cases e1
          · exact fin _ post rfl
          · exact fin _ post rfl
theorem Vg {us:List (Nat×Blk)}:∀ {H H':T Blk} {b:Nat},b ∈ us.map (·.1)→(z_ H us).get b=(z_ H' us).get b:=by
  induction us with
  | nil=>intro H H' b h; simp at h
  |
    cons x us ih =>
    intro H H' b h
    show (z_ (T.set x.1 x.2 H) us).get b=(z_ (T.set x.1 x.2 H') us).get b
    by_cases hm:b ∈ us.map (·.1)
    · exact ih hm
    ·
      rw [yh hm,yh hm]
      have e:b=x.1:=by
        simp only [List.map_cons,List.mem_cons] at h
        exact h.resolve_right hm
      rw [e,T.get_set,T.get_set,if_pos rfl,if_pos rfl]
theorem U6 {x:AV} {q:AV×List Nat} (h:k9 H x=some q):(∃ b off len es lo ex t n,x=.hs b off len es lo ex∧H.get b=some (.cells t n)∧1≤lo∧zay t=true∧q=(.vs t off len es lo ex,[b]))∨(Go.Abs.flat 4 x=true∧q=(x,[])):=by
  have other:zm (Go.Abs.flat 4 x) (some (x,[]))=some q→Go.Abs.flat 4 x=true∧q=(x,([]:List Nat)):=fun h=>by
    obtain ⟨h1,h2⟩:=zi.1 h
    cases h2; exact ⟨h1,rfl⟩
  cases x <;> first | exact .inr (other h) | skip
  rename_i b off len es lo ex
  replace h:zf (yD H b) (fun p=>zm (andB (Nat.ble 1 lo) (zay p.1)) (some (AV.vs p.1 off len es lo ex,[b])))=some q:=h
  obtain ⟨c,hc,h⟩:=za.1 h
  obtain ⟨hg,h⟩:=zi.1 h
  cases h
  rw [zl,zq] at hg
  exact .inl ⟨b,off,len,es,lo,ex,c.1,c.2,rfl,wj hc,hg.1,hg.2,rfl⟩
theorem Zp:∀ {l:List AV} {q:List AV×List Nat},vj H l=some q→q.1.length=l.length∧∀ (i:Nat) (x:AV),l[i]? = some x→∃ y,k9 H x=some y∧q.1[i]? = some y.1∧∀ b ∈ y.2,b ∈ q.2
  | [],q,h=>by cases h; exact ⟨rfl,fun i x hx=>by simp at hx⟩
  |
    x::l,q,h=>by
    obtain ⟨y,hy,h⟩:=za.1 (show zf (k9 H x) (fun y=>zf (vj H l) fun r=>some (y.1::r.1,z5 y.2 r.2))=some q from h)
    obtain ⟨r,hr,h⟩:=za.1 h
    cases h
    obtain ⟨h1,h2⟩:=Zp hr
    refine ⟨by simp [h1],fun i z hz => ?_⟩
    cases i with
    | zero=>simp at hz; subst hz; exact ⟨y,hy,rfl,fun b hb=>by show b ∈ z5 y.2 r.2; rw [yg]; exact List.mem_append_left _ hb⟩
    |
      succ i =>
      obtain ⟨y2,g1,g2,g3⟩:=h2 i z (by simpa using hz)
      exact ⟨y2,g1,by simpa using g2,fun b hb=>by show b ∈ z5 y.2 r.2; rw [yg]; exact List.mem_append_right _ (g3 b hb)⟩
def zfO (F:Nat→Prop) (j:J) (H:T Blk) (l:List Nat):Nat→Prop:=fun B=>XX F j H B∧∀ b ∈ l,∀ S,j b≠some (B,S)
theorem za1 (ho:HeapOk (XX F j H) j w H) {l:List AV} {q:List AV×List Nat} {vs:Array Value} (h:vj H l=some q) (hr:wK (XX F j H) j w l vs):wK (XX (zfO F j H q.2) j T.nil) j w q.1 vs:=by
  have own0:∀ B,¬ Own j T.nil B:=fun B ⟨b,k,S,hb,_⟩=>by simp at hb
  have less:∀ B,XX (zfO F j H q.2) j T.nil B→XX F j H B:=fun B hB=>hB.elim (fun h=>h.1) (fun h=>absurd h (own0 B))
  obtain ⟨h1,h2⟩:=Zp h
  refine ⟨h1.trans hr.1,fun i y v hy hv => ?_⟩
  obtain ⟨x,hx⟩:∃ x,l[i]? = some x:=⟨_,List.getElem?_eq_getElem (by have:=(List.getElem?_eq_some_iff.1 hy).1; omega)⟩
  obtain ⟨y',g1,g2,g3⟩:=h2 i x hx
  rw [hy] at g2; cases g2
  have hrx:=hr.2 i x v hx hv
  rcases U6 g1 with ⟨b,off,len,es,lo,ex,t,n,rfl,hb,hlo,hf,rfl⟩ | ⟨hf,rfl⟩
  ·
    cases hrx with
    |
      hs hj k1 k2 k3 k4 =>
      rename_i B S o c
      obtain ⟨rfl,_⟩:=k4 (by omega)
      have hat:=ho.at ⟨_,hb,rfl⟩ hj o
      obtain ⟨B',S',hj',hlt⟩:=ho.block hb rfl
      rw [hj] at hj'; cases hj'
      refine .vs (fun i=>(w.cell? ⟨B,o + i,none⟩).getD undef) (fun hB=>hB.elim (fun h=>h.2 b (g3 b (by simp)) S hj) (own0 B)) hlt k1 k2 k3 (fun i z hz => ?_) (fun i z hz => ?_)
      ·
        obtain ⟨u,hu,_⟩:=hat i z hz
        rw [hu]; rfl
      ·
        obtain ⟨u,hu,hru⟩:=hat i z hz
        rw [hu]
        exact (hru.flat 4 (WL hf hz)).mono_w (fun B _ hB=>less B hB) (fun _ _ _=>rfl) (Nat.le_refl _)
  · exact ((hrx.flat 4 hf).mono_w (fun B _ hB=>less B hB) (fun _ _ _=>rfl) (Nat.le_refl _)).lift
theorem Yr {X X':Nat→Prop} {j j':J} {w w':World} {x:AV} {v:Value} (h:Rel X j w x v) (hp:wV x=true):Rel X' j' w' x v:=by
  cases h <;> first | cases hp | skip
  rename_i hx; exact .v hx
theorem zc4 {run:Code→S→Out} (hrun:Vd C run) (hext:ExtOk C) {f:FuncId} {args:List AV} {q:List AV×List Nat} {nx low:Nat} {vs:Array Value} (hq:vj H args=some q) (hbad:∀ n,zx C run f q.1 T.nil nx low≠.bad n)
    (ho:HeapOk (XX F j H) j w H) (hframe:∀ B,F B→B < w.heap.size ∧ ¬ Own j H B) (hfresh:∀ b,nx≤b→j b=none) (hr:wK (XX F j H) j w args vs) :
    Answers C.P f vs w fun rv w' =>
      (∀ v rd,zx C run f q.1 T.nil nx low=.value v rd→wV v=true→Trans j H w j H w'∧Rel (XX F j H) j w' v rv∧HeapOk (XX F j H) j w' H) ∧
      (∀ v us n,zx C run f q.1 T.nil nx low=.fresh v us n→ja v=true→allB qI us=true→∃ j',Trans j H w j' (z_ H us) w'∧Rel (XX F j' (z_ H us)) j' w' v rv∧HeapOk (XX F j' (z_ H us)) j' w' (z_ H us) ∧
        (∀ b,b < nx→j' b=j b)∧(∀ b,n≤b→j' b=none)∧nx≤n):=by
  have own0:∀ B,¬ Own j T.nil B:=fun B ⟨b,k,S,hb,_⟩=>by simp at hb
  have jlt:∀ b p,j b=some p→b < nx:=fun b p hp=>by
    apply Nat.lt_of_not_le; intro hge; rw [hfresh b hge] at hp; cases hp
  have hans:=jD hrun hext hbad (F:=zfO F j H q.2) (j:=j) (H:=T.nil) (w:=w) ⟨fun b k t n hb=>by simp at hb,fun b l hb=>by simp at hb,fun b b' k k' B S S' hb=>by simp at hb,Full.nil⟩
    (fun B hB=>⟨hB.1.elim (fun h=>(hframe B h).1) (fun h=>ho.own_lt h),own0 B⟩) hfresh (za1 ho hq hr)
  refine hans.mono fun rv w' ⟨v,j',H',nx',low',hcr,ht,hrv,ho',hold,hfr,hnx,hlow,hsame⟩=>⟨fun v2 rd hc hp => ?_,fun v2 us n hc hp hus => ?_⟩
  ·
    rcases hcr with ⟨rd2,h1,rfl,rfl,rfl⟩ | h1 | ⟨us2,h1,_,_⟩ <;> rw [hc] at h1 <;> cases h1
    have hk:∀ B,B < w.heap.size→w'.heap[B]? = w.heap[B]?:=fun B hB=>ht.keep B hB (own0 B)
    exact ⟨⟨ht.still,ht.size,fun B hB _=>hk B hB,fun _ _ h=>h,fun _ _ h=>h⟩,Yr hrv hp,ho.stay ht.size hk⟩
  ·
    rcases hcr with ⟨rd2,h1,_⟩ | h1 | ⟨us2,h1,rfl,rfl⟩ <;> rw [hc] at h1 <;> cases h1
    have hk:∀ B,B < w.heap.size→w'.heap[B]? = w.heap[B]?:=fun B hB=>ht.keep B hB (own0 B)
    have newB:∀ B,Own j' (z_ T.nil us) B→w.heap.size≤B:=fun B hB=>by
      apply Nat.le_of_not_lt; intro hlt
      exact own0 B (ht.own B hlt hB)
    have part:∀ b k,(z_ H us).get b=some k→(z_ T.nil us).get b=some k∨H.get b=some k:=fun b k hb=>by
      rcases xa hb with hm | ⟨hn,hb⟩
      · left; rw [← hb]; exact Vg (List.mem_map.2 ⟨_,hm,rfl⟩)
      · exact .inr hb
    have own2:∀ B,Own j' (z_ H us) B→Own j' (z_ T.nil us) B∨Own j H B:=fun B ⟨b,k,S,h1,h2,h3⟩=>by
      rcases part b k h1 with h4 | h4
      · exact .inl ⟨b,k,S,h4,h2,h3⟩
      ·
        obtain ⟨B',S',hjb,_⟩:=ho.block h4 h2
        have:=hold b (jlt b _ hjb)
        rw [this] at h3
        exact .inr ⟨b,k,S,h4,h2,h3⟩
    have htr:Trans j H w j' (z_ H us) w':=⟨ht.still,ht.size,fun B hB _=>hk B hB,fun B hB h=>(own2 B h).elim (fun h=>absurd (newB B h) (by omega)) id,ht.j⟩
    have inUs:∀ b k,(z_ T.nil us).get b=some k→qI (b,k)=true:=fun b k hb=>by
      rcases xa hb with hm | ⟨_,h⟩
      · exact z6.1 hus _ hm
      · simp at h
    have cell:∀ b k t n,(z_ T.nil us).get b=some k→k.body=some (t,n)→∀ i x,t.get i=some x→wV x=true:=fun b k t n hb hkb i x hx=>by
      have hl:=inUs b k hb
      cases k with
      | cells t' n'=>cases hkb; exact WL (show zaz t=true from hl) hx
      | _=>cases hl
    refine ⟨j',htr,?_,⟨fun b k t n hb hkb => ?_,fun b l hb => ?_,fun b b' k k' B S S' h1 h2 h3 h4 h5 h6 => ?_,fun b t n hb=>(part b _ hb).elim (ho'.full b t n) (ho.full b t n)⟩,hold,hfr,hnx⟩
    ·
      cases hrv with
      | v hx=>exact .v hx
      | hs hb k1 k2 k3 k4=>exact .hs hb k1 k2 k3 k4
      | _=>cases hp
    ·
      rcases part b k hb with hb | hb
      ·
        obtain ⟨B,S,arr,e,q1,q2,q3,q4,q5⟩:=ho'.body b k t n hb hkb
        exact ⟨B,S,arr,e,q1,q2,q3,q4,fun i x hx=>by obtain ⟨v,q6,q7⟩:=q5 i x hx; exact ⟨v,q6,Yr q7 (cell b k t n hb hkb i x hx)⟩⟩
      ·
        obtain ⟨B,S,arr,e,q1,q2,q3,q4,q5⟩:=ho.body b k t n hb hkb
        have hBlt:B < w.heap.size:=(Array.getElem?_eq_some_iff.1 q2).1
        exact ⟨B,S,arr,e,ht.j _ _ q1,by rw [hk B hBlt]; exact q2,q3,q4,fun i x hx=>by obtain ⟨v,q6,q7⟩:=q5 i x hx; exact ⟨v,q6,q7.trans htr⟩⟩
    ·
      rcases part b _ hb with hb | hb
      · cases inUs b _ hb
      ·
        obtain ⟨B,S,es,c,q1,q2,q3,q4,q5⟩:=ho.maps b l hb
        have hBlt:B < w.heap.size:=(Array.getElem?_eq_some_iff.1 q2).1
        exact ⟨B,S,es,c,ht.j _ _ q1,by rw [hk B hBlt]; exact q2,q3,q4,fun i k x e hx he=>(q5 i k x e hx he).trans htr⟩
    · have two:∀ {b k B S},H.get b=some k→k.live=true→j' b=some (B,S)→Own j H B∧j b=some (B,S):=fun {b k B S} h1 h2 h3=>by
        obtain ⟨B',S',hjb,_⟩:=ho.block h1 h2
        have:=hold b (jlt b _ hjb)
        rw [this] at h3
        exact ⟨⟨b,k,S,h1,h2,h3⟩,h3⟩
      rcases part b k h1 with g1 | g1 <;> rcases part b' k' h3 with g2 | g2
      · exact ho'.inj b b' k k' B S S' g1 h2 g2 h4 h5 h6
      ·
        have:=newB B ⟨b,k,S,g1,h2,h5⟩
        have:=ho.own_lt (two g2 h4 h6).1
        omega
      ·
        have:=newB B ⟨b',k',S',g2,h4,h6⟩
        have:=ho.own_lt (two g1 h2 h5).1
        omega
      · exact ho.inj b b' k k' B S S' g1 h2 g2 h4 (two g1 h2 h5).2 (two g2 h4 h6).2
end
end Go.Abs
