/- CODE: what the evaluator says of it, the machine does. -/
import Derived.OrdersIn
import Derived.LoopNIn
import Derived.Test.YtdomagdnaohpbaaGreatDoorEvCall
set_option linter.unusedSimpArgs false
set_option linter.unusedVariables false
namespace Go.Abs
section
variable {C:Cx} {D:List Deferred} {F:Nat→Prop} {j:J} {env:T AV} {H:T Blk} {w:World} {N:Nat} {a:Act} {X:Nat→Prop} {run:Code→S→Out} {ops:Array Oper}
theorem Sim.put {j':J} {H':T Blk} {w':World} (sim:Sim D F N j env H a w) (ht:Trans j H w j' H' w') (ho:HeapOk (XX F j' H') j' w' H') {d:Option Tmp} (hd:∀ t,d=some t→t < N) {x:AV} {v:Value} (hr:Rel (XX F j' H') j' w' x v) :
    Sim D F N j' (wl env d x) H' (a.put d v) w':=by
  refine ⟨fun t => ?_,ho,WM ht sim.frame,?_,?_⟩
  ·
    rw [Zi]
    cases d with
    | none=>simp only [reduceCtorEq,if_false]; exact (sim.env t).trans ht
    |
      some d =>
      by_cases h:d=t
      ·
        subst h
        rw [if_pos rfl]
        have hlt:d < a.tmps.size:=by rw [sim.size]; exact hd d rfl
        have e:(a.put (some d) v).tmps.getD d undef=v:=by
          show (a.tmps.setIfInBounds d v).getD d undef=v
          simp [Array.getD_eq_getD_getElem?,hlt]
        rw [e]; exact hr
      ·
        rw [if_neg (by simpa using h)]
        have e:(a.put (some d) v).tmps.getD t undef=a.tmps.getD t undef:=by
          show (a.tmps.setIfInBounds d v).getD t undef=_
          simp only [Array.getD_eq_getD_getElem?,Array.getElem?_setIfInBounds_ne h]
        rw [e]; exact (sim.env t).trans ht
  ·
    cases d with
    | none=>exact sim.size
    | some d=>show (a.tmps.setIfInBounds d v).size=N; simp [sim.size]
  ·
    cases d with
    | none=>exact sim.defers
    | some d=>exact sim.defers
theorem Sim.pre (sim:Sim D F N j env H a w):Pre F j env H a.eval w:=by
  refine ⟨fun o x h => ?_,sim.heap,fun B hB=>(sim.frame B hB).1⟩
  cases o with
  |
    tmp t =>
    have:=sim.env t
    change elimO (env.get t) (some (.tuple [])) some=some x at h
    cases hg:env.get t with
    | none=>rw [hg] at h this; cases h; exact this
    | some z=>rw [hg] at h this; cases h; exact this
  | const v=>exact yJ h
  | global g=>cases h
  | func f=>cases h; exact .fn rfl (fun i x y hx=>by simp at hx) rfl (fun i x y hx=>by simp at hx)
def Kk:Value→Option Bool
  | .bool b=>some b
  | _=>none
theorem Rel.bool_of {x:AV} {v:Value} (h:Rel X j w x v):z9 x=Kk v:=by
  cases h with
  | v hp=>cases v <;> first | rfl | cases hp
  | _=>rfl
theorem U7 {tmps:Array Value} {g:Nat} {d:Tmp} (hd:(ops[g]?).bind (·.dst)=some d):yielded ops tmps g=Kk (tmps.getD d undef):=by
  unfold yielded
  rw [hd,Array.getD_eq_getD_getElem?]
  simp only [Option.bind_some]
  cases tmps[d]? with
  | none=>rfl
  | some v=>cases v <;> rfl
theorem Ys (sim:Sim D F N j env H a w) (o:Oper):Region.wanted o (yielded ops a.tmps)=wanted env ops o:=by
  unfold Region.wanted wanted
  cases hg:o.guard with
  | none=>rfl
  |
    some g =>
    show (yielded ops a.tmps g.1 == some g.2)=vl env ops g.1 g.2
    unfold vl qP
    cases hd:(ops[g.1]?).bind (·.dst) with
    |
      none =>
      have:yielded ops a.tmps g.1=none:=by unfold yielded; rw [hd]; rfl
      rw [this]; rfl
    |
      some d =>
      simp only [elimO_some]
      have hs:=sim.env d
      rw [U7 hd,← hs.bool_of]
      rw [T.getA_eq]
      cases hge:env.get d with
      | none=>rfl
      |
        some x =>
        show (z9 x == some g.2)=elimO (zf (some x) z9) false fun b=>ifB g.2 b (notB b)
        rw [zs]
        cases z9 x with
        | none=>rfl
        | some b=>cases b <;> cases g.2 <;> rfl
theorem Vh (p:Pre F j env H a.eval w) {o:Oper} {c:Call} {g:Operand} (ho:o.op=.call c) (hc:c.callee=.value g) {q:FuncId×List AV} (h:yd env g c.args=some q) :
    ∃ vs,wK (XX F j H) j w q.2 vs∧∀ w',(execOp a.eval o).run C.P w'=(callFunc q.1 vs).run C.P w':=by
  replace h:=za.1 h; obtain ⟨x,hx,h⟩:=h
  replace h:=za.1 h; obtain ⟨l,hl,h⟩:=h
  have h1:=p.opd _ _ hx
  obtain ⟨h2,h3⟩:=um p hl
  cases x <;> try (cases h; done)
  rename_i fn first cap
  cases fn <;> try (cases h; done)
  rename_i k
  rw [show (AV.fn (.func k) first cap)=AV.fn (.func k) first cap from rfl] at h
  replace h:xg (z5 first (z5 l cap)) (fun l=>some (k,l))=some q:=h
  rw [y_,yg,yg] at h
  cases h
  generalize hv:a.eval g=v at h1
  cases h1 with
  |
    fn hl1 hr1 hl2 hr2 =>
    rename_i first' cap'
    refine ⟨first'++(c.args.map a.eval)++cap',⟨by simp only [List.length_append,Array.size_append]; omega,fun i x y hx hy => ?_⟩,fun w' => ?_⟩
    · have hy':(first'.toList++((c.args.map a.eval).toList++cap'.toList))[i]? = some y:=by
        rw [← List.append_assoc,← Array.toList_append,← Array.toList_append,Array.getElem?_toList]; exact hy
      refine vX (a:=first) (a':=first'.toList) (by simpa using hl1) (fun i x y hx hy=>hr1 i x y hx (by simpa using hy)) ?_ i x y hx hy'
      exact vX (by simpa using h2) (fun i x y hx hy=>h3 i x y hx (by rw [← Array.getElem?_toList]; exact hy)) (fun i x y hx hy=>hr2 i x y hx (by simpa using hy))
    · simp only [execOp,ho,resolve,hc,hv,Deferred.ofValue,Sem.run_bind,Sem.run_pure,Result.andThen_ok,invoke]
structure Stepped (D:List Deferred) (F:Nat→Prop) (N nb:Nat) (j:J) (s:S) (w:World) (s':S) (a':Act) (w':World) (j':J):Prop where
  trans:Trans j s.H w j' s'.H w'
  sim:Sim D F N j' s'.env s'.H a' w'
  old:∀ b,b≠nb→b < s.nx→j' b=j b
  fresh:∀ b,s'.nx≤b→j' b=none
  nx:s.nx≤s'.nx
  low:s'.low≤s.low
  same:∀ b,b < s'.low→s'.H.get b=s.H.get b
theorem Vi {n:Nat} {P:Program} {row:String} {args:Array Value} {w:World} {R:Value→World→Prop} (h:Rows P row args w R):RowsIn Fence.wide n P row args w R:=
  fun c cs _=>let ⟨v,w',r,s⟩:=h c cs; ⟨v,w',r,stepsIn_wide.2 s⟩
theorem Zq {r:Option Nat} {m:Nat} {P:Program} {o:Oper} {a:Act} {K:Act→World→Prop} {Q:Exit→Act→World→Prop} {x:Result Next} (h:o.upon P a K Q x):o.uponIn (fW r) m P a K Q x:=by
  cases x with
  |
    ok n w' =>
    cases n with
    | value v=>exact h
    | skip=>exact h
    | defer d=>exact h
    | enter f args=>exact ⟨(fun h=>by cases h),callsIn_wide.2 h⟩
    | row row args=>exact ⟨(fun h=>by cases h),Vi h⟩
    | _=>exact h.elim
  |
    halt x w' =>
    cases x with
    | panic v=>exact h
    | _=>exact h.elim
theorem Zr {r:Option Nat} {m:Nat} {P:Program} {o:Oper} {a:Act} {w:World} {K:Act→World→Prop} {Q:Exit→Act→World→Prop} (hd:∀ c,o.op≠.defer c) (h:o.wp P a w K Q):o.wpIn (fW r) m P a w K Q:=by
  refine ⟨fun _ _=>trivial,?_⟩
  rw [Oper.semAt_eq _ _ _ hd]
  exact Zq h
theorem Yt {N:Nat} {o:Oper} (h:uh N o=true) {t:Tmp} (ht:o.dst=some t):t < N:=by
  unfold uh at h
  rw [ht] at h
  split at h
  · cases h
  · exact Nat.lt_of_lt_of_le (Nat.lt_succ_self _) (Nat.le_of_ble_eq_true h)
theorem Vj {N:Nat} {o:Oper} (h:uh N o=true) (c:Call):o.op≠.defer c:=fun e=>by
  unfold uh at h
  rw [e] at h
  cases h
theorem Yu {r:Option Nat} {m:Nat} {P:Program} {ops:Array Oper} {Q:Exit→Act→World→Prop} {i:Nat} {K K':Act→World→Prop} {a:Act} {w:World} (hnd:∀ (i:Nat) (o:Oper),ops[i]? = some o→∀ c,o.op≠.defer c) (hQ : ¬ LetsOut Q)
    (h:wpOp P ops Q i K a w) (hK:∀ a w,K a w→K' a w):wpOpIn (fW r) m P ops Q i K' a w:=by
  refine wpOpIn_mono hK ?_
  unfold wpOp at h
  unfold wpOpIn
  cases ho:ops[i]? with
  | none=>rw [ho] at h; exact h
  |
    some o =>
    rw [ho] at h
    by_cases hw:Region.wanted o (yielded ops a.tmps)=true
    ·
      simp only [hw,if_true] at h ⊢
      rcases h with h | ⟨_,h⟩
      · exact Zr (hnd i o ho) h
      · exact absurd h hQ
    ·
      simp only [hw] at h ⊢
      exact ⟨fun _ _=>trivial,h⟩
theorem U8 {r:Option Nat} {m:Nat} {P:Program} {ops:Array Oper} {Q:Exit→Act→World→Prop} (hnd:∀ (i:Nat) (o:Oper),ops[i]? = some o→∀ c,o.op≠.defer c) (hQ : ¬ LetsOut Q):∀ {l:List Nat} {a:Act} {w:World},
    wpOps P ops Q l a w→wpOpsIn (fW r) m P ops Q l a w:=by
  intro l
  induction l with
  | nil=>intro a w h; exact h
  |
    cons i l ih =>
    intro a w h
    rw [wpOps_cons] at h
    rw [wpOpsIn_cons]
    exact Yu hnd hQ h fun a w h=>ih h
theorem U9 {r:Option Nat} {m:Nat} {P:Program} {md:Region.Mode} {ops:Array Oper} {Q:Exit→Act→World→Prop} (hnd:∀ (i:Nat) (o:Oper),ops[i]? = some o→∀ c,o.op≠.defer c) (hQ : ¬ LetsOut Q):∀ (fuel:Nat) {listed:Array Bool} {a:Act} {w:World},
    wpAny P md ops Q fuel listed a w→wpAnyIn (fW r) m P md ops Q fuel listed a w:=by
  intro fuel
  induction fuel with
  | zero=>intro listed a w h; exact h
  |
    succ fuel ih =>
    intro listed a w h
    exact ⟨h.1,fun i hi=>Yu hnd hQ (h.2 i hi) fun a w h=>ih h⟩
theorem Kl (hrun:Vd C run) (hext:ExtOk C) {o:Oper} {nb:Nat} {s s1:S} {f:Foot} (h:stepOp C run ops nb o s=.ok s1 f) (hd:uh N o=true) (st:Start D F N j s a w) (hj:j nb=none) (hlt:nb < s.nx)
    {K:Act→World→Prop} {Q:Exit→Act→World→Prop} (hK:∀ j' a' w',Stepped D F N nb j s w s1 a' w' j'→K a' w') :
    if Region.wanted o (yielded ops a.tmps) then o.wp C.P a w K Q∨(o.asks C.P a w∧LetsOut Q) else K (a.put o.dst undef) w:=by
  obtain ⟨env,H,nx,low⟩:=s
  have hd':∀ t,o.dst=some t→t < N:=fun t ht=>Yt hd ht
  rw [Ys st.sim o]
  rw [yC] at h
  cases hw:wanted env ops o with
  |
    false =>
    rw [hw,zj,zJ] at h
    cases h
    rw [if_neg (by simp)]
    exact hK j _ _ ⟨Trans.refl ..,st.sim.put (Trans.refl ..) st.sim.heap hd' (.tuple rfl (fun i x y hx=>by simp at hx)),fun _ _ _=>rfl,st.fresh,Nat.le_refl _,Nat.le_refl _,fun _ _=>rfl⟩
  |
    true =>
    rw [hw,ifB_true] at h
    rw [if_pos rfl]
    refine .inl ?_
    unfold Oper.wp
    rcases vy C run o with ⟨c,g,ho,hc,e⟩ | e
    ·
      rw [e] at h
      unfold ye at h
      cases hca:yd env g c.args with
      | none=>rw [hca] at h; cases h
      |
        some p =>
        rw [hca,elimO_some] at h
        obtain ⟨vs,hvs,hexec⟩:=Vh (C:=C) st.sim.pre ho hc hca
        rw [hexec w]
        cases hbor:C.bor p.1 with
        |
          true =>
          rw [hbor,ifB_true] at h
          cases hl:vj H p.2 with
          | none=>rw [hl] at h; cases h
          |
            some q =>
            rw [hl,elimO_some] at h
            have hbad:∀ n,zx C run p.1 q.1 T.nil nx low≠.bad n:=fun n hn=>by rw [hn] at h; cases h
            have fin:∀ rv w',((∀ v rd,zx C run p.1 q.1 T.nil nx low=.value v rd→wV v=true→Trans j H w j H w'∧Rel (XX F j H) j w' v rv∧HeapOk (XX F j H) j w' H) ∧
                (∀ v us n,zx C run p.1 q.1 T.nil nx low=.fresh v us n→ja v=true→allB qI us=true→∃ j',Trans j H w j' (z_ H us) w'∧Rel (XX F j' (z_ H us)) j' w' v rv∧HeapOk (XX F j' (z_ H us)) j' w' (z_ H us) ∧
                  (∀ b,b < nx→j' b=j b)∧(∀ b,n≤b→j' b=none)∧nx≤n))→K (a.put o.dst rv) w':=by
              rintro rv w' ⟨g1,g2⟩
              cases hr:zx C run p.1 q.1 T.nil nx low with
              | bad w=>rw [hr] at h; cases h
              | heap v H1 nx1 xr=>rw [hr] at h; cases h
              |
                value v rd =>
                rw [hr] at h
                replace h:elimO rd (StepR.bad 97) (fun _=>ifB (wV v) (putK env o.dst v fun env=>StepR.ok ⟨env,H,nx,low⟩ ⟨some q.2,some [],false,nu⟩) (.bad 97))=.ok s1 f:=h
                cases rd with
                | none=>cases h
                |
                  some l =>
                  rw [elimO_some] at h
                  cases hp:wV v with
                  | false=>rw [hp] at h; cases h
                  |
                    true =>
                    rw [hp,ifB_true,zJ] at h
                    cases h
                    obtain ⟨ht,hrv,ho'⟩:=g1 v _ hr hp
                    exact hK j _ _ ⟨ht,st.sim.put ht ho' hd' hrv,fun _ _ _=>rfl,st.fresh,Nat.le_refl _,Nat.le_refl _,fun _ _=>rfl⟩
              |
                fresh v us n =>
                rw [hr] at h
                replace h:ifB (andB (ja v) (allB qI us)) (putK env o.dst v fun env=>Go.Abs.ups H us fun H=>force (lower low us) fun low=>StepR.ok ⟨env,H,n,low⟩ ⟨some q.2,some (us.map (·.1)),true,nu⟩) (.bad 97)=.ok s1 f:=h
                cases hp:andB (ja v) (allB qI us) with
                | false=>rw [hp] at h; cases h
                |
                  true =>
                  rw [hp,ifB_true,zJ,vx,zr] at h
                  cases h
                  rw [zl] at hp
                  obtain ⟨j',ht,hrv,ho',hold,hfr,hnx⟩:=g2 v us n hr hp.1 hp.2
                  exact hK j' _ _ ⟨ht,st.sim.put ht ho' hd' hrv,fun b _ hb=>hold b hb,hfr,hnx,ka _ _,fun b hb=>yh (ut hb)⟩
            rcases zc4 hrun hext hl hbad st.sim.heap st.sim.frame st.fresh hvs with ⟨rv,w',h1,h2⟩ | ⟨h1,h2⟩
            · rw [h1]; exact fin rv w' h2
            ·
              rw [h1]
              refine Calls.mono h2 fun e w' ⟨rv,he,h⟩ => ?_
              subst he
              exact fin rv w' h
        | false =>
        rw [hbor,zj] at h
        have hbad:∀ n,zx C run p.1 p.2 H nx low≠.bad n:=fun n hn=>by rw [hn] at h; cases h
        have hans:=jD hrun hext hbad st.sim.heap st.sim.frame st.fresh hvs
        have fin:∀ rv w',kR F j H nx low w (zx C run p.1 p.2 H nx low) rv w'→K (a.put o.dst rv) w':=by
          rintro rv w' ⟨v,j',H',nx',low',hcr,ht,hr,ho',hold,hfr,hnx,hlow,hsame⟩
          have hs1:s1=⟨wl env o.dst v,H',nx',low'⟩:=by
            rcases hcr with ⟨rd,hcr,rfl,rfl,rfl⟩ | hcr | ⟨us,hcr,rfl,rfl⟩
            ·
              rw [hcr] at h
              replace h:putK env o.dst v (fun env=>StepR.ok ⟨env,H',nx',low'⟩ ⟨rd,some [],false,nu⟩)=.ok s1 f:=h
              rw [zJ] at h; cases h; rfl
            ·
              rw [hcr] at h
              replace h:putK env o.dst v (fun env=>StepR.ok ⟨env,H',nx',low'⟩ ⟨none,none,true,v7 H H'⟩)=.ok s1 f:=h
              rw [zJ] at h; cases h; rfl
            ·
              rw [hcr] at h
              replace h:putK env o.dst v (fun env=>Go.Abs.ups H us fun H=>force (lower low us) fun low=>StepR.ok ⟨env,H,nx',low⟩ ⟨some [],some (us.map (·.1)),true,nu⟩)=.ok s1 f:=h
              rw [zJ,vx,zr] at h; cases h; rfl
          subst hs1
          exact hK j' _ _ ⟨ht,st.sim.put ht ho' hd' hr,fun b _ hb=>hold b hb,hfr,hnx,hlow,hsame⟩
        rcases hans with ⟨rv,w',h1,h2⟩ | ⟨h1,h2⟩
        · rw [h1]; exact fin rv w' h2
        ·
          rw [h1]
          refine Calls.mono h2 fun e w' ⟨rv,he,h⟩ => ?_
          subst he
          exact fin rv w' h
    ·
      rw [e] at h
      cases hs:zY o.op C env H nb o.type with
      | none=>rw [hs] at h; cases h
      |
        some r =>
        rw [hs,zU] at h
        cases h
        obtain ⟨nx',v',w',j',h1,h2,h3,h4,h5,h6⟩:=W6 st.sim.pre hj hs
        have hres:K (a.put o.dst v') w':=hK j' _ _ ⟨h3,st.sim.put h3 h5 hd' h4,fun b hb _=>h6 b hb,fun b hb=>by
            rw [h6 b (fun e=>by subst e; exact absurd hlt (Nat.not_lt.2 hb))]; exact st.fresh b hb,Nat.le_refl _,ka _ _,fun b hb=>yh (ut hb)⟩
        rw [h1]
        rcases h2 with rfl | ⟨rfl,rfl⟩
        · exact hres
        · exact hres
end
end Go.Abs
