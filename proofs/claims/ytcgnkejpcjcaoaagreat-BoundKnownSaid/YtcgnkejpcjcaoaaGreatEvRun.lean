/- CODE: what the evaluator says of it, the machine does. -/
import Derived.Test.YtcgnkejpcjcaoaaGreatEvCall
set_option linter.unusedSimpArgs false
set_option linter.unusedVariables false
namespace Go.Abs
section
variable {C:Cx} {F:Nat → Prop} {j:J} {env:T AV} {H:T Blk} {w:World} {N:Nat} {a:Act} {X:Nat → Prop} {run:Code → S → Out} {ops:Array Oper}
theorem Sim.put {j' : J} {H' : T Blk} {w' : World} (sim:Sim F N j env H a w) (ht:Trans j H w j' H' w') (ho:HeapOk (XX F j' H') j' w' H') {d:Option Tmp} (hd : ∀ t,d = some t → t < N) {x:AV} {v:Value} (hr:Rel (XX F j' H') j' w' x v) :
    Sim F N j' (putT env d x) H' (a.put d v) w':=by
  refine ⟨fun t => ?_,ho,frame_trans ht sim.frame,?_,?_⟩
  · rw [get_putT]
    cases d with
    | none => simp only [reduceCtorEq,if_false]; exact (sim.env t).trans ht
    | some d =>
      by_cases h : d = t
      · subst h
        rw [if_pos rfl]
        have hlt : d < a.tmps.size:=by rw [sim.size]; exact hd d rfl
        have e : (a.put (some d) v).tmps.getD d undef = v:=by
          show (a.tmps.setIfInBounds d v).getD d undef = v
          simp [Array.getD_eq_getD_getElem?,hlt]
        rw [e]; exact hr
      · rw [if_neg (by simpa using h)]
        have e : (a.put (some d) v).tmps.getD t undef = a.tmps.getD t undef:=by
          show (a.tmps.setIfInBounds d v).getD t undef = _
          simp only [Array.getD_eq_getD_getElem?,Array.getElem?_setIfInBounds_ne h]
        rw [e]; exact (sim.env t).trans ht
  · cases d with
    | none => exact sim.size
    | some d => show (a.tmps.setIfInBounds d v).size = N; simp [sim.size]
  · cases d with
    | none => exact sim.defers
    | some d => exact sim.defers
theorem Sim.pre (sim:Sim F N j env H a w) : Pre F j env H a.eval w:=by
  refine ⟨fun o x h => ?_,sim.heap,fun B hB => (sim.frame B hB).1⟩
  cases o with
  | tmp t =>
    have:=sim.env t
    change elimO (env.get t) (some (.tuple [])) some = some x at h
    cases hg : env.get t with
    | none => rw [hg] at h this; cases h; exact this
    | some z => rw [hg] at h this; cases h; exact this
  | const v => exact ofValue_rel h
  | global g => cases h
  | func f => cases h; exact .fn rfl (fun i x y hx => by simp at hx) rfl (fun i x y hx => by simp at hx)
def boolVal : Value → Option Bool
  | .bool b => some b
  | _ => none
theorem Rel.bool_of {x:AV} {v:Value} (h:Rel X j w x v) : boolOf x = boolVal v:=by
  cases h with
  | v hp => cases v <;> first | rfl | cases hp
  | _ => rfl
theorem yielded_eq {tmps:Array Value} {g:Nat} {d:Tmp} (hd:(ops[g]?).bind (·.dst) = some d) : yielded ops tmps g = boolVal (tmps.getD d undef):=by
  unfold yielded
  rw [hd,Array.getD_eq_getD_getElem?]
  simp only [Option.bind_some]
  cases tmps[d]? with
  | none => rfl
  | some v => cases v <;> rfl
theorem wanted_eq (sim:Sim F N j env H a w) (o:Oper) : Region.wanted o (yielded ops a.tmps) = wanted env ops o:=by
  unfold Region.wanted wanted
  cases hg : o.guard with
  | none => rfl
  | some g =>
    show (yielded ops a.tmps g.1 == some g.2) = guardOk env ops g.1 g.2
    unfold guardOk guardDst
    cases hd : (ops[g.1]?).bind (·.dst) with
    | none =>
      have : yielded ops a.tmps g.1 = none:=by unfold yielded; rw [hd]; rfl
      rw [this]; rfl
    | some d =>
      simp only [elimO_some]
      have hs:=sim.env d
      rw [yielded_eq hd,← hs.bool_of]
      rw [T.getA_eq]
      cases hge : env.get d with
      | none => rfl
      | some x =>
        show (boolOf x == some g.2) = elimO (bindO (some x) boolOf) false fun b => ifB g.2 b (notB b)
        rw [bindO_some']
        cases boolOf x with
        | none => rfl
        | some b => cases b <;> cases g.2 <;> rfl
theorem callee_good (p:Pre F j env H a.eval w) {o:Oper} {c:Call} {g:Operand} (ho:o.op = .call c) (hc:c.callee = .value g) {q:FuncId × List AV} (h:calleeArgs env g c.args = some q) :
    ∃ vs,RelL (XX F j H) j w q.2 vs ∧ ∀ w',(execOp a.eval o).run C.P w' = (callFunc q.1 vs).run C.P w':=by
  replace h:=bindO_some.1 h; obtain ⟨x,hx,h⟩:=h
  replace h:=bindO_some.1 h; obtain ⟨l,hl,h⟩:=h
  have h1:=p.opd _ _ hx
  obtain ⟨h2,h3⟩:=opds_rel p hl
  cases x <;> try (cases h; done)
  rename_i fn first cap
  cases fn <;> try (cases h; done)
  rename_i k
  rw [show (AV.fn (.func k) first cap) = AV.fn (.func k) first cap from rfl] at h
  replace h : forceL (appL first (appL l cap)) (fun l => some (k,l)) = some q:=h
  rw [forceL_eq,appL_eq,appL_eq] at h
  cases h
  generalize hv : a.eval g = v at h1
  cases h1 with
  | fn hl1 hr1 hl2 hr2 =>
    rename_i first' cap'
    refine ⟨first' ++ (c.args.map a.eval) ++ cap',⟨by simp only [List.length_append,Array.size_append]; omega,fun i x y hx hy => ?_⟩,fun w' => ?_⟩
    · have hy' : (first'.toList ++ ((c.args.map a.eval).toList ++ cap'.toList))[i]? = some y:=by
        rw [← List.append_assoc,← Array.toList_append,← Array.toList_append,Array.getElem?_toList]; exact hy
      refine rel_append (a:=first) (a':=first'.toList) (by simpa using hl1) (fun i x y hx hy => hr1 i x y hx (by simpa using hy)) ?_ i x y hx hy'
      exact rel_append (by simpa using h2) (fun i x y hx hy => h3 i x y hx (by rw [← Array.getElem?_toList]; exact hy)) (fun i x y hx hy => hr2 i x y hx (by simpa using hy))
    · simp only [execOp,ho,resolve,hc,hv,Deferred.ofValue,Sem.run_bind,Sem.run_pure,Result.andThen_ok,invoke]
structure Stepped (F:Nat → Prop) (N nb:Nat) (j:J) (s:S) (w:World) (s' : S) (a' : Act) (w' : World) (j' : J) : Prop where
  trans : Trans j s.H w j' s'.H w'
  sim : Sim F N j' s'.env s'.H a' w'
  old : ∀ b,b ≠ nb → b < s.nx → j' b = j b
  fresh : ∀ b,s'.nx ≤ b → j' b = none
  nx : s.nx ≤ s'.nx
  low : s'.low ≤ s.low
  same : ∀ b,b < s'.low → s'.H.get b = s.H.get b
theorem step_ok (hrun:RunOk C run) (hext:ExtOk C) {o:Oper} {nb:Nat} {s s1:S} {f:Foot} (h:stepOp C run ops nb o s = .ok s1 f) (hd:dstLt N o = true) (st:Start F N j s a w) (hj:j nb = none) (hlt:nb < s.nx)
    {K:Act → World → Prop} {Q:Exit → Act → World → Prop} (hK : ∀ j' a' w',Stepped F N nb j s w s1 a' w' j' → K a' w') :
    if Region.wanted o (yielded ops a.tmps) then o.wp C.P a w K Q ∨ (o.asks C.P a w ∧ LetsOut Q) else K (a.put o.dst undef) w:=by
  obtain ⟨env,H,nx,low⟩:=s
  have hd' : ∀ t,o.dst = some t → t < N:=fun t ht => by
    unfold dstLt at hd; rw [ht] at hd; exact Nat.lt_of_lt_of_le (Nat.lt_succ_self _) (Nat.le_of_ble_eq_true hd)
  rw [wanted_eq st.sim o]
  rw [stepOp_eq] at h
  cases hw : wanted env ops o with
  | false =>
    rw [hw,ifB_false,putK_eqT] at h
    cases h
    rw [if_neg (by simp)]
    exact hK j _ _ ⟨Trans.refl ..,st.sim.put (Trans.refl ..) st.sim.heap hd' (.tuple rfl (fun i x y hx => by simp at hx)),fun _ _ _ => rfl,st.fresh,Nat.le_refl _,Nat.le_refl _,fun _ _ => rfl⟩
  | true =>
    rw [hw,ifB_true] at h
    rw [if_pos rfl]
    refine .inl ?_
    unfold Oper.wp
    rcases stepAny_cases C run o with ⟨c,g,ho,hc,e⟩ | e
    · rw [e] at h
      unfold stepCall at h
      cases hca : calleeArgs env g c.args with
      | none => rw [hca] at h; cases h
      | some p =>
        rw [hca,elimO_some] at h
        obtain ⟨vs,hvs,hexec⟩:=callee_good (C:=C) st.sim.pre ho hc hca
        rw [hexec w]
        cases hbor : C.bor p.1 with
        | true =>
          rw [hbor,ifB_true] at h
          cases hl : lendL H p.2 with
          | none => rw [hl] at h; cases h
          | some q =>
            rw [hl,elimO_some] at h
            have hbad : ∀ n,callWith C run p.1 q.1 T.nil nx low ≠ .bad n:=fun n hn => by rw [hn] at h; cases h
            have fin : ∀ rv w',((∀ v rd,callWith C run p.1 q.1 T.nil nx low = .value v rd → plainA v = true → Trans j H w j H w' ∧ Rel (XX F j H) j w' v rv ∧ HeapOk (XX F j H) j w' H) ∧
                (∀ v us n,callWith C run p.1 q.1 T.nil nx low = .fresh v us n → lentV v = true → allB lentB us = true → ∃ j',Trans j H w j' (upsT H us) w' ∧ Rel (XX F j' (upsT H us)) j' w' v rv ∧ HeapOk (XX F j' (upsT H us)) j' w' (upsT H us) ∧
                  (∀ b,b < nx → j' b = j b) ∧ (∀ b,n ≤ b → j' b = none) ∧ nx ≤ n)) → K (a.put o.dst rv) w':=by
              rintro rv w' ⟨g1,g2⟩
              cases hr : callWith C run p.1 q.1 T.nil nx low with
              | bad w => rw [hr] at h; cases h
              | heap v H1 nx1 low1 => rw [hr] at h; cases h
              | value v rd =>
                rw [hr] at h
                replace h : elimO rd (StepR.bad 97) (fun _ => ifB (plainA v) (putK env o.dst v fun env => StepR.ok ⟨env,H,nx,low⟩ ⟨some q.2,some [],false⟩) (.bad 97)) = .ok s1 f:=h
                cases rd with
                | none => cases h
                | some l =>
                  rw [elimO_some] at h
                  cases hp : plainA v with
                  | false => rw [hp] at h; cases h
                  | true =>
                    rw [hp,ifB_true,putK_eqT] at h
                    cases h
                    obtain ⟨ht,hrv,ho'⟩:=g1 v _ hr hp
                    exact hK j _ _ ⟨ht,st.sim.put ht ho' hd' hrv,fun _ _ _ => rfl,st.fresh,Nat.le_refl _,Nat.le_refl _,fun _ _ => rfl⟩
              | fresh v us n =>
                rw [hr] at h
                replace h : ifB (andB (lentV v) (allB lentB us)) (putK env o.dst v fun env => Go.Abs.ups H us fun H => force (lower low us) fun low => StepR.ok ⟨env,H,n,low⟩ ⟨some q.2,some (us.map (·.1)),true⟩) (.bad 97) = .ok s1 f:=h
                cases hp : andB (lentV v) (allB lentB us) with
                | false => rw [hp] at h; cases h
                | true =>
                  rw [hp,ifB_true,putK_eqT,ups_eq,force_eq] at h
                  cases h
                  rw [andB_true] at hp
                  obtain ⟨j',ht,hrv,ho',hold,hfr,hnx⟩:=g2 v us n hr hp.1 hp.2
                  exact hK j' _ _ ⟨ht,st.sim.put ht ho' hd' hrv,fun b _ hb => hold b hb,hfr,hnx,lower_le _ _,fun b hb => get_upsT_of_not (lower_lt hb)⟩
            rcases lend_ok hrun hext hl hbad st.sim.heap st.sim.frame st.fresh hvs with ⟨rv,w',h1,h2⟩ | ⟨h1,h2⟩
            · rw [h1]; exact fin rv w' h2
            · rw [h1]
              refine Calls.mono h2 fun e w' ⟨rv,he,h⟩ => ?_
              subst he
              exact fin rv w' h
        | false =>
        rw [hbor,ifB_false] at h
        have hbad : ∀ n,callWith C run p.1 p.2 H nx low ≠ .bad n:=fun n hn => by rw [hn] at h; cases h
        have hans:=call_ok hrun hext hbad st.sim.heap st.sim.frame st.fresh hvs
        have fin : ∀ rv w',Answer F j H nx low w (callWith C run p.1 p.2 H nx low) rv w' → K (a.put o.dst rv) w':=by
          rintro rv w' ⟨v,j',H',nx',low',hcr,ht,hr,ho',hold,hfr,hnx,hlow,hsame⟩
          have hs1 : s1 = ⟨putT env o.dst v,H',nx',low'⟩:=by
            rcases hcr with ⟨rd,hcr,rfl,rfl,rfl⟩ | hcr | ⟨us,hcr,rfl,rfl⟩
            · rw [hcr] at h
              replace h : putK env o.dst v (fun env => StepR.ok ⟨env,H',nx',low'⟩ ⟨rd,some [],false⟩) = .ok s1 f:=h
              rw [putK_eqT] at h; cases h; rfl
            · rw [hcr] at h
              replace h : putK env o.dst v (fun env => StepR.ok ⟨env,H',nx',low'⟩ ⟨none,none,true⟩) = .ok s1 f:=h
              rw [putK_eqT] at h; cases h; rfl
            · rw [hcr] at h
              replace h : putK env o.dst v (fun env => Go.Abs.ups H us fun H => force (lower low us) fun low => StepR.ok ⟨env,H,nx',low⟩ ⟨some [],some (us.map (·.1)),true⟩) = .ok s1 f:=h
              rw [putK_eqT,ups_eq,force_eq] at h; cases h; rfl
          subst hs1
          exact hK j' _ _ ⟨ht,st.sim.put ht ho' hd' hr,fun b _ hb => hold b hb,hfr,hnx,hlow,hsame⟩
        rcases hans with ⟨rv,w',h1,h2⟩ | ⟨h1,h2⟩
        · rw [h1]; exact fin rv w' h2
        · rw [h1]
          refine Calls.mono h2 fun e w' ⟨rv,he,h⟩ => ?_
          subst he
          exact fin rv w' h
    · rw [e] at h
      cases hs : simple o.op C env H nb o.type with
      | none => rw [hs] at h; cases h
      | some r =>
        rw [hs,stepSimple_eq] at h
        cases h
        obtain ⟨nx',v',w',j',h1,h2,h3,h4,h5,h6⟩:=simple_good st.sim.pre hj hs
        have hres : K (a.put o.dst v') w':=hK j' _ _ ⟨h3,st.sim.put h3 h5 hd' h4,fun b hb _ => h6 b hb,fun b hb => by
            rw [h6 b (fun e => by subst e; exact absurd hlt (Nat.not_lt.2 hb))]; exact st.fresh b hb,Nat.le_refl _,lower_le _ _,fun b hb => get_upsT_of_not (lower_lt hb)⟩
        rw [h1]
        rcases h2 with rfl | ⟨rfl,rfl⟩
        · exact hres
        · exact hres
end
end Go.Abs
