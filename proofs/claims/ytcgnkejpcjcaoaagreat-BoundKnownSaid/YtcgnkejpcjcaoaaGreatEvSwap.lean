/- TWO OPERATIONS WHOSE ORDER IS OPEN: done in the other order they come to the same. -/
import Derived.Test.YtcgnkejpcjcaoaaGreatEvLoc
set_option linter.unusedSimpArgs false
set_option linter.unusedVariables false
namespace Go.Abs
section
variable {C:Cx} {run:Code → S → Out} {ops:Array Oper}
noncomputable def putT (env:T AV) (d:Option Tmp) (v:AV) : T AV:=match d with | some d => T.set d v env | none => env
theorem putK_eqT {β:Type} (env:T AV) (d:Option Tmp) (v:AV) (k:T AV → β) : putK env d v k = k (putT env d v):=by
  cases d with
  | none => rfl
  | some d => exact T.setA_eq ..
theorem get_putT (env:T AV) (d:Option Tmp) (v:AV) (t:Nat) : (putT env d v).get t = if d = some t then some v else env.get t:=by
  cases d with
  | none => simp [putT]
  | some d =>
    show (T.set d v env).get t = _
    rw [T.get_set]
    by_cases h : t = d
    · rw [if_pos h,if_pos (by rw [h])]
    · rw [if_neg h,if_neg (by simp; exact fun e => h e.symm)]
theorem putT_comm {env:T AV} {d e:Option Tmp} {v u:AV} (h : ∀ x,d = some x → e ≠ some x) : putT (putT env d v) e u = putT (putT env e u) d v:=by
  cases d with
  | none => rfl
  | some d => cases e with
    | none => rfl
    | some e => exact T.set_comm _ _ _ _ _ (fun x => h d rfl (by rw [x]))
theorem minN_eq (a b:Nat) : minN a b = min a b:=by unfold minN; cases h : Nat.ble a b with
  | true => have:=ble_true.1 h; rw [ifB_true]; omega
  | false => have : ¬ a ≤ b:=(fun e => by rw [ble_true.2 e] at h; cases h); rw [ifB_false]; omega
theorem lower_cons (low:Nat) (x:Nat × Blk) (l:List (Nat × Blk)) : lower low (x::l) = minN x.1 (lower low l):=rfl
theorem lower_min (low c:Nat) (l:List (Nat × Blk)) : lower (min c low) l = min c (lower low l):=by
  induction l with
  | nil => rfl
  | cons x l ih => rw [lower_cons,lower_cons,ih,minN_eq,minN_eq]; omega
theorem lower_comm (low:Nat) (a b:List (Nat × Blk)) : lower (lower low a) b = lower (lower low b) a:=by
  induction a with
  | nil => rfl
  | cons x a ih => rw [lower_cons,lower_cons,minN_eq,minN_eq,lower_min,ih]
theorem get_upsT_of_not : ∀ {l:List (Nat × Blk)} {H:T Blk} {b:Nat},b ∉ l.map (·.1) → (upsT H l).get b = H.get b
  | [],_,_,_ => rfl
  | x::l,H,b,h => by
    simp only [List.map_cons,List.mem_cons,not_or] at h
    show (upsT (T.set x.1 x.2 H) l).get b = _
    rw [get_upsT_of_not h.2,T.get_set,if_neg h.1]
theorem set_upsT {x:Nat × Blk} : ∀ {l:List (Nat × Blk)} {H:T Blk},x.1 ∉ l.map (·.1) → T.set x.1 x.2 (upsT H l) = upsT (T.set x.1 x.2 H) l
  | [],_,_ => rfl
  | y::l,H,h => by
    simp only [List.map_cons,List.mem_cons,not_or] at h
    show T.set x.1 x.2 (upsT (T.set y.1 y.2 H) l) = upsT (T.set y.1 y.2 (T.set x.1 x.2 H)) l
    rw [set_upsT h.2,T.set_comm _ _ _ _ _ h.1]
theorem upsT_comm : ∀ {a b:List (Nat × Blk)} {H:T Blk},(∀ x ∈ a.map (·.1),x ∉ b.map (·.1)) → upsT (upsT H a) b = upsT (upsT H b) a
  | [],_,_,_ => rfl
  | x::a,b,H,h => by
    show upsT (upsT (T.set x.1 x.2 H) a) b = upsT (T.set x.1 x.2 (upsT H b)) a
    rw [upsT_comm (fun y hy => h y (List.mem_cons_of_mem _ hy)),set_upsT (h x.1 (List.mem_cons_self ..))]
theorem lower_le (low:Nat) (us:List (Nat × Blk)) : lower low us ≤ low:=by
  induction us with
  | nil => exact Nat.le_refl _
  | cons x us ih => rw [lower_cons,minN_eq]; omega
theorem lower_lt {low b:Nat} : ∀ {us:List (Nat × Blk)},b < lower low us → b ∉ us.map (·.1)
  | [],_ => by simp
  | x::us,h => by
    rw [lower_cons,minN_eq] at h
    simp only [List.map_cons,List.mem_cons,not_or]
    exact ⟨by omega,lower_lt (low:=low) (by omega)⟩
theorem memN_false {x:Nat} : ∀ {l:List Nat},memN x l = false → x ∉ l
  | [],_ => by simp
  | y::l,h => by
    change ifB (Nat.beq x y) true (memN x l) = false at h
    cases e : Nat.beq x y with
    | true => rw [e] at h; cases h
    | false =>
      rw [e] at h
      simp only [List.mem_cons,not_or]
      exact ⟨fun hx => by (rw [beq_true.2 hx] at e; cases e),memN_false h⟩
theorem meet_false : ∀ {a b:List Nat},meet a b = false → ∀ x ∈ a,x ∉ b
  | [],_,_,_,h => by cases h
  | y::a,b,h,x,hx => by
    change ifB (memN y b) true (meet a b) = false at h
    cases e : memN y b with
    | true => rw [e] at h; cases h
    | false =>
      rw [e] at h
      rcases List.mem_cons.1 hx with rfl | hx
      · exact memN_false e
      · exact meet_false h x hx
theorem emptyB_true {l:List Nat} (h:emptyB l = true) : l = []:=by cases l with | nil => rfl | cons _ _ => cases h
theorem notB_true {b:Bool} : notB b = true ↔ b = false:=by cases b <;> simp [notB]
theorem orB_true {a b:Bool} : orB a b = true ↔ a = true ∨ b = true:=by cases a <;> simp [orB]
theorem doneWith_value {f:S → CR} {o:Out} {v:AV} {rd:Option (List Nat)} (h:doneWith f o = .value v rd) : ∃ s,(o = .nrm s ∨ o = .ret s) ∧ f s = .value v rd:=by
  cases o with
  | nrm s => exact ⟨s,.inl rfl,h⟩
  | ret s => exact ⟨s,.inr rfl,h⟩
  | ext i s => cases h
  | bad w => cases h
theorem finHeap_value {fn:Func} {keep:Bool} {nx low:Nat} {s:S} {v:AV} {rd:Option (List Nat)} (h:finHeap C fn keep nx low s = .value v rd) : rd = none:=by
  obtain ⟨env,H,nx',low'⟩:=s
  change elimO (resultOf C env H fn.results.toList) (CR.bad 7) (fun l => oneOf l fun r =>
    ifB (orB keep (Nat.ble (Nat.succ low') nx)) (force (minN low low') fun low => CR.heap r H nx' low)
      (elimO (freezeTop H nx 20 r) (force (minN low low') fun low => CR.heap r H nx' low) (fun v => CR.value v none))) = CR.value v rd at h
  cases hr : resultOf C env H fn.results.toList with
  | none => rw [hr] at h; cases h
  | some l =>
    rw [hr,elimO_some] at h
    have key : ∀ r,ifB (orB keep (Nat.ble (Nat.succ low') nx)) (force (minN low low') fun low => CR.heap r H nx' low)
      (elimO (freezeTop H nx 20 r) (force (minN low low') fun low => CR.heap r H nx' low) (fun v => CR.value v none)) = CR.value v rd → rd = none:=by
      intro r h
      cases hk : orB keep (Nat.ble (Nat.succ low') nx) with
      | true => rw [hk] at h; cases h
      | false =>
        rw [hk,ifB_false] at h
        cases hf : freezeTop H nx 20 r with
        | none => rw [hf] at h; cases h
        | some y => rw [hf] at h; cases h; rfl
    unfold oneOf at h
    cases h1 : Nat.beq (lenL l) 1 with
    | false => rw [h1,ifB_false] at h; exact key _ h
    | true =>
      rw [h1,ifB_true] at h
      cases h2 : nthL l 0 with
      | none => rw [h2] at h; exact key _ h
      | some y => rw [h2] at h; exact key _ h
theorem finFresh_value {fn:Func} {nx:Nat} {s:S} {v:AV} {rd:Option (List Nat)} : ¬ finFresh C fn nx s = .value v rd:=by
  intro h
  obtain ⟨env,H,nx',low'⟩:=s
  change elimO (resultOf C env H fn.results.toList) (CR.bad 7) (fun l => oneOf l fun r =>
    elimO (bindO (gather H 20 r) fun bs => allM (fun b => bindO (H.get b) fun k => guardB (Nat.ble nx b) (some (b,k))) bs) (CR.bad 9) fun us => CR.fresh r us nx') = CR.value v rd at h
  cases hr : resultOf C env H fn.results.toList with
  | none => rw [hr] at h; cases h
  | some l =>
    rw [hr,elimO_some] at h
    have key : ∀ r,elimO (bindO (gather H 20 r) fun bs => allM (fun b => bindO (H.get b) fun k => guardB (Nat.ble nx b) (some (b,k))) bs) (CR.bad 9) (fun us => CR.fresh r us nx') = CR.value v rd → False:=by
      intro r h
      cases hg : bindO (gather H 20 r) fun bs => allM (fun b => bindO (H.get b) fun k => guardB (Nat.ble nx b) (some (b,k))) bs with
      | none => rw [hg] at h; cases h
      | some us => rw [hg] at h; cases h
    unfold oneOf at h
    cases h1 : Nat.beq (lenL l) 1 with
    | false => rw [h1,ifB_false] at h; exact key _ h
    | true =>
      rw [h1,ifB_true] at h
      cases h2 : nthL l 0 with
      | none => rw [h2] at h; exact key _ h
      | some y => rw [h2] at h; exact key _ h
theorem finHeap_fresh {fn:Func} {keep:Bool} {nx low:Nat} {s:S} {v:AV} {us:List (Nat × Blk)} {n:Nat} : ¬ finHeap C fn keep nx low s = .fresh v us n:=by
  intro h
  obtain ⟨env,H,nx',low'⟩:=s
  change elimO (resultOf C env H fn.results.toList) (CR.bad 7) (fun l => oneOf l fun r =>
    ifB (orB keep (Nat.ble (Nat.succ low') nx)) (force (minN low low') fun low => CR.heap r H nx' low)
      (elimO (freezeTop H nx 20 r) (force (minN low low') fun low => CR.heap r H nx' low) (fun v => CR.value v none))) = CR.fresh v us n at h
  cases hr : resultOf C env H fn.results.toList with
  | none => rw [hr] at h; cases h
  | some l =>
    rw [hr,elimO_some] at h
    have key : ∀ r,ifB (orB keep (Nat.ble (Nat.succ low') nx)) (force (minN low low') fun low => CR.heap r H nx' low)
      (elimO (freezeTop H nx 20 r) (force (minN low low') fun low => CR.heap r H nx' low) (fun v => CR.value v none)) = CR.fresh v us n → False:=by
      intro r h
      cases hk : orB keep (Nat.ble (Nat.succ low') nx) with
      | true => rw [hk] at h; cases h
      | false =>
        rw [hk,ifB_false] at h
        cases hf : freezeTop H nx 20 r with
        | none => rw [hf] at h; cases h
        | some y => rw [hf] at h; cases h
    unfold oneOf at h
    cases h1 : Nat.beq (lenL l) 1 with
    | false => rw [h1,ifB_false] at h; exact key _ h
    | true =>
      rw [h1,ifB_true] at h
      cases h2 : nthL l 0 with
      | none => rw [h2] at h; exact key _ h
      | some y => rw [h2] at h; exact key _ h
theorem finPure_fresh {fn:Func} {s:S} {v:AV} {us:List (Nat × Blk)} {n:Nat} : ¬ finPure C fn s = .fresh v us n:=by
  intro h
  obtain ⟨env,H,nx',low'⟩:=s
  change elimO (bindO (resultOf C env H fn.results.toList) fun l => oneOf l (freeze H 0 20)) (CR.bad 5) (fun v => CR.value v (some [])) = CR.fresh v us n at h
  cases hr : bindO (resultOf C env H fn.results.toList) fun l => oneOf l (freeze H 0 20) with
  | none => rw [hr] at h; cases h
  | some y => rw [hr] at h; cases h
theorem doneWith_fresh {f:S → CR} {o:Out} {v:AV} {us:List (Nat × Blk)} {n:Nat} (h:doneWith f o = .fresh v us n) : ∃ s,f s = .fresh v us n:=by
  cases o with
  | nrm s => exact ⟨s,h⟩
  | ret s => exact ⟨s,h⟩
  | ext i s => cases h
  | bad w => cases h
theorem callWith_fresh {f:FuncId} {args:List AV} {H:T Blk} {nx low:Nat} {v:AV} {us:List (Nat × Blk)} {n:Nat} (h:callWith C run f args H nx low = .fresh v us n) :
    ∀ H' low',callWith C run f args H' nx low' = .fresh v us n:=by
  intro H' low'
  unfold callWith at *
  cases he : C.ext f args with
  | some y => rw [he] at h; cases h
  | none =>
    rw [he] at h
    simp only [elimO_none] at h ⊢
    cases hf : funcOf C f with
    | none => rw [hf] at h; cases h
    | some p =>
      rw [hf] at h
      simp only [elimO_some] at h ⊢
      cases hb : Nat.ble (lenL args) p.1.ntmps with
      | false => rw [hb] at h; cases h
      | true =>
        rw [hb] at h
        simp only [ifB_true] at h ⊢
        unfold enterWith at *
        rw [fill_eq] at h ⊢
        cases hc : andB (allB (flat 4) args) (notB (C.nf f)) with
        | true =>
          rw [hc,ifB_true] at h
          obtain ⟨s,hs⟩:=doneWith_fresh h
          exact absurd hs finPure_fresh
        | false =>
          rw [hc,ifB_false] at h
          rw [ifB_false]
          cases hfl : allB (flat 4) args with
          | true =>
            rw [hfl,ifB_true] at h
            rw [ifB_true]
            exact h
          | false =>
            rw [hfl,ifB_false] at h
            obtain ⟨s,hs⟩:=doneWith_fresh h
            exact absurd hs finHeap_fresh
theorem callWith_pure {f:FuncId} {args:List AV} {H:T Blk} {nx low:Nat} {v:AV} {l:List Nat} (h:callWith C run f args H nx low = .value v (some l)) :
    ∀ H' nx' low',callWith C run f args H' nx' low' = .value v (some l):=by
  intro H' nx' low'
  unfold callWith at *
  cases he : C.ext f args with
  | some y => rw [he] at h; simp only [elimO_some,ifB_true] at h ⊢; exact h
  | none =>
    rw [he] at h
    simp only [elimO_none] at h ⊢
    cases hf : funcOf C f with
    | none => rw [hf] at h; cases h
    | some p =>
      rw [hf] at h
      simp only [elimO_some] at h ⊢
      cases hb : Nat.ble (lenL args) p.1.ntmps with
      | false => rw [hb] at h; cases h
      | true =>
        rw [hb] at h
        simp only [ifB_true] at h ⊢
        unfold enterWith at *
        rw [fill_eq] at h ⊢
        cases hc : andB (allB (flat 4) args) (notB (C.nf f)) with
        | true => rw [hc] at h; simp only [elimO_some,ifB_true] at h ⊢; exact h
        | false =>
          rw [hc,ifB_false] at h
          cases hfl : allB (flat 4) args with
          | true =>
            rw [hfl,ifB_true] at h
            obtain ⟨s,_,hs⟩:=doneWith_value h
            exact absurd hs finFresh_value
          | false =>
            rw [hfl,ifB_false] at h
            obtain ⟨s,_,hs⟩:=doneWith_value h
            cases finHeap_value hs
theorem wanted_congr {env env' : T AV} {o:Oper} (h : ∀ t ∈ o.looksAt ops,env'.get t = env.get t) : wanted env' ops o = wanted env ops o:=by
  unfold wanted
  cases hg : o.guard with
  | none => rfl
  | some g =>
    show guardOk env' ops g.1 g.2 = guardOk env ops g.1 g.2
    unfold guardOk
    cases hd : guardDst ops g.1 with
    | none => rfl
    | some d =>
      simp only [elimO_some]
      rw [T.getA_eq,T.getA_eq,h d (by
        unfold Oper.looksAt
        rw [hg]
        have : (ops[g.1]?).bind (·.dst) = some d:=hd
        simp [this])]
theorem looks_op {o:Oper} {t:Tmp} (h:Operand.tmp t ∈ o.op.operands.toList) : t ∈ o.looksAt ops:=by
  unfold Oper.looksAt
  exact List.mem_append_left _ (List.mem_filterMap.2 ⟨_,h,rfl⟩)
def StepLoc (C:Cx) (run:Code → S → Out) (ops:Array Oper) (nb:Nat) (o:Oper) (env:T AV) (H:T Blk) (nx low:Nat) (s:S) (f:Foot) : Prop:=
  (∃ v us rd m,s = ⟨putT env o.dst v,upsT H us,Option.getD m nx,lower low us⟩ ∧ f = ⟨rd,some (us.map (·.1)),m.isSome⟩ ∧
    ∀ env' H' nx' low',(∀ t ∈ o.looksAt ops,env'.get t = env.get t) → (m = none ∨ nx' = nx) → ((∃ l,rd = some l ∧ Agree l H H') ∨ (H' = H ∧ nx' = nx ∧ low' = low)) →
      stepOp C run ops nb o ⟨env',H',nx',low'⟩ = .ok ⟨putT env' o.dst v,upsT H' us,Option.getD m nx',lower low' us⟩ f) ∨
  (∃ v H1 nx1 low1,s = ⟨putT env o.dst v,H1,nx1,low1⟩ ∧ f = ⟨none,none,true⟩ ∧
    ∀ env',(∀ t ∈ o.looksAt ops,env'.get t = env.get t) → stepOp C run ops nb o ⟨env',H,nx,low⟩ = .ok ⟨putT env' o.dst v,H1,nx1,low1⟩ f)
theorem stepSimple_eq (dst:Option Tmp) (r:R) (env:T AV) (H:T Blk) (nx low:Nat) : stepSimple dst (some r) env H nx low = .ok ⟨putT env dst r.v,upsT H r.ups,nx,lower low r.ups⟩ ⟨r.rd,some (r.ups.map (·.1)),false⟩:=by
  obtain ⟨v,us,rd⟩:=r
  show putK env dst v (fun env => Go.Abs.ups H us fun H => force (lower low us) fun low => StepR.ok ⟨env,H,nx,low⟩ ⟨rd,some (us.map (·.1)),false⟩) = _
  rw [putK_eqT,ups_eq,force_eq]
theorem stepOp_eq (nb:Nat) (o:Oper) (env:T AV) (H:T Blk) (nx low:Nat) : stepOp C run ops nb o ⟨env,H,nx,low⟩ = ifB (wanted env ops o) (stepAny C run nb o env H nx low) (putK env o.dst (.tuple []) fun env => .ok ⟨env,H,nx,low⟩ ⟨some [],some [],false⟩):=rfl
theorem stepAny_cases (C:Cx) (run:Code → S → Out) (o:Oper) : (∃ c f,o.op = .call c ∧ c.callee = .value f ∧ ∀ nb env H nx low,stepAny C run nb o env H nx low = stepCall C run o.dst f c.args env H nx low) ∨
    (∀ nb env H nx low,stepAny C run nb o env H nx low = stepSimple o.dst (simple o.op C env H nb o.type) env H nx low):=by
  obtain ⟨dst,op,type,pos,after,guard⟩:=o
  cases op <;> try exact .inr fun _ _ _ _ _ => rfl
  rename_i c
  obtain ⟨callee,args,argTypes⟩:=c
  cases callee with
  | value f => exact .inl ⟨_,f,rfl,rfl,fun _ _ _ _ _ => rfl⟩
  | _ => exact .inr fun _ _ _ _ _ => rfl
theorem calleeArgs_congr {env env' : T AV} {f:Operand} {args:Array Operand} (h : ∀ t,(Operand.tmp t = f ∨ Operand.tmp t ∈ args.toList) → env'.get t = env.get t) : calleeArgs env' f args = calleeArgs env f args:=by
  unfold calleeArgs
  rw [opd_congr (fun t e => h t (.inl e.symm)),opds_congr (fun t ht => h t (.inr ht))]
theorem stepOp_loc {nb:Nat} {o:Oper} {env:T AV} {H:T Blk} {nx low:Nat} {s:S} {f:Foot} (h:stepOp C run ops nb o ⟨env,H,nx,low⟩ = .ok s f) : StepLoc C run ops nb o env H nx low s f:=by
  rw [stepOp_eq] at h
  cases hw : wanted env ops o with
  | false =>
    rw [hw,ifB_false,putK_eqT] at h
    cases h
    refine .inl ⟨.tuple [],[],some [],none,rfl,rfl,fun env' H' nx' low' he _ _ => ?_⟩
    rw [stepOp_eq,wanted_congr he,hw,ifB_false,putK_eqT]; rfl
  | true =>
    rw [hw,ifB_true] at h
    rcases stepAny_cases C run o with ⟨c,g,ho,hc,e⟩ | e
    · rw [e] at h
      unfold stepCall at h
      cases hca : calleeArgs env g c.args with
      | none => rw [hca] at h; cases h
      | some p =>
        rw [hca,elimO_some] at h
        have hcong : ∀ env',(∀ t ∈ o.looksAt ops,env'.get t = env.get t) → calleeArgs env' g c.args = some p:=fun env' he => by
          rw [← hca]
          refine calleeArgs_congr fun t ht => he t (looks_op ?_)
          rw [ho]
          show Operand.tmp t ∈ c.operands.toList
          unfold Call.operands
          rw [hc]
          rcases ht with ht | ht
          · simp [ht]
          · simp; exact .inr (by simpa using ht)
        cases hbor : C.bor p.1 with
        | true =>
          rw [hbor,ifB_true] at h
          cases hl : lendL H p.2 with
          | none => rw [hl] at h; cases h
          | some q =>
            rw [hl,elimO_some] at h
            cases hr : callWith C run p.1 q.1 T.nil nx low with
            | bad w => rw [hr] at h; cases h
            | heap v H1 nx1 low1 => rw [hr] at h; cases h
            | value v rd =>
              rw [hr] at h
              replace h : elimO rd (StepR.bad 97) (fun _ => ifB (plainA v) (putK env o.dst v fun env => StepR.ok ⟨env,H,nx,low⟩ ⟨some q.2,some [],false⟩) (.bad 97)) = .ok s f:=h
              cases rd with
              | none => cases h
              | some l =>
                rw [elimO_some] at h
                cases hp : plainA v with
                | false => rw [hp] at h; cases h
                | true =>
                  rw [hp,ifB_true,putK_eqT] at h
                  cases h
                  refine .inl ⟨v,[],some q.2,none,rfl,rfl,fun env' H' nx' low' he _ hH => ?_⟩
                  rw [stepOp_eq,wanted_congr he,hw,ifB_true,e]
                  unfold stepCall
                  rw [hcong env' he,elimO_some,hbor,ifB_true]
                  have hl' : lendL H' p.2 = some q:=by
                    rcases hH with ⟨l,hl2,ha⟩ | ⟨rfl,_,_⟩
                    · cases hl2; exact lendL_loc hl ha
                    · exact hl
                  rw [hl',elimO_some,callWith_pure hr T.nil nx' low']
                  show elimO (some l) (StepR.bad 97) (fun _ => ifB (plainA v) (putK env' o.dst v fun env => StepR.ok ⟨env,H',nx',low'⟩ ⟨some q.2,some [],false⟩) (.bad 97)) = _
                  rw [elimO_some,hp,ifB_true,putK_eqT]; rfl
            | fresh v us n =>
              rw [hr] at h
              replace h : ifB (andB (lentV v) (allB lentB us)) (putK env o.dst v fun env => Go.Abs.ups H us fun H => force (lower low us) fun low => StepR.ok ⟨env,H,n,low⟩ ⟨some q.2,some (us.map (·.1)),true⟩) (.bad 97) = .ok s f:=h
              cases hp : andB (lentV v) (allB lentB us) with
              | false => rw [hp] at h; cases h
              | true =>
                rw [hp,ifB_true,putK_eqT,ups_eq,force_eq] at h
                cases h
                refine .inl ⟨v,us,some q.2,some n,rfl,rfl,fun env' H' nx' low' he hn hH => ?_⟩
                obtain rfl : nx' = nx:=by rcases hn with hn | hn; cases hn; exact hn
                rw [stepOp_eq,wanted_congr he,hw,ifB_true,e]
                unfold stepCall
                rw [hcong env' he,elimO_some,hbor,ifB_true]
                have hl' : lendL H' p.2 = some q:=by
                  rcases hH with ⟨l,hl2,ha⟩ | ⟨rfl,_,_⟩
                  · cases hl2; exact lendL_loc hl ha
                  · exact hl
                rw [hl',elimO_some,callWith_fresh hr]
                show ifB (andB (lentV v) (allB lentB us)) (putK env' o.dst v fun env => Go.Abs.ups H' us fun H => force (lower low' us) fun low => StepR.ok ⟨env,H,n,low⟩ ⟨some q.2,some (us.map (·.1)),true⟩) (.bad 97) = _
                rw [hp,ifB_true,putK_eqT,ups_eq,force_eq]; rfl
        | false =>
        rw [hbor,ifB_false] at h
        cases hr : callWith C run p.1 p.2 H nx low with
        | bad w => rw [hr] at h; cases h
        | value v rd =>
          rw [hr] at h
          replace h : putK env o.dst v (fun env => StepR.ok ⟨env,H,nx,low⟩ ⟨rd,some [],false⟩) = .ok s f:=h
          rw [putK_eqT] at h
          cases h
          refine .inl ⟨v,[],rd,none,rfl,rfl,fun env' H' nx' low' he _ hH => ?_⟩
          rw [stepOp_eq,wanted_congr he,hw,ifB_true,e]
          unfold stepCall
          rw [hcong env' he,elimO_some,hbor,ifB_false]
          have hr' : callWith C run p.1 p.2 H' nx' low' = .value v rd:=by
            rcases hH with ⟨l,rfl,_⟩ | ⟨rfl,rfl,rfl⟩
            · exact callWith_pure hr _ _ _
            · exact hr
          rw [hr']
          show putK env' o.dst v (fun env => StepR.ok ⟨env,H',nx',low'⟩ ⟨rd,some [],false⟩) = _
          rw [putK_eqT]; rfl
        | fresh v us n =>
          rw [hr] at h
          replace h : putK env o.dst v (fun env => Go.Abs.ups H us fun H => force (lower low us) fun low => StepR.ok ⟨env,H,n,low⟩ ⟨some [],some (us.map (·.1)),true⟩) = .ok s f:=h
          rw [putK_eqT,ups_eq,force_eq] at h
          cases h
          refine .inl ⟨v,us,some [],some n,rfl,rfl,fun env' H' nx' low' he hn _ => ?_⟩
          obtain rfl : nx' = nx:=by rcases hn with hn | hn; cases hn; exact hn
          rw [stepOp_eq,wanted_congr he,hw,ifB_true,e]
          unfold stepCall
          rw [hcong env' he,elimO_some,hbor,ifB_false,callWith_fresh hr]
          show putK env' o.dst v (fun env => Go.Abs.ups H' us fun H => force (lower low' us) fun low => StepR.ok ⟨env,H,n,low⟩ ⟨some [],some (us.map (·.1)),true⟩) = _
          rw [putK_eqT,ups_eq,force_eq]; rfl
        | heap v H1 nx1 low1 =>
          rw [hr] at h
          replace h : putK env o.dst v (fun env => StepR.ok ⟨env,H1,nx1,low1⟩ ⟨none,none,true⟩) = .ok s f:=h
          rw [putK_eqT] at h
          cases h
          refine .inr ⟨v,H1,nx1,low1,rfl,rfl,fun env' he => ?_⟩
          rw [stepOp_eq,wanted_congr he,hw,ifB_true,e]
          unfold stepCall
          rw [hcong env' he,elimO_some,hbor,ifB_false,hr]
          show putK env' o.dst v (fun env => StepR.ok ⟨env,H1,nx1,low1⟩ ⟨none,none,true⟩) = _
          rw [putK_eqT]
    · rw [e] at h
      cases hs : simple o.op C env H nb o.type with
      | none => rw [hs] at h; cases h
      | some r =>
        rw [hs,stepSimple_eq] at h
        cases h
        obtain ⟨rd,h1,h2⟩:=simple_loc r hs
        refine .inl ⟨r.v,r.ups,r.rd,none,rfl,rfl,fun env' H' nx' low' he _ hH => ?_⟩
        rw [stepOp_eq,wanted_congr he,hw,ifB_true,e,simple_env (fun t ht => he t (looks_op ht))]
        have : simple o.op C env H' nb o.type = some r:=by
          rcases hH with ⟨l,hl,ha⟩ | ⟨rfl,_,_⟩
          · rw [h1] at hl; cases hl; exact h2 H' ha
          · exact hs
        rw [this,stepSimple_eq]; rfl
theorem noneRead_some {f:Foot} (h:noneRead f = true) : f.rd = some []:=by
  unfold noneRead at h
  cases hr : f.rd with
  | none => rw [hr] at h; cases h
  | some l => rw [hr] at h; rw [emptyB_true h]
theorem apartB_spec {w:List Nat} {r:Option (List Nat)} (h:apartB w r = true) : w = [] ∨ ∃ l,r = some l ∧ ∀ x ∈ w,x ∉ l:=by
  unfold apartB at h
  rcases orB_true.1 h with h | h
  · exact .inl (emptyB_true h)
  · cases r with
    | none => cases h
    | some l => exact .inr ⟨l,rfl,meet_false (notB_true.1 h)⟩
theorem swap {k i:Oper} {nk ni:Nat} {s s1 s2:S} {fk fi:Foot} (hk:stepOp C run ops nk k s = .ok s1 fk) (hi:stepOp C run ops ni i s1 = .ok s2 fi)
    (hap:Oper.apart ops k i = true) (hc:clear2 fk fi = true) : ∃ s1',stepOp C run ops ni i s = .ok s1' fi ∧ stepOp C run ops nk k s1' = .ok s2 fk:=by
  obtain ⟨a1,a2,a3⟩:=Oper.apart_spec hap
  obtain ⟨env,H,nx,low⟩:=s
  have agree_i : ∀ v,∀ t ∈ i.looksAt ops,env.get t = (putT env k.dst v).get t:=fun v t ht => by
    rw [get_putT]; split
    · rename_i hd; exact absurd ht (a1 t hd)
    · rfl
  have agree_k : ∀ v,∀ t ∈ k.looksAt ops,(putT env i.dst v).get t = env.get t:=fun v t ht => by
    rw [get_putT]; split
    · rename_i hd; exact absurd ht (a3 t hd)
    · rfl
  unfold clear2 at hc
  rw [andB_true,andB_true,andB_true,notB_true,orB_true,orB_true,notB_true,notB_true] at hc
  obtain ⟨⟨hmv,hmk,hmi⟩,hc⟩:=hc
  rcases stepOp_loc hk with ⟨vk,uk,rk,mk,rfl,rfl,gk⟩ | ⟨vk,H1,nx1,low1,rfl,rfl,gk⟩
  · rcases stepOp_loc hi with ⟨vi,ui,ri,mi,rfl,rfl,gi⟩ | ⟨vi,H2,nx2,low2,rfl,rfl,gi⟩
    · change andB (notB (meet (uk.map (·.1)) (ui.map (·.1)))) (andB (apartB (uk.map (·.1)) ri) (apartB (ui.map (·.1)) rk)) = true at hc
      rw [andB_true,andB_true,notB_true] at hc
      obtain ⟨c1,c2,c3⟩:=hc
      have hm : mk = none ∨ mi = none:=by
        cases mk with
        | none => exact .inl rfl
        | some a => cases mi with
          | none => exact .inr rfl
          | some b => cases hmv
      have hi':=gi env H nx low (agree_i vk) (by rcases hm with rfl | rfl; exact .inr rfl; exact .inl rfl) (by
        rcases apartB_spec c2 with h | ⟨l,rfl,h⟩
        · have : uk = []:=by simpa using h
          subst this
          cases mk with
          | none => exact .inr ⟨rfl,rfl,rfl⟩
          | some a =>
            cases ri with
            | some l => exact .inl ⟨l,rfl,fun b hb => rfl⟩
            | none => rcases hmk with h | h <;> cases h
        · exact .inl ⟨l,rfl,fun b hb => (get_upsT_of_not (fun hm => h b hm hb)).symm⟩)
      refine ⟨_,hi',?_⟩
      have hk':=gk (putT env i.dst vi) (upsT H ui) (Option.getD mi nx) (lower low ui) (agree_k vi) (by rcases hm with rfl | rfl; exact .inl rfl; exact .inr rfl) (by
        rcases apartB_spec c3 with h | ⟨l,rfl,h⟩
        · have : ui = []:=by simpa using h
          subst this
          cases mi with
          | none => exact .inr ⟨rfl,rfl,rfl⟩
          | some a =>
            cases rk with
            | some l => exact .inl ⟨l,rfl,fun b hb => rfl⟩
            | none => rcases hmi with h | h <;> cases h
        · exact .inl ⟨l,rfl,fun b hb => get_upsT_of_not (fun hm => h b hm hb)⟩)
      rw [hk']
      rw [putT_comm (fun x hx => a2 x hx),upsT_comm (meet_false c1),lower_comm]
      rcases hm with rfl | rfl <;> rfl
    · change andB (emptyB (uk.map (·.1))) (noneRead ⟨rk,some (uk.map (·.1)),mk.isSome⟩) = true at hc
      rw [andB_true] at hc
      have hu : uk = []:=by simpa using emptyB_true hc.1
      subst hu
      have hr : rk = some []:=noneRead_some hc.2
      subst hr
      have hmk' : mk = none:=by cases mk with | none => rfl | some a => cases hmv
      subst hmk'
      refine ⟨_,gi env (agree_i vk),?_⟩
      have hk':=gk (putT env i.dst vi) H2 nx2 low2 (agree_k vi) (.inl rfl) (.inl ⟨[],rfl,fun b hb => by cases hb⟩)
      rw [hk',putT_comm (fun x hx => a2 x hx)]; rfl
  · have hc' : ∃ vi ui,fi = ⟨some [],some [],false⟩ ∧ ui = ([] : List (Nat × Blk)) ∧ s2 = ⟨putT (putT env k.dst vk) i.dst vi,H1,nx1,low1⟩ ∧ stepOp C run ops ni i ⟨env,H,nx,low⟩ = .ok ⟨putT env i.dst vi,H,nx,low⟩ fi:=by
      rcases stepOp_loc hi with ⟨vi,ui,ri,mi,rfl,rfl,gi⟩ | ⟨vi,H2,nx2,low2,rfl,rfl,gi⟩
      · change andB (emptyB (ui.map (·.1))) (noneRead ⟨ri,some (ui.map (·.1)),mi.isSome⟩) = true at hc
        rw [andB_true] at hc
        have hu : ui = []:=by simpa using emptyB_true hc.1
        subst hu
        have hr : ri = some []:=noneRead_some hc.2
        subst hr
        have hmi' : mi = none:=by cases mi with | none => rfl | some a => cases hmv
        subst hmi'
        exact ⟨vi,[],rfl,rfl,rfl,gi env H nx low (agree_i vk) (.inl rfl) (.inl ⟨[],rfl,fun b hb => by cases hb⟩)⟩
      · cases hc
    obtain ⟨vi,ui,rfl,rfl,rfl,hi'⟩:=hc'
    refine ⟨_,hi',?_⟩
    rw [gk _ (agree_k vi),putT_comm (fun x hx => a2 x hx)]
end
end Go.Abs
