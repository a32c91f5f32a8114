/- MORE FUEL ANSWERS THE SAME: what a run comes to at some fuel, if it is no 'bad', it comes to at any greater one. -/
import Derived.Test.YtdomagdnaohpbaaGreatDoorEvFast
set_option linter.unusedSimpArgs false
set_option linter.unusedVariables false
namespace Go.Abs
section
variable {C:Cx} {run run':Code→S→Out}
theorem kY {F:S→CR} {a b:Out} (h:a=b∨∃ w,a=.bad w):zD F a=zD F b∨∃ w,zD F a=.bad w:=by
  rcases h with rfl | ⟨w,rfl⟩
  · exact .inl rfl
  · exact .inr ⟨w,rfl⟩
variable (hr:∀ c s,run c s=run' c s∨∃ w,run c s=.bad w)
include hr
theorem qc (f:FuncId) (args:List AV) (H:T Blk) (nx low:Nat):zx C run f args H nx low=zx C run' f args H nx low∨∃ w,zx C run f args H nx low=.bad w:=by
  unfold zx
  cases C.ext f args with
  | some v=>exact .inl rfl
  |
    none =>
    simp only [elimO_none]
    cases funcOf C f with
    | none=>exact .inl rfl
    |
      some p =>
      simp only [elimO_some]
      cases Nat.ble (lenL args) p.1.ntmps with
      | false=>exact .inl rfl
      |
        true =>
        simp only [ifB_true]
        unfold y9
        simp only [zZ]
        cases andB (allB (flat 4) args) (notB (C.nf f)) with
        | true=>simp only [ifB_true]; exact kY (hr _ _)
        |
          false =>
          simp only [zj]
          cases allB (flat 4) args with
          | true=>simp only [ifB_true]; exact kY (hr _ _)
          | false=>simp only [zj]; exact kY (hr _ _)
theorem Ya (dst:Option Tmp) (f:Operand) (args:Array Operand) (env:T AV) (H:T Blk) (nx low:Nat):ye C run dst f args env H nx low=ye C run' dst f args env H nx low∨∃ w,ye C run dst f args env H nx low=.bad w:=by
  unfold ye
  cases yd env f args with
  | none=>exact .inl rfl
  |
    some p =>
    simp only [elimO_some]
    cases C.bor p.1 with
    |
      false =>
      simp only [zj]
      rcases qc (C:=C) hr p.1 p.2 H nx low with e | ⟨w,e⟩
      · rw [e]; exact .inl rfl
      · rw [e]; exact .inr ⟨w,rfl⟩
    |
      true =>
      simp only [ifB_true]
      cases vj H p.2 with
      | none=>exact .inl rfl
      |
        some q =>
        simp only [elimO_some]
        rcases qc (C:=C) hr p.1 q.1 T.nil nx low with e | ⟨w,e⟩
        · rw [e]; exact .inl rfl
        · rw [e]; exact .inr ⟨97,rfl⟩
theorem jq (ops:Array Oper) (nb:Nat) (o:Oper) (s:S):stepOp C run ops nb o s=stepOp C run' ops nb o s∨∃ w,stepOp C run ops nb o s=.bad w:=by
  obtain ⟨env,H,nx,low⟩:=s
  have e:∀ r:Code→S→Out,stepOp C r ops nb o ⟨env,H,nx,low⟩=ifB (wanted env ops o) (wN C r nb o env H nx low) (putK env o.dst (.tuple []) fun env=>.ok ⟨env,H,nx,low⟩ ⟨some [],some [],false,nu⟩):=fun _=>rfl
  rw [e,e]
  cases wanted env ops o with
  | false=>exact .inl rfl
  |
    true =>
    simp only [ifB_true]
    unfold wN
    cases vU o.op with
    | none=>exact .inl rfl
    | some p=>simp only [elimO_some]; exact Ya hr _ _ _ _ _ _ _
theorem Qk (ops:Array Oper) (base:Nat) (l:List Oper):∀ (i:Nat) (s:S) (fs:List Foot),steps C run ops base l i s fs=steps C run' ops base l i s fs∨∃ w,steps C run ops base l i s fs=.bad w:=by
  induction l with
  | nil=>intro i s fs; exact .inl rfl
  |
    cons o l ih =>
    intro i s fs
    have e:∀ r:Code→S→Out,steps C r ops base (o::l) i s fs=StepR.rec (motive:=fun _=>StepsR) (fun s' f=>steps C r ops base l (Nat.succ i) s' (f::fs)) (fun w=>.bad (ifB (Nat.ble w 999) (Nat.add w (Nat.mul 1000 (Nat.succ i))) w)) (stepOp C r ops (Nat.add base i) o s):=fun _=>rfl
    rw [e,e]
    rcases jq (C:=C) hr ops (Nat.add base i) o s with h | ⟨w,h⟩
    ·
      rw [h]
      cases stepOp C run' ops (Nat.add base i) o s with
      | ok s' f=>exact ih _ _ _
      | bad w=>exact .inl rfl
    · rw [h]; exact .inr ⟨_,rfl⟩
theorem Vu (id:Nat) (ops:Array Oper) (draw:Bool) (s:S):region C run id ops draw s=region C run' id ops draw s∨∃ w,region C run id ops draw s=.bad w:=by
  obtain ⟨env,H,nx,low⟩:=s
  rw [vM,vM]
  rcases Qk (C:=C) hr ops nx ops.toList 0 (drop C ops.toList ⟨env,H,nx + lenL ops.toList,low⟩) [] with h | ⟨w,h⟩
  · rw [h]; exact .inl rfl
  · rw [h]; exact .inr ⟨_,rfl⟩
theorem XA (c:Code) (s:S):wO C run c s=wO C run' c s∨∃ w,wO C run c s=.bad w:=by
  cases c with
  | skip=>exact .inl rfl
  | label _=>exact .inl rfl
  | region id ops draw=>exact Vu hr id ops draw s
  |
    seq a b =>
    have e:∀ r:Code→S→Out,wO C r (.seq a b) s=Out.rec (motive:=fun _=>Out) (fun s'=>r b s') (fun i s'=>.ext i s') (fun s'=>.ret s') (fun w=>.bad w) (r a s):=fun _=>rfl
    rw [e,e]
    rcases hr a s with h | ⟨w,h⟩
    ·
      rw [h]
      cases run' a s with
      | nrm s'=>exact hr b s'
      | _=>exact .inl rfl
    · rw [h]; exact .inr ⟨w,rfl⟩
  |
    cond c a b =>
    obtain ⟨env,H,nx,low⟩:=s
    have e:∀ r:Code→S→Out,wO C r (.cond c a b) ⟨env,H,nx,low⟩=elimO (zf (opd env c) z9) (.bad 101) (fun x=>r (ifB x a b) ⟨env,H,nx,low⟩):=fun _=>rfl
    rw [e,e]
    cases zf (opd env c) z9 with
    | none=>exact .inl rfl
    | some x=>exact hr _ _
  |
    block id a =>
    have e:∀ r:Code→S→Out,wO C r (.block id a) s=Out.rec (motive:=fun _=>Out) (fun s'=>.nrm s') (fun id' s'=>ifB (Nat.beq id' id) (.nrm s') (.ext id' s')) (fun s'=>.ret s') (fun w=>.bad w) (r a s):=fun _=>rfl
    rw [e,e]
    rcases hr a s with h | ⟨w,h⟩
    · rw [h]; exact .inl rfl
    · rw [h]; exact .inr ⟨w,rfl⟩
  |
    loop a =>
    have e:∀ r:Code→S→Out,wO C r (.loop a) s=Out.rec (motive:=fun _=>Out) (fun s'=>r (.loop a) s') (fun i s'=>.ext i s') (fun s'=>.ret s') (fun w=>.bad w) (r a s):=fun _=>rfl
    rw [e,e]
    rcases hr a s with h | ⟨w,h⟩
    ·
      rw [h]
      cases run' a s with
      | nrm s'=>exact hr _ s'
      | _=>exact .inl rfl
    · rw [h]; exact .inr ⟨w,rfl⟩
  | scope a=>exact hr a s
  | exit id=>exact .inl rfl
  | ret=>exact .inl rfl
  | rangeFunc _ _ _ _=>exact .inl rfl
  | goto _=>exact .inl rfl
  | refuse _=>exact .inl rfl
end
theorem Vv {C:Cx}:∀ (n:Nat) (c:Code) (s:S),Go.Abs.run C n c s=Go.Abs.run C (n + 1) c s∨∃ w,Go.Abs.run C n c s=.bad w
  | 0,c,s=>.inr ⟨0,rfl⟩
  | n + 1,c,s=>by rw [Vn,Vn (n + 1)]; exact XA (Vv n) c s
theorem Ql {C:Cx} {n:Nat} (m:Nat) (h:n≤m) (c:Code) (s:S):Go.Abs.run C n c s=Go.Abs.run C m c s∨∃ w,Go.Abs.run C n c s=.bad w:=by
  induction m with
  | zero =>
            obtain rfl:n=0:=by omega
            exact .inl rfl
  |
    succ m ih =>
    by_cases hn:n=m + 1
    · subst hn; exact .inl rfl
    ·
      rcases ih (by omega) with h1 | h1
      ·
        rcases Vv (C:=C) m c s with h2 | ⟨w,h2⟩
        · exact .inl (h1.trans h2)
        · exact .inr ⟨w,h1.trans h2⟩
      · exact .inr h1
end Go.Abs
