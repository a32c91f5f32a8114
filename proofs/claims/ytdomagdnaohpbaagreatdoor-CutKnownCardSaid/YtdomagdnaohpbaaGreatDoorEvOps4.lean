/- WHAT THE EVALUATOR SAYS OF AN OPERATION, THE MACHINE DOES: slice expressions, conversions, literals. -/
import Derived.Test.YtdomagdnaohpbaaGreatDoorEvOps3
import Derived.Laws.BytesArg
import Derived.Lib.Strings
set_option linter.unusedSimpArgs false
set_option linter.unusedVariables false
namespace Go.Abs
section
variable {C:Cx} {F:Nat→Prop} {j:J} {env:T AV} {H:T Blk} {ρ:Operand→Value} {w:World} {nb:Nat} {ty:TypeId} {r:R} {X:Nat→Prop}
theorem yi {k:IntKind} {n y:Nat} {code:BoundsCode} (h:n≤y) (w:World):(Instr.sliceBound (.int k (n:Int)) y code).run C.P w=.ok n w:=by
  simp [Instr.sliceBound,asIntOf,h]
theorem qn (p:Pre F j env H ρ w) {o:Option Operand} {d n:Nat} (h:bound env o d=some n):(o=none∧n=d)∨∃ x k,o=some x∧ρ x=.int k (.ofNat n):=by
  cases o with
  | none=>cases h; exact .inl ⟨rfl,rfl⟩
  |
    some x =>
    obtain ⟨a,ha,h⟩:=za.1 h
    obtain ⟨k,rfl⟩:=w6 h
    exact .inr ⟨x,k,rfl,(p.opd _ _ ha).v_eq.1⟩
theorem xQ (p:Pre F j env H ρ w) {lo hi mx:Option Operand} {len cap conc:Nat} {k:Nat→Nat→Nat→Option R} (h:x9 env lo hi mx len cap k=some r) (hcap:cap≤conc) (isS:Bool) :
    ∃
      l hh m mc,l≤hh∧hh≤m∧m≤mc∧mc≤conc∧k l hh m=some r∧(Instr.sliceBounds isS len conc (lo.map ρ) (hi.map ρ) (mx.map ρ)).run C.P w=.ok (l,hh,mc) w ∧
      (qi mx=true→mc=m)∧(qi mx=false→m=cap∧mc=conc):=by
  replace h:=za.1 h; obtain ⟨m,hm,h⟩:=h
  replace h:=za.1 h; obtain ⟨hh,hhh,h⟩:=h
  replace h:=za.1 h; obtain ⟨l,hl,h⟩:=h
  replace h:=zi.1 h; obtain ⟨hg,h⟩:=h
  rw [zl,zl,zl,zq,zq,zq,j5,uJ] at hg
  obtain ⟨g1,g2,g3,g4⟩:=hg
  rcases qn p hm with ⟨rfl,rfl⟩ | ⟨xm,km,rfl,em⟩ <;> rcases qn p hhh with ⟨rfl,rfl⟩ | ⟨xh,kh,rfl,eh⟩ <;> rcases qn p hl with ⟨rfl,rfl⟩ | ⟨xl,kl,rfl,el⟩
  · exact ⟨0,hh,m,conc,g3,g2,by omega,Nat.le_refl _,h,by simp [Instr.sliceBounds],(fun e=>(by cases e)),fun _=>⟨rfl,rfl⟩⟩
  · exact ⟨l,hh,m,conc,g3,g2,by omega,Nat.le_refl _,h,by simp [Instr.sliceBounds,el,yi (C:=C) g3 w],(fun e=>(by cases e)),fun _=>⟨rfl,rfl⟩⟩
  · exact ⟨0,hh,m,conc,g3,g2,by omega,Nat.le_refl _,h,by simp [Instr.sliceBounds,eh,yi (C:=C) (show hh≤conc by omega) w],(fun e=>(by cases e)),fun _=>⟨rfl,rfl⟩⟩
  · exact ⟨l,hh,m,conc,g3,g2,by omega,Nat.le_refl _,h,by simp [Instr.sliceBounds,eh,el,yi (C:=C) (show hh≤conc by omega) w,yi (C:=C) g3 w],(fun e=>(by cases e)),fun _=>⟨rfl,rfl⟩⟩
  · cases g4
  · cases g4
  · exact ⟨0,hh,m,m,g3,g2,Nat.le_refl _,by omega,h,by simp [Instr.sliceBounds,eh,em,yi (C:=C) (show m≤conc by omega) w,yi (C:=C) g2 w],fun _=>rfl,(fun e=>(by cases e))⟩
  · exact ⟨l,hh,m,m,g3,g2,Nat.le_refl _,by omega,h,by simp [Instr.sliceBounds,eh,em,el,yi (C:=C) (show m≤conc by omega) w,yi (C:=C) g2 w,yi (C:=C) g3 w],fun _=>rfl,(fun e=>(by cases e))⟩
theorem Ze (B o l m es:Nat):(if m=l then (⟨B,o,none⟩:Addr) else (⟨B,o,none⟩:Addr).add (l * es))=⟨B,if m=l then o else o + l * es,none⟩:=by
  split
  · rfl
  · exact Addr.add_eq _ _ _
theorem Ym {S off l mc c es:Nat} (h1:l≤mc) (h2:mc≤c) (h:off + c * es≤S):off + l * es + (mc - l) * es≤S:=by
  have e:l * es + (mc - l) * es=mc * es:=by rw [← Nat.add_mul,Nat.add_sub_cancel' h1]
  have:=Nat.mul_le_mul_right es h2
  omega
theorem WW (p:Pre F j env H ρ w) {t:TypeId} {x:Operand} {lo hi mx:Option Operand} (h:jV t x lo hi mx C env H nb ty=some r) :
    GoodV F j H w nb r ((Instr.sliceAt t (ρ x) (lo.map ρ) (hi.map ρ) (mx.map ρ)).run C.P w):=by
  replace h:=za.1 h; obtain ⟨y,hy,h⟩:=h
  have h1:=p.opd _ _ hy
  generalize ρ x=v at h1
  cases y <;> try (cases h; done)
  ·
    rename_i z
    obtain ⟨rfl,hz⟩:=h1.v_eq
    cases v <;> try (cases h; done)
    ·
      rename_i s
      replace h:=zi.1 h; obtain ⟨hg,h⟩:=h
      rw [zl,uJ] at hg
      obtain ⟨ht,hmx⟩:=hg
      have hmx:mx=none:=by cases mx with
        | none=>rfl
        | some _=>cases hmx
      subst hmx
      have hsz:lenL s.data.toList=s.size:=by rw [yb]; simp
      rw [hsz] at h
      obtain ⟨l,hh,m,mc,g1,g2,g3,g4,hk,hrun,g5,g6⟩:=xQ (C:=C) p h (Nat.le_refl _) false
      rw [y_,qQ,vG] at hk
      cases hk
      have e:(Instr.sliceAt t (.string s) (lo.map ρ) (hi.map ρ) (Option.map ρ none)).run C.P w=.ok (.string (s.extract l hh)) w:=by
        simp only [Option.map_none] at hrun ⊢
        simp [Instr.sliceAt,run_underlying (yL ht),Instr.slice,hrun]
      rw [e]
      have e2:s.extract l hh=⟨⟨List.drop l (List.take hh s.data.toList)⟩⟩:=by
        have:=Lib.extract_data s l hh
        have e3:(s.extract l hh).data.toList=List.drop l (List.take hh s.data.toList):=by rw [this,List.drop_take]
        rcases hq:s.extract l hh with ⟨⟨q⟩⟩
        rw [hq] at e3
        simpa using e3
      rw [e2]
      exact GoodV.pure p.heap (.v rfl)
    ·
      rename_i a n c
      replace h:=zi.1 h; obtain ⟨_,h⟩:=h
      cases a with
      | some _=>cases hz
      |
        none =>
        cases n with
        | succ _=>cases hz
        |
          zero =>
          cases c with
          | succ _=>cases hz
          |
            zero =>
            replace h:=za.1 h; obtain ⟨e,he,h⟩:=h
            obtain ⟨hu,hk⟩:=ya he
            obtain ⟨l,hh,m,mc,g1,g2,g3,g4,hk',hrun,g5,g6⟩:=xQ (C:=C) p h (Nat.le_refl _) true
            cases hk'
            obtain rfl:mc=0:=by omega
            obtain rfl:l=0:=by omega
            obtain rfl:hh=0:=by omega
            have e:(Instr.sliceAt t (.slice none 0 0) (lo.map ρ) (hi.map ρ) (mx.map ρ)).run C.P w=.ok (.slice none 0 0) w:=by
              simp [Instr.sliceAt,run_underlying hu,Instr.slice,hrun,z7 hk]
            rw [e]; exact GoodV.pure p.heap (.v rfl)
  ·
    rename_i b off
    replace h:=za.1 h; obtain ⟨q,hq,h⟩:=h
    replace h:=za.1 h; obtain ⟨qq,hqq,h⟩:=h
    replace h:=zi.1 h; obtain ⟨hle,h⟩:=h
    have hle:off + q.1 * C.P.cellsOf q.2≤qq.2:=zq.1 hle
    obtain ⟨hu,hk⟩:=yE hq
    obtain ⟨l,hh,m,mc,g1,g2,g3,g4,hk',hrun,g5,g6⟩:=xQ (C:=C) p h (Nat.le_refl _) false
    unfold WB at hk'
    rw [zr,zr,zr] at hk'
    cases hk'
    cases h1 with
    |
      hp hb =>
      rename_i B S
      obtain ⟨kq,hq1,hq2⟩:=wc hqq
      obtain ⟨B',S',arr,e',k1,k2,k3,k4,k5⟩:=p.heap.body _ _ _ _ hq1 hq2
      rw [hb] at k1; cases k1
      have hmc:mc=m:=by
        cases hm:qi mx with
        | true=>exact g5 hm
        | false=>rw [(g6 hm).1,(g6 hm).2]
      have e:(Instr.sliceAt t (.pointer (some ⟨B,off,none⟩)) (lo.map ρ) (hi.map ρ) (mx.map ρ)).run C.P w=.ok (.slice (some ⟨B,if mc=l then off else off + l * C.P.cellsOf q.2,none⟩) (hh - l) (mc - l)) w:=by
        simp only [Instr.sliceAt,Sem.run_bind,run_underlying hu,Result.andThen_ok,Instr.sureAddr,Sem.run_pure,hrun,z7 hk,Ze]
      rw [e,hmc]
      refine GoodV.pure p.heap (.hs hb (by show hh - l≤m - l; omega) (Nat.le_refl _) (fun _=>rfl) (fun hne => ?_))
      rw [if_neg (fun e=>hne (by omega))]
      exact ⟨rfl,Ym (c:=q.1) (by omega) (by omega) (by omega)⟩
  ·
    rename_i tt off
    replace h:=za.1 h; obtain ⟨q,hq,h⟩:=h
    obtain ⟨hu,hk⟩:=yE hq
    obtain ⟨l,hh,m,mc,g1,g2,g3,g4,hk',hrun,g5,g6⟩:=xQ (C:=C) p h (Nat.le_refl _) false
    unfold WC at hk'
    rw [zr,zr,zr] at hk'
    cases hk'
    cases h1 with
    |
      vp f hB hlt hc hr =>
      rename_i B o
      have hmc:mc=m:=by
        cases hm:qi mx with
        | true=>exact g5 hm
        | false=>rw [(g6 hm).1,(g6 hm).2]
      have e:(Instr.sliceAt t (.pointer (some ⟨B,o,none⟩)) (lo.map ρ) (hi.map ρ) (mx.map ρ)).run C.P w=.ok (.slice (some ⟨B,if mc=l then o else o + l * C.P.cellsOf q.2,none⟩) (hh - l) (mc - l)) w:=by
        simp only [Instr.sliceAt,Sem.run_bind,run_underlying hu,Result.andThen_ok,Instr.sureAddr,Sem.run_pure,hrun,z7 hk,Ze]
      rw [e,hmc]
      refine GoodV.pure p.heap (.vs (fun i=>f (l * C.P.cellsOf q.2 + i)) hB hlt (by show hh - l≤m - l; omega) (Nat.le_refl _) (fun _=>rfl) (fun i x hx => ?_) (fun i x hx => ?_))
      ·
        change (ifB (Nat.beq (m - l) 0) T.nil tt).get (off + l * C.P.cellsOf q.2 + i)=some x at hx
        by_cases hz:m - l=0
        · rw [beq_true.2 hz] at hx; simp at hx
        · rw [show Nat.beq (m - l) 0=false from by cases hbq:Nat.beq (m - l) 0 with
            | false=>rfl
            | true=>exact absurd (beq_true.1 hbq) hz,zj] at hx
          rw [if_neg (by omega),Nat.add_assoc]
          rw [Nat.add_assoc] at hx
          exact hc _ x hx
      ·
        change (ifB (Nat.beq (m - l) 0) T.nil tt).get (off + l * C.P.cellsOf q.2 + i)=some x at hx
        cases hbq:Nat.beq (m - l) 0 with
        | true=>rw [hbq] at hx; simp at hx
        |
          false =>
          rw [hbq,zj,Nat.add_assoc] at hx
          exact hr _ x hx
  ·
    rename_i b off len es cap ex
    replace h:=za.1 h; obtain ⟨q,hq,h⟩:=h
    replace h:=zi.1 h; obtain ⟨hes,h⟩:=h
    obtain rfl:=beq_true.1 hes
    obtain ⟨hu,hk⟩:=ya hq
    cases h1 with
    |
      hs hb k1 k2 k3 k4 =>
      rename_i B S o c
      obtain ⟨l,hh,m,mc,g1,g2,g3,g4,hk',hrun,g5,g6⟩:=xQ (C:=C) p h k2 true
      unfold WB at hk'
      rw [zr,zr,zr] at hk'
      cases hk'
      have e:(Instr.sliceAt t (.slice (some ⟨B,o,none⟩) len c) (lo.map ρ) (hi.map ρ) (mx.map ρ)).run C.P w=.ok (.slice (some ⟨B,if mc=l then o else o + l * C.P.cellsOf q,none⟩) (hh - l) (mc - l)) w:=by
        simp only [Instr.sliceAt,Sem.run_bind,run_underlying hu,Result.andThen_ok,Instr.slice,Sem.run_pure,hrun,z7 hk]
        by_cases hml:mc=l
        · simp [hml]
        · simp [hml,Addr.add_eq]
      rw [e]
      refine GoodV.pure p.heap (.hs hb (by show hh - l≤m - l; omega) (by show m - l≤mc - l; omega) (fun he => ?_) (fun hne => ?_))
      ·
        show mc - l=m - l
        rw [j5,Bool.or_eq_true] at he
        cases hm:qi mx with
        | true=>rw [g5 hm]
        |
          false =>
          rcases he with he | he
          · rw [(g6 hm).1,(g6 hm).2,k3 he]
          · rw [hm] at he; cases he
      ·
        obtain ⟨ho,hS⟩:=k4 (by omega)
        rw [if_neg (fun e=>hne (by omega)),ho]
        exact ⟨rfl,Ym (by omega) g4 hS⟩
  ·
    rename_i tt off len es cap ex
    replace h:=za.1 h; obtain ⟨q,hq,h⟩:=h
    replace h:=zi.1 h; obtain ⟨hes,h⟩:=h
    obtain rfl:=beq_true.1 hes
    obtain ⟨hu,hk⟩:=ya hq
    cases h1 with
    |
      vs f hB hlt k1 k2 k3 hc hr =>
      rename_i B o c
      obtain ⟨l,hh,m,mc,g1,g2,g3,g4,hk',hrun,g5,g6⟩:=xQ (C:=C) p h k2 true
      unfold WC at hk'
      rw [zr,zr,zr] at hk'
      cases hk'
      have e:(Instr.sliceAt t (.slice (some ⟨B,o,none⟩) len c) (lo.map ρ) (hi.map ρ) (mx.map ρ)).run C.P w=.ok (.slice (some ⟨B,if mc=l then o else o + l * C.P.cellsOf q,none⟩) (hh - l) (mc - l)) w:=by
        simp only [Instr.sliceAt,Sem.run_bind,run_underlying hu,Result.andThen_ok,Instr.slice,Sem.run_pure,hrun,z7 hk]
        by_cases hml:mc=l
        · simp [hml]
        · simp [hml,Addr.add_eq]
      rw [e]
      refine GoodV.pure p.heap (.vs (fun i=>f (l * C.P.cellsOf q + i)) hB hlt (by show hh - l≤m - l; omega) (by show m - l≤mc - l; omega) (fun he => ?_) (fun i x hx => ?_) (fun i x hx => ?_))
      ·
        show mc - l=m - l
        rw [j5,Bool.or_eq_true] at he
        cases hm:qi mx with
        | true=>rw [g5 hm]
        |
          false =>
          rcases he with he | he
          · rw [(g6 hm).1,(g6 hm).2,k3 he]
          · rw [hm] at he; cases he
      ·
        change (ifB (Nat.beq (m - l) 0) T.nil tt).get (off + l * C.P.cellsOf q + i)=some x at hx
        cases hbq:Nat.beq (m - l) 0 with
        | true=>rw [hbq] at hx; simp at hx
        |
          false =>
          have hne:m - l≠0:=fun e=>by rw [beq_true.2 e] at hbq; cases hbq
          rw [hbq,zj,Nat.add_assoc] at hx
          rw [if_neg (by omega),Nat.add_assoc]
          exact hc _ x hx
      ·
        change (ifB (Nat.beq (m - l) 0) T.nil tt).get (off + l * C.P.cellsOf q + i)=some x at hx
        cases hbq:Nat.beq (m - l) 0 with
        | true=>rw [hbq] at hx; simp at hx
        |
          false =>
          rw [hbq,zj,Nat.add_assoc] at hx
          exact hr _ x hx
theorem uN {z v:Value} (h:Yg z=true) (hp:plain z=true):z=.slice none 0 0:=by
  cases z with
  |
    slice a n c =>
    cases a with
    | some _=>cases hp
    |
      none =>
      cases n with
      | succ _=>cases hp
      |
        zero=>cases c with
        | succ _=>cases hp
        | zero=>rfl
  | _=>cases h
theorem wt (ho:HeapOk X j w H) {x:AV} {v:Value} {n k:Nat} {q:List AV×List Nat} (hr:Rel X j w x v) (hn:qN x=some n) (h:yT H k x=some q) :
    ∃
      vs:List Value,vs.length=k∧q.1.length=k∧(∀ (i:Nat) (y:AV) (u:Value),q.1[i]? = some y→vs[i]? = some u→Rel X j w y u) ∧
      ((v=.slice none 0 0∧n=0∧k=0)∨∃ B o c,v=.slice (some ⟨B,o,none⟩) n c∧(c≠0→∀ i u,vs[i]? = some u→w.cell? ((⟨B,o,none⟩:Addr).add i)=some u)):=by
  cases x <;> try (cases h; done)
  ·
    rename_i z
    obtain ⟨rfl,hz⟩:=hr.v_eq
    replace h:=zi.1 h; obtain ⟨hg,h⟩:=h
    rw [zl,beq_true] at hg
    obtain ⟨hnil,rfl⟩:=hg
    cases h
    obtain rfl:=uN (v:=v) hnil hz
    have hn:some 0=some n:=hn
    cases hn
    exact ⟨[],rfl,rfl,fun i y u hy=>by simp at hy,.inl ⟨rfl,rfl,rfl⟩⟩
  ·
    rename_i b off len es lo ex
    have hn:some len=some n:=hn
    cases hn
    replace h:=za.1 h; obtain ⟨q',hq,h⟩:=h
    replace h:=za.1 h; obtain ⟨l,hl,h⟩:=h
    cases h
    cases hr with
    |
      hs hb k1 k2 k3 k4 =>
      rename_i B S o c
      obtain ⟨vs,e1,e2,e3,e4⟩:=qm (ho.at (wc hq) hb off) hl
      exact ⟨vs,e1,e2,e4,.inr ⟨B,o,c,rfl,fun hne i u hu=>by rw [(k4 hne).1]; exact e3 i u hu⟩⟩
  ·
    rename_i tt off len es lo ex
    have hn:some len=some n:=hn
    cases hn
    replace h:=za.1 h; obtain ⟨l,hl,h⟩:=h
    cases h
    cases hr with
    |
      vs f hB hlt k1 k2 k3 hc hr' =>
      rename_i B o c
      obtain ⟨vs,e1,e2,e3,e4⟩:=qm (X:=X) (j:=j) (w:=w) (B:=B) (o:=o) (fun i x hx=>⟨f i,hc i x hx,(hr' i x hx).lift⟩) hl
      exact ⟨vs,e1,e2,e4,.inr ⟨B,o,c,rfl,fun _ i u hu=>e3 i u hu⟩⟩
theorem wP {t:TypeId} {k:IntKind} (h:x8 C t=some k):C.P.underlying t=some (.int k):=by
  unfold x8 at h
  split at h
  · rename_i k' he; cases h; exact he
  · cases h
theorem Ke {k:IntKind} (h:Nat.beq (xD k) 4=true):k=.u8:=by cases k <;> first | rfl | cases h
theorem u5 {x:AV} {b:UInt8} (h:jU x=some b):∃ m,x=.v (.int .u8 (.ofNat m))∧b=UInt8.ofNat m:=by
  unfold jU at h
  rcases wA x with ⟨k,n,rfl⟩ | hx
  ·
    obtain ⟨hk,h⟩:=zi.1 h
    obtain rfl:=Ke hk
    cases n with
    | ofNat m=>exact ⟨m,rfl,by cases h; rfl⟩
    | negSucc m=>cases h
  · rw [hx] at h; cases h
theorem ZZ (p:Pre F j env H ρ w) {s d:TypeId} {x:Operand} (h:ud s d x C env H nb ty=some r):GoodV F j H w nb r ((convert s d (ρ x)).run C.P w):=by
  replace h:=za.1 h; obtain ⟨y,hy,h⟩:=h
  have h1:=p.opd _ _ hy
  generalize ρ x=v at h1
  cases hd:x8 C d with
  |
    some k =>
    rw [hd,elimO_some] at h
    replace h:=za.1 h; obtain ⟨k',hk',h⟩:=h
    rcases wA y with ⟨k2,n,rfl⟩ | hx
    ·
      obtain ⟨rfl,_⟩:=h1.v_eq
      obtain ⟨z,hz,h⟩:=za.1 h
      cases h
      have:=uL hz; subst this
      have e:(convert s d (.int k2 n)).run C.P w=.ok (.int k (k.wrap n)) w:=by
        simp [convert,run_underlying (wP hk'),run_underlying (wP hd),Conv.intToInt]
      rw [e]; exact GoodV.pure p.heap (.v rfl)
    · rw [hx] at h; cases h
  |
    none =>
    rw [hd,elimO_none] at h
    cases hs:xF C s with
    |
      true =>
      rw [hs,ifB_true] at h
      replace h:=zi.1 h; obtain ⟨hds,h⟩:=h
      obtain ⟨q,rfl,h⟩:=u4 h
      cases h
      obtain ⟨rfl,_⟩:=h1.v_eq
      have e:(convert s d (.string q)).run C.P w=.ok (.string q) w:=by
        simp [convert,run_underlying (yL hs),run_underlying (yL hds)]
      rw [e]; exact GoodV.pure p.heap (.v rfl)
    |
      false =>
      rw [hs,zj] at h
      replace h:=za.1 h; obtain ⟨e,he,h⟩:=h
      replace h:=zi.1 h; obtain ⟨hds,h⟩:=h
      replace h:=za.1 h; obtain ⟨k,hk,h⟩:=h
      replace h:=zi.1 h; obtain ⟨hk8,h⟩:=h
      obtain rfl:=Ke hk8
      replace h:=za.1 h; obtain ⟨n,hn,h⟩:=h
      replace h:=za.1 h; obtain ⟨q,hq,h⟩:=h
      replace h:=za.1 h; obtain ⟨bs,hbs,h⟩:=h
      cases h
      obtain ⟨hu,_⟩:=ya he
      obtain ⟨vs,g1,g2,g3,g4⟩:=wt p.heap h1 hn hq
      obtain ⟨c1,c2⟩:=wi hbs
      have hcells:∃ ns:List Int,vs=ns.map (Value.int .u8)∧bs=ns.map fun n=>UInt8.ofNat n.toNat:=by
        refine ⟨vs.map fun v=>match v with | .int _ n=>n | _=>0,?_,?_⟩
        ·
          apply List.ext_getElem?
          intro i
          by_cases hi:i < vs.length
          ·
            obtain ⟨y,hy⟩:∃ y,q.1[i]? = some y:=⟨_,List.getElem?_eq_getElem (by omega)⟩
            obtain ⟨u,hu⟩:∃ u,vs[i]? = some u:=⟨_,List.getElem?_eq_getElem hi⟩
            obtain ⟨b,hb⟩:∃ b,bs[i]? = some b:=⟨_,List.getElem?_eq_getElem (by omega)⟩
            obtain ⟨m,rfl,_⟩:=u5 (c2 i y b hy hb)
            have:=(g3 i _ u hy hu).v_eq.1
            subst this
            simp [hu]
          · rw [List.getElem?_eq_none (by omega),List.getElem?_eq_none (by simp; omega)]
        ·
          apply List.ext_getElem?
          intro i
          by_cases hi:i < vs.length
          ·
            obtain ⟨y,hy⟩:∃ y,q.1[i]? = some y:=⟨_,List.getElem?_eq_getElem (by omega)⟩
            obtain ⟨u,hu⟩:∃ u,vs[i]? = some u:=⟨_,List.getElem?_eq_getElem hi⟩
            obtain ⟨b,hb⟩:∃ b,bs[i]? = some b:=⟨_,List.getElem?_eq_getElem (by omega)⟩
            obtain ⟨m,rfl,rfl⟩:=u5 (c2 i y b hy hb)
            have:=(g3 i _ u hy hu).v_eq.1
            subst this
            simp [hu,hb]
          · rw [List.getElem?_eq_none (by omega),List.getElem?_eq_none (by simp; omega)]
      obtain ⟨ns,rfl,rfl⟩:=hcells
      have he8:=wP hk
      have hds':=yL hds
      rcases g4 with ⟨rfl,rfl,_⟩ | ⟨B,o,c,rfl,hc⟩
      ·
        have hns:ns=[]:=by simpa using g1
        subst hns
        have e2:(convert s d (.slice none 0 0)).run C.P w=.ok (.string .empty) w:=by
          rw [run_convert_bytes_string w s d e none 0 0 hu he8 hds']; rfl
        rw [e2]; exact GoodV.pure p.heap (.v rfl)
      · have e2:(convert s d (.slice (some ⟨B,o,none⟩) n c)).run C.P w=.ok (.string ⟨(ns.map fun n=>UInt8.ofNat n.toNat).toArray⟩) w:=by
          rw [run_convert_bytes_string w s d e _ n c hu he8 hds']
          by_cases hz:c=0
          ·
            subst hz
            have hn0:n=0:=by
              cases h1 with
              | v hp=>cases hp
              | hs _ k1 k2 _ _=>omega
              | vs _ _ _ k1 k2 _ _ _=>omega
            subst hn0
            have hns:ns=[]:=by simpa using g1
            subst hns
            rfl
          ·
            have hl:=run_loadCells_list (P:=C.P) w ⟨B,o,none⟩ (ns.map (Value.int .u8)) (fun i u hu=>hc hz i u hu)
            have hlen:(ns.map (Value.int .u8)).length=n:=g1
            rw [hlen] at hl
            rw [run_bytesToString w ⟨B,o,none⟩ n c ns hl,foldl_push_bytes]
            congr 2
            simp
        rw [e2]; exact GoodV.pure p.heap (.v rfl)
end
end Go.Abs
