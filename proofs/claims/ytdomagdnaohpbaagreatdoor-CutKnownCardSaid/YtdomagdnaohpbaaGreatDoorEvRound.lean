/- RANGES OVER A FUNCTION: the function's code with the loop's body for its calls of yield: what the evaluator says of them, the machine does. -/
import Derived.Test.YtdomagdnaohpbaaGreatDoorEvLast
import Derived.RangeFuncRecord
set_option linter.unusedSimpArgs false
set_option linter.unusedVariables false
namespace Go.Abs
noncomputable section
structure Yl where
  env:T AV
  ps:List Tmp
  assign:Code
  body:Code
structure Yq where
  jump:Option Code
  nos:List Nat
def Yq.ask (q:Yq) (l:Nat):Prop:=∀ x ∈ q.nos,x=l
def Vz (env:T AV):List Tmp→List AV→T AV
  | t::l,x::r=>Vz (T.set t x env) l r
  | _,_=>env
def ZN (C:Cx) (n:Nat) (y:Yl) (args:List AV) (H:T Blk) (nx low:Nat):Option (Option Code×S):=
  if args.length=y.ps.length then
    match Go.Abs.run C n y.assign ⟨Vz y.env y.ps args,H,nx,low⟩ with
    |
      .nrm s1=>match Go.Abs.run C n y.body s1 with
      | .nrm s2=>some (none,s2)
      | .ret s2=>some (some .ret,s2)
      | .ext id s2=>some (some (.exit id),s2)
      | .bad _=>none
    | _=>none
  else none
def ko (env:T AV) (o:Oper):Option (Nat×List AV):=match vU o.op with
  |
    some (f,args)=>match opd env f with
    |
      some (.fn (.yield l) [] [])=>match vP env args.toList with
      | some v=>some (l,v)
      | none=>none
    | _=>none
  | none=>none
def qF (C:Cx) (n:Nat) (y:Yl) (ops:Array Oper) (l:Nat) (base:Nat):List Oper→Nat→S→Yq→Option (S×Yq)
  | [],_,s,q=>some (s,q)
  |
    o::r,i,s,q=>match (if wanted s.env ops o=true then ko s.env o else none) with
    |
      some (l',args)=>match q.jump with
      |
        none=>match ZN C n y args s.H s.nx s.low with
        | some (jump,s2)=>qF C n y ops l base r (i + 1) ⟨wl s.env o.dst (.v (.bool jump.isNone)),s2.H,s2.nx,s2.low⟩ ⟨jump,l'::q.nos⟩
        | none=>none
      | some _=>none
    |
      none=>match stepOp C (Go.Abs.run C n) ops (base + i) o s with
      | .ok s' _=>qF C n y ops l base r (i + 1) s' q
      | .bad _=>none
def wS (C:Cx) (y:Yl) (l:Nat):Nat→Code→S→Yq→Option (Out×Yq)
  | 0,_,_,_=>none
  |
    n + 1,c,s,q=>match c with
    | .skip=>some (.nrm s,q)
    | .label _=>some (.nrm s,q)
    | .exit id=>some (.ext id s,q)
    | .ret=>some (.ret s,q)
    | .scope a=>wS C y l n a s q
    |
      .region id ops draw=>match Go.Abs.region C (Go.Abs.run C n) id ops draw s with
      | .nrm s'=>some (.nrm s',q)
      |
        _=>match draw with
        | true=>none
        |
          false=>match qF C n y ops l s.nx ops.toList 0 ⟨s.env,s.H,s.nx + ops.size,s.low⟩ q with
          | some (s',q')=>some (.nrm s',q')
          | none=>none
    |
      .seq a b=>match wS C y l n a s q with
      | some (.nrm s',q')=>wS C y l n b s' q'
      | r=>r
    |
      .cond c a b=>match zf (opd s.env c) z9 with
      | some x=>wS C y l n (if x=true then a else b) s q
      | none=>none
    |
      .block id a=>match wS C y l n a s q with
      | some (.ext id' s',q')=>if id'=id then some (.nrm s',q') else some (.ext id' s',q')
      | r=>r
    |
      .loop a=>match wS C y l n a s q with
      | some (.nrm s',q')=>wS C y l n (.loop a) s' q'
      | r=>r
    | _=>none
section
variable {C:Cx} {D:List Deferred} {F:Nat→Prop} {j:J} {env:T AV} {H:T Blk} {w w1:World} {N l:Nat} {a:Act}
theorem HeapOk.turn (ho:HeapOk (XX F j H) j w H) (hF:F l) (hl : ¬ Own j H l) (hk:∀ B,B≠l→w1.heap[B]? = w.heap[B]?) (hs:w1.heap.size=w.heap.size):HeapOk (XX F j H) j w1 H:=by
  have mono:∀ {x:AV} {v:Value},Rel (XX F j H) j w x v→Rel (XX F j H) j w1 x v:=fun h=>h.mono_w (fun _ _ h=>h) (fun B _ hB=>hk B fun e=>hB (.inl (e ▸ hF))) (Nat.le_of_eq hs.symm)
  have ne:∀ b k B S,H.get b=some k→k.live=true→j b=some (B,S)→B≠l:=fun b k B S h1 h2 h3 e=>hl (e ▸ ⟨b,k,S,h1,h2,h3⟩)
  refine ⟨fun b k t n hb hkb => ?_,fun b m hb => ?_,ho.inj,ho.full⟩
  ·
    obtain ⟨B,S,arr,e,h1,h2,h3,h4,h5⟩:=ho.body b k t n hb hkb
    exact ⟨B,S,arr,e,h1,by rw [hk _ (ne b k B S hb (Blk.body_live hkb) h1)]; exact h2,h3,h4,fun i x hx=>by obtain ⟨v,hv,hr⟩:=h5 i x hx; exact ⟨v,hv,mono hr⟩⟩
  ·
    obtain ⟨B,S,es,cl,h1,h2,h3,h4,h5⟩:=ho.maps b m hb
    exact ⟨B,S,es,cl,h1,by rw [hk _ (ne b _ B S hb rfl h1)]; exact h2,h3,h4,fun i k x e hx he=>mono (h5 i k x e hx he)⟩
theorem Sim.turn (sim:Sim D F N j env H a w) (hF:F l) (hk:∀ B,B≠l→w1.heap[B]? = w.heap[B]?) (hs:w1.heap.size=w.heap.size):Sim D F N j env H a w1:=
  ⟨fun t=>(sim.env t).mono_w (fun _ _ h=>h) (fun B _ hB=>hk B fun e=>hB (.inl (e ▸ hF))) (Nat.le_of_eq hs.symm),sim.heap.turn hF (sim.frame l hF).2 hk hs,fun B hB=>by rw [hs]; exact sim.frame B hB,sim.size,sim.defers⟩
theorem qG {r r':Loop} (h:w.heap[l]? = some (.loop r)):Still w (w.putObj l (.loop r')):=
  Still.put (B:=l) (fun B' hB=>World.putObj_heap_other hB) (fun c t fr hc=>by rw [h] at hc; cases hc) (fun c t fr hc=>by rw [World.putObj_heap_same (Array.getElem?_eq_some_iff.1 h).1] at hc; cases hc) rfl rfl
end
section
variable {C:Cx} {F:Nat→Prop} {l m:Nat} {y:Yl} {rec:Loop}
def qe (rec:Loop) (jump:Option Code):Loop:={ rec with state:=if jump.isNone then .ready else .done,pending:=jump }
structure Fits (y:Yl) (rec:Loop) (N:Nat):Prop where
  ps:rec.params.toList=y.ps
  assign:rec.assign=y.assign
  body:rec.body=y.body
  size:rec.tmps.size=N
  lt:yl N y.assign=true∧yl N y.body=true
  pslt:∀ t ∈ y.ps,t < N
structure Under (F:Nat→Prop) (l:Nat) (y:Yl) (rec:Loop) (jump:Option Code) (j:J) (H:T Blk) (w:World):Prop where
  obj:w.heap[l]? = some (.loop (qe rec jump))
  env:∀ t,Rel (XX F j H) j w ((y.env.get t).getD (.tuple [])) (rec.tmps.getD t undef)
  ne:rec.defers≠l
  mark:w.heap[rec.defers]? = some (.deferred (some []))
theorem Under.trans {jump:Option Code} {j j':J} {H H':T Blk} {w w':World} (h:Under F l y rec jump j H w) (ht:Trans j H w j' H' w') (hl : ¬ Own j H l) (hd : ¬ Own j H rec.defers):Under F l y rec jump j' H' w':=
  ⟨by rw [ht.keep l (Array.getElem?_eq_some_iff.1 h.obj).1 hl]; exact h.obj,fun t=>(h.env t).trans ht,h.ne,by rw [ht.keep rec.defers (Array.getElem?_eq_some_iff.1 h.mark).1 hd]; exact h.mark⟩
theorem zdp {X:Nat→Prop} {j:J} {w:World} {N:Nat}:∀ {ps:List Tmp} {args:List AV} {vs:List Value} {env:T AV} {tmps:Array Value},tmps.size=N→(∀ t ∈ ps,t < N)→args.length=ps.length→vs.length=args.length →
    (∀ t,Rel X j w ((env.get t).getD (.tuple [])) (tmps.getD t undef))→(∀ (i:Nat) (x:AV) (v:Value),args[i]? = some x→vs[i]? = some v→Rel X j w x v) →
    (∀ t,Rel X j w (((Vz env ps args).get t).getD (.tuple [])) (((ps.zip vs).foldl (fun tmps (p:Tmp×Value)=>tmps.setIfInBounds p.1 p.2) tmps).getD t undef))∧((ps.zip vs).foldl (fun tmps (p:Tmp×Value)=>tmps.setIfInBounds p.1 p.2) tmps).size=N:=by
  intro ps
  induction ps with
  | nil=>intro args vs env tmps hN _ _ _ h _; cases args <;> exact ⟨h,hN⟩
  |
    cons p ps ih =>
    intro args vs env tmps hN hlt ha hv h hr
    cases args with
    | nil=>cases ha
    |
      cons x args =>
      cases vs with
      | nil=>cases hv
      |
        cons v vs =>
        refine ih (env:=T.set p x env) (tmps:=tmps.setIfInBounds p v) (by simp [hN]) (fun t ht=>hlt t (List.mem_cons_of_mem _ ht)) (by simpa using ha) (by simpa using hv) (fun t => ?_) (fun i x v hx hv=>hr (i + 1) x v (by simpa using hx) (by simpa using hv))
        rw [T.get_set]
        by_cases e:t=p
        ·
          subst e
          have:t < tmps.size:=by rw [hN]; exact hlt t (List.mem_cons_self ..)
          rw [if_pos rfl]
          have e2:(tmps.setIfInBounds t v).getD t undef=v:=by simp [Array.getD_eq_getD_getElem?,this]
          rw [e2]
          exact hr 0 x v rfl rfl
        ·
          rw [if_neg e]
          have e2:(tmps.setIfInBounds p v).getD t undef=tmps.getD t undef:=by simp [Array.getD_eq_getD_getElem?,Array.getElem?_setIfInBounds_ne (Ne.symm e)]
          rw [e2]; exact h t
structure Turned (F:Nat→Prop) (l:Nat) (y:Yl) (rec:Loop) (jump:Option Code) (j:J) (H:T Blk) (nx low:Nat) (w:World) (j':J) (s':S) (w':World):Prop where
  still:Still w w'
  size:w.heap.size≤w'.heap.size
  keep:∀ B,B < w.heap.size→B≠l → ¬ Own j H B→w'.heap[B]? = w.heap[B]?
  own:∀ B,B < w.heap.size→Own j' s'.H B→Own j H B
  jk:∀ (b:Nat) (p:Nat×Nat),j b=some p→j' b=some p
  heap:HeapOk (XX F j' s'.H) j' w' s'.H
  frame:∀ B,F B→B < w'.heap.size ∧ ¬ Own j' s'.H B
  old:∀ b,b < nx→j' b=j b
  fresh:∀ b,s'.nx≤b→j' b=none
  nx:nx≤s'.nx
  low:s'.low≤low
  same:∀ b,b < s'.low→s'.H.get b=H.get b
  under:Under F l y rec jump j' s'.H w'
theorem Under.turn {jump:Option Code} {r r':Loop} {j:J} {H:T Blk} {w:World} (hF:F l) (h:∀ t,Rel (XX F j H) j w ((y.env.get t).getD (.tuple [])) (rec.tmps.getD t undef)) (ho:w.heap[l]? = some (.loop r)) (he:r'=qe rec jump) (hne:rec.defers≠l) (hmk:w.heap[rec.defers]? = some (.deferred (some []))):Under F l y rec jump j H (w.putObj l (.loop r')):=
  ⟨by rw [World.putObj_heap_same (Array.getElem?_eq_some_iff.1 ho).1,he],fun t=>(h t).mono_w (fun _ _ h=>h) (fun B _ hB=>World.putObj_heap_other fun e=>hB (.inl (e ▸ hF))) (by rw [World.putObj_size]; exact Nat.le_refl _),hne,by rw [World.putObj_heap_other hne]; exact hmk⟩
theorem zbA (hm:C.P.follows .mixedOrders=true) (hext:ExtOk C) {n N:Nat} {args:List AV} {vs:Array Value} {H:T Blk} {nx low:Nat} {jump:Option Code} {s2:S} {j:J} {w:World} (hr:ZN C n y args H nx low=some (jump,s2)) (fits:Fits y rec N)
    (ho:HeapOk (XX F j H) j w H) (hframe:∀ B,F B→B < w.heap.size ∧ ¬ Own j H B) (hfresh:∀ b,nx≤b→j b=none) (hF:F l) (hFd:F rec.defers) (hu:Under F l y rec none j H w) (hv:vs.size=args.length) (hargs:∀ (i:Nat) (x:AV) (v:Value),args[i]? = some x→vs[i]? = some v→Rel (XX F j H) j w x v) :
    RoundIn (fW none) m C.P l rec.fn ((rec.params.zip vs).foldl (fun tmps (p:Tmp×Value)=>tmps.setIfInBounds p.1 p.2) rec.tmps) rec.assign rec.body w
      fun e w'=>e=.returned (.bool jump.isNone)∧∃ j',Turned F l y rec jump j H nx low w j' s2 w':=by
  unfold ZN at hr
  split at hr
  case isFalse=>cases hr
  rename_i hlen
  obtain ⟨pe,psz⟩:=zdp (X:=XX F j H) (j:=j) (w:=w) (N:=N) (ps:=y.ps) (args:=args) (vs:=vs.toList) (env:=y.env) (tmps:=rec.tmps) fits.size fits.pslt hlen (by rw [Array.length_toList]; exact hv) hu.env (fun i x v hx hv=>hargs i x v hx (by rw [← Array.getElem?_toList]; exact hv))
  have etm:(rec.params.zip vs).foldl (fun tmps (p:Tmp×Value)=>tmps.setIfInBounds p.1 p.2) rec.tmps=(y.ps.zip vs.toList).foldl (fun tmps (p:Tmp×Value)=>tmps.setIfInBounds p.1 p.2) rec.tmps:=by
    rw [← Array.foldl_toList,Array.toList_zip,fits.ps]
  rw [etm,fits.assign,fits.body]
  refine roundIn_of_wpIn trivial ?_
  cases h1:Go.Abs.run C n y.assign ⟨Vz y.env y.ps args,H,nx,low⟩ with
  |
    nrm s1 =>
    rw [h1] at hr
    dsimp only at hr
    have start:Start [] F N j ⟨Vz y.env y.ps args,H,nx,low⟩ { tmps:=(y.ps.zip vs.toList).foldl (fun tmps (p:Tmp×Value)=>tmps.setIfInBounds p.1 p.2) rec.tmps,defers:=[] } w:=⟨⟨pe,ho,hframe,psz,rfl⟩,hfresh⟩
    refine wpIn_mono ((v1 hm hext n).1 y.assign _ (fun k hk=>by rw [h1] at hk; cases hk) (some l) m [] F N j _ w fits.lt.1 start) fun e a1 w1 hpost => ?_
    obtain ⟨s1',j1,p1,hout⟩:=hpost
    rw [h1] at hout
    rcases hout with ⟨e1,rfl⟩ | ⟨id,e1,_⟩ | ⟨e1,_⟩
    case inr.inl=>cases e1
    case inr.inr=>cases e1
    cases e1
    have ob1:w1.heap[l]? = some (.loop (qe rec none)):=by rw [p1.trans.keep l (hframe l hF).1 (hframe l hF).2]; exact hu.obj
    have ll1:l < w1.heap.size:=(Array.getElem?_eq_some_iff.1 ob1).1
    refine ⟨w1.putObj l (.loop { qe rec none with state:=.busy }),run_beginRound ob1 rfl,?_⟩
    generalize hw2:w1.putObj l (.loop { qe rec none with state:=.busy })=w2
    have k2:∀ B,B≠l→w2.heap[B]? = w1.heap[B]?:=fun B hB=>by rw [← hw2]; exact World.putObj_heap_other hB
    have z2:w2.heap.size=w1.heap.size:=by rw [← hw2]; exact World.putObj_size
    have ob2:w2.heap[l]? = some (.loop { qe rec none with state:=.busy }):=by rw [← hw2]; exact World.putObj_heap_same ll1
    have st2:Still w1 w2:=by rw [← hw2]; exact qG ob1
    have sim2:=p1.sim.turn hF k2 z2
    have en2:∀ t,Rel (XX F j1 s1.H) j1 w2 ((y.env.get t).getD (.tuple [])) (rec.tmps.getD t undef):=fun t =>
      ((hu.env t).trans p1.trans).mono_w (fun _ _ h=>h) (fun B _ hB=>k2 B fun e=>hB (.inl (e ▸ hF))) (Nat.le_of_eq z2.symm)
    have fin:∀ {s2':S} {a2:Act} {w3:World} {j2:J} (jump:Option Code),Post [] F N s1.nx j1 s1 w2 s2' a2 w3 j2→∃ v w4,(Instr.endRound l jump).run C.P w3=.ok v w4∧(v=.bool jump.isNone∧∃ j',Turned F l y rec jump j H nx low w j' s2' w4):=by
      intro s2' a2 w3 j2 jump p2
      have nl2:=sim2.frame l hF
      have ob3:w3.heap[l]? = some (.loop { qe rec none with state:=.busy }):=by rw [p2.trans.keep l nl2.1 nl2.2]; exact ob2
      refine ⟨_,_,run_endRound jump ob3,rfl,j2,?_⟩
      have ll3:=(Array.getElem?_eq_some_iff.1 ob3).1
      have k4:∀ (o:Obj) (B:Nat),B≠l→(w3.putObj l o).heap[B]? = w3.heap[B]?:=fun o B hB=>World.putObj_heap_other hB
      refine ⟨p1.trans.still.trans (st2.trans (p2.trans.still.trans (qG ob3))),?_,?_,?_,?_,?_,?_,?_,p2.fresh,Nat.le_trans p1.nx p2.nx,Nat.le_trans p2.low p1.low,?_,?_⟩
      · rw [World.putObj_size]; exact Nat.le_trans p1.trans.size (Nat.le_trans (Nat.le_of_eq z2.symm) p2.trans.size)
      ·
        intro B hB hne hno
        have hB1:B < w1.heap.size:=Nat.lt_of_lt_of_le hB p1.trans.size
        rw [k4 _ B hne,p2.trans.keep B (by rw [z2]; exact hB1) (fun ho=>hno (p1.trans.own B hB ho)),k2 B hne,p1.trans.keep B hB hno]
      ·
        intro B hB ho
        exact p1.trans.own B hB (p2.trans.own B (by rw [z2]; exact Nat.lt_of_lt_of_le hB p1.trans.size) ho)
      · exact fun b p hp=>p2.trans.j b p (p1.trans.j b p hp)
      · exact p2.sim.heap.turn hF (p2.sim.frame l hF).2 (k4 _) World.putObj_size
      · intro B hB; rw [World.putObj_size]; exact p2.sim.frame B hB
      · exact fun b hb=>(p2.old b (Nat.lt_of_lt_of_le hb p1.nx)).trans (p1.old b hb)
      · exact fun b hb=>(p2.same b hb).trans (p1.same b (Nat.lt_of_lt_of_le hb p2.low))
      ·
        have m1:w1.heap[rec.defers]? = some (.deferred (some [])):=by rw [p1.trans.keep _ (hframe _ hFd).1 (hframe _ hFd).2]; exact hu.mark
        have m2:w2.heap[rec.defers]? = some (.deferred (some [])):=by rw [k2 _ hu.ne]; exact m1
        have m3:w3.heap[rec.defers]? = some (.deferred (some [])):=by rw [p2.trans.keep _ (sim2.frame _ hFd).1 (sim2.frame _ hFd).2]; exact m2
        exact Under.turn hF (fun t=>(en2 t).trans p2.trans) ob3 rfl hu.ne m3
    cases h2:Go.Abs.run C n y.body s1 with
    | bad k=>rw [h2] at hr; cases hr
    |
      nrm s3 =>
      rw [h2] at hr; cases hr
      refine wpIn_mono ((v1 hm hext n).1 y.body s1 (fun k hk=>by rw [h2] at hk; cases hk) (some l) m [] F N j1 a1 w2 fits.lt.2 ⟨sim2,p1.fresh⟩) fun e a2 w3 hpost => ?_
      obtain ⟨s3',j2,p2,hout⟩:=hpost
      rw [h2] at hout
      rcases hout with ⟨e1,rfl⟩ | ⟨id,e1,_⟩ | ⟨e1,_⟩
      case inr.inl=>cases e1
      case inr.inr=>cases e1
      cases e1
      obtain ⟨v,w4,q1,rfl,q2⟩:=fin none p2
      exact ⟨_,w4,q1,rfl,q2⟩
    |
      ret s3 =>
      rw [h2] at hr; cases hr
      refine wpIn_mono ((v1 hm hext n).1 y.body s1 (fun k hk=>by rw [h2] at hk; cases hk) (some l) m [] F N j1 a1 w2 fits.lt.2 ⟨sim2,p1.fresh⟩) fun e a2 w3 hpost => ?_
      obtain ⟨s3',j2,p2,hout⟩:=hpost
      rw [h2] at hout
      rcases hout with ⟨e1,_⟩ | ⟨id,e1,_⟩ | ⟨e1,rfl⟩
      case inl=>cases e1
      case inr.inl=>cases e1
      cases e1
      obtain ⟨v,w4,q1,rfl,q2⟩:=fin (some .ret) p2
      exact ⟨_,w4,q1,rfl,q2⟩
    |
      ext id s3 =>
      rw [h2] at hr; cases hr
      refine wpIn_mono ((v1 hm hext n).1 y.body s1 (fun k hk=>by rw [h2] at hk; cases hk) (some l) m [] F N j1 a1 w2 fits.lt.2 ⟨sim2,p1.fresh⟩) fun e a2 w3 hpost => ?_
      obtain ⟨s3',j2,p2,hout⟩:=hpost
      rw [h2] at hout
      rcases hout with ⟨e1,_⟩ | ⟨id',e1,rfl⟩ | ⟨e1,_⟩
      case inl=>cases e1
      case inr.inr=>cases e1
      cases e1
      obtain ⟨v,w4,q1,rfl,q2⟩:=fin (some (.exit id)) p2
      exact ⟨_,w4,q1,rfl,q2⟩
  | _=>rw [h1] at hr; cases hr
theorem Turned.rel {jump:Option Code} {j j':J} {H:T Blk} {nx low:Nat} {w w':World} {s':S} (h:Turned F l y rec jump j H nx low w j' s' w') (hF:F l) {x:AV} {v:Value} (hr:Rel (XX F j H) j w x v):Rel (XX F j' s'.H) j' w' x v:=
  hr.mono (fun B hB hx=>hx.imp id (h.own B hB)) h.jk (fun B hB hn=>h.keep B hB (fun e=>hn (.inl (e ▸ hF))) (fun ho=>hn (.inr ho))) h.size
theorem Turned.sim {D:List Deferred} {N:Nat} {env:T AV} {a:Act} {jump:Option Code} {j j':J} {H:T Blk} {nx low:Nat} {w w':World} {s':S} (h:Turned F l y rec jump j H nx low w j' s' w') (hF:F l) (sim:Sim D F N j env H a w):Sim D F N j' env s'.H a w':=
  ⟨fun t=>h.rel hF (sim.env t),h.heap,h.frame,sim.size,sim.defers⟩
end
section
variable {C:Cx} {D:List Deferred} {F:Nat→Prop} {l N M m:Nat} {y:Yl} {rec:Loop} {j0:J} {s0:S} {w0:World} {ops:Array Oper}
def GoodY (D:List Deferred) (F:Nat→Prop) (N l m:Nat) (y:Yl) (rec:Loop) (j0:J) (s0:S) (w0:World) (jump:Option Code) (s:S) (a:Act) (w:World):Prop:=∃ j,Post D F N m j0 s0 w0 s a w j∧Under F l y rec jump j s.H w
def YJ (D:List Deferred) (F:Nat→Prop) (N l m:Nat) (y:Yl) (rec:Loop) (j0:J) (s0:S) (w0:World) (out:Out) (jump:Option Code) (e:Exit) (a':Act) (w':World):Prop:=
  ∃ s',GoodY D F N l m y rec j0 s0 w0 jump s' a' w'∧((out=.nrm s'∧e=.normal)∨(∃ id,out=.ext id s'∧e=.exit id)∨(out=.ret s'∧e=.ret))
theorem GoodY.go {jump:Option Code} {s s':S} {a a':Act} {w w':World} {j j':J} (hF:F l) (hFd:F rec.defers) (p:Post D F N m j0 s0 w0 s a w j) (u:Under F l y rec jump j s.H w) (hm:m≤s.nx) (p':Post D F N s.nx j s w s' a' w' j'):GoodY D F N l m y rec j0 s0 w0 jump s' a' w':=
  ⟨j',p.comp p' hm,u.trans p'.trans (p.sim.frame l hF).2 (p.sim.frame _ hFd).2⟩
theorem VA {o:Op} {f:Operand} {args:Array Operand} (h:vU o=some (f,args)):∃ c,o=.call c∧c.callee=.value f∧c.args=args:=by
  cases o with
  |
    call c =>
    obtain ⟨callee,as,ts⟩:=c
    cases callee <;> first | (cases h; exact ⟨_,rfl,rfl,rfl⟩) | cases h
  | _=>cases h
theorem XC {env:T AV} {o:Oper} {l':Nat} {args:List AV} (h:ko env o=some (l',args)):∃ c f,o.op=.call c∧c.callee=.value f∧opd env f=some (.fn (.yield l') [] [])∧vP env c.args.toList=some args:=by
  unfold ko at h
  split at h
  case h_2=>cases h
  rename_i f as hc
  obtain ⟨c,h1,h2,rfl⟩:=VA hc
  split at h
  case h_2=>cases h
  rename_i l'' ho
  split at h
  case h_2=>cases h
  rename_i v hv
  cases h
  exact ⟨c,f,h1,h2,ho,hv⟩
theorem JO {P:Program} {env:T AV} {H:T Blk} {a:Act} {w:World} {j:J} {o:Oper} {args:List AV} {jump:Option Code} (sim:Sim D F N j env H a w) (h:ko env o=some (l,args)) (hu:w.heap[l]? = some (.loop (qe rec jump))) (hps:args.length=rec.params.size) :
    ∃
      vs:Array Value,vs.size=args.length∧(∀ (i:Nat) (x:AV) (v:Value),args[i]? = some x→vs[i]? = some v→Rel (XX F j H) j w x v) ∧
      (execOp a.eval o).run P w=.ok (.round l rec.fn ((rec.params.zip vs).foldl (fun tmps (p:Tmp×Value)=>tmps.setIfInBounds p.1 p.2) rec.tmps) rec.assign rec.body) w:=by
  obtain ⟨c,f,ho,hc,h1,h2⟩:=XC h
  have r1:=sim.pre.opd _ _ h1
  obtain ⟨h3,h4⟩:=um sim.pre h2
  generalize hv:a.eval f=v at r1
  cases r1 with
  |
    fn hl1 hr1 hl2 hr2 =>
    rename_i first' cap'
    have e1:first' = #[]:=Array.eq_empty_of_size_eq_zero (by simpa using hl1.symm)
    have e2:cap' = #[]:=Array.eq_empty_of_size_eq_zero (by simpa using hl2.symm)
    subst e1; subst e2
    refine ⟨c.args.map a.eval,by omega,fun i x v hx hv=>h4 i x v hx hv,?_⟩
    simp only [execOp,ho,resolve,hc,hv,Deferred.ofValue,Sem.run_bind,Sem.run_pure,Result.andThen_ok,invoke]
    have:=run_yield (P:=P) (args:=c.args.map a.eval) hu (show (c.args.map a.eval).size=rec.params.size by omega)
    simp only [Array.empty_append,Array.append_empty]
    exact this
theorem Qo (hm:C.P.follows .mixedOrders=true) (hext:ExtOk C) {n k:Nat} {env:T AV} {H:T Blk} {nx low:Nat} {a:Act} {w:World} {j:J} {o:Oper} {args:List AV} {jump:Option Code} {s2:S} (fits:Fits y rec M) (hF:F l) (hFd:F rec.defers) (hl0:w0.heap.size≤l) (hm0:m≤nx)
    (p:Post D F N m j0 s0 w0 ⟨env,H,nx,low⟩ a w j) (u:Under F l y rec none j H w) (h:ko env o=some (l,args)) (hr:ZN C n y args H nx low=some (jump,s2)) (hd:uh N o=true)
    {K:Act→World→Prop} {Q:Exit→Act→World→Prop} (hK:∀ a' w' j',Post D F N m j0 s0 w0 ⟨wl env o.dst (.v (.bool jump.isNone)),s2.H,s2.nx,s2.low⟩ a' w' j'→Under F l y rec jump j' s2.H w'→(∀ b,b < nx→j' b=j b)→nx≤s2.nx→K a' w') :
    o.wpIn (fW none) k C.P a w K Q:=by
  have hlen:args.length=rec.params.size:=by
    unfold ZN at hr
    split at hr
    case isFalse=>cases hr
    rename_i e
    rw [e,← fits.ps,Array.length_toList]
  obtain ⟨vs,h1,h2,h3⟩:=JO (P:=C.P) p.sim h u.obj hlen
  refine ⟨fun _ _=>trivial,?_⟩
  rw [Oper.semAt_none,h3,Oper.uponIn_round]
  refine ⟨(fun h=>by cases h),(zbA (m:=k - 1) hm hext hr fits p.sim.heap p.sim.frame p.fresh hF hFd u h1 h2).mono fun e w' ⟨he,j',t⟩ => ?_⟩
  subst he
  have sim:=t.sim hF p.sim
  have hd':∀ t,o.dst=some t→t < N:=fun t ht=>Yt hd ht
  refine hK _ w' j' ⟨?_,sim.put (Trans.refl ..) t.heap hd' (.v rfl),fun b hb=>(t.old b (Nat.lt_of_lt_of_le hb hm0)).trans (p.old b hb),t.fresh,Nat.le_trans p.nx t.nx,Nat.le_trans t.low p.low,fun b hb=>(t.same b hb).trans (p.same b (Nat.lt_of_lt_of_le hb t.low))⟩ t.under t.old t.nx
  exact ⟨p.trans.still.trans t.still,Nat.le_trans p.trans.size t.size,fun B hB hn=>(t.keep B (Nat.lt_of_lt_of_le hB p.trans.size) (by omega) (fun ho=>hn (p.trans.own B hB ho))).trans (p.trans.keep B hB hn),
    fun B hB ho=>p.trans.own B hB (t.own B (Nat.lt_of_lt_of_le hB p.trans.size) ho),fun b q hq=>t.jk b q (p.trans.j b q hq)⟩
theorem ZO {n base:Nat}:∀ {r:List Oper} {i:Nat} {s s':S} {q q':Yq},qF C n y ops l base r i s q=some (s',q')→q'.ask l→q.ask l:=by
  intro r
  induction r with
  | nil=>intro i s s' q q' h hq; cases h; exact hq
  |
    cons o r ih =>
    intro i s s' q q' h hq
    unfold qF at h
    split at h
    ·
      rename_i l' args _
      split at h
      ·
        split at h
        · exact fun x hx=>ih h hq x (List.mem_cons_of_mem _ hx)
        · cases h
      · cases h
    ·
      split at h
      · exact ih h hq
      · cases h
theorem JP (hm:C.P.follows .mixedOrders=true) (hext:ExtOk C) {n k base:Nat} (fits:Fits y rec M) (hF:F l) (hFd:F rec.defers) (hl0:w0.heap.size≤l) (hd:ops.toList.all (uh N)=true) (hmb:m≤base) {Q:Exit→Act→World→Prop} (hQl : ¬ LetsOut Q) :
    ∀
      {r:List Oper} {i:Nat} {s s':S} {q q':Yq} {a:Act} {w:World},r=ops.toList.drop i→qF C n y ops l base r i s q=some (s',q')→q'.ask l →
      (∃ j,Post D F N m j0 s0 w0 s a w j∧Under F l y rec q.jump j s.H w∧(∀ i',i≤i'→i' < ops.size→j (base + i')=none)∧base + ops.size≤s.nx) →
      (∀ a' w',GoodY D F N l m y rec j0 s0 w0 q'.jump s' a' w'→Q .normal a' w')→wpOpsIn (fW none) k C.P ops Q (List.range' i (ops.size - i)) a w:=by
  intro r
  induction r with
  |
    nil =>
    intro i s s' q q' a w hr h hq ⟨j,p,u,_⟩ hQ
    cases h
    have:ops.size≤i:=by have:=congrArg List.length hr; simp at this; omega
    rw [show ops.size - i=0 by omega]
    exact hQ a w ⟨j,p,u⟩
  |
    cons o r ih =>
    intro i s s' q q' a w hr h hq ⟨j,p,u,hpend,hnx⟩ hQ
    have hi:i < ops.size:=by
      have:=congrArg List.length hr
      simp at this; omega
    have ho:ops[i]? = some o:=by
      have e:=congrArg (fun l=>l[0]?) hr
      simp at e
      exact e.symm
    have hr':r=ops.toList.drop (i + 1):=by
      have e:=congrArg List.tail hr
      rw [List.tail_drop] at e
      exact e
    have hdi:uh N o=true:=List.all_eq_true.1 hd o (by have:=Array.mem_of_getElem? ho; simpa using this)
    rw [show ops.size - i=(ops.size - (i + 1)) + 1 by omega,List.range'_succ,wpOpsIn_cons]
    obtain ⟨env,H,nx,low⟩:=s
    unfold wpOpIn
    rw [ho]
    dsimp only
    unfold qF at h
    split at h
    ·
      rename_i l' args hy
      split at hy
      case isFalse=>cases hy
      rename_i hw
      rw [Ys p.sim o,hw,if_pos rfl]
      split at h
      case h_2=>cases h
      rename_i hj
      split at h
      case h_2=>cases h
      rename_i jump s2 hround
      have hask:=ZO h hq
      obtain rfl:=hask l' (List.mem_cons_self ..)
      rw [hj] at u
      refine Qo hm hext fits hF hFd hl0 (Nat.le_trans hmb (Nat.le_trans (Nat.le_add_right ..) hnx)) p u hy hround hdi fun a' w' j' p' u' hold hnx' => ?_
      exact ih hr' h hq ⟨j',p',u',fun i' h1 h2=>by rw [hold _ (show base + i' < nx from Nat.lt_of_lt_of_le (by omega) hnx)]; exact hpend i' (by omega) h2,Nat.le_trans hnx hnx'⟩ hQ
    ·
      rename_i hy
      split at h
      case h_2=>cases h
      rename_i s1 ft hs
      have hst:=Kl (K:=wpOpsIn (fW none) k C.P ops Q (List.range' (i + 1) (ops.size - (i + 1)))) (Q:=Q) (v1 hm hext n).1 hext hs hdi p.start (hpend i (Nat.le_refl _) hi) (show base + i < nx from Nat.lt_of_lt_of_le (by omega) hnx) fun j' a' w' t=>by
        have pn:Post D F N m j0 s0 w0 s1 a' w' j':=⟨p.trans.trans t.trans,t.sim,fun b hb=>(t.old b (by omega) (Nat.lt_of_lt_of_le hb (Nat.le_trans hmb (Nat.le_trans (Nat.le_add_right ..) hnx)))).trans (p.old b hb),t.fresh,Nat.le_trans p.nx t.nx,Nat.le_trans t.low p.low,fun b hb=>(t.same b hb).trans (p.same b (Nat.lt_of_lt_of_le hb t.low))⟩
        refine ih hr' h hq ⟨j',pn,u.trans t.trans (p.sim.frame l hF).2 (p.sim.frame _ hFd).2,fun i' h1 h2 => ?_,Nat.le_trans hnx t.nx⟩ hQ
        rw [t.old _ (by omega) (show base + i' < nx from Nat.lt_of_lt_of_le (by omega) hnx)]
        exact hpend i' (by omega) h2
      by_cases hw:Region.wanted o (yielded ops a.tmps)=true
      ·
        simp only [hw,if_true] at hst ⊢
        rcases hst with hst | ⟨_,hst⟩
        · exact Zr (Vj hdi) hst
        · exact absurd hst hQl
      ·
        simp only [hw] at hst ⊢
        exact ⟨fun _ _=>trivial,hst⟩
theorem VB:∀ {n:Nat} {c:Code} {s:S} {q:Yq} {out:Out} {q':Yq},wS C y l n c s q=some (out,q')→q'.ask l→q.ask l:=by
  intro n
  induction n with
  | zero=>intro c s q out q' h; cases h
  |
    succ n ih =>
    intro c s q out q' h hq
    cases c with
    | skip=>cases h; exact hq
    | label _=>cases h; exact hq
    | exit _=>cases h; exact hq
    | ret=>cases h; exact hq
    | scope a=>exact ih (c:=a) h hq
    |
      region id ops draw =>
      unfold wS at h
      dsimp only at h
      split at h
      · cases h; exact hq
      ·
        cases draw with
        | true=>cases h
        |
          false =>
          dsimp only at h
          split at h
          ·
            rename_i s1 q1 hs
            cases h
            exact ZO hs hq
          · cases h
    |
      seq a b =>
      unfold wS at h
      dsimp only at h
      split at h
      ·
        rename_i s1 q1 h1
        exact ih h1 (ih h hq)
      · exact ih (c:=a) h hq
    |
      cond c a b =>
      unfold wS at h
      dsimp only at h
      split at h
      · exact ih h hq
      · cases h
    |
      block id a =>
      unfold wS at h
      dsimp only at h
      split at h
      ·
        rename_i id' s1 q1 h1
        split at h <;> (cases h; exact ih h1 hq)
      · exact ih (c:=a) h hq
    |
      loop a =>
      unfold wS at h
      dsimp only at h
      split at h
      ·
        rename_i s1 q1 h1
        exact ih h1 (ih h hq)
      · exact ih (c:=a) h hq
    | _=>cases h
theorem zbB {out:Out} {jump:Option Code} : ¬ LetsOut (YJ D F N l m y rec j0 s0 w0 out jump):=fun ⟨a',w',s',_,h⟩=>by
  rcases h with ⟨_,h⟩ | ⟨_,_,h⟩ | ⟨_,h⟩ <;> cases h
theorem zdq (hm:C.P.follows .mixedOrders=true) (hext:ExtOk C) {k:Nat} (fits:Fits y rec M) (hF:F l) (hFd:F rec.defers) (hl0:w0.heap.size≤l) (hm0:m≤s0.nx):∀ (n:Nat),
    (∀ {c:Code} {s:S} {q:Yq} {out:Out} {q':Yq} {a:Act} {w:World},wS C y l n c s q=some (out,q')→q'.ask l→yl N c=true→GoodY D F N l m y rec j0 s0 w0 q.jump s a w→c.wpIn (fW none) k C.P (YJ D F N l m y rec j0 s0 w0 out q'.jump) a w) ∧
    (∀ {c:Code} {s:S} {q:Yq} {out:Out} {q':Yq} {a:Act} {w:World},wS C y l n (.loop c) s q=some (out,q')→q'.ask l→yl N c=true→GoodY D F N l m y rec j0 s0 w0 q.jump s a w→Code.roundsIn (fW none) k C.P c (YJ D F N l m y rec j0 s0 w0 out q'.jump) n a w):=by
  intro n
  induction n with
  | zero=>exact ⟨(fun h=>by cases h),(fun h=>by cases h)⟩
  |
    succ n ih =>
    obtain ⟨ihr,ihl⟩:=ih
    have loop:∀ {c:Code} {s:S} {q:Yq} {out:Out} {q':Yq} {a:Act} {w:World},wS C y l (n + 1) (.loop c) s q=some (out,q')→q'.ask l→yl N c=true→GoodY D F N l m y rec j0 s0 w0 q.jump s a w→Code.roundsIn (fW none) k C.P c (YJ D F N l m y rec j0 s0 w0 out q'.jump) (n + 1) a w:=by
      intro c s q out q' a w h hq hlt hg
      unfold wS at h
      dsimp only at h
      rw [roundsIn_succ]
      split at h
      ·
        rename_i s1 q1 h1
        refine wpIn_mono (ihr h1 (VB h hq) hlt hg) fun e a' w' ⟨s1',g,ho⟩ => ?_
        rcases ho with ⟨e1,rfl⟩ | ⟨id,e1,_⟩ | ⟨e1,_⟩
        ·
          cases e1
          exact ihl h hq hlt g
        · cases e1
        · cases e1
      ·
        rename_i r hr
        refine wpIn_mono (ihr h hq hlt hg) fun e a' w' hp => ?_
        have hp':=hp
        obtain ⟨s1',g,ho⟩:=hp
        rcases ho with ⟨rfl,rfl⟩ | ⟨id,rfl,rfl⟩ | ⟨rfl,rfl⟩
        · exact absurd h (hr s1' q')
        · exact hp'
        · exact hp'
    refine ⟨?_,loop⟩
    intro c s q out q' a w h hq hlt hg
    cases c with
    | skip=>cases h; exact wpIn_skip ⟨s,hg,.inl ⟨rfl,rfl⟩⟩
    | label _=>cases h; exact wpIn_label ⟨s,hg,.inl ⟨rfl,rfl⟩⟩
    | exit id=>cases h; exact wpIn_exit ⟨s,hg,.inr (.inl ⟨id,rfl,rfl⟩)⟩
    | ret=>cases h; exact wpIn_ret ⟨s,hg,.inr (.inr ⟨rfl,rfl⟩)⟩
    |
      scope x =>
      refine wL (wpIn_mono (ihr (c:=x) h hq hlt hg) fun e a' w' hp => ?_)
      have hp':=hp
      obtain ⟨s1',g,ho⟩:=hp
      rcases ho with ⟨rfl,rfl⟩ | ⟨id,rfl,rfl⟩ | ⟨rfl,rfl⟩ <;> exact hp'
    |
      region id ops draw =>
      obtain ⟨j,p,u⟩:=hg
      have hms:m≤s.nx:=Nat.le_trans hm0 p.nx
      unfold wS at h
      dsimp only at h
      split at h
      ·
        rename_i s1 h1
        cases h
        refine wpIn_mono (Yx hm (v1 hm hext n).1 hext (id:=id) (draw:=draw) hlt (fun i hi=>by rw [h1] at hi; cases hi) p.start none k) fun e a' w' hpost => ?_
        obtain ⟨s1',j',p',hout⟩:=hpost
        rw [h1] at hout
        rcases hout with ⟨e1,rfl⟩ | ⟨id,e1,_⟩ | ⟨e1,_⟩
        ·
          cases e1
          exact ⟨_,GoodY.go hF hFd p u hms p',.inl ⟨rfl,rfl⟩⟩
        · cases e1
        · cases e1
      ·
        cases draw with
        | true=>cases h
        |
          false =>
          dsimp only at h
          split at h
          case h_2=>cases h
          rename_i s1 q1 hs
          cases h
          refine wpIn_region ?_
          rw [List.range_eq_range']
          have e0:ops.size - 0=ops.size:=rfl
          rw [← e0]
          refine JP hm hext fits hF hFd hl0 hlt hms zbB (by simp) hs hq ⟨j,⟨p.trans,p.sim,p.old,fun b hb=>p.fresh b (Nat.le_trans (Nat.le_add_right ..) hb),Nat.le_trans p.nx (Nat.le_add_right ..),p.low,p.same⟩,u,fun i' _ _=>p.fresh _ (Nat.le_add_right ..),Nat.le_refl _⟩ fun a' w' g=>⟨s1,g,.inl ⟨rfl,rfl⟩⟩
    |
      seq x z =>
      have hlt':=Bool.and_eq_true _ _ ▸ hlt
      unfold wS at h
      dsimp only at h
      split at h
      ·
        rename_i s1 q1 h1
        refine wpIn_seq (wpIn_mono (ihr h1 (VB h hq) hlt'.1 hg) fun e a' w' ⟨s1',g,ho⟩ => ?_)
        rcases ho with ⟨e1,rfl⟩ | ⟨id,e1,_⟩ | ⟨e1,_⟩
        ·
          cases e1
          exact ihr h hq hlt'.2 g
        · cases e1
        · cases e1
      ·
        rename_i r hr
        refine wpIn_seq (wpIn_mono (ihr h hq hlt'.1 hg) fun e a' w' hp => ?_)
        have hp':=hp
        obtain ⟨s1',g,ho⟩:=hp
        rcases ho with ⟨rfl,rfl⟩ | ⟨id,rfl,rfl⟩ | ⟨rfl,rfl⟩
        · exact absurd h (hr s1' q')
        · exact hp'
        · exact hp'
    |
      cond c x z =>
      have hlt':=Bool.and_eq_true _ _ ▸ hlt
      unfold wS at h
      dsimp only at h
      split at h
      case h_2=>cases h
      rename_i t hx
      obtain ⟨v,hv,ht⟩:=za.1 hx
      have hg':=hg
      obtain ⟨j,p,u⟩:=hg'
      have hr:=p.sim.pre.opd c v hv
      rw [hr.bool_of] at ht
      have hc:a.eval c=.bool t:=by
        cases hac:a.eval c <;> rw [hac] at ht <;> cases ht
        rfl
      refine wpIn_cond hc ?_
      cases t with
      | true=>exact ihr h hq hlt'.1 hg
      | false=>exact ihr h hq hlt'.2 hg
    |
      block id x =>
      unfold wS at h
      dsimp only at h
      split at h
      ·
        rename_i id' s1 q1 h1
        have hq1:q1=q':=by split at h <;> (cases h; rfl)
        subst hq1
        refine wpIn_block (wpIn_mono (ihr h1 hq hlt hg) fun e a' w' ⟨s1',g,ho⟩ => ?_)
        rcases ho with ⟨e1,_⟩ | ⟨id2,e1,rfl⟩ | ⟨e1,_⟩
        · cases e1
        ·
          cases e1
          show if id'=id then YJ D F N l m y rec j0 s0 w0 out q1.jump .normal a' w' else YJ D F N l m y rec j0 s0 w0 out q1.jump (.exit id') a' w'
          split at h
          ·
            rename_i hid
            cases h
            rw [if_pos hid]
            exact ⟨_,g,.inl ⟨rfl,rfl⟩⟩
          ·
            rename_i hid
            cases h
            rw [if_neg hid]
            exact ⟨_,g,.inr (.inl ⟨id',rfl,rfl⟩)⟩
        · cases e1
      ·
        rename_i r hr
        refine wpIn_block (wpIn_mono (ihr h hq hlt hg) fun e a' w' hp => ?_)
        have hp':=hp
        obtain ⟨s1',g,ho⟩:=hp
        rcases ho with ⟨rfl,rfl⟩ | ⟨id,rfl,rfl⟩ | ⟨rfl,rfl⟩
        · exact hp'
        · exact absurd h (hr id s1' q')
        · exact hp'
    | loop x=>exact wpIn_loop_rounds (n + 1) (loop h hq hlt hg)
    | _=>cases h
end
section
variable {C:Cx} {D:List Deferred} {F:Nat→Prop} {l N M m:Nat} {y:Yl} {rec:Loop}
def outS (o:Out):Option S:=match o with
  | .nrm s=>some s
  | .ret s=>some s
  | _=>none
theorem zdr (hm:C.P.follows .mixedOrders=true) (hext:ExtOk C) {n k:Nat} {gf:FuncId} {p:Func×Code} (hp:funcOf C gf=some p) {args:List AV} {vs:Array Value} {H:T Blk} {nx:Nat} {j:J} {w w1:World} {out:Out} {q:Yq} {s1:S} {lr:List AV}
    (hrun:wS C y l n p.2 ⟨zu 0 T.nil args,H,nx,far⟩ ⟨none,[]⟩=some (out,q)) (hq:q.ask l) (ho:outS out=some s1) (hres:zN C s1.env s1.H p.1.results.toList=some lr) (hn:Nat.ble (lenL args) p.1.ntmps=true)
    (fits:Fits y rec M) (hF:F l) (hFd:F rec.defers) (hl0:w.heap.size≤l) (ht:Trans j H w j H w1) (hheap:HeapOk (XX F j H) j w1 H) (hframe:∀ B,F B→B < w1.heap.size ∧ ¬ Own j H B) (hfresh:∀ b,nx≤b→j b=none) (hr:wK (XX F j H) j w1 args vs) (hu:Under F l y rec none j H w1) :
    CallsIn (fW none) k C.P gf vs w1 fun e w'=>∃ v a' j',e=.returned v∧Post [] F p.1.ntmps nx j ⟨zu 0 T.nil args,H,nx,far⟩ w s1 a' w' j'∧Under F l y rec q.jump j' s1.H w':=by
  obtain ⟨hfn,hen⟩:=xk hp
  obtain ⟨hbody,_,hlt⟩:=uz hen
  have hle:args.length≤p.1.ntmps:=by rw [← yb]; exact zq.1 hn
  have hsize:(vs++Array.replicate (p.1.ntmps - vs.size) undef).size=p.1.ntmps:=by have:=hr.1; simp; omega
  refine callsIn_of_wp hfn hbody trivial (wpIn_mono ((zdq (D:=[]) (N:=p.1.ntmps) (m:=nx) (j0:=j) (s0:=⟨zu 0 T.nil args,H,nx,far⟩) (w0:=w) hm hext (k:=k) fits hF hFd hl0 (Nat.le_refl _) n).1 hrun hq hlt
    ⟨j,⟨ht,⟨fun t=>uA hr hle t,hheap,hframe,hsize,rfl⟩,fun _ _=>rfl,hfresh,Nat.le_refl _,Nat.le_refl _,fun _ _=>rfl⟩,hu⟩) fun e a' w' hpost => ?_)
  obtain ⟨s',⟨j',p',u'⟩,hout⟩:=hpost
  have fin:s'=s1→a'.defers=[]∧∃ v,(results p.1 a'.tmps).run C.P w'=.ok v w'∧∃ v' a' j',Ending.returned v=.returned v'∧Post [] F p.1.ntmps nx j ⟨zu 0 T.nil args,H,nx,far⟩ w s1 a' w' j'∧Under F l y rec q.jump j' s1.H w':=by
    intro e
    subst e
    obtain ⟨rv,g1,g2⟩:=wd p'.sim hres
    exact ⟨p'.sim.defers,rv,g1,rv,a',j',rfl,p',u'⟩
  rcases hout with ⟨e1,rfl⟩ | ⟨id,e1,rfl⟩ | ⟨e1,rfl⟩
  · rw [e1] at ho; exact fin (Option.some.inj ho)
  · rw [e1] at ho; cases ho
  · rw [e1] at ho; exact fin (Option.some.inj ho)
theorem HeapOk.grow {X X':Nat→Prop} {j:J} {w w1:World} {H:T Blk} (ho:HeapOk X j w H) (hX:∀ B,B < w.heap.size→X' B→X B) (hk:∀ B,B < w.heap.size→w1.heap[B]? = w.heap[B]?) (hs:w.heap.size≤w1.heap.size):HeapOk X' j w1 H:=by
  have mono:∀ {x:AV} {v:Value},Rel X j w x v→Rel X' j w1 x v:=fun h=>h.mono_w hX (fun B hB _=>hk B hB) hs
  refine ⟨fun b k t n hb hkb => ?_,fun b l hb => ?_,ho.inj,ho.full⟩
  ·
    obtain ⟨B,S,arr,e,h1,h2,h3,h4,h5⟩:=ho.body b k t n hb hkb
    exact ⟨B,S,arr,e,h1,by rw [hk _ (Array.getElem?_eq_some_iff.1 h2).1]; exact h2,h3,h4,fun i x hx=>by obtain ⟨v,hv,hr⟩:=h5 i x hx; exact ⟨v,hv,mono hr⟩⟩
  ·
    obtain ⟨B,S,es,cl,h1,h2,h3,h4,h5⟩:=ho.maps b l hb
    exact ⟨B,S,es,cl,h1,by rw [hk _ (Array.getElem?_eq_some_iff.1 h2).1]; exact h2,h3,h4,fun i k x e hx he=>mono (h5 i k x e hx he)⟩
end
section
variable {C:Cx} {N m:Nat} {F:Nat→Prop} {j0:J} {s0:S} {w0:World}
def zf4 (w0:World) (mk:Bool) (D:List Deferred) (F:Nat→Prop) (w:World):Prop:=match mk with
  | false=>D=[]
  | true=>∃ B,D=[{ target:=.collected B,args:=#[] }]∧w0.heap.size≤B∧F B∧w.heap[B]? = some (.deferred (some []))
def GoodR (F:Nat→Prop) (N m:Nat) (j0:J) (s0:S) (w0:World) (mk:Bool) (s:S) (a:Act) (w:World):Prop:=
  ∃ j F' D,Post D F' N m j0 s0 w0 s a w j∧(∀ B,F B→F' B)∧(∀ B,B < w0.heap.size→F' B→F B)∧zf4 w0 mk D F' w
def XD (C:Cx) (n:Nat) (l:Nat) (g:Operand) (ps:Array Tmp) (assign body:Code) (s:S):Option (Option Code×S):=
  match opd s.env g with
  |
    some (.fn (.func gf) [] lb)=>match funcOf C gf with
    | some p=>if Nat.ble (Nat.succ (lenL lb)) p.1.ntmps=true then
        match wS C ⟨s.env,ps.toList,assign,body⟩ l n p.2 ⟨zu 0 T.nil (.fn (.yield l) [] []::lb),s.H,s.nx,far⟩ ⟨none,[]⟩ with
        |
          some (out,q)=>match outS out with
          |
            some s1=>match zN C s1.env s1.H p.1.results.toList with
            | some _=>some (q.jump,⟨s.env,s1.H,s1.nx,wM s.low s1.low⟩)
            | none=>none
          | none=>none
        | none=>none
      else none
    | none=>none
  | _=>none
def zds (C:Cx) (n:Nat) (l:Nat) (g:Operand) (ps:Array Tmp) (assign body:Code) (s:S):List Nat:=
  match opd s.env g with
  |
    some (.fn (.func gf) [] lb)=>match funcOf C gf with
    | some p=>match wS C ⟨s.env,ps.toList,assign,body⟩ l n p.2 ⟨zu 0 T.nil (.fn (.yield l) [] []::lb),s.H,s.nx,far⟩ ⟨none,[]⟩ with
        | some (_,q)=>q.nos
        | none=>[]
    | none=>[]
  | _=>[]
theorem JQ (hm:C.P.follows .mixedOrders=true) (hext:ExtOk C) {n k:Nat} {g:Operand} {ps:Array Tmp} {assign body:Code} {s s':S} {jump:Option Code} {a:Act} {w:World} (hlt:yl N assign=true∧yl N body=true) (hps:∀ t ∈ ps.toList,t < N) (hm0:m≤s0.nx)
    (h:XD C n (w.heap.size + 1) g ps assign body s=some (jump,s')) (hq:∀ x ∈ zds C n (w.heap.size + 1) g ps assign body s,x=w.heap.size + 1) (hg:GoodR F N m j0 s0 w0 false s a w) {Q:Exit→Act→World→Prop}
    (hQ:∀ a' w',GoodR F N m j0 s0 w0 true s' a' w'→match jump with
      | none=>Q .normal a' w'
      | some c=>c.wpIn (fW none) k C.P Q a' w'):(Code.rangeFunc g ps assign body).wpIn (fW none) k C.P Q a w:=by
  obtain ⟨j,F1,D,p,hFF,hFb,hmk⟩:=hg
  replace hmk:D=[]:=hmk
  subst hmk
  obtain ⟨env,H,nx,low⟩:=s
  unfold XD at h
  split at h
  case h_2=>cases h
  rename_i gf lb hgo
  split at h
  case h_2=>cases h
  rename_i pf hpf
  split at h
  case isFalse=>cases h
  rename_i hnt
  split at h
  case h_2=>cases h
  rename_i out q hrun
  have eask:zds C n (w.heap.size + 1) g ps assign body ⟨env,H,nx,low⟩=q.nos:=by
    unfold zds
    simp only [hgo,hpf]
    simp only [hrun]
  replace hq:q.ask (w.heap.size + 1):=fun x hx=>hq x (Eq.mpr (congrArg (fun z=>x ∈ z) eask) hx)
  split at h
  case h_2=>cases h
  rename_i s1 hos
  split at h
  case h_2=>cases h
  rename_i lr hres
  cases h
  have hrel:=p.sim.pre.opd _ _ hgo
  generalize hv:a.eval g=v at hrel
  cases hrel with
  |
    fn hl1 hr1 hl2 hr2 =>
    rename_i first' cap'
    have ef:first' = #[]:=Array.eq_empty_of_size_eq_zero (by simpa using hl1.symm)
    subst ef
    refine wpIn_rangeFunc fun fn _ => ?_
    obtain ⟨rec,hrec⟩:∃ rec:Loop,rec={ state:=.ready,pending:=none,fn,tmps:=a.tmps,params:=ps,assign,body,defers:=w.heap.size }:=⟨_,rfl⟩
    obtain ⟨w1,hw1⟩:∃ w1,(w.alloc (.deferred (some []))).alloc (.loop rec)=w1:=⟨_,rfl⟩
    have hh:w1.heap=(w.heap.push (.deferred (some []))).push (.loop rec):=by rw [← hw1]; rfl
    have hsz:w1.heap.size=w.heap.size + 2:=by rw [hh]; simp
    have hkeep:∀ B,B < w.heap.size→w1.heap[B]? = w.heap[B]?:=fun B hB=>by rw [hh,Array.getElem?_push,if_neg (by simp; omega),Array.getElem?_push,if_neg (by omega)]
    have hobD:w1.heap[w.heap.size]? = some (.deferred (some [])):=by rw [hh,Array.getElem?_push,if_neg (by simp),Array.getElem?_push,if_pos rfl]
    have hobL:w1.heap[w.heap.size + 1]? = some (.loop rec):=by rw [hh,Array.getElem?_push,if_pos (by simp)]
    have hst:Still w w1:=by
      rw [← hw1]
      exact (Still.push (w:=w) (w':=w.alloc (.deferred (some []))) (o:=.deferred (some [])) rfl (fun _ _ _ h=>by cases h) rfl rfl).trans (Still.push (o:=.loop rec) rfl (fun _ _ _ h=>by cases h) rfl rfl)
    have hX:∀ B,B < w.heap.size→XX (fun B=>F1 B∨B=w.heap.size∨B=w.heap.size + 1) j H B→XX F1 j H B:=fun B hB h=>h.elim (fun h=>h.elim .inl fun h=>by omega) .inr
    have hrelX:∀ {x:AV} {v:Value},Rel (XX F1 j H) j w x v→Rel (XX (fun B=>F1 B∨B=w.heap.size∨B=w.heap.size + 1) j H) j w1 x v:=fun h=>h.mono_w hX (fun B hB _=>hkeep B hB) (by omega)
    have hheap:HeapOk (XX (fun B=>F1 B∨B=w.heap.size∨B=w.heap.size + 1) j H) j w1 H:=p.sim.heap.grow hX hkeep (by omega)
    have hown:∀ B,Own j H B→B < w.heap.size:=fun B hB=>p.sim.heap.own_lt hB
    have hframe:∀ B,(F1 B∨B=w.heap.size∨B=w.heap.size + 1)→B < w1.heap.size ∧ ¬ Own j H B:=fun B hB=>by
      rcases hB with hB | hB | hB
      · have:=p.sim.frame B hB; exact ⟨by omega,this.2⟩
      · exact ⟨by omega,fun ho=>by have:=hown B ho; omega⟩
      · exact ⟨by omega,fun ho=>by have:=hown B ho; omega⟩
    have ht:Trans j H w j H w1:=⟨hst,by omega,fun B hB _=>hkeep B hB,fun _ _ h=>h,fun _ _ h=>h⟩
    have hu:Under (fun B=>F1 B∨B=w.heap.size∨B=w.heap.size + 1) (w.heap.size + 1) ⟨env,ps.toList,assign,body⟩ rec none j H w1:=
      ⟨by rw [hobL,hrec]; rfl,fun t=>by have:=hrelX (p.sim.env t); rw [hrec]; exact this,by rw [hrec]; show w.heap.size≠w.heap.size + 1; omega,by rw [hrec]; exact hobD⟩
    have fits:Fits ⟨env,ps.toList,assign,body⟩ rec N:=⟨by rw [hrec],by rw [hrec],by rw [hrec],by rw [hrec]; exact p.sim.size,hlt,hps⟩
    have hargs:wK (XX (fun B=>F1 B∨B=w.heap.size∨B=w.heap.size + 1) j H) j w1 (.fn (.yield (w.heap.size + 1)) [] []::lb) (#[.func (.yield (w.heap.size + 1)) #[] #[]]++cap'):=by
      refine ⟨by simp; omega,fun i x y hx hy => ?_⟩
      cases i with
      |
        zero =>
        cases hx
        rw [Array.getElem?_append_left (by simp)] at hy
        cases hy
        exact .fn rfl (fun i x y hx=>by simp at hx) rfl (fun i x y hx=>by simp at hx)
      |
        succ i =>
        refine hrelX (hr2 i x y (by simpa using hx) ?_)
        rw [Array.getElem?_append_right (by simp)] at hy
        simpa using hy
    obtain ⟨hfn,hen⟩:=xk hpf
    refine ⟨w.heap.size + 1,[{ target:=.collected w.heap.size,args:=#[] }],w1,{ target:=.fn (.func gf) cap',args:=#[.func (.yield (w.heap.size + 1)) #[] #[]] },w1,gf,#[.func (.yield (w.heap.size + 1)) #[] #[]]++cap',w1,?_,?_,fun _ _=>trivial,?_,(fun h=>by cases h),?_⟩
    · rw [← hw1,hrec]; exact run_enterLoop_outer _ _ _ _ _
    ·
      simp only [resolve,hv]
      simp [go_sem]
    · simp [invoke,go_sem,xB hfn hen]
    ·
      refine (zdr (k:=k - 1) hm hext hpf hrun hq hos hres hnt fits (.inr (.inr rfl)) (.inr (.inl (by rw [hrec]))) (Nat.le_succ _) ht hheap hframe p.fresh hargs hu).mono fun e w3 ⟨v,ag,j3,he,pg,ug⟩ => ?_
      subst he
      refine ⟨_,_,run_endLoop ug.obj (by unfold qe; cases q.jump <;> simp),?_⟩
      have ll3:=(Array.getElem?_eq_some_iff.1 ug.obj).1
      generalize hw4:w3.putObj (w.heap.size + 1) (.loop { qe rec q.jump with state:=.exhausted })=w4
      have k4:∀ B,B≠w.heap.size + 1→w4.heap[B]? = w3.heap[B]?:=fun B hB=>by rw [← hw4]; exact World.putObj_heap_other hB
      have z4:w4.heap.size=w3.heap.size:=by rw [← hw4]; exact World.putObj_size
      have hFl:(fun B=>F1 B∨B=w.heap.size∨B=w.heap.size + 1) (w.heap.size + 1):=.inr (.inr rfl)
      have obD3:w3.heap[w.heap.size]? = some (.deferred (some [])):=by have:=ug.mark; rw [hrec] at this; exact this
      have hgood:GoodR F N m j0 s0 w0 true ⟨env,s1.H,s1.nx,wM low s1.low⟩ { a with defers:=[{ target:=.collected w.heap.size,args:=#[] }]++a.defers } w4:=by
        have hsz0:=p.trans.size
        refine ⟨j3,(fun B=>F1 B∨B=w.heap.size∨B=w.heap.size + 1),[{ target:=.collected w.heap.size,args:=#[] }],⟨?_,?_,?_,pg.fresh,Nat.le_trans p.nx pg.nx,?_,?_⟩,fun B hB=>.inl (hFF B hB),fun B hB h => ?_,w.heap.size,rfl,hsz0,.inr (.inl rfl),?_⟩
        ·
          have t3:=p.trans.trans pg.trans
          refine ⟨t3.still.trans (by rw [← hw4]; exact qG ug.obj),by rw [z4]; exact t3.size,fun B hB hn => ?_,t3.own,t3.j⟩
          rw [k4 B (by omega)]; exact t3.keep B hB hn
        ·
          refine ⟨fun t => ?_,pg.sim.heap.turn hFl (pg.sim.frame _ hFl).2 k4 z4,fun B hB=>by rw [z4]; exact pg.sim.frame B hB,p.sim.size,?_⟩
          ·
            have:=ug.env t
            rw [hrec] at this
            exact this.mono_w (fun _ _ h=>h) (fun B _ hB=>k4 B fun e=>hB (.inl (e ▸ hFl))) (Nat.le_of_eq z4.symm)
          ·
            show [{ target:=.collected w.heap.size,args:=#[] }]++a.defers=_
            rw [p.sim.defers]; rfl
        · exact fun b hb=>(pg.old b (Nat.lt_of_lt_of_le hb (Nat.le_trans hm0 p.nx))).trans (p.old b hb)
        ·
          show wM low s1.low≤s0.low
          rw [xA]; exact Nat.le_trans (Nat.min_le_left ..) p.low
        ·
          intro b hb
          replace hb:b < wM low s1.low:=hb
          rw [xA] at hb
          exact (pg.same b (by omega)).trans (p.same b (show b < low by omega))
        ·
          rcases h with h | h | h
          · exact hFb B hB h
          · omega
          · omega
        · rw [k4 _ (by omega)]; exact obD3
      exact hQ _ _ hgood
inductive FrR where
  | sq (b:Code)
  | bk (id:Nat)
inductive GoR where
  | reach (g:Operand) (ps:Array Tmp) (assign body:Code) (s:S) (k:List FrR)
  | out (o:Out) (k:List FrR)
def goR (C:Cx) (N:Nat):Nat→Code→S→List FrR→Option GoR
  | 0,_,_,_=>none
  | n
      + 1,c,s,k=>if yl N c=true then match Go.Abs.run C n c s with
      | .bad _=>none
      | o=>some (.out o k)
    else match c with
    | .seq a b=>if yl N a=true then
        match Go.Abs.run C n a s with
        | .nrm s1=>goR C N n b s1 k
        | .bad _=>none
        | o=>some (.out o k)
      else if yl N b=true then goR C N n a s (.sq b::k) else none
    | .block id a=>goR C N n a s (.bk id::k)
    |
      .cond c a b=>match zf (opd s.env c) z9 with
      | some x=>goR C N n (if x=true then a else b) s k
      | none=>none
    | .rangeFunc g ps assign body=>if (ps.toList.all (Nat.blt · N) && (yl N assign && yl N body))=true then some (.reach g ps assign body s k) else none
    | _=>none
def unw (C:Cx) (n:Nat):List FrR→Out→Out
  | [],o=>o
  | .sq b::r,.nrm s=>unw C n r (Go.Abs.run C n b s)
  | .sq _::r,o=>unw C n r o
  | .bk id::r,.ext id' s=>unw C n r (if id'=id then .nrm s else .ext id' s)
  | .bk _::r,o=>unw C n r o
def QK (P:Program) (e:Nat):List FrR→(Exit→Act→World→Prop)→Exit→Act→World→Prop
  | [],Q=>Q
  | .sq b::r,Q=>Exit.then (b.wpIn (fW none) e P (QK P e r Q)) (QK P e r Q)
  | .bk id::r,Q=>Exit.inBlock id (QK P e r Q)
def JR (N:Nat):List FrR→Prop
  | []=>True
  | .sq b::r=>yl N b=true∧JR N r
  | .bk _::r=>JR N r
def zbC (F:Nat→Prop) (N m:Nat) (j0:J) (s0:S) (w0:World) (mk:Bool) (o:Out) (e:Exit) (a:Act) (w:World):Prop:=
  ∃ s',GoodR F N m j0 s0 w0 mk s' a w∧((o=.nrm s'∧e=.normal)∨(∃ id,o=.ext id s'∧e=.exit id)∨(o=.ret s'∧e=.ret))
theorem GoodR.run (hm:C.P.follows .mixedOrders=true) (hext:ExtOk C) {n e:Nat} {mk:Bool} {c:Code} {s:S} {a:Act} {w:World} (hg:GoodR F N m j0 s0 w0 mk s a w) (hlt:yl N c=true) (hm0:m≤s0.nx) (hb:∀ k,Go.Abs.run C n c s≠.bad k) :
    c.wpIn (fW none) e C.P (zbC F N m j0 s0 w0 mk (Go.Abs.run C n c s)) a w:=by
  obtain ⟨j,F1,D,p,h1,h2,h3⟩:=hg
  refine wpIn_mono ((v1 hm hext n).1 c s hb none e D F1 N j a w hlt p.start) fun e a' w' ⟨s',j',p',ho⟩=>⟨s',⟨j',F1,D,p.comp p' (Nat.le_trans hm0 p.nx),h1,h2,?_⟩,ho⟩
  cases mk with
  | false=>exact h3
  |
    true =>
    obtain ⟨B,g1,g2,g3,g4⟩:=h3
    exact ⟨B,g1,g2,g3,by rw [p'.trans.keep B (p.sim.frame B g3).1 (p.sim.frame B g3).2]; exact g4⟩
def GoAsk (C:Cx) (N m e:Nat) (F:Nat→Prop) (j0:J) (s0:S) (w0:World) (Q:Exit→Act→World→Prop):GoR→Prop
  | .reach g ps assign body s1 kk=>∀ a' w',GoodR F N m j0 s0 w0 false s1 a' w'→JR N kk→(∀ t ∈ ps.toList,t < N)→yl N assign=true∧yl N body=true→(Code.rangeFunc g ps assign body).wpIn (fW none) e C.P (QK C.P e kk Q) a' w'
  | .out o kk=>∀ ex a' w',zbC F N m j0 s0 w0 false o ex a' w'→JR N kk→QK C.P e kk Q ex a' w'
theorem zf5 (hm:C.P.follows .mixedOrders=true) (hext:ExtOk C) {e:Nat} {Q:Exit→Act→World→Prop} (hm0:m≤s0.nx):∀ (n:Nat) {c:Code} {s:S} {k:List FrR} {r:GoR} {a:Act} {w:World},
    goR C N n c s k=some r→JR N k→GoodR F N m j0 s0 w0 false s a w→GoAsk C N m e F j0 s0 w0 Q r→c.wpIn (fW none) e C.P (QK C.P e k Q) a w:=by
  intro n
  induction n with
  | zero=>intro c s k r a w h; cases h
  |
    succ n ih =>
    intro c s k r a w h hk hg hQ
    unfold goR at h
    split at h
    ·
      rename_i hlt
      split at h
      · cases h
      ·
        rename_i o hno
        cases h
        exact wpIn_mono (hg.run hm hext (n:=n) hlt hm0 hno) fun ex a' w' ho=>hQ ex a' w' ho hk
    ·
      cases c with
      |
        seq x z =>
        dsimp only at h
        split at h
        ·
          rename_i hlt
          split at h
          ·
            rename_i s2 hr
            refine wpIn_seq (wpIn_mono (hg.run hm hext (n:=n) hlt hm0 (fun k hk=>by rw [hr] at hk; cases hk)) fun e' a' w' ⟨s3,g3,ho⟩ => ?_)
            rw [hr] at ho
            rcases ho with ⟨e1,rfl⟩ | ⟨id,e1,_⟩ | ⟨e1,_⟩
            ·
              cases e1
              exact ih h hk g3 hQ
            · cases e1
            · cases e1
          · cases h
          ·
            rename_i o hn1 hn2
            cases h
            refine wpIn_seq (wpIn_mono (hg.run hm hext (n:=n) hlt hm0 (fun k hk=>hn2 k hk)) fun e' a' w' ho => ?_)
            have ho':=ho
            obtain ⟨s3,g3,hc⟩:=ho
            rcases hc with ⟨e1,rfl⟩ | ⟨id,e1,rfl⟩ | ⟨e1,rfl⟩
            · exact absurd e1 (hn1 s3)
            · exact hQ _ _ _ ho' hk
            · exact hQ _ _ _ ho' hk
        ·
          split at h
          case isFalse=>cases h
          rename_i hlt
          exact wpIn_seq (ih (k:=.sq z::k) h ⟨hlt,hk⟩ hg hQ)
      |
        block id x =>
        dsimp only at h
        exact wpIn_block (ih (k:=.bk id::k) h hk hg hQ)
      |
        cond c x z =>
        dsimp only at h
        split at h
        case h_2=>cases h
        rename_i t hx
        obtain ⟨v,hv,ht⟩:=za.1 hx
        have hg':=hg
        obtain ⟨j,F1,D,p,_⟩:=hg'
        have hr:=p.sim.pre.opd c v hv
        rw [hr.bool_of] at ht
        have hc:a.eval c=.bool t:=by
          cases hac:a.eval c <;> rw [hac] at ht <;> cases ht
          rfl
        refine wpIn_cond hc ?_
        cases t with
        | true=>exact ih h hk hg hQ
        | false=>exact ih h hk hg hQ
      |
        rangeFunc g' ps' as' bd' =>
        dsimp only at h
        split at h
        case isFalse=>cases h
        rename_i hc
        cases h
        simp only [Bool.and_eq_true,List.all_eq_true] at hc
        exact hQ a w hg hk (fun t ht=>Nat.le_of_ble_eq_true (hc.1 t ht)) hc.2
      | _=>cases h
theorem XE (hm:C.P.follows .mixedOrders=true) (hext:ExtOk C) {n e:Nat} {mk:Bool} {Q:Exit→Act→World→Prop} (hm0:m≤s0.nx):∀ {kk:List FrR} {o:Out} {ex:Exit} {a:Act} {w:World},JR N kk→zbC F N m j0 s0 w0 mk o ex a w→(∀ k,unw C n kk o≠.bad k) →
    (∀ ex a w,zbC F N m j0 s0 w0 mk (unw C n kk o) ex a w→Q ex a w)→QK C.P e kk Q ex a w:=by
  intro kk
  induction kk with
  | nil=>intro o ex a w _ ho _ hQ; exact hQ ex a w ho
  |
    cons f kk ih =>
    intro o ex a w hk ho hb hQ
    have ho':=ho
    obtain ⟨s1,g1,hc⟩:=ho
    cases f with
    |
      sq b =>
      rcases hc with ⟨rfl,rfl⟩ | ⟨id,rfl,rfl⟩ | ⟨rfl,rfl⟩
      ·
        show b.wpIn (fW none) e C.P (QK C.P e kk Q) a w
        have hb':∀ k,Go.Abs.run C n b s1≠.bad k:=fun k hk'=>by
          have hbu:∀ (r:List FrR) (k:Nat),unw C n r (.bad k)=.bad k:=fun r=>by
            induction r with
            | nil=>intro k; rfl
            | cons f r ih=>intro k; cases f <;> exact ih k
          exact hb k (by show unw C n kk (Go.Abs.run C n b s1)=_; rw [hk',hbu])
        exact wpIn_mono (g1.run hm hext (n:=n) hk.1 hm0 hb') fun ex a' w' ho2=>ih hk.2 ho2 hb hQ
      · exact ih (o:=.ext id s1) hk.2 ho' hb hQ
      · exact ih (o:=.ret s1) hk.2 ho' hb hQ
    |
      bk id =>
      rcases hc with ⟨rfl,rfl⟩ | ⟨id',rfl,rfl⟩ | ⟨rfl,rfl⟩
      · exact ih (o:=.nrm s1) hk ho' hb hQ
      ·
        show if id'=id then QK C.P e kk Q .normal a w else QK C.P e kk Q (.exit id') a w
        have e0:unw C n (.bk id::kk) (.ext id' s1)=unw C n kk (if id'=id then .nrm s1 else .ext id' s1):=rfl
        rw [e0] at hb hQ
        by_cases hid:id'=id
        ·
          rw [if_pos hid] at hb hQ ⊢
          exact ih (o:=.nrm s1) hk ⟨s1,g1,.inl ⟨rfl,rfl⟩⟩ hb hQ
        ·
          rw [if_neg hid] at hb hQ ⊢
          exact ih (o:=.ext id' s1) hk ho' hb hQ
      · exact ih (o:=.ret s1) hk ho' hb hQ
end
section
variable {C:Cx}
def zf6 (jump:Option Code) (s:S):Out:=match jump with
  | none=>.nrm s
  | some .ret=>.ret s
  | some (.exit id)=>.ext id s
  | some _=>.bad 103
def KJ (fn:Func):Option Code:=if fn.name = "runtime.NumGoroutine" then none else fn.body
def callR (C:Cx) (n:Nat) (f:FuncId) (args:List AV) (l:Nat):Option AV:=match T.get (fnT C) f with
  |
    some fn=>match KJ fn with
    | some c=>if Nat.ble (lenL args) fn.ntmps=true then match goR C fn.ntmps n c ⟨zu 0 T.nil args,T.nil,0,far⟩ [] with
        |
          some (.reach g ps assign body s1 kk)=>match XD C n l g ps assign body s1 with
          |
            some (jump,s2)=>match zD (finPure C fn) (unw C n kk (zf6 jump s2)) with
            | .value v _=>some v
            | _=>none
          | none=>none
        |
          some (.out o kk)=>match zD (finPure C fn) (unw C n kk o) with
          | .value v _=>some v
          | _=>none
        | none=>none
      else none
    | none=>none
  | none=>none
def callAsk (C:Cx) (n:Nat) (f:FuncId) (args:List AV) (l:Nat):List Nat:=match T.get (fnT C) f with
  |
    some fn=>match KJ fn with
    | some c=>match goR C fn.ntmps n c ⟨zu 0 T.nil args,T.nil,0,far⟩ [] with
        | some (.reach g ps assign body s1 _)=>zds C n l g ps assign body s1
        | _=>[]
    | none=>[]
  | none=>[]
theorem zbD (hm:C.P.follows .mixedOrders=true) (hext:ExtOk C) {n:Nat} {f:FuncId} {args:List AV} {v:AV} (h:∀ l,callR C n f args l=some v) (hq:∀ l,∀ x ∈ callAsk C n f args l,x=l) (hf:allB (flat 4) args=true)
    {X:Nat→Prop} {j:J} {w:World} {vs:Array Value} (hX:∀ B,X B→B < w.heap.size) (hr:wK X j w args vs) :
    Answers C.P f vs w fun rv w'=>Still w w'∧w.heap.size≤w'.heap.size∧(∀ B,B < w.heap.size→w'.heap[B]? = w.heap[B]?)∧Rel X j w' v rv:=by
  unfold callR at h
  unfold callAsk at hq
  rw [Kc] at h hq
  cases hfn:C.P.funcs[f]? with
  | none=>rw [hfn] at h; exact absurd (h 0) (by simp)
  |
    some fn =>
    rw [hfn] at h hq
    dsimp only at h hq
    cases hbr:KJ fn with
    | none=>rw [hbr] at h; exact absurd (h 0) (by simp)
    |
      some c =>
      rw [hbr] at h hq
      dsimp only at h hq
      have hbody:fn.body=some c∧fn.name ≠ "runtime.NumGoroutine":=by
        unfold KJ at hbr
        split at hbr
        · cases hbr
        · rename_i hne; exact ⟨hbr,hne⟩
      cases hn:Nat.ble (lenL args) fn.ntmps with
      | false=>rw [hn] at h; exact absurd (h 0) (by simp)
      |
        true =>
        rw [hn] at h
        simp only [if_true] at h
        cases hgo:goR C fn.ntmps n c ⟨zu 0 T.nil args,T.nil,0,far⟩ [] with
        | none=>rw [hgo] at h; exact absurd (h 0) (by simp)
        |
          some r =>
          rw [hgo] at h hq
          have hle:args.length≤fn.ntmps:=by rw [← yb]; exact zq.1 hn
          have hsize:(vs++Array.replicate (fn.ntmps - vs.size) undef).size=fn.ntmps:=by have:=hr.1; simp; omega
          have own0:∀ B,¬ Own J0 T.nil B:=fun B ⟨b,k,S,hb,_⟩=>by simp at hb
          have start:Start [] X fn.ntmps J0 ⟨zu 0 T.nil args,T.nil,0,far⟩ { tmps:=vs++Array.replicate (fn.ntmps - vs.size) undef,defers:=[] } w:=by
            refine ⟨⟨fun t=>uA ⟨hr.1,fun i x y hx hy => ?_⟩ hle t,⟨fun b k t n hb=>by simp at hb,fun b l hb=>by simp at hb,fun b b' k k' B S S' hb=>by simp at hb,Full.nil⟩,fun B hB=>⟨hX B hB,own0 B⟩,hsize,rfl⟩,fun _ _=>rfl⟩
            exact ((hr.2 i x y hx hy).flat 4 (z6.1 hf x (List.mem_of_getElem? hx))).mono_w (fun B _ h=>h.elim id (fun h=>absurd h (own0 B))) (fun _ _ _=>rfl) (Nat.le_refl _)
          have hgood:GoodR X fn.ntmps 0 J0 ⟨zu 0 T.nil args,T.nil,0,far⟩ w false ⟨zu 0 T.nil args,T.nil,0,far⟩ { tmps:=vs++Array.replicate (fn.ntmps - vs.size) undef,defers:=[] } w:=
            ⟨J0,X,[],start.post,fun _ h=>h,fun _ _ h=>h,rfl⟩
          have hend:∀ (mk:Bool) (o:Out) (v:AV) (rd:Option (List Nat)),zD (finPure C fn) o=.value v rd→∀ ex a2 w2,zbC X fn.ntmps 0 J0 ⟨zu 0 T.nil args,T.nil,0,far⟩ w mk o ex a2 w2 →
              bodyPostM (fW none) 0 C.P fn (fun e w'=>∃ rv,e=.returned rv∧(Still w w'∧w.heap.size≤w'.heap.size∧(∀ B,B < w.heap.size→w'.heap[B]? = w.heap[B]?)∧Rel X j w' v rv)) ex a2 w2:=by
            intro mk o v rd hfin ex a2 w2 ⟨s3,⟨j3,F3,D3,p3,hF3,hFb3,hmark⟩,ho⟩
            have hbad:∀ k,zD (finPure C fn) o≠.bad k:=fun k hk=>by rw [hfin] at hk; cases hk
            obtain ⟨s4,hs4,hd4⟩:=vq hbad
            have e34:s3=s4∧(ex=.normal∨ex=.ret):=by
              rcases ho with ⟨h1,h2⟩ | ⟨id,h1,h2⟩ | ⟨h1,h2⟩ <;> rcases hs4 with h3 | h3 <;> rw [h1] at h3 <;> cases h3
              · exact ⟨rfl,.inl h2⟩
              · exact ⟨rfl,.inr h2⟩
            obtain ⟨rfl,hex⟩:=e34
            rw [hd4] at hfin hbad
            obtain ⟨lr,v2,hl,hv,hfin2⟩:=Zo hbad
            rw [hfin2] at hfin
            have ev:v2=v:=by cases hfin; rfl
            subst ev
            have last:∀ {w3:World},Still w2 w3→w3.heap.size=w2.heap.size→(∀ B,B < w.heap.size→w3.heap[B]? = w2.heap[B]?)→Sim D3 F3 fn.ntmps j3 s3.env s3.H a2 w3 →
                ∃ rv,(results fn a2.tmps).run C.P w3=.ok rv w3∧∃ rv',Ending.returned rv=.returned rv'∧(Still w w3∧w.heap.size≤w3.heap.size∧(∀ B,B < w.heap.size→w3.heap[B]? = w.heap[B]?)∧Rel X j w3 v2 rv'):=by
              intro w3 st3 z3 k3 sim3
              obtain ⟨rv,g1,g2⟩:=wd sim3 hl
              have hrel:Rel X J0 w3 v2 rv:=qu sim3.heap (fun B _ hB=>.inl (hF3 B hB)) (fun b k B S _ h1 h2 h3 _ hB=>(sim3.frame B (hF3 B hB)).2 ⟨b,k,S,h1,h2,h3⟩) 20 _ _ _ hv g2
              refine ⟨rv,g1,rv,rfl,p3.trans.still.trans st3,by rw [z3]; exact p3.trans.size,fun B' hB' => ?_,hrel.lift⟩
              rw [k3 B' hB']
              exact p3.trans.keep B' hB' (own0 B')
            have hl3:LeavesInM (fW none) 0 C.P fn a2.tmps (fun e w'=>∃ rv,e=.returned rv∧(Still w w'∧w.heap.size≤w'.heap.size∧(∀ B,B < w.heap.size→w'.heap[B]? = w.heap[B]?)∧Rel X j w' v2 rv)) a2.defers .returning w2:=by
              rw [p3.sim.defers]
              cases mk with
              |
                false =>
                replace hmark:D3=[]:=hmark
                have hlast:=last (Still.refl w2) rfl (fun _ _=>rfl) p3.sim
                rw [hmark]
                exact hlast
              |
                true =>
                obtain ⟨B,hD,hB0,hFB,hmk⟩:=hmark
                have hlB:=(Array.getElem?_eq_some_iff.1 hmk).1
                obtain ⟨w3,hw3⟩:∃ w3,w2.putObj B (.deferred none)=w3:=⟨_,rfl⟩
                have k3:∀ B',B'≠B→w3.heap[B']? = w2.heap[B']?:=fun B' hB'=>by rw [← hw3]; exact World.putObj_heap_other hB'
                have z3:w3.heap.size=w2.heap.size:=by rw [← hw3]; exact World.putObj_size
                have st3:Still w2 w3:=by
                  rw [← hw3]
                  exact Still.put (B:=B) (fun B' hB'=>World.putObj_heap_other hB') (fun c t fr hc=>by rw [hmk] at hc; cases hc) (fun c t fr hc=>by rw [World.putObj_heap_same hlB] at hc; cases hc) rfl rfl
                have hlast:=last st3 z3 (fun B' hB'=>k3 B' (by omega)) (p3.sim.turn hFB k3 z3)
                rw [hD]
                exact ⟨by simp,.inl ⟨B,w3,rfl,by rw [run_takeDeferred hmk,hw3],hlast⟩⟩
            rcases hex with rfl | rfl <;> exact hl3
          have hbu:∀ (r:List FrR) (k:Nat),unw C n r (.bad k)=.bad k:=fun r=>by
            induction r with
            | nil=>intro k; rfl
            | cons f r ih=>intro k; cases f <;> exact ih k
          refine .inr ⟨by simp [callFunc,hfn,hbody.1,hbody.2],callsIn_wide.1 (callsIn_of_wp_marks (F:=fW none) (n:=0) hfn hbody.1 trivial ?_)⟩
          refine zf5 hm hext (e:=0) (m:=0) (Nat.zero_le _) n hgo trivial hgood ?_
          cases r with
          |
            out o kk =>
            intro ex a' w' ho hk
            have h1:=h 0
            dsimp only at h1
            cases hfin:zD (finPure C fn) (unw C n kk o) with
            |
              value v' rd =>
              rw [hfin] at h1
              cases h1
              exact XE hm hext (m:=0) (Nat.zero_le _) hk ho (fun k hk=>by rw [hk] at hfin; cases hfin) (hend false _ _ _ hfin)
            | _=>rw [hfin] at h1; cases h1
          |
            reach g ps assign body s1 kk =>
            intro a' w' hg hk hps hlt
            have h1:=h (w'.heap.size + 1)
            have hq1:=hq (w'.heap.size + 1)
            dsimp only at h1 hq1
            cases hrr:XD C n (w'.heap.size + 1) g ps assign body s1 with
            | none=>rw [hrr] at h1; cases h1
            |
              some q =>
              obtain ⟨jump,s2⟩:=q
              rw [hrr] at h1
              dsimp only at h1
              cases hfin:zD (finPure C fn) (unw C n kk (zf6 jump s2)) with
              |
                value v' rd =>
                rw [hfin] at h1
                cases h1
                have hnb:∀ k,unw C n kk (zf6 jump s2)≠.bad k:=fun k hk=>by rw [hk] at hfin; cases hfin
                refine JQ (N:=fn.ntmps) (m:=0) (k:=0) hm hext hlt hps (Nat.zero_le _) hrr hq1 hg fun a2 w2 hg2 => ?_
                cases jump with
                | none=>exact XE hm hext (m:=0) (Nat.zero_le _) hk ⟨s2,hg2,.inl ⟨rfl,rfl⟩⟩ hnb (hend true _ _ _ hfin)
                |
                  some cj =>
                  dsimp only
                  cases cj with
                  | ret=>exact wpIn_ret (XE hm hext (m:=0) (Nat.zero_le _) hk ⟨s2,hg2,.inr (.inr ⟨rfl,rfl⟩)⟩ hnb (hend true _ _ _ hfin))
                  | exit id=>exact wpIn_exit (XE hm hext (m:=0) (Nat.zero_le _) hk ⟨s2,hg2,.inr (.inl ⟨id,rfl,rfl⟩)⟩ hnb (hend true _ _ _ hfin))
                  | _=>exact absurd (hbu kk 103) (hnb 103)
              | _=>rw [hfin] at h1; cases h1
theorem zbE {l:Nat} {xs:List Nat} (h:xs=xs.map fun _=>l):∀ x ∈ xs,x=l:=by
  rw [h]
  intro x hx
  obtain ⟨_,_,rfl⟩:=List.mem_map.1 hx
  rfl
end
end
end Go.Abs
