/- WHAT AN OPERATION LOOKS AT: its operands, the blocks that it has read; nothing else. -/
import Derived.Test.YtcgnkejpcjcaoaaGreatEvTree
import Derived.Orders
set_option linter.unusedSimpArgs false
set_option linter.unusedVariables false
namespace Go.Abs
section
variable {C:Cx} {env env' : T AV} {H H' : T Blk} {nb:Nat} {ty:TypeId} {r:R}
theorem opd_congr {x:Operand} (h : ∀ t,x = .tmp t → env'.get t = env.get t) : opd env' x = opd env x:=by
  cases x with
  | tmp t => show elimO (env'.get t) _ _ = elimO (env.get t) _ _; rw [h t rfl]
  | _ => rfl
theorem opds_congr : ∀ {l:List Operand},(∀ t,Operand.tmp t ∈ l → env'.get t = env.get t) → opds env' l = opds env l
  | [],_ => rfl
  | x::l,h => by
    show bindO (opd env' x) (fun y => bindO (opds env' l) fun r => some (y::r)) = bindO (opd env x) (fun y => bindO (opds env l) fun r => some (y::r))
    rw [opd_congr (fun t e => h t (e ▸ List.mem_cons_self ..)),opds_congr (fun t ht => h t (List.mem_cons_of_mem _ ht))]
theorem bound_congr {o:Option Operand} {d:Nat} (h : ∀ t,o = some (.tmp t) → env'.get t = env.get t) : bound env' o d = bound env o d:=by
  cases o with
  | none => rfl
  | some x => show bindO (opd env' x) _ = bindO (opd env x) _; rw [opd_congr (fun t e => h t (by rw [e]))]
theorem parts_congr {place:Nat → Option (Nat × Nat)} : ∀ {ps:List (Nat × Operand)} (l:List AV),(∀ t,Operand.tmp t ∈ ps.map (·.2) → env'.get t = env.get t) → parts env' place ps l = parts env place ps l
  | [],_,_ => rfl
  | (k,x)::ps,l,h => by
    show bindO (place k) (fun p => bindO (opd env' x) fun y => guardB (andB (Nat.beq (lenL y.cells) p.2) (Nat.ble (Nat.add p.1 p.2) (lenL l))) (forceL (splice l p.1 y.cells) fun l => parts env' place ps l)) =
      bindO (place k) (fun p => bindO (opd env x) fun y => guardB (andB (Nat.beq (lenL y.cells) p.2) (Nat.ble (Nat.add p.1 p.2) (lenL l))) (forceL (splice l p.1 y.cells) fun l => parts env place ps l))
    rw [opd_congr (fun t e => h t (by simp [e]))]
    have ih : ∀ l,parts env' place ps l = parts env place ps l:=fun l => parts_congr l (fun t ht => h t (by simp only [List.map_cons,List.mem_cons]; exact .inr ht))
    simp only [ih]
theorem simple_env {o:Op} (h : ∀ t,Operand.tmp t ∈ o.operands.toList → env'.get t = env.get t) : simple o C env' H nb ty = simple o C env H nb ty:=by
  have one : ∀ {x:Operand},x ∈ o.operands.toList → opd env' x = opd env x:=fun hx => opd_congr (fun t e => h t (e ▸ hx))
  have many : ∀ {l:List Operand},(∀ x ∈ l,x ∈ o.operands.toList) → opds env' l = opds env l:=fun hl => opds_congr (fun t ht => h t (hl _ ht))
  cases o <;> try rfl
  case move x => show sMove x C env' H nb ty = sMove x C env H nb ty; unfold sMove; rw [one (by simp [Op.operands])]
  case assign x => show sMove x C env' H nb ty = sMove x C env H nb ty; unfold sMove; rw [one (by simp [Op.operands])]
  case pick c a b =>
    show sPick c a b C env' H nb ty = sPick c a b C env H nb ty
    unfold sPick
    rw [one (x:=c) (by simp [Op.operands])]
    have e : ∀ y,opd env' (ifB y a b) = opd env (ifB y a b):=fun y => by cases y <;> exact one (by simp [Op.operands])
    simp only [e]
  case box t x => show sBox t x C env' H nb ty = sBox t x C env H nb ty; unfold sBox; rw [one (by simp [Op.operands])]
  case build t ps =>
    show sBuild t ps C env' H nb ty = sBuild t ps C env H nb ty
    unfold sBuild
    simp only [parts_congr (env:=env) (env':=env') (ps:=ps.toList) _ (fun t ht => h t (by simpa [Op.operands] using ht))]
  case buildSlice t n ps =>
    show sBuildSlice t n ps C env' H nb ty = sBuildSlice t n ps C env H nb ty
    unfold sBuildSlice
    simp only [parts_congr (env:=env) (env':=env') (ps:=ps.toList) _ (fun t ht => h t (by simpa [Op.operands] using ht))]
  case load t a => show sLoad t a C env' H nb ty = sLoad t a C env H nb ty; unfold sLoad; rw [one (by simp [Op.operands])]
  case store t a x => show sStore t a x C env' H nb ty = sStore t a x C env H nb ty; unfold sStore; rw [one (x:=a) (by simp [Op.operands]),one (x:=x) (by simp [Op.operands])]
  case nilCheck x => show sNilCheck x C env' H nb ty = sNilCheck x C env H nb ty; unfold sNilCheck; rw [one (by simp [Op.operands])]
  case binOp op t x y u => show sBin op t x y u C env' H nb ty = sBin op t x y u C env H nb ty; unfold sBin; rw [one (x:=x) (by simp [Op.operands]),one (x:=y) (by simp [Op.operands])]
  case unOp op t x => show sUn op t x C env' H nb ty = sUn op t x C env H nb ty; unfold sUn; rw [one (by simp [Op.operands])]
  case convert s d x => show sConvert s d x C env' H nb ty = sConvert s d x C env H nb ty; unfold sConvert; rw [one (by simp [Op.operands])]
  case sliceToArrayPointer t x => show sToArray t x C env' H nb ty = sToArray t x C env H nb ty; unfold sToArray; rw [one (by simp [Op.operands])]
  case makeFunc f a b =>
    show sMakeFunc f a b C env' H nb ty = sMakeFunc f a b C env H nb ty
    unfold sMakeFunc
    rw [many (l:=a.toList) (fun x hx => by simp [Op.operands]; exact .inl (by simpa using hx)),many (l:=b.toList) (fun x hx => by simp [Op.operands]; exact .inr (by simpa using hx))]
  case makeSlice t l c => show sMakeSlice t l c C env' H nb ty = sMakeSlice t l c C env H nb ty; unfold sMakeSlice; rw [one (x:=l) (by simp [Op.operands]),one (x:=c) (by simp [Op.operands])]
  case slice t x lo hi mx =>
    show sSlice t x lo hi mx C env' H nb ty = sSlice t x lo hi mx C env H nb ty
    have b1 : ∀ d,bound env' lo d = bound env lo d:=fun d => bound_congr (fun t e => h t (by simp [Op.operands,e]))
    have b2 : ∀ d,bound env' hi d = bound env hi d:=fun d => bound_congr (fun t e => h t (by simp [Op.operands,e]))
    have b3 : ∀ d,bound env' mx d = bound env mx d:=fun d => bound_congr (fun t e => h t (by simp [Op.operands,e]))
    have bs : ∀ len cap k,bounds env' lo hi mx len cap k = bounds env lo hi mx len cap k:=fun len cap k => by unfold bounds; simp only [b1,b2,b3]
    have bs' : ∀ len cap k,bounds env' lo hi none len cap k = bounds env lo hi none len cap k:=fun len cap k => by
      have e : ∀ d,bound env' none d = bound env none d:=fun d => rfl
      unfold bounds; simp only [b1,b2,e]
    unfold sSlice
    simp only [bs,bs',one (x:=x) (by simp [Op.operands])]
  case fieldAddr t x f => show sFieldAddr t x f C env' H nb ty = sFieldAddr t x f C env H nb ty; unfold sFieldAddr; rw [one (by simp [Op.operands])]
  case field t x f => show sField t x f C env' H nb ty = sField t x f C env H nb ty; unfold sField; rw [one (by simp [Op.operands])]
  case indexAddr t x i => show sIndexAddr t x i C env' H nb ty = sIndexAddr t x i C env H nb ty; unfold sIndexAddr; rw [one (x:=x) (by simp [Op.operands]),one (x:=i) (by simp [Op.operands])]
  case index t x i => show sIndex t x i C env' H nb ty = sIndex t x i C env H nb ty; unfold sIndex; rw [one (x:=x) (by simp [Op.operands]),one (x:=i) (by simp [Op.operands])]
  case extract x i => show sExtract x i C env' H nb ty = sExtract x i C env H nb ty; unfold sExtract; rw [one (by simp [Op.operands])]
  case lookup t x i ok => show sLookup t x i ok C env' H nb ty = sLookup t x i ok C env H nb ty; unfold sLookup; rw [one (x:=x) (by simp [Op.operands]),one (x:=i) (by simp [Op.operands])]
  case mapUpdate t m k x =>
    show sMapUpdate t m k x C env' H nb ty = sMapUpdate t m k x C env H nb ty
    unfold sMapUpdate
    rw [one (x:=m) (by simp [Op.operands]),one (x:=k) (by simp [Op.operands]),one (x:=x) (by simp [Op.operands])]
  case call c =>
    show sCall c C env' H nb ty = sCall c C env H nb ty
    cases hc : c.callee with
    | builtin b =>
      unfold sCall
      rw [hc]
      show sBuiltin b c.args c.argTypes C env' H nb ty = sBuiltin b c.args c.argTypes C env H nb ty
      unfold sBuiltin
      rw [many (l:=c.args.toList) (fun x hx => by simp [Op.operands,Call.operands,hc]; simpa using hx)]
    | _ => unfold sCall; rw [hc]; rfl
def Quiet (x:Option R) : Prop:=∀ r,x = some r → r.rd = some [] ∧ r.ups = []
def NoRead (x:Option R) : Prop:=∀ r,x = some r → r.rd = some []
theorem Quiet.none : Quiet none:=fun r h => by cases h
theorem Quiet.A {x:AV} : Quiet (A x):=fun r h => by cases h; exact ⟨rfl,rfl⟩
theorem Quiet.bind {α:Type} {x:Option α} {f : α → Option R} (h : ∀ a,Quiet (f a)) : Quiet (bindO x f):=fun r hr => by
  obtain ⟨a,_,ha⟩:=bindO_some.1 hr; exact h a r ha
theorem Quiet.guard {b:Bool} {x:Option R} (h:Quiet x) : Quiet (guardB b x):=fun r hr => h r (guardB_some.1 hr).2
theorem Quiet.ite {b:Bool} {x y:Option R} (h:Quiet x) (h' : Quiet y) : Quiet (ifB b x y):=by cases b <;> assumption
theorem Quiet.elim {α:Type} {x:Option α} {d:Option R} {f : α → Option R} (hd:Quiet d) (h : ∀ a,Quiet (f a)) : Quiet (elimO x d f):=by
  cases x with
  | none => exact hd
  | some a => exact h a
theorem NoRead.none : NoRead none:=fun r h => by cases h
theorem NoRead.bind {α:Type} {x:Option α} {f : α → Option R} (h : ∀ a,NoRead (f a)) : NoRead (bindO x f):=fun r hr => by
  obtain ⟨a,_,ha⟩:=bindO_some.1 hr; exact h a r ha
theorem NoRead.guard {b:Bool} {x:Option R} (h:NoRead x) : NoRead (guardB b x):=fun r hr => h r (guardB_some.1 hr).2
theorem NoRead.ite {b:Bool} {x y:Option R} (h:NoRead x) (h' : NoRead y) : NoRead (ifB b x y):=by cases b <;> assumption
theorem NoRead.some {x:AV} {u:List (Nat × Blk)} : NoRead (some ⟨x,u,some []⟩):=fun r h => by cases h; rfl
theorem part_quiet {t:TypeId} {l:List AV} {off:Nat} : Quiet (part C t l off):=by
  unfold part
  refine Quiet.ite (Quiet.guard ?_) (Quiet.guard (Quiet.bind fun _ => Quiet.A))
  rw [forceL_eq]; exact Quiet.A
theorem simple_quiet {o:Op} (hl:loud o = false) : Quiet (simple o C env H nb ty):=by
  cases o <;> try (cases hl; done)
  case move x => exact Quiet.bind fun _ => Quiet.A
  case assign x => exact Quiet.bind fun _ => Quiet.A
  case pick c a b => exact Quiet.bind fun _ => Quiet.bind fun _ => Quiet.bind fun _ => Quiet.A
  case build t ps => exact Quiet.bind fun _ => Quiet.guard (Quiet.bind fun _ => Quiet.A)
  case nilCheck x => exact Quiet.bind fun _ => Quiet.guard Quiet.A
  case binOp op t x y u => exact Quiet.bind fun _ => Quiet.bind fun _ => Quiet.bind fun _ => Quiet.A
  case unOp op t x =>
    refine Quiet.bind fun _ => Quiet.bind fun _ => Quiet.bind fun v => ?_
    cases v <;> try exact Quiet.none
    · exact fun r h => by replace h : forceB _ (fun b => A (.v (.bool b))) = some r:=h; rw [forceB_eq] at h; exact Quiet.A r h
    · exact fun r h => by replace h : forceI _ (fun b => A (.v (.int _ b))) = some r:=h; rw [forceI_eq] at h; exact Quiet.A r h
  case makeFunc f a b => exact Quiet.bind fun _ => Quiet.bind fun _ => Quiet.A
  case fieldAddr t x f =>
    refine Quiet.bind fun _ => Quiet.guard (Quiet.bind fun y => ?_)
    cases y <;> first | exact Quiet.none | exact Quiet.A
  case field t x f =>
    refine Quiet.bind fun _ => Quiet.bind fun y => ?_
    cases y <;> first | exact Quiet.none | exact part_quiet
  case indexAddr t x i =>
    refine Quiet.bind fun y => Quiet.bind fun _ => Quiet.bind fun _ => ?_
    cases y <;> first | exact Quiet.none | exact Quiet.bind fun _ => Quiet.guard Quiet.A
  case index t x i =>
    refine Quiet.bind fun y => Quiet.bind fun _ => Quiet.bind fun n => ?_
    cases y <;> try exact Quiet.none
    · rename_i z
      cases z <;> try exact Quiet.none
      exact Quiet.guard (Quiet.bind fun b => Quiet.A)
    · exact Quiet.bind fun _ => Quiet.guard part_quiet
  case extract x i =>
    refine Quiet.bind fun y => ?_
    cases y <;> first | exact Quiet.none | exact Quiet.bind fun _ => Quiet.A
theorem cellsOf_congr {b:Nat} (h:H'.get b = H.get b) : cellsOf H' b = cellsOf H b:=by unfold cellsOf; rw [T.getB_eq,T.getB_eq,h]
theorem ownOf_congr {b:Nat} (h:H'.get b = H.get b) : ownOf H' b = ownOf H b:=by unfold ownOf; rw [T.getB_eq,T.getB_eq,h]
theorem mateOf_congr {b:Nat} (h:H'.get b = H.get b) : mateOf H' b = mateOf H b:=by unfold mateOf; rw [T.getB_eq,T.getB_eq,h]
theorem mapOf_congr {b:Nat} (h:H'.get b = H.get b) : mapOf H' b = mapOf H b:=by unfold mapOf; rw [T.getB_eq,T.getB_eq,h]
def Agree (rd:List Nat) (H H' : T Blk) : Prop:=∀ b ∈ rd,H'.get b = H.get b
theorem srcCells_loc {k:Nat} {x:AV} {q:List AV × List Nat} (h:srcCells H k x = some q) (ha:Agree q.2 H H') : srcCells H' k x = some q:=by
  cases x <;> try (cases h; done)
  · exact h
  · rename_i b off len es lo ex
    have h0:=h
    replace h:=bindO_some.1 h; obtain ⟨c,hc,h⟩:=h
    replace h:=bindO_some.1 h; obtain ⟨l,hl,h⟩:=h
    cases h
    rw [← h0]
    show bindO (cellsOf H' b) _ = bindO (cellsOf H b) _
    rw [cellsOf_congr (ha b (by simp))]
  · exact h
theorem lendA_loc {x:AV} {q:AV × List Nat} (h:lendA H x = some q) (ha:Agree q.2 H H') : lendA H' x = some q:=by
  cases x <;> try exact h
  rename_i b off len es lo ex
  have h0:=h
  replace h:=bindO_some.1 h; obtain ⟨c,hc,h⟩:=h
  replace h:=guardB_some.1 h; obtain ⟨hg,h⟩:=h
  cases h
  rw [← h0]
  show bindO (ownOf H' b) _ = bindO (ownOf H b) _
  rw [ownOf_congr (ha b (by simp))]
theorem lendL_loc : ∀ {l:List AV} {q:List AV × List Nat},lendL H l = some q → Agree q.2 H H' → lendL H' l = some q
  | [],q,h,_ => h
  | x::l,q,h,ha => by
    obtain ⟨y,hy,h⟩:=bindO_some.1 (show bindO (lendA H x) (fun y => bindO (lendL H l) fun r => some (y.1::r.1,appL y.2 r.2)) = some q from h)
    obtain ⟨r,hr,h⟩:=bindO_some.1 h
    cases h
    have e1:=lendA_loc hy (fun b hb => ha b (by show b ∈ appL y.2 r.2; rw [appL_eq]; exact List.mem_append_left _ hb))
    have e2:=lendL_loc hr (fun b hb => ha b (by show b ∈ appL y.2 r.2; rw [appL_eq]; exact List.mem_append_right _ hb))
    show bindO (lendA H' x) (fun y => bindO (lendL H' l) fun r => some (y.1::r.1,appL y.2 r.2)) = _
    rw [e1,bindO_some',e2]; rfl
theorem entries_loc {m:AV} {q:List (AV × AV) × List Nat} (h:entries H m = some q) (ha:Agree q.2 H H') : entries H' m = some q:=by
  cases m <;> try (cases h; done)
  · exact h
  · rename_i b
    have h0:=h
    replace h:=bindO_some.1 h; obtain ⟨l,hl,h⟩:=h
    cases h
    rw [← h0]
    show bindO (mapOf H' b) _ = bindO (mapOf H b) _
    rw [mapOf_congr (ha b (by simp))]
  · exact h
theorem bounds_rd {lo hi mx:Option Operand} {len cap:Nat} {k:Nat → Nat → Nat → Option R} (h:bounds env lo hi mx len cap k = some r) : ∃ l m n,k l m n = some r:=by
  replace h:=bindO_some.1 h; obtain ⟨a,_,h⟩:=h
  replace h:=bindO_some.1 h; obtain ⟨b,_,h⟩:=h
  replace h:=bindO_some.1 h; obtain ⟨c,_,h⟩:=h
  replace h:=guardB_some.1 h; obtain ⟨_,h⟩:=h
  exact ⟨_,_,_,h⟩
def Loc (f:T Blk → Option R) (H:T Blk) : Prop:=∀ r,f H = some r → ∃ rd,r.rd = some rd ∧ ∀ H',Agree rd H H' → f H' = some r
theorem Loc.const {x:Option R} {H:T Blk} (h:NoRead x) : Loc (fun _ => x) H:=fun r hr => ⟨[],h r hr,fun _ _ => hr⟩
theorem Loc.quiet {x:Option R} {H:T Blk} (h:Quiet x) : Loc (fun _ => x) H:=Loc.const fun r hr => (h r hr).1
theorem Loc.bind {α:Type} {x:Option α} {f : α → T Blk → Option R} {H:T Blk} (h : ∀ a,Loc (f a) H) : Loc (fun H => bindO x fun a => f a H) H:=by
  cases x with
  | none => exact fun r hr => by cases hr
  | some a => exact h a
theorem Loc.guard {b:Bool} {f:T Blk → Option R} {H:T Blk} (h:Loc f H) : Loc (fun H => guardB b (f H)) H:=by
  cases b with
  | false => exact fun r hr => by cases hr
  | true => exact h
theorem Loc.ite {b:Bool} {f g:T Blk → Option R} {H:T Blk} (h:Loc f H) (h' : Loc g H) : Loc (fun H => ifB b (f H) (g H)) H:=by
  cases b with
  | false => exact h'
  | true => exact h
theorem Loc.cells {b:Nat} {f:T AV × Nat → Option R} {H:T Blk} (h : ∀ q r,f q = some r → ∃ rd,r.rd = some rd ∧ b ∈ rd) : Loc (fun H => bindO (cellsOf H b) f) H:=fun r hr => by
  have h0:=hr
  obtain ⟨q,hq,hr⟩:=bindO_some.1 hr
  obtain ⟨rd,h1,h2⟩:=h q r hr
  exact ⟨rd,h1,fun H' ha => by show bindO (cellsOf H' b) f = _; rw [cellsOf_congr (ha b h2)]; exact h0⟩
theorem Loc.own {b:Nat} {f:T AV × Nat → Option R} {H:T Blk} (h : ∀ q r,f q = some r → ∃ rd,r.rd = some rd ∧ b ∈ rd) : Loc (fun H => bindO (ownOf H b) f) H:=fun r hr => by
  have h0:=hr
  obtain ⟨q,hq,hr⟩:=bindO_some.1 hr
  obtain ⟨rd,h1,h2⟩:=h q r hr
  exact ⟨rd,h1,fun H' ha => by show bindO (ownOf H' b) f = _; rw [ownOf_congr (ha b h2)]; exact h0⟩
theorem Loc.mate {b:Nat} {f:Option Nat → Option R} {H:T Blk} (h : ∀ q r,f q = some r → ∃ rd,r.rd = some rd ∧ b ∈ rd) : Loc (fun H => bindO (mateOf H b) f) H:=fun r hr => by
  have h0:=hr
  obtain ⟨q,hq,hr⟩:=bindO_some.1 hr
  obtain ⟨rd,h1,h2⟩:=h q r hr
  exact ⟨rd,h1,fun H' ha => by show bindO (mateOf H' b) f = _; rw [mateOf_congr (ha b h2)]; exact h0⟩
theorem Loc.map {b:Nat} {f:List (AV × AV) → Option R} {H:T Blk} (h : ∀ q r,f q = some r → ∃ rd,r.rd = some rd ∧ b ∈ rd) : Loc (fun H => bindO (mapOf H b) f) H:=fun r hr => by
  have h0:=hr
  obtain ⟨q,hq,hr⟩:=bindO_some.1 hr
  obtain ⟨rd,h1,h2⟩:=h q r hr
  exact ⟨rd,h1,fun H' ha => by show bindO (mapOf H' b) f = _; rw [mapOf_congr (ha b h2)]; exact h0⟩
def Reads (rd:List Nat) (x:Option R) : Prop:=∀ r,x = some r → ∃ l,r.rd = some l ∧ ∀ b ∈ rd,b ∈ l
theorem Loc.src {k:Nat} {x:AV} {f:List AV × List Nat → T Blk → Option R} {H:T Blk} (h : ∀ q,srcCells H k x = some q → Loc (f q) H) (h' : ∀ q,Reads q.2 (f q H)) : Loc (fun H => bindO (srcCells H k x) fun q => f q H) H:=fun r hr => by
  obtain ⟨q,hq,hr⟩:=bindO_some.1 hr
  obtain ⟨rd,h1,h2⟩:=h q hq r hr
  obtain ⟨l,h3,h4⟩:=h' q r hr
  rw [h1] at h3; cases h3
  exact ⟨rd,h1,fun H' ha => bindO_some.2 ⟨q,srcCells_loc hq (fun b hb => ha b (h4 b hb)),h2 H' ha⟩⟩
theorem Loc.entries {m:AV} {f:List (AV × AV) × List Nat → Option R} {H:T Blk} (h : ∀ q,Reads q.2 (f q)) : Loc (fun H => bindO (entries H m) f) H:=fun r hr => by
  obtain ⟨q,hq,hr⟩:=bindO_some.1 hr
  obtain ⟨l,h3,h4⟩:=h q r hr
  exact ⟨l,h3,fun H' ha => bindO_some.2 ⟨q,entries_loc hq (fun b hb => ha b (h4 b hb)),hr⟩⟩
theorem Loc.none {H:T Blk} : Loc (fun _ => none) H:=fun r hr => by cases hr
theorem fill_noRead {i:Nat} {t:T AV} {l:List AV} {k:T AV → Option R} (h : ∀ t,NoRead (k t)) : NoRead (fill i t l k):=by rw [fill_eq]; exact h _
theorem Reads.ans {x:AV} {u:List (Nat × Blk)} {rd rd' : List Nat} (h : ∀ b ∈ rd,b ∈ rd') : Reads rd (some ⟨x,u,some rd'⟩):=fun r hr => by cases hr; exact ⟨rd',rfl,h⟩
theorem Reads.bind {α:Type} {rd:List Nat} {x:Option α} {f : α → Option R} (h : ∀ a,Reads rd (f a)) : Reads rd (bindO x f):=fun r hr => by
  obtain ⟨a,_,ha⟩:=bindO_some.1 hr; exact h a r ha
theorem Reads.guard {rd:List Nat} {b:Bool} {x:Option R} (h:Reads rd x) : Reads rd (guardB b x):=fun r hr => h r (guardB_some.1 hr).2
theorem Reads.ite {rd:List Nat} {b:Bool} {x y:Option R} (h:Reads rd x) (h' : Reads rd y) : Reads rd (ifB b x y):=by cases b <;> assumption
theorem Reads.none {rd:List Nat} : Reads rd none:=fun r h => by cases h
theorem Reads.fill {rd:List Nat} {i:Nat} {t:T AV} {l:List AV} {k:T AV → Option R} (h : ∀ t,Reads rd (k t)) : Reads rd (fill i t l k):=by rw [fill_eq]; exact h _
theorem Reads.cell {b:Nat} {f:T AV × Nat → Option R} (h : ∀ q,Reads [b] (f q)) : ∀ q r,f q = Option.some r → ∃ rd,r.rd = Option.some rd ∧ b ∈ rd:=fun q r hr => by
  obtain ⟨l,h1,h2⟩:=h q r hr; exact ⟨l,h1,h2 b (by simp)⟩
theorem Loc.fill {i:Nat} {t:T AV} {l:List AV} {k:T AV → T Blk → Option R} {H:T Blk} (h : ∀ t,Loc (k t) H) : Loc (fun H => Go.Abs.fill i t l fun t => k t H) H:=by
  have e : (fun H => Go.Abs.fill i t l fun t => k t H) = fun H => k (fillT i t l) H:=funext fun H => fill_eq ..
  rw [e]; exact h _
theorem Loc.known {x:Option R} {H:T Blk} (h : ∀ r,x = some r → ∃ rd,r.rd = some rd) : Loc (fun _ => x) H:=fun r hr => by
  obtain ⟨rd,e⟩:=h r hr; exact ⟨rd,e,fun _ _ => hr⟩
theorem appFresh_reads {e:TypeId} {es need:Nat} {l:List AV} {more:List (Nat × Blk)} {rd:List Nat} {rd' : List Nat} (h : ∀ b ∈ rd,b ∈ rd') : Reads rd (appFresh C e nb es need l more rd'):=
  Reads.guard (Reads.fill fun _ => Reads.ans h)
theorem Reads.elim {rd:List Nat} {m:Option Nat} {d:Option R} {f:Nat → Option R} (h:Reads rd d) (h' : ∀ p,Reads rd (f p)) : Reads rd (elimO m d f):=by
  cases m with
  | none => exact h
  | some p => exact h' p
theorem appTwo_reads {e:TypeId} {b es need:Nat} {l l0:List AV} {more:List (Nat × Blk)} {rd:List Nat} {rd' : List Nat} (h : ∀ b ∈ rd,b ∈ rd') : Reads rd (appTwo C e nb b es need l l0 more rd'):=
  Reads.guard (Reads.fill fun _ => Reads.fill fun _ => Reads.ans h)
theorem grow_reads {e:TypeId} {b es need:Nat} {l l0:List AV} {x:Bool} {rd:List Nat} {rd' : List Nat} {m:Option Nat} (h : ∀ b ∈ rd,b ∈ rd') :
    Reads rd (elimO m (ifB x (appTwo C e nb b es need l l0 [] rd') (appFresh C e nb es need l [(b,.gone)] rd')) (fun p => guardB (notB (Nat.beq p b)) (appTwo C e nb b es need l l0 [(p,.gone)] rd'))):=
  Reads.elim (Reads.ite (appTwo_reads h) (appFresh_reads h)) fun _ => Reads.guard (appTwo_reads h)
theorem Reads.known {rd:List Nat} {x:Option R} (h:Reads rd x) : ∀ r,x = some r → ∃ rd,r.rd = some rd:=fun r hr => by obtain ⟨l,e,_⟩:=h r hr; exact ⟨l,e⟩
theorem srcCells_hs {k b off len es lo:Nat} {ex:Bool} {q:List AV × List Nat} (h:srcCells H k (.hs b off len es lo ex) = some q) : q.2 = [b]:=by
  replace h:=bindO_some.1 h; obtain ⟨c,hc,h⟩:=h
  replace h:=bindO_some.1 h; obtain ⟨l,hl,h⟩:=h
  cases h; rfl
theorem bAppend_loc {st xt:TypeId} {s x:AV} : Loc (fun H => bAppend C H nb st xt s x) H:=by
  have hold : ∀ (new old:List AV × List Nat),∀ b ∈ old.2,b ∈ appL new.2 old.2:=fun new old b hb => by rw [appL_eq]; exact List.mem_append_right _ hb
  have hnew : ∀ (new old:List AV × List Nat),∀ b ∈ new.2,b ∈ appL new.2 old.2:=fun new old b hb => by rw [appL_eq]; exact List.mem_append_left _ hb
  refine Loc.bind fun elem => Loc.guard (Loc.bind fun n => Loc.bind fun sl => Loc.ite (Loc.quiet Quiet.A) ?_)
  refine Loc.src (fun new hn => Loc.src (fun old ho => Loc.guard ?_) fun old => Reads.guard ?_) fun new => Reads.bind fun old => Reads.guard ?_
  · cases s <;> try exact Loc.none
    · exact Loc.known (appFresh_reads (hold new old)).known
    · rename_i b off len es lo ex
      have hb:=srcCells_hs ho
      refine Loc.guard (Loc.ite (Loc.own (Reads.cell fun q => Reads.guard (Reads.fill fun t => Reads.ans fun b' hb' => hold new old b' (hb ▸ hb')))) (Loc.ite ?_ (Loc.guard (Loc.mate fun m r hr => ?_))))
      · exact Loc.known (appFresh_reads (hold new old)).known
      · obtain ⟨l,e,h⟩:=grow_reads (rd:=[b]) (fun b' hb' => hold new old b' (hb ▸ hb')) r hr; exact ⟨l,e,h b (by simp)⟩
    · exact Loc.guard (Loc.known (appFresh_reads (hold new old)).known)
  · cases s <;> try exact Reads.none
    · exact appFresh_reads (hold new old)
    · exact Reads.guard (Reads.ite (Reads.bind fun q => Reads.guard (Reads.fill fun t => Reads.ans (hold new old))) (Reads.ite (appFresh_reads (hold new old)) (Reads.guard (Reads.bind fun m => grow_reads (hold new old)))))
    · exact Reads.guard (appFresh_reads (hold new old))
  · cases s <;> try exact Reads.none
    · exact appFresh_reads (hnew new old)
    · exact Reads.guard (Reads.ite (Reads.bind fun q => Reads.guard (Reads.fill fun t => Reads.ans (hnew new old))) (Reads.ite (appFresh_reads (hnew new old)) (Reads.guard (Reads.bind fun m => grow_reads (hnew new old)))))
    · exact Reads.guard (appFresh_reads (hnew new old))
theorem bCopy_loc {dt:TypeId} {d x:AV} : Loc (fun H => bCopy C H dt d x) H:=by
  refine Loc.bind fun elem => Loc.bind fun dl => Loc.bind fun xl => ?_
  have e : ∀ (k:Nat → T Blk → Option R) (n:Nat),Loc (k n) H → Loc (fun H => force n fun n => k n H) H:=fun k n h => h
  refine e _ _ (Loc.ite (Loc.quiet Quiet.A) (Loc.src (fun q hq => Loc.guard ?_) fun q => Reads.guard ?_))
  · cases d <;> try exact Loc.none
    exact Loc.own (Reads.cell fun c => Reads.guard (Reads.fill fun t => Reads.ans fun b hb => by simp at hb; simp [hb]))
  · cases d <;> try exact Reads.none
    exact Reads.bind fun c => Reads.guard (Reads.fill fun t => Reads.ans fun b hb => List.mem_cons_of_mem _ hb)
theorem bClear_loc {dt:TypeId} {d:AV} : Loc (fun H => bClear C H dt d) H:=by
  refine Loc.bind fun elem => Loc.bind fun n => Loc.ite (Loc.quiet Quiet.A) (Loc.bind fun z => Loc.guard ?_)
  cases d <;> try exact Loc.none
  exact Loc.own (Reads.cell fun c => Reads.guard (Reads.fill fun t => Reads.ans fun b hb => hb))
theorem force_known {n:Nat} {k:Nat → Option R} (h : ∀ n r,k n = some r → ∃ rd,r.rd = some rd) : ∀ r,force n k = some r → ∃ rd,r.rd = some rd:=fun r hr => h n r hr
theorem bLen_loc {t:TypeId} {x:AV} : Loc (fun H => bLen C H t x) H:=by
  cases x <;> try exact Loc.none
  · rename_i z
    refine Loc.quiet ?_
    cases z <;> first | exact Quiet.guard Quiet.A | exact Quiet.guard (show Quiet (A _) from Quiet.A)
  · exact Loc.quiet (Quiet.guard Quiet.A)
  · exact Loc.quiet (Quiet.guard Quiet.A)
  · exact Loc.quiet (Quiet.bind fun _ => Quiet.A)
  · exact Loc.bind fun _ => Loc.map (fun l r hr => by cases hr; exact ⟨_,rfl,by simp⟩)
  · exact Loc.quiet (Quiet.bind fun _ => show Quiet (A _) from Quiet.A)
theorem onInt_quiet {x:AV} {f:IntKind → Int → Option R} (h : ∀ k n,Quiet (f k n)) : Quiet (onInt x none f):=by
  cases x <;> try exact Quiet.none
  rename_i z
  cases z <;> first | exact Quiet.none | exact h _ _
theorem two_loc {α:Type} {l:List α} {f : α → α → T Blk → Option R} (h : ∀ x y,Loc (f x y) H) : Loc (fun H => two l fun x y => f x y H) H:=Loc.bind fun x => Loc.bind fun y => Loc.guard (h x y)
theorem one_loc {α:Type} {l:List α} {f : α → T Blk → Option R} (h : ∀ x,Loc (f x) H) : Loc (fun H => one l fun x => f x H) H:=Loc.bind fun x => Loc.guard (h x)
theorem sBuiltin_loc {b:Builtin} {args:Array Operand} {ts:Array TypeId} : Loc (fun H => sBuiltin b args ts C env H nb ty) H:=by
  refine Loc.bind fun l => ?_
  cases b <;> try exact Loc.none
  case append => exact two_loc fun x y => two_loc fun t u => bAppend_loc
  case copy => exact two_loc fun x y => two_loc fun t u => bCopy_loc
  case clear => exact one_loc fun x => one_loc fun t => bClear_loc
  case len => exact one_loc fun x => one_loc fun t => bLen_loc
  case max => exact two_loc fun x y => Loc.quiet (onInt_quiet fun _ _ => onInt_quiet fun _ _ => Quiet.guard (Quiet.ite Quiet.A Quiet.A))
  case min => exact two_loc fun x y => Loc.quiet (onInt_quiet fun _ _ => onInt_quiet fun _ _ => Quiet.guard (Quiet.ite Quiet.A Quiet.A))
theorem simple_loc {o:Op} : Loc (fun H => simple o C env H nb ty) H:=by
  cases hl : loud o with
  | false =>
    intro r hr
    have hq:=simple_quiet hl r hr
    refine ⟨[],hq.1,fun H' _ => ?_⟩
    cases o <;> first | exact hr | cases hl
  | true =>
    cases o <;> try (first | exact Loc.none | (cases hl; done))
    case alloc t => exact Loc.const (NoRead.bind fun z => fill_noRead fun c => NoRead.some)
    case box t x => exact Loc.const (NoRead.bind fun z => fill_noRead fun c => NoRead.some)
    case buildSlice t n ps =>
      exact Loc.const (NoRead.bind fun e => NoRead.guard (NoRead.bind fun z => NoRead.guard (NoRead.bind fun l => fill_noRead fun t => NoRead.ite (fun r h => (Quiet.A r h).1) NoRead.some)))
    case load t a =>
      refine Loc.bind fun x => ?_
      cases x <;> try exact Loc.none
      · exact Loc.cells (Reads.cell fun c => Reads.bind fun y => Reads.ans fun b hb => hb)
      · exact Loc.quiet (Quiet.bind fun _ => Quiet.A)
    case store t a x =>
      refine Loc.bind fun p => Loc.bind fun y => ?_
      cases p <;> try exact Loc.none
      exact Loc.own (Reads.cell fun c => Reads.guard (Reads.fill fun t => Reads.ans fun b hb => hb))
    case convert s d x =>
      refine Loc.bind fun y => ?_
      show Loc (fun H => elimO (intKind C d) _ _) H
      cases intKind C d with
      | some k => exact Loc.quiet (Quiet.bind fun _ => onInt_quiet fun _ _ => Quiet.bind fun _ => Quiet.A)
      | none =>
        refine Loc.ite (Loc.guard ?_) ?_
        · cases y <;> try exact Loc.none
          rename_i z
          cases z <;> first | exact Loc.none | exact Loc.quiet Quiet.A
        · exact Loc.bind fun e => Loc.guard (Loc.bind fun k => Loc.guard (Loc.bind fun n => Loc.src (fun q hq => Loc.bind fun bs => Loc.known (Reads.ans (rd:=q.2) fun b hb => hb).known) fun q => Reads.bind fun bs => Reads.ans fun b hb => hb))
    case sliceToArrayPointer t x =>
      refine Loc.quiet (Quiet.bind fun p => Quiet.bind fun y => ?_)
      cases y <;> first | exact Quiet.none | exact Quiet.guard Quiet.A
    case makeMap t q => cases q <;> first | exact Loc.none | exact Loc.const NoRead.some
    case makeSlice t l c =>
      exact Loc.const (NoRead.bind fun _ => NoRead.bind fun _ => NoRead.bind fun _ => NoRead.bind fun _ => NoRead.bind fun _ => NoRead.bind fun _ => NoRead.guard (fill_noRead fun t => NoRead.some))
    case slice t x lo hi mx =>
      refine Loc.bind fun y => ?_
      have hs : ∀ (rd:List Nat) (b off es:Nat) (ex:Bool) (l h m:Nat) (r:R),cutHs rd b off es ex l h m = some r → r.rd = some rd:=fun rd b off es ex l h m r hr => by cases hr; rfl
      have vs : ∀ (t:T AV) (off es:Nat) (ex:Bool) (l h m:Nat) (r:R),cutVs t off es ex l h m = some r → r.rd = some []:=fun t off es ex l h m r hr => by cases hr; rfl
      cases y <;> try exact Loc.none
      · rename_i z
        refine Loc.const ?_
        cases z <;> try exact NoRead.none
        · refine NoRead.guard fun r hr => ?_
          obtain ⟨l,m,n,hr⟩:=bounds_rd hr
          rw [forceL_eq] at hr; cases hr; rfl
        · refine NoRead.guard (NoRead.bind fun _ r hr => ?_)
          obtain ⟨l,m,n,hr⟩:=bounds_rd hr
          cases hr; rfl
      · refine Loc.bind fun p => Loc.cells (Reads.cell fun q => Reads.guard fun r hr => ?_)
        obtain ⟨l,m,n,hr⟩:=bounds_rd hr
        exact ⟨_,hs _ _ _ _ _ _ _ _ _ hr,fun b hb => hb⟩
      · refine Loc.const (NoRead.bind fun p r hr => ?_)
        obtain ⟨l,m,n,hr⟩:=bounds_rd hr
        exact vs _ _ _ _ _ _ _ _ hr
      · refine Loc.const (NoRead.bind fun p => NoRead.guard fun r hr => ?_)
        obtain ⟨l,m,n,hr⟩:=bounds_rd hr
        exact hs _ _ _ _ _ _ _ _ _ hr
      · refine Loc.const (NoRead.bind fun p => NoRead.guard fun r hr => ?_)
        obtain ⟨l,m,n,hr⟩:=bounds_rd hr
        exact vs _ _ _ _ _ _ _ _ hr
    case lookup t x i ok =>
      refine Loc.bind fun ke => Loc.bind fun m => Loc.bind fun j => Loc.bind fun key => Loc.guard (Loc.entries fun q => Reads.bind fun r => ?_)
      cases r with
      | none => exact Reads.bind fun z => Reads.ans fun b hb => hb
      | some y => exact Reads.ans fun b hb => hb
    case mapUpdate t m k x =>
      refine Loc.bind fun ke => Loc.bind fun mm => Loc.bind fun j => Loc.bind fun key => Loc.bind fun y => Loc.guard ?_
      cases mm <;> try exact Loc.none
      exact Loc.map (fun l r hr => by obtain ⟨l',_,hr⟩:=bindO_some.1 hr; cases hr; exact ⟨_,rfl,by simp⟩)
    case call c =>
      show Loc (fun H => sCall c C env H nb ty) H
      unfold sCall
      cases c.callee with
      | builtin b => exact sBuiltin_loc
      | _ => exact Loc.none
end
end Go.Abs
