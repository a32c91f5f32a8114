/- WHAT AN OPERATION LOOKS AT: its operands, the blocks that it has read; nothing else. -/
import Derived.Test.YtdomagdnaohpbaaGreatDoorEvTree
import Derived.Orders
set_option linter.unusedSimpArgs false
set_option linter.unusedVariables false
namespace Go.Abs
section
variable {C:Cx} {env env':T AV} {H H':T Blk} {nb:Nat} {ty:TypeId} {r:R}
theorem vL {x:Operand} (h:∀ t,x=.tmp t→env'.get t=env.get t):opd env' x=opd env x:=by
  cases x with
  | tmp t=>show elimO (env'.get t) _ _=elimO (env.get t) _ _; rw [h t rfl]
  | _=>rfl
theorem qp:∀ {l:List Operand},(∀ t,Operand.tmp t ∈ l→env'.get t=env.get t)→vP env' l=vP env l
  | [],_=>rfl
  |
    x::l,h=>by
    show zf (opd env' x) (fun y=>zf (vP env' l) fun r=>some (y::r))=zf (opd env x) (fun y=>zf (vP env l) fun r=>some (y::r))
    rw [vL (fun t e=>h t (e ▸ List.mem_cons_self ..)),qp (fun t ht=>h t (List.mem_cons_of_mem _ ht))]
theorem uo {o:Option Operand} {d:Nat} (h:∀ t,o=some (.tmp t)→env'.get t=env.get t):bound env' o d=bound env o d:=by
  cases o with
  | none=>rfl
  | some x=>show zf (opd env' x) _=zf (opd env x) _; rw [vL (fun t e=>h t (by rw [e]))]
theorem uq {place:Nat→Option (Nat×Nat)}:∀ {ps:List (Nat×Operand)} (l:List AV),(∀ t,Operand.tmp t ∈ ps.map (·.2)→env'.get t=env.get t)→parts env' place ps l=parts env place ps l
  | [],_,_=>rfl
  |
    (k,x)::ps,l,h=>by
    show zf (place k) (fun p=>zf (opd env' x) fun y=>zm (andB (Nat.beq (lenL y.cells) p.2) (Nat.ble (Nat.add p.1 p.2) (lenL l))) (xg (vR l p.1 y.cells) fun l=>parts env' place ps l)) =
      zf (place k) (fun p=>zf (opd env x) fun y=>zm (andB (Nat.beq (lenL y.cells) p.2) (Nat.ble (Nat.add p.1 p.2) (lenL l))) (xg (vR l p.1 y.cells) fun l=>parts env place ps l))
    rw [vL (fun t e=>h t (by simp [e]))]
    have ih:∀ l,parts env' place ps l=parts env place ps l:=fun l=>uq l (fun t ht=>h t (by simp only [List.map_cons,List.mem_cons]; exact .inr ht))
    simp only [ih]
theorem UZ {o:Op} (h:∀ t,Operand.tmp t ∈ o.operands.toList→env'.get t=env.get t):zY o C env' H nb ty=zY o C env H nb ty:=by
  have one:∀ {x:Operand},x ∈ o.operands.toList→opd env' x=opd env x:=fun hx=>vL (fun t e=>h t (e ▸ hx))
  have many:∀ {l:List Operand},(∀ x ∈ l,x ∈ o.operands.toList)→vP env' l=vP env l:=fun hl=>qp (fun t ht=>h t (hl _ ht))
  cases o <;> try rfl
  case move x=>show qL x C env' H nb ty=qL x C env H nb ty; unfold qL; rw [one (by simp [Op.operands])]
  case assign x=>show qL x C env' H nb ty=qL x C env H nb ty; unfold qL; rw [one (by simp [Op.operands])]
  case pick c a b =>
    show Wy c a b C env' H nb ty=Wy c a b C env H nb ty
    unfold Wy
    rw [one (x:=c) (by simp [Op.operands])]
    have e:∀ y,opd env' (ifB y a b)=opd env (ifB y a b):=fun y=>by cases y <;> exact one (by simp [Op.operands])
    simp only [e]
  case box t x=>show zaC t x C env' H nb ty=zaC t x C env H nb ty; unfold zaC; rw [one (by simp [Op.operands])]
  case build t ps =>
    show jS t ps C env' H nb ty=jS t ps C env H nb ty
    unfold jS
    simp only [uq (env:=env) (env':=env') (ps:=ps.toList) _ (fun t ht=>h t (by simpa [Op.operands] using ht))]
  case buildSlice t n ps =>
    show wz t n ps C env' H nb ty=wz t n ps C env H nb ty
    unfold wz
    simp only [uq (env:=env) (env':=env') (ps:=ps.toList) _ (fun t ht=>h t (by simpa [Op.operands] using ht))]
  case load t a=>show Wz t a C env' H nb ty=Wz t a C env H nb ty; unfold Wz; rw [one (by simp [Op.operands])]
  case store t a x=>show jT t a x C env' H nb ty=jT t a x C env H nb ty; unfold jT; rw [one (x:=a) (by simp [Op.operands]),one (x:=x) (by simp [Op.operands])]
  case nilCheck x=>show vC x C env' H nb ty=vC x C env H nb ty; unfold vC; rw [one (by simp [Op.operands])]
  case binOp op t x y u=>show zaE op t x y u C env' H nb ty=zaE op t x y u C env H nb ty; unfold zaE; rw [one (x:=x) (by simp [Op.operands]),one (x:=y) (by simp [Op.operands])]
  case unOp op t x=>show sUn op t x C env' H nb ty=sUn op t x C env H nb ty; unfold sUn; rw [one (by simp [Op.operands])]
  case convert s d x=>show ud s d x C env' H nb ty=ud s d x C env H nb ty; unfold ud; rw [one (by simp [Op.operands])]
  case sliceToArrayPointer t x=>show uf t x C env' H nb ty=uf t x C env H nb ty; unfold uf; rw [one (by simp [Op.operands])]
  case makeFunc f a b =>
    show vD f a b C env' H nb ty=vD f a b C env H nb ty
    unfold vD
    rw [many (l:=a.toList) (fun x hx=>by simp [Op.operands]; exact .inl (by simpa using hx)),many (l:=b.toList) (fun x hx=>by simp [Op.operands]; exact .inr (by simpa using hx))]
  case makeSlice t l c=>show wW t l c C env' H nb ty=wW t l c C env H nb ty; unfold wW; rw [one (x:=l) (by simp [Op.operands]),one (x:=c) (by simp [Op.operands])]
  case slice t x lo hi mx =>
    show jV t x lo hi mx C env' H nb ty=jV t x lo hi mx C env H nb ty
    have b1:∀ d,bound env' lo d=bound env lo d:=fun d=>uo (fun t e=>h t (by simp [Op.operands,e]))
    have b2:∀ d,bound env' hi d=bound env hi d:=fun d=>uo (fun t e=>h t (by simp [Op.operands,e]))
    have b3:∀ d,bound env' mx d=bound env mx d:=fun d=>uo (fun t e=>h t (by simp [Op.operands,e]))
    have bs:∀ len cap k,x9 env' lo hi mx len cap k=x9 env lo hi mx len cap k:=fun len cap k=>by unfold x9; simp only [b1,b2,b3]
    have bs':∀ len cap k,x9 env' lo hi none len cap k=x9 env lo hi none len cap k:=fun len cap k=>by
      have e:∀ d,bound env' none d=bound env none d:=fun d=>rfl
      unfold x9; simp only [b1,b2,e]
    unfold jV
    simp only [bs,bs',one (x:=x) (by simp [Op.operands])]
  case fieldAddr t x f=>show wX t x f C env' H nb ty=wX t x f C env H nb ty; unfold wX; rw [one (by simp [Op.operands])]
  case field t x f=>show jW t x f C env' H nb ty=jW t x f C env H nb ty; unfold jW; rw [one (by simp [Op.operands])]
  case indexAddr t x i=>show wY t x i C env' H nb ty=wY t x i C env H nb ty; unfold wY; rw [one (x:=x) (by simp [Op.operands]),one (x:=i) (by simp [Op.operands])]
  case index t x i=>show jX t x i C env' H nb ty=jX t x i C env H nb ty; unfold jX; rw [one (x:=x) (by simp [Op.operands]),one (x:=i) (by simp [Op.operands])]
  case extract x i=>show ue x i C env' H nb ty=ue x i C env H nb ty; unfold ue; rw [one (by simp [Op.operands])]
  case lookup t x i ok=>show qO t x i ok C env' H nb ty=qO t x i ok C env H nb ty; unfold qO; rw [one (x:=x) (by simp [Op.operands]),one (x:=i) (by simp [Op.operands])]
  case mapUpdate t m k x =>
    show wZ t m k x C env' H nb ty=wZ t m k x C env H nb ty
    unfold wZ
    rw [one (x:=m) (by simp [Op.operands]),one (x:=k) (by simp [Op.operands]),one (x:=x) (by simp [Op.operands])]
  case call c =>
    show u0 c C env' H nb ty=u0 c C env H nb ty
    cases hc:c.callee with
    |
      builtin b =>
      unfold u0
      rw [hc]
      show vE b c.args c.argTypes C env' H nb ty=vE b c.args c.argTypes C env H nb ty
      unfold vE
      rw [many (l:=c.args.toList) (fun x hx=>by simp [Op.operands,Call.operands,hc]; simpa using hx)]
    | _=>unfold u0; rw [hc]; rfl
def Quiet (x:Option R):Prop:=∀ r,x=some r→r.rd=some []∧r.ups=[]
def NoRead (x:Option R):Prop:=∀ r,x=some r→r.rd=some []
theorem Quiet.none:Quiet none:=fun r h=>by cases h
theorem Quiet.A {x:AV}:Quiet (A x):=fun r h=>by cases h; exact ⟨rfl,rfl⟩
theorem Quiet.bind {α:Type} {x:Option α} {f:α→Option R} (h:∀ a,Quiet (f a)):Quiet (zf x f):=fun r hr=>by
  obtain ⟨a,_,ha⟩:=za.1 hr; exact h a r ha
theorem Quiet.guard {b:Bool} {x:Option R} (h:Quiet x):Quiet (zm b x):=fun r hr=>h r (zi.1 hr).2
theorem Quiet.ite {b:Bool} {x y:Option R} (h:Quiet x) (h':Quiet y):Quiet (ifB b x y):=by cases b <;> assumption
theorem Quiet.elim {α:Type} {x:Option α} {d:Option R} {f:α→Option R} (hd:Quiet d) (h:∀ a,Quiet (f a)):Quiet (elimO x d f):=by
  cases x with
  | none=>exact hd
  | some a=>exact h a
theorem NoRead.none:NoRead none:=fun r h=>by cases h
theorem NoRead.bind {α:Type} {x:Option α} {f:α→Option R} (h:∀ a,NoRead (f a)):NoRead (zf x f):=fun r hr=>by
  obtain ⟨a,_,ha⟩:=za.1 hr; exact h a r ha
theorem NoRead.guard {b:Bool} {x:Option R} (h:NoRead x):NoRead (zm b x):=fun r hr=>h r (zi.1 hr).2
theorem NoRead.ite {b:Bool} {x y:Option R} (h:NoRead x) (h':NoRead y):NoRead (ifB b x y):=by cases b <;> assumption
theorem NoRead.some {x:AV} {u:List (Nat×Blk)}:NoRead (some ⟨x,u,some []⟩):=fun r h=>by cases h; rfl
theorem Zh {t:TypeId} {l:List AV} {off:Nat}:Quiet (part C t l off):=by
  unfold part
  refine Quiet.ite (Quiet.guard ?_) (Quiet.guard (Quiet.bind fun _=>Quiet.A))
  rw [y_]; exact Quiet.A
theorem qZ {o:Op} (hl:uX o=false):Quiet (zY o C env H nb ty):=by
  cases o <;> try (cases hl; done)
  case move x=>exact Quiet.bind fun _=>Quiet.A
  case assign x=>exact Quiet.bind fun _=>Quiet.A
  case pick c a b=>exact Quiet.bind fun _=>Quiet.bind fun _=>Quiet.bind fun _=>Quiet.A
  case build t ps=>exact Quiet.bind fun _=>Quiet.guard (Quiet.bind fun _=>Quiet.A)
  case nilCheck x=>exact Quiet.bind fun _=>Quiet.guard Quiet.A
  case binOp op t x y u=>exact Quiet.bind fun _=>Quiet.bind fun _=>Quiet.bind fun _=>Quiet.A
  case unOp op t x =>
    refine Quiet.bind fun _=>Quiet.bind fun _=>Quiet.bind fun v => ?_
    cases v <;> try exact Quiet.none
    · exact fun r h=>by replace h:forceB _ (fun b=>A (.v (.bool b)))=some r:=h; rw [forceB_eq] at h; exact Quiet.A r h
    · exact fun r h=>by replace h:wI _ (fun b=>A (.v (.int _ b)))=some r:=h; rw [xx] at h; exact Quiet.A r h
  case makeFunc f a b=>exact Quiet.bind fun _=>Quiet.bind fun _=>Quiet.A
  case fieldAddr t x f =>
    refine Quiet.bind fun _=>Quiet.guard (Quiet.bind fun y => ?_)
    cases y <;> first | exact Quiet.none | exact Quiet.A
  case field t x f =>
    refine Quiet.bind fun _=>Quiet.bind fun y => ?_
    cases y <;> first | exact Quiet.none | exact Zh
  case indexAddr t x i =>
    refine Quiet.bind fun y=>Quiet.bind fun _=>Quiet.bind fun _ => ?_
    cases y <;> first | exact Quiet.none | exact Quiet.bind fun _=>Quiet.guard Quiet.A
  case index t x i =>
    refine Quiet.bind fun y=>Quiet.bind fun _=>Quiet.bind fun n => ?_
    cases y <;> try exact Quiet.none
    ·
      rename_i z
      cases z <;> try exact Quiet.none
      exact Quiet.guard (Quiet.bind fun b=>Quiet.A)
    · exact Quiet.bind fun _=>Quiet.guard Zh
  case extract x i =>
    refine Quiet.bind fun y => ?_
    cases y <;> first | exact Quiet.none | exact Quiet.bind fun _=>Quiet.A
theorem u9 {b:Nat} (h:H'.get b=H.get b):cellsOf H' b=cellsOf H b:=by unfold cellsOf; rw [T.getB_eq,T.getB_eq,h]
theorem ur {b:Nat} (h:H'.get b=H.get b):yD H' b=yD H b:=by unfold yD; rw [T.getB_eq,T.getB_eq,h]
theorem Xf {b:Nat} (h:H'.get b=H.get b):qh H' b=qh H b:=by unfold qh; rw [T.getB_eq,T.getB_eq,h]
theorem je {b:Nat} (h:H'.get b=H.get b):vA H' b=vA H b:=by unfold vA; rw [T.getB_eq,T.getB_eq,h]
def jf (rd:List Nat) (H H':T Blk):Prop:=∀ b ∈ rd,H'.get b=H.get b
theorem Xg {k:Nat} {x:AV} {q:List AV×List Nat} (h:yT H k x=some q) (ha:jf q.2 H H'):yT H' k x=some q:=by
  cases x <;> try (cases h; done)
  · exact h
  ·
    rename_i b off len es lo ex
    have h0:=h
    replace h:=za.1 h; obtain ⟨c,hc,h⟩:=h
    replace h:=za.1 h; obtain ⟨l,hl,h⟩:=h
    cases h
    rw [← h0]
    show zf (cellsOf H' b) _=zf (cellsOf H b) _
    rw [u9 (ha b (by simp))]
  · exact h
theorem JF {x:AV} {q:AV×List Nat} (h:k9 H x=some q) (ha:jf q.2 H H'):k9 H' x=some q:=by
  cases x <;> try exact h
  rename_i b off len es lo ex
  have h0:=h
  replace h:=za.1 h; obtain ⟨c,hc,h⟩:=h
  replace h:=zi.1 h; obtain ⟨hg,h⟩:=h
  cases h
  rw [← h0]
  show zf (yD H' b) _=zf (yD H b) _
  rw [ur (ha b (by simp))]
theorem kN:∀ {l:List AV} {q:List AV×List Nat},vj H l=some q→jf q.2 H H'→vj H' l=some q
  | [],q,h,_=>h
  |
    x::l,q,h,ha=>by
    obtain ⟨y,hy,h⟩:=za.1 (show zf (k9 H x) (fun y=>zf (vj H l) fun r=>some (y.1::r.1,z5 y.2 r.2))=some q from h)
    obtain ⟨r,hr,h⟩:=za.1 h
    cases h
    have e1:=JF hy (fun b hb=>ha b (by show b ∈ z5 y.2 r.2; rw [yg]; exact List.mem_append_left _ hb))
    have e2:=kN hr (fun b hb=>ha b (by show b ∈ z5 y.2 r.2; rw [yg]; exact List.mem_append_right _ hb))
    show zf (k9 H' x) (fun y=>zf (vj H' l) fun r=>some (y.1::r.1,z5 y.2 r.2))=_
    rw [e1,zs,e2]; rfl
theorem W7 {m:AV} {q:List (AV×AV)×List Nat} (h:entries H m=some q) (ha:jf q.2 H H'):entries H' m=some q:=by
  cases m <;> try (cases h; done)
  · exact h
  ·
    rename_i b
    have h0:=h
    replace h:=za.1 h; obtain ⟨l,hl,h⟩:=h
    cases h
    rw [← h0]
    show zf (vA H' b) _=zf (vA H b) _
    rw [je (ha b (by simp))]
  · exact h
theorem wU {lo hi mx:Option Operand} {len cap:Nat} {k:Nat→Nat→Nat→Option R} (h:x9 env lo hi mx len cap k=some r):∃ l m n,k l m n=some r:=by
  replace h:=za.1 h; obtain ⟨a,_,h⟩:=h
  replace h:=za.1 h; obtain ⟨b,_,h⟩:=h
  replace h:=za.1 h; obtain ⟨c,_,h⟩:=h
  replace h:=zi.1 h; obtain ⟨_,h⟩:=h
  exact ⟨_,_,_,h⟩
def Loc (f:T Blk→Option R) (H:T Blk):Prop:=∀ r,f H=some r→∃ rd,r.rd=some rd∧∀ H',jf rd H H'→f H'=some r
theorem Loc.const {x:Option R} {H:T Blk} (h:NoRead x):Loc (fun _=>x) H:=fun r hr=>⟨[],h r hr,fun _ _=>hr⟩
theorem Loc.quiet {x:Option R} {H:T Blk} (h:Quiet x):Loc (fun _=>x) H:=Loc.const fun r hr=>(h r hr).1
theorem Loc.bind {α:Type} {x:Option α} {f:α→T Blk→Option R} {H:T Blk} (h:∀ a,Loc (f a) H):Loc (fun H=>zf x fun a=>f a H) H:=by
  cases x with
  | none=>exact fun r hr=>by cases hr
  | some a=>exact h a
theorem Loc.guard {b:Bool} {f:T Blk→Option R} {H:T Blk} (h:Loc f H):Loc (fun H=>zm b (f H)) H:=by
  cases b with
  | false=>exact fun r hr=>by cases hr
  | true=>exact h
theorem Loc.ite {b:Bool} {f g:T Blk→Option R} {H:T Blk} (h:Loc f H) (h':Loc g H):Loc (fun H=>ifB b (f H) (g H)) H:=by
  cases b with
  | false=>exact h'
  | true=>exact h
theorem Loc.cells {b:Nat} {f:T AV×Nat→Option R} {H:T Blk} (h:∀ q r,f q=some r→∃ rd,r.rd=some rd∧b ∈ rd):Loc (fun H=>zf (cellsOf H b) f) H:=fun r hr=>by
  have h0:=hr
  obtain ⟨q,hq,hr⟩:=za.1 hr
  obtain ⟨rd,h1,h2⟩:=h q r hr
  exact ⟨rd,h1,fun H' ha=>by show zf (cellsOf H' b) f=_; rw [u9 (ha b h2)]; exact h0⟩
theorem Loc.own {b:Nat} {f:T AV×Nat→Option R} {H:T Blk} (h:∀ q r,f q=some r→∃ rd,r.rd=some rd∧b ∈ rd):Loc (fun H=>zf (yD H b) f) H:=fun r hr=>by
  have h0:=hr
  obtain ⟨q,hq,hr⟩:=za.1 hr
  obtain ⟨rd,h1,h2⟩:=h q r hr
  exact ⟨rd,h1,fun H' ha=>by show zf (yD H' b) f=_; rw [ur (ha b h2)]; exact h0⟩
theorem Loc.mate {b:Nat} {f:Option Nat→Option R} {H:T Blk} (h:∀ q r,f q=some r→∃ rd,r.rd=some rd∧b ∈ rd):Loc (fun H=>zf (qh H b) f) H:=fun r hr=>by
  have h0:=hr
  obtain ⟨q,hq,hr⟩:=za.1 hr
  obtain ⟨rd,h1,h2⟩:=h q r hr
  exact ⟨rd,h1,fun H' ha=>by show zf (qh H' b) f=_; rw [Xf (ha b h2)]; exact h0⟩
theorem Loc.map {b:Nat} {f:List (AV×AV)→Option R} {H:T Blk} (h:∀ q r,f q=some r→∃ rd,r.rd=some rd∧b ∈ rd):Loc (fun H=>zf (vA H b) f) H:=fun r hr=>by
  have h0:=hr
  obtain ⟨q,hq,hr⟩:=za.1 hr
  obtain ⟨rd,h1,h2⟩:=h q r hr
  exact ⟨rd,h1,fun H' ha=>by show zf (vA H' b) f=_; rw [je (ha b h2)]; exact h0⟩
def Reads (rd:List Nat) (x:Option R):Prop:=∀ r,x=some r→∃ l,r.rd=some l∧∀ b ∈ rd,b ∈ l
theorem Loc.src {k:Nat} {x:AV} {f:List AV×List Nat→T Blk→Option R} {H:T Blk} (h:∀ q,yT H k x=some q→Loc (f q) H) (h':∀ q,Reads q.2 (f q H)):Loc (fun H=>zf (yT H k x) fun q=>f q H) H:=fun r hr=>by
  obtain ⟨q,hq,hr⟩:=za.1 hr
  obtain ⟨rd,h1,h2⟩:=h q hq r hr
  obtain ⟨l,h3,h4⟩:=h' q r hr
  rw [h1] at h3; cases h3
  exact ⟨rd,h1,fun H' ha=>za.2 ⟨q,Xg hq (fun b hb=>ha b (h4 b hb)),h2 H' ha⟩⟩
theorem Loc.entries {m:AV} {f:List (AV×AV)×List Nat→Option R} {H:T Blk} (h:∀ q,Reads q.2 (f q)):Loc (fun H=>zf (entries H m) f) H:=fun r hr=>by
  obtain ⟨q,hq,hr⟩:=za.1 hr
  obtain ⟨l,h3,h4⟩:=h q r hr
  exact ⟨l,h3,fun H' ha=>za.2 ⟨q,W7 hq (fun b hb=>ha b (h4 b hb)),hr⟩⟩
theorem Loc.none {H:T Blk}:Loc (fun _=>none) H:=fun r hr=>by cases hr
theorem vo {i:Nat} {t:T AV} {l:List AV} {k:T AV→Option R} (h:∀ t,NoRead (k t)):NoRead (fill i t l k):=by rw [zZ]; exact h _
theorem Reads.ans {x:AV} {u:List (Nat×Blk)} {rd rd':List Nat} (h:∀ b ∈ rd,b ∈ rd'):Reads rd (some ⟨x,u,some rd'⟩):=fun r hr=>by cases hr; exact ⟨rd',rfl,h⟩
theorem Reads.bind {α:Type} {rd:List Nat} {x:Option α} {f:α→Option R} (h:∀ a,Reads rd (f a)):Reads rd (zf x f):=fun r hr=>by
  obtain ⟨a,_,ha⟩:=za.1 hr; exact h a r ha
theorem Reads.guard {rd:List Nat} {b:Bool} {x:Option R} (h:Reads rd x):Reads rd (zm b x):=fun r hr=>h r (zi.1 hr).2
theorem Reads.ite {rd:List Nat} {b:Bool} {x y:Option R} (h:Reads rd x) (h':Reads rd y):Reads rd (ifB b x y):=by cases b <;> assumption
theorem Reads.none {rd:List Nat}:Reads rd none:=fun r h=>by cases h
theorem Reads.fill {rd:List Nat} {i:Nat} {t:T AV} {l:List AV} {k:T AV→Option R} (h:∀ t,Reads rd (k t)):Reads rd (fill i t l k):=by rw [zZ]; exact h _
theorem Reads.cell {b:Nat} {f:T AV×Nat→Option R} (h:∀ q,Reads [b] (f q)):∀ q r,f q=Option.some r→∃ rd,r.rd=Option.some rd∧b ∈ rd:=fun q r hr=>by
  obtain ⟨l,h1,h2⟩:=h q r hr; exact ⟨l,h1,h2 b (by simp)⟩
theorem Loc.fill {i:Nat} {t:T AV} {l:List AV} {k:T AV→T Blk→Option R} {H:T Blk} (h:∀ t,Loc (k t) H):Loc (fun H=>Go.Abs.fill i t l fun t=>k t H) H:=by
  have e:(fun H=>Go.Abs.fill i t l fun t=>k t H)=fun H=>k (zu i t l) H:=funext fun H=>zZ ..
  rw [e]; exact h _
theorem Loc.known {x:Option R} {H:T Blk} (h:∀ r,x=some r→∃ rd,r.rd=some rd):Loc (fun _=>x) H:=fun r hr=>by
  obtain ⟨rd,e⟩:=h r hr; exact ⟨rd,e,fun _ _=>hr⟩
theorem yf {e:TypeId} {es need:Nat} {l:List AV} {more:List (Nat×Blk)} {rd:List Nat} {rd':List Nat} (h:∀ b ∈ rd,b ∈ rd'):Reads rd (xG C e nb es need l more rd'):=
  Reads.guard (Reads.fill fun _=>Reads.ans h)
theorem Reads.elim {rd:List Nat} {m:Option Nat} {d:Option R} {f:Nat→Option R} (h:Reads rd d) (h':∀ p,Reads rd (f p)):Reads rd (elimO m d f):=by
  cases m with
  | none=>exact h
  | some p=>exact h' p
theorem q_ {e:TypeId} {b es need:Nat} {l l0:List AV} {more:List (Nat×Blk)} {rd:List Nat} {rd':List Nat} (h:∀ b ∈ rd,b ∈ rd'):Reads rd (qj C e nb b es need l l0 more rd'):=
  Reads.guard (Reads.fill fun _=>Reads.fill fun _=>Reads.ans h)
theorem qr {e:TypeId} {b es need:Nat} {l l0:List AV} {x:Bool} {rd:List Nat} {rd':List Nat} {m:Option Nat} (h:∀ b ∈ rd,b ∈ rd') :
    Reads rd (elimO m (ifB x (qj C e nb b es need l l0 [] rd') (xG C e nb es need l [(b,.gone)] rd')) (fun p=>zm (notB (Nat.beq p b)) (qj C e nb b es need l l0 [(p,.gone)] rd'))):=
  Reads.elim (Reads.ite (q_ h) (yf h)) fun _=>Reads.guard (q_ h)
theorem Reads.known {rd:List Nat} {x:Option R} (h:Reads rd x):∀ r,x=some r→∃ rd,r.rd=some rd:=fun r hr=>by obtain ⟨l,e,_⟩:=h r hr; exact ⟨l,e⟩
theorem jg {k b off len es lo:Nat} {ex:Bool} {q:List AV×List Nat} (h:yT H k (.hs b off len es lo ex)=some q):q.2=[b]:=by
  replace h:=za.1 h; obtain ⟨c,hc,h⟩:=h
  replace h:=za.1 h; obtain ⟨l,hl,h⟩:=h
  cases h; rfl
theorem Loc.cond {c:T Blk→Bool} {f g:T Blk→Option R} {H:T Blk} {l:List Nat} (hc:∀ H',jf l H H'→c H'=c H) (hf:Loc f H) (hg:Loc g H) (rf:Reads l (f H)) (rg:Reads l (g H)):Loc (fun H=>ifB (c H) (f H) (g H)) H:=fun r hr=>by
  have key:∀ {k:T Blk→Option R},Loc k H→Reads l (k H)→k H=some r→∃ rd,r.rd=some rd∧∀ H',jf rd H H'→k H'=some r∧c H'=c H:=fun {k} hk rk e=>by
    obtain ⟨rd,h1,h2⟩:=hk r e
    obtain ⟨l',h3,h4⟩:=rk r e
    rw [h1] at h3; cases h3
    exact ⟨rd,h1,fun H' ha=>⟨h2 H' ha,hc H' fun b hb=>ha b (h4 b hb)⟩⟩
  cases hb:c H with
  |
    true =>
    replace hr:ifB (c H) (f H) (g H)=some r:=hr
    rw [hb] at hr
    obtain ⟨rd,h1,h2⟩:=key hf rf hr
    exact ⟨rd,h1,fun H' ha=>by show ifB (c H') _ _=_; rw [(h2 H' ha).2,hb]; exact (h2 H' ha).1⟩
  |
    false =>
    replace hr:ifB (c H) (f H) (g H)=some r:=hr
    rw [hb] at hr
    obtain ⟨rd,h1,h2⟩:=key hg rg hr
    exact ⟨rd,h1,fun H' ha=>by show ifB (c H') _ _=_; rw [(h2 H' ha).2,hb]; exact (h2 H' ha).1⟩
def Kh:AV→List Nat | .hs b _ _ _ _ _=>[b] | _=>[]
theorem u_ {H:T Blk} {e:TypeId} {es need sl:Nat} {s:AV} {new:List AV×List Nat} {l:List Nat} (h:∀ b ∈ l,b ∈ new.2∨b ∈ Kh s):Reads l (jA C H e nb es need sl s new):=by
  cases s <;> try exact Reads.none
  rename_i b _ _ _ _ _
  have h':∀ c ∈ l,c ∈ z5 new.2 [b]:=fun c hc=>by
    rw [yg]; exact (h c hc).elim (fun h=>List.mem_append_left _ h) (fun h=>List.mem_append_right _ h)
  exact Reads.bind fun q=>Reads.ite (Reads.fill fun t=>Reads.ans h') (Reads.guard (Reads.fill fun t=>Reads.ans h'))
theorem W8 {e:TypeId} {es need sl:Nat} {s:AV} {new:List AV×List Nat}:Loc (fun H=>jA C H e nb es need sl s new) H:=by
  cases s <;> try exact Loc.none
  rename_i b _ _ _ _ _
  have h':∀ c ∈ [b],c ∈ z5 new.2 [b]:=fun c hc=>by rw [yg]; exact List.mem_append_right _ hc
  exact Loc.own (Reads.cell fun q=>Reads.ite (Reads.fill fun t=>Reads.ans h') (Reads.guard (Reads.fill fun t=>Reads.ans h')))
theorem qa {H:T Blk} {st elem:TypeId} {es need sl:Nat} {s:AV} {new:List AV×List Nat} {l:List Nat} (h:∀ b ∈ l,b ∈ new.2∨b ∈ Kh s):Reads l (YY C H st elem nb es need sl s new):=fun r hr=>by
  obtain ⟨old,ho,hr⟩:=za.1 hr
  have h':∀ c ∈ l,c ∈ z5 new.2 old.2:=fun c hc=>by
    rw [yg]
    rcases h c hc with h | h
    · exact List.mem_append_left _ h
    ·
      refine List.mem_append_right _ ?_
      cases s <;> try (cases h; done)
      rw [jg ho]; exact h
  refine (fun k=>k r hr:Reads l _→_) ?_
  cases s <;> try exact Reads.none
  · exact yf h'
  · exact Reads.guard (Reads.ite (Reads.bind fun q=>Reads.guard (Reads.fill fun t=>Reads.ans h')) (Reads.ite (yf h') (Reads.guard (Reads.bind fun m=>qr h'))))
  · exact Reads.guard (yf h')
theorem W9 {st elem:TypeId} {es need sl:Nat} {s:AV} {new:List AV×List Nat}:Loc (fun H=>YY C H st elem nb es need sl s new) H:=by
  have hold:∀ (new old:List AV×List Nat),∀ b ∈ old.2,b ∈ z5 new.2 old.2:=fun new old b hb=>by rw [yg]; exact List.mem_append_right _ hb
  refine Loc.src (fun old ho => ?_) fun old => ?_
  ·
    cases s <;> try exact Loc.none
    · exact Loc.known (yf (hold new old)).known
    ·
      rename_i b off len es lo ex
      have hb:=jg ho
      refine Loc.guard (Loc.ite (Loc.own (Reads.cell fun q=>Reads.guard (Reads.fill fun t=>Reads.ans fun b' hb'=>hold new old b' (hb ▸ hb')))) (Loc.ite ?_ (Loc.guard (Loc.mate fun m r hr => ?_))))
      · exact Loc.known (yf (hold new old)).known
      · obtain ⟨l,e,h⟩:=qr (rd:=[b]) (fun b' hb'=>hold new old b' (hb ▸ hb')) r hr; exact ⟨l,e,h b (by simp)⟩
    · exact Loc.guard (Loc.known (yf (hold new old)).known)
  ·
    cases s <;> try exact Reads.none
    · exact yf (hold new old)
    · exact Reads.guard (Reads.ite (Reads.bind fun q=>Reads.guard (Reads.fill fun t=>Reads.ans (hold new old))) (Reads.ite (yf (hold new old)) (Reads.guard (Reads.bind fun m=>qr (hold new old)))))
    · exact Reads.guard (yf (hold new old))
theorem W_ {st xt:TypeId} {s x:AV}:Loc (fun H=>wq C H nb st xt s x) H:=by
  refine Loc.bind fun elem=>Loc.guard (Loc.bind fun n=>Loc.bind fun sl=>Loc.ite (Loc.quiet Quiet.A) ?_)
  refine Loc.src (fun new hn=>Loc.guard (Loc.cond (l:=Kh s) (fun H' ha => ?_) W8 W9 (u_ fun b hb=>.inr hb) (qa fun b hb=>.inr hb)))
    fun new=>Reads.guard (Reads.ite (u_ fun b hb=>.inl hb) (qa fun b hb=>.inl hb))
  cases s <;> try rfl
  rename_i b off len es' lo ex
  show elimO (yD H' b) false _=elimO (yD _ b) false _
  rw [ur (ha b (by simp [Kh]))]
theorem JG {dt:TypeId} {d x:AV}:Loc (fun H=>zaG C H dt d x) H:=by
  refine Loc.bind fun elem=>Loc.bind fun dl=>Loc.bind fun xl => ?_
  have e:∀ (k:Nat→T Blk→Option R) (n:Nat),Loc (k n) H→Loc (fun H=>force n fun n=>k n H) H:=fun k n h=>h
  refine e _ _ (Loc.ite (Loc.quiet Quiet.A) (Loc.src (fun q hq=>Loc.guard ?_) fun q=>Reads.guard ?_))
  ·
    cases d <;> try exact Loc.none
    exact Loc.own (Reads.cell fun c=>Reads.guard (Reads.fill fun t=>Reads.ans fun b hb=>by simp at hb; simp [hb]))
  ·
    cases d <;> try exact Reads.none
    exact Reads.bind fun c=>Reads.guard (Reads.fill fun t=>Reads.ans fun b hb=>List.mem_cons_of_mem _ hb)
theorem U0 {dt:TypeId} {d:AV}:Loc (fun H=>UN C H dt d) H:=by
  refine Loc.bind fun elem=>Loc.bind fun n=>Loc.ite (Loc.quiet Quiet.A) (Loc.bind fun z=>Loc.guard ?_)
  cases d <;> try exact Loc.none
  exact Loc.own (Reads.cell fun c=>Reads.guard (Reads.fill fun t=>Reads.ans fun b hb=>hb))
theorem zeW {n:Nat} {k:Nat→Option R} (h:∀ n r,k n=some r→∃ rd,r.rd=some rd):∀ r,force n k=some r→∃ rd,r.rd=some rd:=fun r hr=>h n r hr
theorem zaW {t:TypeId} {x:AV}:Loc (fun H=>zfF C H t x) H:=by
  cases x <;> try exact Loc.none
  ·
    rename_i z
    refine Loc.quiet ?_
    cases z <;> first | exact Quiet.guard Quiet.A | exact Quiet.guard (show Quiet (A _) from Quiet.A)
  · exact Loc.quiet (Quiet.guard Quiet.A)
  · exact Loc.quiet (Quiet.guard Quiet.A)
  · exact Loc.quiet (Quiet.bind fun _=>Quiet.A)
  · exact Loc.bind fun _=>Loc.map (fun l r hr=>by cases hr; exact ⟨_,rfl,by simp⟩)
  · exact Loc.quiet (Quiet.bind fun _=>show Quiet (A _) from Quiet.A)
theorem wD {x:AV} {f:IntKind→Int→Option R} (h:∀ k n,Quiet (f k n)):Quiet (xi x none f):=by
  cases x <;> try exact Quiet.none
  rename_i z
  cases z <;> first | exact Quiet.none | exact h _ _
theorem uP {α:Type} {l:List α} {f:α→α→T Blk→Option R} (h:∀ x y,Loc (f x y) H):Loc (fun H=>two l fun x y=>f x y H) H:=Loc.bind fun x=>Loc.bind fun y=>Loc.guard (h x y)
theorem jC {α:Type} {l:List α} {f:α→T Blk→Option R} (h:∀ x,Loc (f x) H):Loc (fun H=>one l fun x=>f x H) H:=Loc.bind fun x=>Loc.guard (h x)
theorem Xh {b:Builtin} {args:Array Operand} {ts:Array TypeId}:Loc (fun H=>vE b args ts C env H nb ty) H:=by
  refine Loc.bind fun l => ?_
  cases b <;> try exact Loc.none
  case append=>exact uP fun x y=>uP fun t u=>W_
  case copy=>exact uP fun x y=>uP fun t u=>JG
  case clear=>exact jC fun x=>jC fun t=>U0
  case len=>exact jC fun x=>jC fun t=>zaW
  case max=>exact uP fun x y=>Loc.quiet (wD fun _ _=>wD fun _ _=>Quiet.guard (Quiet.ite Quiet.A Quiet.A))
  case min=>exact uP fun x y=>Loc.quiet (wD fun _ _=>wD fun _ _=>Quiet.guard (Quiet.ite Quiet.A Quiet.A))
theorem U2 {o:Op}:Loc (fun H=>zY o C env H nb ty) H:=by
  cases hl:uX o with
  |
    false =>
    intro r hr
    have hq:=qZ hl r hr
    refine ⟨[],hq.1,fun H' _ => ?_⟩
    cases o <;> first | exact hr | cases hl
  |
    true =>
    cases o <;> try (first | exact Loc.none | (cases hl; done))
    case alloc t=>exact Loc.const (NoRead.bind fun z=>vo fun c=>NoRead.some)
    case box t x=>exact Loc.const (NoRead.bind fun z=>vo fun c=>NoRead.some)
    case buildSlice t n ps =>
      exact Loc.const (NoRead.bind fun e=>NoRead.guard (NoRead.bind fun z=>NoRead.guard (NoRead.bind fun l=>vo fun t=>NoRead.ite (fun r h=>(Quiet.A r h).1) NoRead.some)))
    case load t a =>
      refine Loc.bind fun x => ?_
      cases x <;> try exact Loc.none
      · exact Loc.cells (Reads.cell fun c=>Reads.bind fun y=>Reads.ans fun b hb=>hb)
      · exact Loc.quiet (Quiet.bind fun _=>Quiet.A)
    case store t a x =>
      refine Loc.bind fun p=>Loc.bind fun y => ?_
      cases p <;> try exact Loc.none
      exact Loc.own (Reads.cell fun c=>Reads.guard (Reads.fill fun t=>Reads.ans fun b hb=>hb))
    case convert s d x =>
      refine Loc.bind fun y => ?_
      show Loc (fun H=>elimO (x8 C d) _ _) H
      cases x8 C d with
      | some k=>exact Loc.quiet (Quiet.bind fun _=>wD fun _ _=>Quiet.bind fun _=>Quiet.A)
      |
        none =>
        refine Loc.ite (Loc.guard ?_) ?_
        ·
          cases y <;> try exact Loc.none
          rename_i z
          cases z <;> first | exact Loc.none | exact Loc.quiet Quiet.A
        · exact Loc.bind fun e=>Loc.guard (Loc.bind fun k=>Loc.guard (Loc.bind fun n=>Loc.src (fun q hq=>Loc.bind fun bs=>Loc.known (Reads.ans (rd:=q.2) fun b hb=>hb).known) fun q=>Reads.bind fun bs=>Reads.ans fun b hb=>hb))
    case sliceToArrayPointer t x =>
      refine Loc.quiet (Quiet.bind fun p=>Quiet.bind fun y => ?_)
      cases y <;> first | exact Quiet.none | exact Quiet.guard Quiet.A
    case makeMap t q=>cases q <;> first | exact Loc.none | exact Loc.const NoRead.some
    case makeSlice t l c =>
      exact Loc.const (NoRead.bind fun _=>NoRead.bind fun _=>NoRead.bind fun _=>NoRead.bind fun _=>NoRead.bind fun _=>NoRead.bind fun _=>NoRead.guard (vo fun t=>NoRead.some))
    case slice t x lo hi mx =>
      refine Loc.bind fun y => ?_
      have hs:∀ (rd:List Nat) (b off es:Nat) (ex:Bool) (l h m:Nat) (r:R),WB rd b off es ex l h m=some r→r.rd=some rd:=fun rd b off es ex l h m r hr=>by cases hr; rfl
      have vs:∀ (t:T AV) (off es:Nat) (ex:Bool) (l h m:Nat) (r:R),WC t off es ex l h m=some r→r.rd=some []:=fun t off es ex l h m r hr=>by cases hr; rfl
      cases y <;> try exact Loc.none
      ·
        rename_i z
        refine Loc.const ?_
        cases z <;> try exact NoRead.none
        ·
          refine NoRead.guard fun r hr => ?_
          obtain ⟨l,m,n,hr⟩:=wU hr
          rw [y_] at hr; cases hr; rfl
        ·
          refine NoRead.guard (NoRead.bind fun _ r hr => ?_)
          obtain ⟨l,m,n,hr⟩:=wU hr
          cases hr; rfl
      ·
        refine Loc.bind fun p=>Loc.cells (Reads.cell fun q=>Reads.guard fun r hr => ?_)
        obtain ⟨l,m,n,hr⟩:=wU hr
        exact ⟨_,hs _ _ _ _ _ _ _ _ _ hr,fun b hb=>hb⟩
      ·
        refine Loc.const (NoRead.bind fun p r hr => ?_)
        obtain ⟨l,m,n,hr⟩:=wU hr
        exact vs _ _ _ _ _ _ _ _ hr
      ·
        refine Loc.const (NoRead.bind fun p=>NoRead.guard fun r hr => ?_)
        obtain ⟨l,m,n,hr⟩:=wU hr
        exact hs _ _ _ _ _ _ _ _ _ hr
      ·
        refine Loc.const (NoRead.bind fun p=>NoRead.guard fun r hr => ?_)
        obtain ⟨l,m,n,hr⟩:=wU hr
        exact vs _ _ _ _ _ _ _ _ hr
    case lookup t x i ok =>
      refine Loc.bind fun ke=>Loc.bind fun m=>Loc.bind fun j=>Loc.bind fun key=>Loc.guard (Loc.entries fun q=>Reads.bind fun r => ?_)
      cases r with
      | none=>exact Reads.bind fun z=>Reads.ans fun b hb=>hb
      | some y=>exact Reads.ans fun b hb=>hb
    case mapUpdate t m k x =>
      refine Loc.bind fun ke=>Loc.bind fun mm=>Loc.bind fun j=>Loc.bind fun key=>Loc.bind fun y=>Loc.guard ?_
      cases mm <;> try exact Loc.none
      exact Loc.map (fun l r hr=>by obtain ⟨l',_,hr⟩:=za.1 hr; cases hr; exact ⟨_,rfl,by simp⟩)
    case call c =>
      show Loc (fun H=>u0 c C env H nb ty) H
      unfold u0
      cases c.callee with
      | builtin b=>exact Xh
      | _=>exact Loc.none
end
end Go.Abs
