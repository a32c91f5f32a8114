/- WHAT THE EVALUATOR SAYS OF AN OPERATION, THE MACHINE DOES: comparisons, parts, loads, stores, new variables. -/
import Derived.Test.YtdomagdnaohpbaaGreatDoorEvOps1
import Derived.WalkSpells
import Derived.Laws.IdiomCopy
set_option linter.unusedSimpArgs false
set_option linter.unusedVariables false
namespace Go.Abs
section
variable {C:Cx} {F:Nat→Prop} {j:J} {env:T AV} {H:T Blk} {ρ:Operand→Value} {w:World} {nb:Nat} {ty:TypeId} {r:R} {X:Nat→Prop}
theorem UQ {x:AV} {a:Value} {k:Nat} (hr:Rel X j w x a) (h:jR x=k) (hk:k≠0) :
    (k=1∧∃ q,a=.pointer (some q))∨(k=2∧∃ q n c,a=.slice (some q) n c)∨(k=3∧∃ f l m,a=.func f l m)∨(k=4∧∃ q,a=.map (some q)):=by
  cases hr with
  | v _=>exact absurd h.symm hk
  | agg _ _=>exact absurd h.symm hk
  | tuple _ _=>exact absurd h.symm hk
  | hp _=>exact .inl ⟨h.symm,_,rfl⟩
  | vp _ _ _ _ _=>exact .inl ⟨h.symm,_,rfl⟩
  | hs _ _ _ _ _=>exact .inr (.inl ⟨h.symm,_,_,_,rfl⟩)
  | vs _ _ _ _ _ _ _ _=>exact .inr (.inl ⟨h.symm,_,_,_,rfl⟩)
  | fn _ _ _ _=>exact .inr (.inr (.inl ⟨h.symm,_,_,_,rfl⟩))
  | hm _=>exact .inr (.inr (.inr ⟨h.symm,_,rfl⟩))
  | vm _ _ _ _ _ _=>exact .inr (.inr (.inr ⟨h.symm,_,rfl⟩))
theorem Jy {x:AV} {a:Value} {k:Nat} (hr:Rel X j w x a) (h:Q_ x=k) (hk:k≠0) :
    (k=1∧a=.pointer none)∨(k=2∧a=.slice none 0 0)∨(k=3∧a=.nilFunc)∨(k=4∧a=.map none):=by
  cases hr with
  |
    v hp =>
    cases a with
    |
      pointer q=>cases q with
      | none=>exact .inl ⟨h.symm,rfl⟩
      | some _=>cases hp
    |
      slice q n c=>cases q with
      |
        none =>
        cases n with
        |
          zero=>cases c with
          | zero=>exact .inr (.inl ⟨h.symm,rfl⟩)
          | succ _=>cases hp
        | succ _=>cases hp
      | some _=>cases hp
    | nilFunc=>exact .inr (.inr (.inl ⟨h.symm,rfl⟩))
    |
      map q=>cases q with
      | none=>exact .inr (.inr (.inr ⟨h.symm,rfl⟩))
      | some _=>cases hp
    | _=>exact absurd h.symm hk
  | _=>exact absurd h.symm hk
theorem zaP (d:Nat) {t e:TypeId} (q:Addr) (h:C.P.underlying t=some (.pointer e)) (w:World) :
    (Op.equalIn (d + 1) t (.pointer (some q)) (.pointer none)).run C.P w=.ok false w∧(Op.equalIn (d + 1) t (.pointer none) (.pointer (some q))).run C.P w=.ok false w:=by
  constructor <;> simp [Op.equalIn,run_underlying h]
theorem UR (d:Nat) {t e:TypeId} (q:Addr) (n c:Nat) (h:C.P.underlying t=some (.slice e)) (w:World) :
    (Op.equalIn (d + 1) t (.slice (some q) n c) (.slice none 0 0)).run C.P w=.ok false w∧(Op.equalIn (d + 1) t (.slice none 0 0) (.slice (some q) n c)).run C.P w=.ok false w:=by
  constructor <;> simp [Op.equalIn,run_underlying h]
theorem Jz (d:Nat) {t:TypeId} {p q:Array TypeId} {v:Bool} (f:Fn) (l m:Array Value) (h:C.P.underlying t=some (.func p q v)) (w:World) :
    (Op.equalIn (d + 1) t (.func f l m) .nilFunc).run C.P w=.ok false w∧(Op.equalIn (d + 1) t .nilFunc (.func f l m)).run C.P w=.ok false w:=by
  constructor <;> simp [Op.equalIn,run_underlying h]
theorem zaQ (d:Nat) {t p q:TypeId} (b:Nat) (h:C.P.underlying t=some (.map p q)) (w:World) :
    (Op.equalIn (d + 1) t (.map (some b)) (.map none)).run C.P w=.ok false w∧(Op.equalIn (d + 1) t (.map none) (.map (some b))).run C.P w=.ok false w:=by
  constructor <;> simp [Op.equalIn,run_underlying h]
inductive NilPair (C:Cx) (t:TypeId):Value→Value→Prop
  | ptr {e:TypeId} (q:Addr):C.P.underlying t=some (.pointer e)→NilPair C t (.pointer (some q)) (.pointer none)
  | slice {e:TypeId} (q:Addr) (n c:Nat):C.P.underlying t=some (.slice e)→NilPair C t (.slice (some q) n c) (.slice none 0 0)
  | func {p q:Array TypeId} {v:Bool} (f:Fn) (l m:Array Value):C.P.underlying t=some (.func p q v)→NilPair C t (.func f l m) .nilFunc
  | map {p q:TypeId} (b:Nat):C.P.underlying t=some (.map p q)→NilPair C t (.map (some b)) (.map none)
theorem NilPair.runs {t:TypeId} {a b:Value} (h:NilPair C t a b) (w:World):(Op.equal t a b).run C.P w=.ok false w∧(Op.equal t b a).run C.P w=.ok false w:=by
  cases h with
  | ptr q h=>exact zaP 9999 q h w
  | slice q n c h=>exact UR 9999 q n c h w
  | func f l m h=>exact Jz 9999 f l m h w
  | map b h=>exact zaQ 9999 b h w
theorem NilPair.bins {t:TypeId} {a b:Value} (h:NilPair C t a b) (w:World) (xo yo:Operand) :
    ((do eqGuard .eql t xo yo a b; binOp .eql t a b):Sem Value).run C.P w=.ok (.bool false) w∧((do eqGuard .neq t xo yo a b; binOp .neq t a b):Sem Value).run C.P w=.ok (.bool true) w ∧
    ((do eqGuard .eql t xo yo b a; binOp .eql t b a):Sem Value).run C.P w=.ok (.bool false) w∧((do eqGuard .neq t xo yo b a; binOp .neq t b a):Sem Value).run C.P w=.ok (.bool true) w:=by
  obtain ⟨e1,e2⟩:=h.runs w
  cases h <;> (refine ⟨?_,?_,?_,?_⟩ <;> simp [eqGuard,binOp,e1,e2])
theorem US {t:TypeId} {x y:AV} {a b:Value} (hx:Rel X j w x a) (hy:Rel X j w y b) (h:qK (wh C t) x y=true):NilPair C t a b∨NilPair C t b a:=by
  have hk:wh C t≠0:=by unfold wh; split <;> decide
  have hu:(wh C t=1→∃ e,C.P.underlying t=some (.pointer e))∧(wh C t=2→∃ e,C.P.underlying t=some (.slice e)) ∧
      (wh C t=3→∃ p q v,C.P.underlying t=some (.func p q v))∧(wh C t=4→∃ p q,C.P.underlying t=some (.map p q)):=by
    unfold wh; split <;> simp_all
  have both:∀ {u:AV} {c:Value} {u':AV} {c':Value},Rel X j w u c→Rel X j w u' c'→jR u=wh C t→Q_ u'=wh C t→NilPair C t c c':=by
    intro u c u' c' g1 g2 h1 h2
    rcases UQ g1 h1 hk with ⟨g,q,rfl⟩ | ⟨g,q,n,m,rfl⟩ | ⟨g,f,l,m,rfl⟩ | ⟨g,q,rfl⟩ <;> rcases Jy g2 h2 hk with ⟨g',rfl⟩ | ⟨g',rfl⟩ | ⟨g',rfl⟩ | ⟨g',rfl⟩ <;> try omega
    · obtain ⟨e,he⟩:=hu.1 g; exact .ptr q he
    · obtain ⟨e,he⟩:=hu.2.1 g; exact .slice q n m he
    · obtain ⟨e,e',e'',he⟩:=hu.2.2.1 g; exact .func f l m he
    · obtain ⟨e,e',he⟩:=hu.2.2.2 g; exact .map q he
  unfold qK at h
  rw [j5,Bool.or_eq_true,zl,zl,beq_true,beq_true,beq_true,beq_true] at h
  rcases h with ⟨h1,h2⟩ | ⟨h1,h2⟩
  · exact .inl (both hx hy h1 h2)
  · exact .inr (both hy hx h2 h1)
theorem wb {op:BinOp} {t:TypeId} {xo yo:Operand} {x y z:AV} {a b:Value} (hx:Rel X j w x a) (hy:Rel X j w y b) (h:yx C op t xo yo x y=some z) :
    ∃ v,((do eqGuard op t xo yo a b; binOp op t a b):Sem Value).run C.P w=.ok v w∧Rel X j w z v:=by
  replace h:=za.1 h; obtain ⟨a',ha,h⟩:=h
  replace h:=za.1 h; obtain ⟨b',hb,h⟩:=h
  replace h:=za.1 h; obtain ⟨v,hv,h⟩:=h
  obtain rfl:=uj hx ha
  obtain rfl:=uj hy hb
  refine ⟨v,ul hv w,?_⟩
  cases v <;> try (cases h; done)
  · have:=xM h; subst this; exact .v rfl
  ·
    rename_i k n
    change wI n (fun n=>some (AV.v (.int k n)))=some z at h
    rw [xx] at h; cases h; exact .v rfl
  · cases h; exact .v rfl
theorem WR {op:BinOp} {t:TypeId} {xo yo:Operand} {k:IntKind} {a b:Int} {z:AV} (h:ua op k a b (yx C op t xo yo (.v (.int k a)) (.v (.int k b)))=some z) :
    ∃ v,((do eqGuard op t xo yo (.int k a) (.int k b); binOp op t (.int k a) (.int k b)):Sem Value).run C.P w=.ok v w∧Rel X j w z v:=by
  have fall:∀ {op'},yx C op' t xo yo (.v (.int k a)) (.v (.int k b))=some z→∃ v,((do eqGuard op' t xo yo (.int k a) (.int k b); binOp op' t (.int k a) (.int k b)):Sem Value).run C.P w=.ok v w∧Rel X j w z v:=
    fun h=>wb (.v rfl) (.v rfl) h
  cases op
  case add=>have:=uL h; subst this; rw [Y4]; exact ⟨_,by simp [eqGuard,binOp,Op.intArith],.v rfl⟩
  case sub=>have:=uL h; subst this; rw [Y4,Kd,← Int.sub_eq_add_neg]; exact ⟨.int k (k.wrap (a - b)),by simp [eqGuard,binOp,Op.intArith],.v rfl⟩
  case mul=>have:=uL h; subst this; rw [zc0]; exact ⟨_,by simp [eqGuard,binOp,Op.intArith],.v rfl⟩
  case eql=>have:=xM h; subst this; rw [Y6]; exact ⟨.bool (a == b),by simp [eqGuard,binOp,Op.intCmp],.v rfl⟩
  case neq=>have:=xM h; subst this; rw [Y6,uJ]; exact ⟨.bool (a != b),by simp [eqGuard,binOp,Op.intCmp],.v rfl⟩
  case lss=>have:=xM h; subst this; rw [kI]; exact ⟨.bool (decide (a < b)),by simp [eqGuard,binOp,Op.intCmp],.v rfl⟩
  case leq=>have:=xM h; subst this; rw [kI,uJ]; exact ⟨.bool (decide (a≤b)),by simp [eqGuard,binOp,Op.intCmp],by rw [show decide (a≤b) = !decide (b < a) by rw [Bool.eq_iff_iff]; simp]; exact .v rfl⟩
  case gtr=>have:=xM h; subst this; rw [kI]; exact ⟨.bool (decide (b < a)),by simp [eqGuard,binOp,Op.intCmp],.v rfl⟩
  case geq=>have:=xM h; subst this; rw [kI,uJ]; exact ⟨.bool (decide (b≤a)),by simp [eqGuard,binOp,Op.intCmp],by rw [show decide (b≤a) = !decide (a < b) by rw [Bool.eq_iff_iff]; simp]; exact .v rfl⟩
  all_goals exact fall h
theorem zeV {k:IntKind} {n:Int}:jR (.v (.int k n))=0:=rfl
theorem zaR {op:BinOp} {t:TypeId} {xo yo:Operand} {x y z:AV} {a b:Value} (hx:Rel X j w x a) (hy:Rel X j w y b) (h:bin C op t xo yo x y=some z) :
    ∃ v,((do eqGuard op t xo yo a b; binOp op t a b):Sem Value).run C.P w=.ok v w∧Rel X j w z v:=by
  have nilCase:zaA op (qK (wh C t) x y) (yx C op t xo yo x y)=some z→∃ v,((do eqGuard op t xo yo a b; binOp op t a b):Sem Value).run C.P w=.ok v w∧Rel X j w z v:=by
    intro h
    cases hp:qK (wh C t) x y with
    |
      false =>
      rw [hp] at h
      cases op <;> exact wb hx hy h
    |
      true =>
      rw [hp] at h
      have e:((do eqGuard .eql t xo yo a b; binOp .eql t a b):Sem Value).run C.P w=.ok (.bool false) w∧((do eqGuard .neq t xo yo a b; binOp .neq t a b):Sem Value).run C.P w=.ok (.bool true) w:=by
        rcases US hx hy hp with g | g
        · exact ⟨(g.bins w xo yo).1,(g.bins w xo yo).2.1⟩
        · exact ⟨(g.bins w xo yo).2.2.1,(g.bins w xo yo).2.2.2⟩
      cases op
      case eql=>cases h; exact ⟨.bool false,e.1,.v rfl⟩
      case neq=>cases h; exact ⟨.bool true,e.2,.v rfl⟩
      all_goals exact wb hx hy h
  unfold bin at h
  rcases wA x with ⟨k,n,rfl⟩ | hx'
  ·
    obtain ⟨rfl,_⟩:=hx.v_eq
    change xi y (yx C op t xo yo (.v (.int k n)) y) (fun k' b=>ifB (eqK k k') (ua op k n b (yx C op t xo yo (.v (.int k n)) y)) (yx C op t xo yo (.v (.int k n)) y))=some z at h
    rcases wA y with ⟨k',m,rfl⟩ | hy'
    ·
      obtain ⟨rfl,_⟩:=hy.v_eq
      change ifB (eqK k k') (ua op k n m (yx C op t xo yo (.v (.int k n)) (.v (.int k' m)))) (yx C op t xo yo (.v (.int k n)) (.v (.int k' m)))=some z at h
      cases hk:eqK k k' with
      |
        true =>
        rw [hk,ifB_true] at h
        obtain rfl:=vI hk
        exact WR h
      |
        false =>
        rw [hk,zj] at h
        exact wb (.v rfl) (.v rfl) h
    · rw [hy'] at h; exact wb (.v rfl) hy h
  · rw [hx'] at h; exact nilCase h
theorem JA (p:Pre F j env H ρ w) {op:BinOp} {t u:TypeId} {x y:Operand} (h:zaE op t x y u C env H nb ty=some r) :
    GoodV F j H w nb r (((do eqGuard op t x y (ρ x) (ρ y); binOp op t (ρ x) (ρ y)):Sem Value).run C.P w):=by
  replace h:=za.1 h; obtain ⟨a,ha,h⟩:=h
  replace h:=za.1 h; obtain ⟨b,hb,h⟩:=h
  replace h:=za.1 h; obtain ⟨z,hz,h⟩:=h
  cases h
  obtain ⟨v,hv,hr⟩:=zaR (p.opd _ _ ha) (p.opd _ _ hb) hz
  rw [hv]; exact GoodV.pure p.heap hr
theorem zaS (p:Pre F j env H ρ w) {op:UnOp} {t:TypeId} {x:Operand} (h:sUn op t x C env H nb ty=some r):GoodV F j H w nb r ((Op.unary op (ρ x)).run C.P w):=by
  replace h:=za.1 h; obtain ⟨a,ha,h⟩:=h
  replace h:=za.1 h; obtain ⟨b,hb,h⟩:=h
  replace h:=za.1 h; obtain ⟨z,hz,h⟩:=h
  obtain rfl:=uj (p.opd _ _ ha) hb
  rw [ul hz w]
  cases z <;> try (cases h; done)
  ·
    rename_i c
    change forceB c (fun b=>A (.v (.bool b)))=some r at h
    rw [forceB_eq] at h; cases h; exact GoodV.pure p.heap (.v rfl)
  ·
    rename_i k n
    change wI n (fun n=>A (.v (.int k n)))=some r at h
    rw [xx] at h; cases h; exact GoodV.pure p.heap (.v rfl)
theorem Zb (p:Pre F j env H ρ w) {x:Operand} {o:Oper} (ho:o.op=.nilCheck x) (h:vC x C env H nb ty=some r):Good F j H w nb r ((execOp ρ o).run C.P w):=by
  replace h:=za.1 h; obtain ⟨y,hy,h⟩:=h
  replace h:=zi.1 h; obtain ⟨hs,h⟩:=h
  cases h
  rw [zl,uJ] at hs
  obtain ⟨h1,h2⟩:=hs
  have hr:=p.opd _ _ hy
  have e:(execOp ρ o).run C.P w=.ok (.value (ρ x)) w:=by
    simp only [execOp,ho]
    generalize ρ x=v at hr
    cases hr with
    | v _=>cases h1
    | agg _ _=>cases h1
    | tuple _ _=>cases h1
    |
      fn _ _ _ _ =>
      rename_i f a b a' b' _ _ _ _
      cases f with
      | method _=>cases h2
      | _=>rfl
    | _=>rfl
  rw [e]; exact Good.pure p.heap hr
theorem uM {t:TypeId} (w:World) (hk:UL C t=true∨ub C t=true):(isAgg t).run C.P w=.ok (ub C t) w:=by
  unfold isAgg ub
  have:(C.P.underlying t).isSome=true:=by
    rcases hk with h | h
    · exact h
    · unfold ub at h; split at h <;> simp_all
  obtain ⟨d,hd⟩:=Option.isSome_iff_exists.1 this
  simp only [Sem.run_bind,run_underlying hd,Result.andThen_ok,hd]
  cases d <;> rfl
theorem jc {t:TypeId} (h:ub C t=true):∃ i,C.P.info? t=some i∧C.P.cellsOf t=i.size:=by
  unfold ub Program.underlying at h
  cases hi:C.P.info? t with
  | none=>rw [hi] at h; cases h
  | some i=>exact ⟨i,rfl,by simp [Program.cellsOf,hi]⟩
theorem Yj (ho:HeapOk (XX F j H) j w H) {t:TypeId} {l:List AV} {l':Array Value} {off:Nat} (hl:l.length=l'.size)
    (hr:∀ (i:Nat) (x:AV) (y:Value),l[i]? = some x→l'[i]? = some y→Rel (XX F j H) j w x y) (h:part C t l off=some r):GoodV F j H w nb r ((Go.part t l' off).run C.P w):=by
  unfold part at h
  cases ha:ub C t with
  |
    true =>
    rw [ha,ifB_true] at h
    replace h:=zi.1 h; obtain ⟨hle,h⟩:=h
    have hle:off + C.P.cellsOf t≤l.length:=by have:=zq.1 hle; rw [yb] at this; exact this
    rw [y_,qQ,vG] at h
    cases h
    obtain ⟨i,hi,hs⟩:=jc ha
    have e:(Go.part t l' off).run C.P w=.ok (.agg (l'.extract off (off + C.P.cellsOf t))) w:=by
      simp [Go.part,uM w (.inr ha),ha,sizeOf,typeInfo,hi,hs]
    rw [e]
    refine GoodV.pure ho (.agg (by simp; omega) (fun k x y hx hy => ?_))
    rw [List.getElem?_take] at hx
    split at hx
    ·
      rename_i hk
      rw [List.getElem?_drop] at hx
      have hy':l'[off + k]? = some y:=by
        rw [Array.getElem?_extract] at hy
        split at hy
        · exact hy
        · cases hy
      exact hr _ _ _ hx hy'
    · cases hx
  |
    false =>
    rw [ha,zj] at h
    replace h:=zi.1 h; obtain ⟨hk,h⟩:=h
    replace h:=za.1 h; obtain ⟨x,hx,h⟩:=h
    cases h
    rw [ws] at hx
    obtain ⟨y,hy⟩:=ql hl hx
    have e:(Go.part t l' off).run C.P w=.ok y w:=by
      simp [Go.part,uM w (.inl hk),ha,hy]
    rw [e]; exact GoodV.pure ho (hr _ _ _ hx hy)
theorem WS (p:Pre F j env H ρ w) {t:TypeId} {x:Operand} {f:Nat} (h:jW t x f C env H nb ty=some r):GoodV F j H w nb r ((Instr.field t (ρ x) f).run C.P w):=by
  replace h:=za.1 h; obtain ⟨fd,hf,h⟩:=h
  replace h:=za.1 h; obtain ⟨y,hy,h⟩:=h
  obtain ⟨fs,hu,hfs,hk⟩:=qT hf
  have h1:=p.opd _ _ hy
  generalize ρ x=v at h1
  cases y <;> try (cases h; done)
  rename_i l
  cases h1 with
  |
    agg hl hr =>
    rename_i l'
    have e:(Instr.field t (.agg l') f).run C.P w=(Go.part fd.type l' fd.offset).run C.P w:=by
      simp [Instr.field,run_underlying hu,hfs,asAgg]
    rw [e]; exact Yj p.heap hl hr h
theorem u4 {x:AV} {f:ByteArray→Option R} (h:qJ x none f=some r):∃ s,x=.v (.string s)∧f s=some r:=by
  cases x with
  |
    v x=>cases x with
    | string s=>exact ⟨s,rfl,h⟩
    | _=>cases h
  | _=>cases h
theorem yL {t:TypeId} (h:xF C t=true):C.P.underlying t=some .string:=by
  unfold xF at h; split at h
  · assumption
  · cases h
theorem WT (p:Pre F j env H ρ w) {t:TypeId} {x i:Operand} (h:jX t x i C env H nb ty=some r):GoodV F j H w nb r ((Instr.index t (ρ x) (ρ i)).run C.P w):=by
  replace h:=za.1 h; obtain ⟨y,hy,h⟩:=h
  replace h:=za.1 h; obtain ⟨z,hz,h⟩:=h
  replace h:=za.1 h; obtain ⟨n,hn,h⟩:=h
  obtain ⟨k,rfl⟩:=w6 hn
  have hi:=(p.opd _ _ hz).v_eq.1
  rw [hi]
  have h1:=p.opd _ _ hy
  generalize ρ x=v at h1
  cases y <;> try (cases h; done)
  ·
    rename_i u
    replace h:=u4 h; obtain ⟨s,hs,h⟩:=h
    cases hs
    obtain ⟨rfl,_⟩:=h1.v_eq
    replace h:=zi.1 h; obtain ⟨ht,h⟩:=h
    replace h:=za.1 h; obtain ⟨c,hc,h⟩:=h
    rw [zr] at h
    cases h
    rw [ws] at hc
    have hc':s[n]? = some c:=by
      have:s.data[n]? = some c:=by simpa using hc
      rw [← this]; rfl
    have e:(Instr.index t (.string s) (.int k (.ofNat n))).run C.P w=.ok (.int .u8 c.toNat) w:=by
      simp [Instr.index,asIntOf,run_underlying (yL ht),hc']
    rw [e]; exact GoodV.pure p.heap (.v rfl)
  ·
    rename_i l
    replace h:=za.1 h; obtain ⟨q,hq,h⟩:=h
    replace h:=zi.1 h; obtain ⟨hlt,h⟩:=h
    have hlt:n < q.1:=zq.1 hlt
    obtain ⟨hu,hk⟩:=yE hq
    cases h1 with
    |
      agg hl hr =>
      rename_i l'
      have e:(Instr.index t (.agg l') (.int k (.ofNat n))).run C.P w=(Go.part q.2 l' (n * C.P.cellsOf q.2)).run C.P w:=by
        simp [Instr.index,asIntOf,run_underlying hu,hlt,z7 hk]
      rw [e]; exact Yj p.heap hl hr h
theorem ZX (p:Pre F j env H ρ w) {t:TypeId} {x:Operand} (h:uf t x C env H nb ty=some r):GoodV F j H w nb r ((Instr.arrayAt t (ρ x)).run C.P w):=by
  replace h:=za.1 h; obtain ⟨q,hq,h⟩:=h
  replace h:=za.1 h; obtain ⟨y,hy,h⟩:=h
  obtain ⟨hu,hk⟩:=yE hq
  have h1:=p.opd _ _ hy
  generalize ρ x=v at h1
  cases y <;> try (cases h; done)
  ·
    replace h:=zi.1 h; obtain ⟨hb,h⟩:=h
    rw [zl,zq,zq] at hb
    cases h
    cases h1 with
    |
      hs hb' g1 g2 g3 g4 =>
      rename_i B S o c
      obtain ⟨rfl,_⟩:=g4 (by omega)
      simp only [Instr.arrayAt,Sem.run_bind,run_underlying hu,Result.andThen_ok]
      rw [if_neg (by omega)]
      exact GoodV.pure p.heap (.hp hb')
  ·
    replace h:=zi.1 h; obtain ⟨hb,h⟩:=h
    rw [zl,zq,zq] at hb
    cases h
    cases h1 with
    |
      vs f hB hB' g1 g2 g3 hc hr =>
      simp only [Instr.arrayAt,Sem.run_bind,run_underlying hu,Result.andThen_ok]
      rw [if_neg (by omega)]
      exact GoodV.pure p.heap (.vp f hB hB' hc hr)
end
end Go.Abs
