/- A CALL ON DATA, in whatever surroundings: what the evaluator says of it, the machine answers (slices among the arguments and the results too). -/
import Derived.Test.YtdomagdnaohpbaaGreatDoorEvNum
set_option linter.unusedSimpArgs false
set_option linter.unusedVariables false
namespace Go.Abs
theorem call_soundX {C:Cx} (hm:C.P.follows .mixedOrders=true) (hext:ExtOk C) {n:Nat} {f:FuncId} {args:List AV} {v:AV} {rd:Option (List Nat)} (h:Go.Abs.call C n f args=.value v rd)
    (hf:allB (flat 4) args=true) (hv:flat 4 v=true) {X:Nat→Prop} {j:J} {w:World} {vs:Array Value} (hX:∀ B,X B→B < w.heap.size) (hr:wK X j w args vs) :
    Answers C.P f vs w fun rv w'=>Still w w'∧w.heap.size≤w'.heap.size∧(∀ B,B < w.heap.size→w'.heap[B]? = w.heap[B]?)∧Rel X j w' v rv:=by
  have own0:∀ (j:J) B,¬ Own j T.nil B:=fun j B ⟨b,k,S,hb,_⟩=>by simp at hb
  have hXX:∀ B,XX X J0 T.nil B→X B:=fun B h=>h.elim id fun h=>(own0 J0 B h).elim
  have hbad:∀ k,zx C (Go.Abs.run C n) f args T.nil 0 far≠.bad k:=fun k hk=>by
    unfold Go.Abs.call at h
    rw [hk] at h; cases h
  have hr0:wK (XX X J0 T.nil) J0 w args vs:=⟨hr.1,fun i x y hx hy =>
    ((hr.2 i x y hx hy).flat 4 (z6.1 hf x (List.mem_of_getElem? hx))).mono_w (fun B _ h=>hXX B h) (fun _ _ _=>rfl) (Nat.le_refl _)⟩
  have hans:=jD (v1 hm hext n).1 hext (F:=X) (j:=J0) (H:=T.nil) (w:=w) hbad ⟨fun b k t n hb=>by simp at hb,fun b l hb=>by simp at hb,fun b b' k k' B S S' hb=>by simp at hb,Full.nil⟩ (fun B hB=>⟨hX B hB,own0 J0 B⟩) (fun _ _=>rfl) hr0
  refine hans.mono fun rv w' ⟨v',j',H',nx',low',hcr,ht,hrel,_,_,hfr,_,_,_⟩ => ?_
  unfold Go.Abs.call at h
  rcases hcr with ⟨rd',hcr,rfl,rfl,rfl⟩ | hcr | ⟨us,hcr,rfl,rfl⟩
  ·
    rw [h] at hcr; cases hcr
    refine ⟨ht.still,ht.size,fun B hB=>ht.keep B hB (own0 J0 B),?_⟩
    have hj':j'=J0:=funext fun b=>hfr b (Nat.zero_le _)
    subst hj'
    exact (hrel.mono_w (X':=X) (w':=w') (fun B _ h=>.inl h) (fun _ _ _=>rfl) (Nat.le_refl _)).mono_j fun b p hb=>by cases hb
  · rw [h] at hcr; cases hcr
  · rw [h] at hcr; cases hcr
theorem XB {P:Program} {E:Es} {C:Cx} (hP:C.P=P) (hm:P.follows .mixedOrders=true) (hext:ExtOk C) {f:FuncId}
    (h:∀ l v,E f l=some (v,true)→allB (flat 4) l=true∧flat 4 v=true∧∃ n rd,Go.Abs.call C n f l=.value v rd):Ok P E f:=by
  subst hP
  intro l v hv X j w args hX hr
  obtain ⟨h1,h2,n,rd,h3⟩:=h l v hv
  exact call_soundX hm hext h3 h1 h2 hX hr
theorem ok_symX {P:Program} {E:Es} {S:FuncId→Bool} (hm:P.follows .mixedOrders=true) (hS:∀ f,S f=true→Ok P E f) {f:FuncId} (hf:S f=false)
    (h:∀ l v,E f l=some (v,true)→allB (flat 4) l=true∧flat 4 v=true∧∃ n ds ds' ob,symCall (cxOf P (only S E)) (only S E) n f l ds=some (.value v (some []),ds',ob)∧Met ob):Ok P E f:=
  XB (C:=cxOf P (only S E)) rfl hm (vN hS) fun l v hv=>by
    obtain ⟨h1,h2,n,ds,ds',ob,h3,h4⟩:=h l v hv
    exact ⟨h1,h2,n,_,qy rfl (by show extOf _ f l=none; unfold extOf only; rw [hf]; rfl) h3 h4⟩
noncomputable def zdo (x:AV):Option (T AV×Nat×Nat×Nat×Nat×Bool):=(@AV.rec (fun _=>Option (T AV×Nat×Nat×Nat×Nat×Bool)) U1 U1 U1 U1 U1 U1 (fun _=>none) (fun _ _=>none) (fun _ _ _=>none) (fun _ _ _ _ _ _=>none) (fun t off len es lo ex _=>some (t,off,len,es,lo,ex)) (fun _ _ _ _ _=>none) (fun _ _=>none) (fun _ _=>none) (fun _=>none) (fun _ _=>none) K2 () K4 () K4 () K8 K4 () K2 (x))
noncomputable def KH (x:AV):Option (List AV):=(@AV.rec (fun _=>Option (List AV)) U1 U1 U1 U1 U1 U1 (fun _=>none) (fun _ _=>none) (fun _ _ _=>none) (fun _ _ _ _ _ _=>none) (fun _ _ _ _ _ _ _=>none) (fun _ _ _ _ _=>none) (fun l _=>some l) (fun _ _=>none) (fun _=>none) (fun _ _=>none) K2 () K4 () K4 () K8 K4 () K2 (x))
theorem YG {x:AV} {t:T AV} {off len es lo:Nat} {ex:Bool} (h:zdo x=some (t,off,len,es,lo,ex)):x=.vs t off len es lo ex:=by
  cases x <;> first | (cases h; rfl) | cases h
theorem qE {x:AV} {l:List AV} (h:KH x=some l):x=.agg l:=by
  cases x <;> first | (cases h; rfl) | cases h
end Go.Abs
