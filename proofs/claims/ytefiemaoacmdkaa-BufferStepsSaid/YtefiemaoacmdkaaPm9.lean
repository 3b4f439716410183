/-
  The abstract machine, text 9: what a run computes, as a partial function; loops as least fixed points. contracts by partial functions; arguments and rows by typed lists. what a law is given, told as typed values. results that are memory of the caller's own. loops, arithmetic.
-/
import Derived.Test.YtefiemaoacmdkaaPm8
import Derived.OpenShut
import Derived.WideShapes
import Derived.ChangeOld
import Derived.ChangeMaps5
namespace Go.Am
set_option linter.unusedVariables false
variable {P:Program} {E:Env} {h:List ABlk}

/-! ### Partial functions -/
def need {α:Type} (b:Bool) (k:Option α):Option α:=bif b then k else none
def gt {α:Type} [Inhabited α] (o:Option α):α:=o.getD default
def bd {α β:Type} [Inhabited α] (o:Option α) (k:α->Option β):Option β:=bif o.isSome then k (gt o) else none
theorem zN {α:Type} {b:Bool} {k:Option α} {r:α}:need b k=some r ↔ b=true/\k=some r:=by
 cases b<;>simp [need]
theorem gt_some {α:Type} [Inhabited α] {x:α}:gt (some x)=x:=rfl
inductive Lp (S B:Type) where
 | next (s:S)
 | done (b:B)
def tD {S B:Type} (step:S->Option (Lp S B)):Nat->S->Option B
 | 0,_=>none
 | n+1,s=>match step s with
  | none=>none
  | some (.next s')=>tD step n s'
  | some (.done b)=>some b
noncomputable def loopK {S B:Type} (step:S->Option (Lp S B)) (n:Nat):S->Option B :=
 Nat.rec (motive:=fun _=>S->Option B) (fun _=>none) (fun _ ih s=>Option.rec (motive:=fun _=>Option B) none (fun o=>Lp.rec (motive:=fun _=>Option B) (fun s'=>ih s') (fun b=>some b) o) (step s)) n
theorem loopK_eq {S B:Type} {step:S->Option (Lp S B)}:∀ (n:Nat) (s:S),loopK step n s=tD step n s
 | 0,_=>rfl
 | n+1,s=>by
  show (Option.rec (motive:=fun _=>Option B) none (fun o=>Lp.rec (motive:=fun _=>Option B) (fun s'=>loopK step n s') (fun b=>some b) o) (step s))=_
  simp only [tD]
  cases step s with
  | none=>rfl
  | some o=>cases o with
   | next s'=>exact loopK_eq n s'
   | done b=>rfl
open Classical in
noncomputable def loopX {S B:Type} (step:S->Option (Lp S B)) (s:S):Option B:=if h:∃ n b,tD step n s=some b then some h.choose_spec.choose else none
noncomputable def loopD {S B:Type} (step:S->Option (Lp S B)) (s:S):Option B:=Option.rec (motive:=fun _=>Option B) (loopX step s) (fun b=>some b) (loopK step 1000000 s)
theorem loopN_mono {S B:Type} {step:S->Option (Lp S B)} {b:B}:∀ (n m:Nat) (s:S),n <= m->tD step n s=some b->tD step m s=some b
 | 0,_,_,_,h=>by cases h
 | n+1,0,_,hm,_=>by omega
 | n+1,m+1,s,hm,h=>by
  simp only [tD] at h ⊢
  split at h
  ·cases h
  ·exact loopN_mono n m _ (by omega) h
  ·exact h
theorem loopX_iff {S B:Type} {step:S->Option (Lp S B)} {s:S} {b:B}:loopX step s=some b ↔ ∃ n,tD step n s=some b:=by
 unfold loopX
 constructor
 ·intro h
  split at h
  ·rename_i hx
   injection h with h
   exact ⟨_,by rw [← h];exact hx.choose_spec.choose_spec⟩
  ·cases h
 ·rintro ⟨n,h⟩
  have hx:∃ n b,tD step n s=some b:=⟨n,b,h⟩
  rw [dif_pos hx]
  have h1:=loopN_mono _ (max n hx.choose) s (Nat.le_max_right ..) hx.choose_spec.choose_spec
  have h2:=loopN_mono _ (max n hx.choose) s (Nat.le_max_left ..) h
  rw [h1] at h2
  exact h2
theorem kZ {S B:Type} {step:S->Option (Lp S B)} {s:S} {b:B}:loopD step s=some b ↔ ∃ n,tD step n s=some b:=by
 have e:loopD step s=loopX step s:=by
  unfold loopD
  rw [loopK_eq]
  cases hl:tD step 1000000 s with
  | none=>rfl
  | some b'=>exact (loopX_iff.2 ⟨_,hl⟩).symm
 rw [e];exact loopX_iff
theorem loopD_next {S B:Type} {step:S->Option (Lp S B)} {s s':S} (h:step s=some (.next s')):loopD step s=loopD step s':=by
 have key:∀ b,loopD step s=some b ↔ loopD step s'=some b:=by
  intro b
  rw [kZ,kZ]
  constructor
  ·rintro ⟨n,hn⟩
   cases n with
   | zero=>cases hn
   | succ n=>simp only [tD,h] at hn;exact ⟨n,hn⟩
  ·rintro ⟨n,hn⟩
   exact ⟨n+1,by simp only [tD,h];exact hn⟩
 cases h1:loopD step s with
 | some b=>exact ((key b).1 h1).symm
 | none =>
  cases h2:loopD step s' with
  | none=>rfl
  | some b=>rw [(key b).2 h2] at h1;cases h1
theorem fF {S B:Type} {step:S->Option (Lp S B)} {s:S} {b:B} (h:step s=some (.done b)):loopD step s=some b :=
 kZ.2 ⟨1,by simp only [tD,h]⟩
def lp {A R X:Type} (o:Option (A ⊕ R)) (k:A->Option X) (j:R->Option X):Option X:=match o with
 | some (.inl e)=>k e
 | some (.inr r)=>j r
 | none=>none

/-! ### Statements one behind the other -/
def kM (P:Program) (b:Code) (K:Kt):Kt
 | .normal,t,h=>Mean P b K t h
 | .exit id,t,h=>K (.exit id) t h
 | .ret,t,h=>K .ret t h
 | .goto l,t,h=>K (.goto l) t h
theorem wJ {b:Code} {K:Kt} {t:List AV}:kM P b K .normal t h=Mean P b K t h:=rfl
theorem m_exit {b:Code} {K:Kt} {t:List AV} {id:Nat}:kM P b K (.exit id) t h=K (.exit id) t h:=rfl
theorem m_ret {b:Code} {K:Kt} {t:List AV}:kM P b K .ret t h=K .ret t h:=rfl
theorem m_goto {b:Code} {K:Kt} {t:List AV} {l:Nat}:kM P b K (.goto l) t h=K (.goto l) t h:=rfl
theorem zZ {a b:Code} {K:Kt} {t:List AV} (hm:Mean P a (kM P b K) t h):Mean P (.seq a b) K t h:=by
 intro E ac Q H F hd hQ
 refine wp_seq (hm E ac _ H F hd fun e E' a' t' h' hk X H' F' hd'=>?_)
 cases e with
 | normal=>exact hk E' a' Q H' F' hd' fun e2 E2 a2 t2 h2 hk2 X2 H2 F2 hd2=>hQ e2 E2 a2 t2 h2 hk2 (X.trans X2) H2 F2 hd2
 | exit id=>exact hQ (.exit id) E' a' t' h' hk X H' F' hd'
 | ret=>exact hQ .ret E' a' t' h' hk X H' F' hd'
 | goto l=>exact hQ (.goto l) E' a' t' h' hk X H' F' hd'
theorem uJ {id:Nat} {c:Code} {K:Kt} {t:List AV} (hm:Mean P c (eO id K) t h):Mean P (.block id c) K t h:=by
 intro E ac Q H F hd hQ
 refine wp_block (hm E ac _ H F hd fun e E' a' t' h' hk X H' F' hd'=>?_)
 cases e with
 | normal=>exact hQ .normal E' a' t' h' hk X H' F' hd'
 | exit id' =>
  simp only [eO] at hk
  by_cases hid:id'=id
  ·subst hid
   simp only [beq_self_eq_true] at hk
   simp only [Ex.ex,Exit.inBlock,if_true]
   exact hQ .normal E' a' t' h' hk X H' F' hd'
  ·rw [show (id' == id)=false from by simpa using hid] at hk
   simp only [Ex.ex,Exit.inBlock,if_neg hid]
   exact hQ (.exit id') E' a' t' h' hk X H' F' hd'
 | ret=>exact hQ .ret E' a' t' h' hk X H' F' hd'
 | goto l=>exact hQ (.goto l) E' a' t' h' hk X H' F' hd'
def qR (n:Nat) (t:List AV) (h:List ABlk) (t2:List AV) (h2:List ABlk):Prop:=∃ fz,(vO h fz t/\uT h fz h)/\Sub n (fzL h fz t) (fzH h fz) t2 h2
mutual
theorem fU (h:List ABlk):∀ a:AV,fzV h [] a=a/\yL h [] a
 | .ptr _ _ _ _=>by simp only [fzV,yL,inL,cond_false];exact ⟨trivial,trivial⟩
 | .sl _ _ _ _ _=>by simp only [fzV,yL,inL,cond_false];exact ⟨trivial,trivial⟩
 | .isl _ _ _ _ _ _=>by simp only [fzV,yL,inL,cond_false];exact ⟨trivial,trivial⟩
 | .csl _ _ _ _ _=>by simp only [fzV,yL,inL,cond_false];exact ⟨trivial,trivial⟩
 | .agg l=>by simp only [fzV,yL];rw [(uS h l).1];exact ⟨rfl,(uS h l).2⟩
 | .tup l=>by simp only [fzV,yL];rw [(uS h l).1];exact ⟨rfl,(uS h l).2⟩
 | .fn _ l=>by simp only [fzV,yL];rw [(uS h l).1];exact ⟨rfl,(uS h l).2⟩
 | .mfn _ l=>by simp only [fzV,yL];rw [(uS h l).1];exact ⟨rfl,(uS h l).2⟩
 | .opt _ v=>by simp only [fzV,yL];rw [(fU h v).1];exact ⟨rfl,(fU h v).2⟩
 | .top=>by simp only [fzV,yL];exact ⟨trivial,trivial⟩
 | .bool _=>by simp only [fzV,yL];exact ⟨trivial,trivial⟩
 | .int _ _=>by simp only [fzV,yL];exact ⟨trivial,trivial⟩
 | .str _=>by simp only [fzV,yL];exact ⟨trivial,trivial⟩
 | .nilp=>by simp only [fzV,yL];exact ⟨trivial,trivial⟩
 | .rptr _ _ _ _ _=>by simp only [fzV,yL];exact ⟨trivial,trivial⟩
 | .ro _ _ _ _=>by simp only [fzV,yL];exact ⟨trivial,trivial⟩
 | .emp=>by simp only [fzV,yL];exact ⟨trivial,trivial⟩
 | .nilf=>by simp only [fzV,yL];exact ⟨trivial,trivial⟩
 | .ub=>by simp only [fzV,yL];exact ⟨trivial,trivial⟩
 | .val _=>by simp only [fzV,yL];exact ⟨trivial,trivial⟩
 | .mp _=>by simp only [fzV,yL];exact ⟨trivial,trivial⟩
theorem uS (h:List ABlk):∀ l:List AV,fzL h [] l=l/\vO h [] l
 | []=>by simp only [fzL,vO];exact ⟨trivial,trivial⟩
 | a::l=>by simp only [fzL,vO];rw [(fU h a).1,(uS h l).1];exact ⟨rfl,(fU h a).2,(uS h l).2⟩
end
theorem gW (h:List ABlk):∀ (g:List ABlk) (b:Nat),fzHF h [] b g=g/\uT h [] g
 | [],_=>⟨rfl,trivial⟩
 | x::g,b=>by
  obtain ⟨i1,i2⟩:=gW h g (b+1)
  have:fzB h [] x=x/\bC h [] x:=by
   cases x with
   | lit e l=>simp only [fzB,bC];rw [(uS h l).1];exact ⟨rfl,(uS h l).2⟩
   | row e es n c=>exact ⟨rfl,trivial⟩
   | dead=>exact ⟨rfl,trivial⟩
   | mapb _ _=>exact ⟨rfl,trivial⟩
  simp only [fzHF,inL,cond_false,uT]
  rw [this.1,i1]
  exact ⟨rfl,this.2,i2⟩
theorem yH {n:Nat} {t t2:List AV} {h2:List ABlk} (hs:Sub n t h t2 h2):qR n t h t2 h2 :=
 ⟨[],⟨(uS h t).2,(gW h h 0).2⟩,by rw [(uS h t).1,show fzH h []=h from (gW h h 0).1];exact hs⟩
theorem vE {c:Code} {K:Kt} {t t2:List AV} {h2:List ABlk} (hs:qR h.length t h t2 h2) (hm:Mean P c K t2 h2):Mean P c K t h:=by
 obtain ⟨fz,ho,hs⟩:=hs
 refine jG fz ho (sub_mean ?_ hm)
 rw [fzH_length];exact hs
theorem cut_mean {n:Nat} {c:Code} {K:Kt} {t t2:List AV} {h0 h2:List ABlk} {E0:Env} (hn:h0.length=n) (H0:HR E0 h0) (hs:qR n t h t2 h2) (H:HR E h) {vs:Array Value} (F:FR E t vs) (X:Ext E0 h0 E h) :
  ∃ E',E'.w=E.w/\HR E' h2/\FR E' t2 vs/\Ext E0 h0 E' h2:=by
 subst hn
 obtain ⟨fz,ho,μ,c1,c2,c3,c4⟩:=hs
 obtain ⟨H1,X1⟩:=fz_HR H ho.2
 have F1:=fz_FR H F ho.1
 exact ⟨(E.fz h fz).via μ,rfl,(via_HR H1 c2 c3).1,via_FR F1 c1,via_Ext H0 H1 (X.trans X1) c2 c3 c4⟩
def kL (P:Program) (id n:Nat) {S A R:Type} (o:Lp S (A ⊕ R)) (T:S->List AV) (Hp:S->List ABlk) (TB:A->List AV) (HB:A->List ABlk) (K:Kt):Kt
 | .normal,t,h=>∃ s',o = .next s'/\qR n t h (T s') (Hp s')
 | .exit id',t,h=>bif id' == id then ∃ e,o = .done (.inl e)/\qR n t h (TB e) (HB e) else K (.exit id') t h
 | .ret,t,h=>K .ret t h
 | .goto l,t,h=>K (.goto l) t h
theorem wX {S A R X:Type} {id:Nat} {c:Code} {K:Kt} {t:List AV} (T:S->List AV) (Hp:S->List ABlk) (TB:A->List AV) (HB:A->List ABlk) {step:S->Option (Lp S (A ⊕ R))} {s0:S} {k:A->Option X} {j:R->Option X} {x:X}
  (hd:lp (loopD step s0) k j=some x) (init:qR h.length t h (T s0) (Hp s0))
  (round:∀ s o,step s=some o->(∀ e,o = .done (.inl e)->k e=some x)->(∀ r,o = .done (.inr r)->j r=some x)->Mean P c (kL P id h.length o T Hp TB HB K) (T s) (Hp s))
  (hrest:∀ e,k e=some x->K .normal (TB e) (HB e)):Mean P (.loop c) (eO id K) t h:=by
 -- the loop's own run
 have ⟨b0,hb0,hk,hj⟩:∃ b0,loopD step s0=some b0/\(∀ e,b0 = .inl e->k e=some x)/\(∀ r,b0 = .inr r->j r=some x):=by
  cases hl:loopD step s0 with
  | none=>rw [hl] at hd;cases hd
  | some b =>
   rw [hl] at hd
   refine ⟨b,rfl,?_,?_⟩
   ·rintro e rfl;exact hd
   ·rintro r rfl;exact hd
 obtain ⟨n0,hn0⟩:=kZ.1 hb0
 intro E a Q H F hd hQ
 let Inv (x:S × Nat) (a':Act) (w':World):Prop:=tD step x.2 x.1=some b0/\a'.defers=[]/\∃ E',E'.w=w'/\HR E' (Hp x.1)/\FR E' (T x.1) a'.tmps/\Ext E h E' (Hp x.1)
 have hmin:∀ a' w',∃ m:Nat,(∃ x,Inv x a' w')->(∃ x,Inv x a' w'/\x.2=m)/\∀ x,Inv x a' w'->m <= x.2:=by
  intro a' w'
  by_cases hx:∃ x,Inv x a' w'
  ·obtain ⟨x,hx⟩:=hx
   obtain ⟨m,m1,m2⟩:=exists_min (p:=fun m=>∃ x,Inv x a' w'/\x.2=m) ⟨x.2,x,hx,rfl⟩
   exact ⟨m,fun _=>⟨m1,fun y hy=>m2 _ ⟨y,hy,rfl⟩⟩⟩
  ·exact ⟨0,fun h=>absurd h hx⟩
 have hin:∃ x,Inv x a E.w:=by
  obtain ⟨E',e1,e2,e3,e4⟩:=cut_mean (c:=c) (K:=K) rfl H init H F (Ext.refl _ _)
  exact ⟨(s0,n0),hn0,hd,E',e1,e2,e3,e4⟩
 refine wp_loop (fun a' w'=>∃ x,Inv x a' w') (fun a' w'=>Classical.choose (hmin a' w')) hin fun a1 w1 hI=>?_
 obtain ⟨⟨⟨s,n⟩,⟨hJ,hd1,E1,rfl,H1,F1,X1⟩,hm1⟩,hm2⟩:=Classical.choose_spec (hmin a1 w1) hI
 cases n with
 | zero=>cases hJ
 | succ n =>
 simp only at hJ hm1 H1 F1 X1
 cases ho:step s with
 | none=>simp only [tD,ho] at hJ;cases hJ
 | some o =>
 have hdone:∀ b,o = .done b->b=b0:=by
  rintro b rfl
  simp only [tD,ho] at hJ
  injection hJ
 refine round s o ho (fun e he=>hk e (hdone _ he).symm) (fun r hr=>hj r (hdone _ hr).symm) E1 a1 _ H1 F1 hd1 fun e E2 a2 t2 h2 hk2 X2 H2 F2 hd2=>?_
 cases e with
 | normal =>
  obtain ⟨s',rfl,hs⟩:=hk2
  simp only [tD,ho] at hJ
  obtain ⟨E',e1,e2,e3,e4⟩:=cut_mean (c:=c) (K:=K) rfl H hs H2 F2 (X1.trans X2)
  have hI2:Inv (s',n) a2 E2.w:=⟨hJ,hd2,E',e1,e2,e3,e4⟩
  refine ⟨⟨_,hI2⟩,?_⟩
  have h1:=(Classical.choose_spec (hmin a2 E2.w) ⟨_,hI2⟩).2 _ hI2
  show Classical.choose (hmin a2 E2.w) < Classical.choose (hmin a1 E1.w)
  simp only at h1
  omega
 | exit id' =>
  simp only [kL] at hk2
  by_cases hid:id'=id
  ·subst hid
   simp only [beq_self_eq_true,cond_true] at hk2
   obtain ⟨e,he,hs⟩:=hk2
   obtain ⟨E',e1,e2,e3,e4⟩:=cut_mean (c:=c) (K:=K) rfl H hs H2 F2 (X1.trans X2)
   rw [← e1]
   exact hQ (.exit id') E' a2 _ _ (by simp only [eO,beq_self_eq_true];exact hrest e (hk e (hdone _ he).symm)) e4 e2 e3 hd2
  ·rw [show (id' == id)=false from by simpa using hid] at hk2
   simp only [cond_false] at hk2
   exact hQ (.exit id') E2 a2 t2 h2 (by simp only [eO];rw [show (id' == id)=false from by simpa using hid];exact hk2) (X1.trans X2) H2 F2 hd2
 | ret=>exact hQ .ret E2 a2 t2 h2 hk2 (X1.trans X2) H2 F2 hd2
 | goto l=>exact hQ (.goto l) E2 a2 t2 h2 hk2 (X1.trans X2) H2 F2 hd2
theorem kL_normal {id n:Nat} {S A R:Type} {o:Lp S (A ⊕ R)} {T:S->List AV} {Hp:S->List ABlk} {TB:A->List AV} {HB:A->List ABlk} {K:Kt} {t:List AV}:kL P id n o T Hp TB HB K .normal t h = ∃ s',o = .next s'/\qR n t h (T s') (Hp s'):=rfl
theorem kL_exit {id id' n:Nat} {S A R:Type} {o:Lp S (A ⊕ R)} {T:S->List AV} {Hp:S->List ABlk} {TB:A->List AV} {HB:A->List ABlk} {K:Kt} {t:List AV}:kL P id n o T Hp TB HB K (.exit id') t h=bif id' == id then ∃ e,o = .done (.inl e)/\qR n t h (TB e) (HB e) else K (.exit id') t h:=rfl
theorem kL_ret {id n:Nat} {S A R:Type} {o:Lp S (A ⊕ R)} {T:S->List AV} {Hp:S->List ABlk} {TB:A->List AV} {HB:A->List ABlk} {K:Kt} {t:List AV}:kL P id n o T Hp TB HB K .ret t h=K .ret t h:=rfl
def kS (P:Program) (l n:Nat) {S A R:Type} (o:Lp S (A ⊕ R)) (T:S->List AV) (Hp:S->List ABlk) (TB:A->List AV) (HB:A->List ABlk) (K:Kt):Kt
 | .normal,t,h=>∃ e,o = .done (.inl e)/\qR n t h (TB e) (HB e)
 | .exit id,t,h=>K (.exit id) t h
 | .ret,t,h=>K .ret t h
 | .goto l',t,h=>l'=l/\∃ s',o = .next s'/\qR n t h (T s') (Hp s')
theorem kS_normal {l n:Nat} {S A R:Type} {o:Lp S (A ⊕ R)} {T:S->List AV} {Hp:S->List ABlk} {TB:A->List AV} {HB:A->List ABlk} {K:Kt} {t:List AV}:kS P l n o T Hp TB HB K .normal t h = ∃ e,o = .done (.inl e)/\qR n t h (TB e) (HB e):=rfl
theorem kS_exit {l id n:Nat} {S A R:Type} {o:Lp S (A ⊕ R)} {T:S->List AV} {Hp:S->List ABlk} {TB:A->List AV} {HB:A->List ABlk} {K:Kt} {t:List AV}:kS P l n o T Hp TB HB K (.exit id) t h=K (.exit id) t h:=rfl
theorem kS_ret {l n:Nat} {S A R:Type} {o:Lp S (A ⊕ R)} {T:S->List AV} {Hp:S->List ABlk} {TB:A->List AV} {HB:A->List ABlk} {K:Kt} {t:List AV}:kS P l n o T Hp TB HB K .ret t h=K .ret t h:=rfl
theorem kS_goto {l l' n:Nat} {S A R:Type} {o:Lp S (A ⊕ R)} {T:S->List AV} {Hp:S->List ABlk} {TB:A->List AV} {HB:A->List ABlk} {K:Kt} {t:List AV}:kS P l n o T Hp TB HB K (.goto l') t h=(l'=l/\∃ s',o = .next s'/\qR n t h (T s') (Hp s')):=rfl
def RndM (P:Program) (c:Code) (K:Kt):Nat->List AV->List ABlk->Prop
 | 0,_,_=>False
 | n+1,t,h=>Mean P c (kLp (RndM P c K n) K) t h
theorem rndM {c:Code} {K:Kt} {n:Nat} {t:List AV} (hm:Mean P c (kLp (RndM P c K n) K) t h):RndM P c K (n+1) t h:=hm
theorem loop_roundsM (n:Nat) {c:Code} {K:Kt} {t:List AV} (hr:RndM P c K n t h):Mean P (.loop c) K t h:=by
 intro E a Q H F hd hQ
 refine wp_loop_rounds n ?_
 induction n generalizing t h E a with
 | zero=>exact hr.elim
 | succ n ih =>
  rw [rounds_succ]
  refine hr E a _ H F hd fun e E2 a2 t2 h2 hk X2 H2 F2 hd2=>?_
  cases e with
  | normal=>exact ih hk E2 a2 H2 F2 hd2 fun e E3 a3 t3 h3 hk3 X3 H3 F3 hd3=>hQ e E3 a3 t3 h3 hk3 (X2.trans X3) H3 F3 hd3
  | exit id=>exact hQ (.exit id) E2 a2 t2 h2 hk X2 H2 F2 hd2
  | ret=>exact hQ .ret E2 a2 t2 h2 hk X2 H2 F2 hd2
  | goto l=>exact hQ (.goto l) E2 a2 t2 h2 hk X2 H2 F2 hd2
def kJ (n:Nat) {α:Type} (T:α->List AV) (Hp:α->List ABlk) (J:α->Prop) (K:Kt):Kt
 | .normal,t,h=>∃ x,J x/\qR n t h (T x) (Hp x)
 | .exit id,t,h=>K (.exit id) t h
 | .ret,t,h=>K .ret t h
 | .goto l,t,h=>K (.goto l) t h
theorem kJ_normal {n:Nat} {α:Type} {T:α->List AV} {Hp:α->List ABlk} {J:α->Prop} {K:Kt} {t:List AV}:kJ n T Hp J K .normal t h = ∃ x,J x/\qR n t h (T x) (Hp x):=rfl
theorem kJ_exit {n id:Nat} {α:Type} {T:α->List AV} {Hp:α->List ABlk} {J:α->Prop} {K:Kt} {t:List AV}:kJ n T Hp J K (.exit id) t h=K (.exit id) t h:=rfl
theorem kJ_ret {n:Nat} {α:Type} {T:α->List AV} {Hp:α->List ABlk} {J:α->Prop} {K:Kt} {t:List AV}:kJ n T Hp J K .ret t h=K .ret t h:=rfl
end Go.Am

namespace Go.Am
set_option linter.unusedVariables false
variable {P:Program} {E:Env} {h:List ABlk}

theorem pure_fnM {f:FuncId} {fn:Func} {code:Code} (body:List AV->AR) {rs:List ResultVar}
  (hf:P.funcs[f]? = some fn) (hn:(fn.name == "runtime.NumGoroutine")=false) (hb:fn.body=some code) (hrs:fn.results.toList=rs)
  (hw:∀ (l:List AV) (ob:Prop) (v:AV),body l = .pure ob v->ob->∃ l' t,(∀ E vs,FR E l vs->FR E l' vs)/\(conc v).isSome=true/\t=l' ++ List.replicate (fn.ntmps - l'.length) .top /\
   Mean P code (kY P rs fun v' _=>v'=v) t []):yU P f (yR body):=by
 subst hrs
 have main:∀ (E:Env) (h:List ABlk) (l:List AV) (vs:Array Value) (ob:Prop) (v:AV),HR E h->FR E l vs->yR body l h = .pure ob v->ob->Calls P f vs E.w (RetP E.w v):=by
  intro E h l vs ob v H F hr hob
  unfold yR at hr
  cases hbd:body (roL h l) with
  | fail=>rw [hbd] at hr;cases hr
  | heap a b c=>rw [hbd] at hr;cases hr
  | pure ob' v' =>
   rw [hbd] at hr
   simp only [pureR,AR.pure.injEq] at hr
   obtain ⟨rfl,rfl⟩:=hr
   obtain ⟨l',t,g1,g2,rfl,g3⟩:=hw _ _ _ hbd hob.2
   have F0:FR E.view (roL h l) vs:=by
    refine ⟨by rw [uG];exact F.1,fun i a v ha hv=>?_⟩
    rw [jH] at ha
    cases hi:l[i]? with
    | none=>rw [hi] at ha;cases ha
    | some a0 =>
     rw [hi] at ha
     simp only [Option.map_some,Option.some.injEq] at ha
     subst ha
     exact ro_VR H (F.2 i a0 v hi hv) (uO hob.1 hi)
   have F1:=g1 _ _ F0
   have F2:FR E.view (l' ++ List.replicate (fn.ntmps - l'.length) .top) (vs ++ Array.replicate (fn.ntmps - vs.size) undef):=by
    refine xM F1 ⟨by simp [F1.1],fun i a v ha hv=>?_⟩
    rw [List.getElem?_replicate] at ha
    split at ha
    ·injection ha with ha;subst ha;exact .top _
    ·cases ha
   refine calls_of_wp hf hb ?_
   refine g3 E.view _ _ (view_HR E) F2 rfl fun e E' a' t' h' hk X H' F' hd=>?_
   have done:cV P fn.results.toList (fun w _=>w=v') t' h'->a'.defers=[]/\∃ u,(results fn a'.tmps).run P E'.w = .ok u E'.w/\RetP E.w v' (.returned u) E'.w:=by
    intro hk
    obtain ⟨u,v',q1,rfl,q3⟩:=tP (P:=P) H' F' hk
    refine ⟨hd,u,q1,u,rfl,?_,⟨X.os,X.tape,X.output,X.size,fun k hk=>X.frame k hk ?_⟩⟩
    ·cases hc:conc v' with
     | none=>rw [hc] at g2;cases g2
     | some u0=>rw [conc_VR hc q3]
    ·rintro ⟨b,x,o,hb,_⟩;simp at hb
   cases e with
   | normal=>exact done hk
   | ret=>exact done hk
   | exit id=>exact hk.elim
   | goto l=>exact hk.elim
 refine ⟨⟨fn,hf,hn,by rw [hb];rfl⟩,fun E h l vs ob v h' H F hr hob=>?_,main⟩
 cases hc:yR body l h with
 | fail=>rw [hc] at hr;cases hr
 | heap a b c=>exfalso;unfold yR at hc;cases hbd:body (roL h l)<;>rw [hbd] at hc<;>cases hc
 | pure ob' v' =>
  rw [hc] at hr
  simp only [AR.out,Option.some.injEq,Prod.mk.injEq] at hr
  obtain ⟨rfl,rfl,rfl⟩:=hr
  refine (main E h l vs _ _ H F hc hob).mono ?_
  rintro e w' ⟨u,rfl,hu,hS⟩
  obtain ⟨H',X'⟩:=fP H hS
  exact ⟨u,_,rfl,rfl,X',H',conc_mk hu⟩

/-! ### A value told otherwise -/
/-! ### Lists of elements -/
def gd {α:Type} [Inhabited α] (l:List α) (i:Nat):α:=l.getD i default
theorem kX {α:Type} [Inhabited α] {l m:List α} {i:Nat} (h:i < l.length):gd (l ++ m) i=gd l i:=by
 simp [gd,List.getElem?_append_left h]
theorem gK {α:Type} [Inhabited α] {l m:List α} {i:Nat} (h:l.length <= i):gd (l ++ m) i=gd m (i - l.length):=by
 simp [gd,List.getElem?_append_right h]
def enR {α:Type} [Inhabited α] (f:α->List AV) (l:List α):Nat->Nat->AV:=fun x y=>zL (f (gd l x)) y
def deR {α:Type} (g:(Nat->AV)->α) (n:Nat) (c:Nat->Nat->AV):List α:=(List.range n).map fun x=>g (c x)
theorem deR_length {α:Type} {g:(Nat->AV)->α} {n:Nat} {c:Nat->Nat->AV}:(deR g n c).length=n:=by simp [deR]
theorem deR_get {α:Type} [Inhabited α] {g:(Nat->AV)->α} {n:Nat} {c:Nat->Nat->AV} {x:Nat} (hx:x < n):gd (deR g n c) x=g (c x):=by
 simp [gd,deR,hx]
theorem tL {α:Type} [Inhabited α] {f:α->List AV} {g:(Nat->AV)->α} (hfg:∀ a,g (zL (f a))=a) (l:List α):deR g l.length (enR f l)=l:=by
 apply List.ext_getElem?
 intro i
 simp only [deR,List.getElem?_map]
 rcases Nat.lt_or_ge i l.length with hi|hi
 ·rw [List.getElem?_range hi,List.getElem?_eq_getElem hi]
  simp only [Option.map_some,Option.some.injEq]
  show g (zL (f (gd l i)))=l[i]
  rw [hfg]
  simp [gd,hi]
 ·rw [List.getElem?_eq_none (by simpa using hi),List.getElem?_eq_none hi];rfl
theorem enR_row {α:Type} [Inhabited α] {f:α->List AV} {l:List α} {x:Nat}:enR f l x=zL (f (gd l x)):=rfl
theorem enR_nf {α:Type} [Inhabited α] {f:α->List AV} {l:List α} {es:Nat} (h:∀ q,zL (f q) es = .top):¬ Fl es (enR f l):=fun ⟨x,q⟩=>by
 rw [enR_row,h] at q
 cases q
/-! ### Weaker values -/
theorem ro_wk {es n:Nat} {nl:Bool} {c c':Nat->Nat->AV} (h:∀ x y,x < n->y < es->WkV (c' x y) (c x y)/\nref (c' x y)) (hf:Fl es c'->Fl es c):WkV (.ro es n false c') (.ro es n nl c):=fun E u hv=>by
 cases hv with
 | ro _ _ _ _ a cap hn hcm hnl hz us ha h1 hc hrf =>
  exact .ro es n false c' a cap hn hcm (fun h=>by cases h) (hz.sub (Nat.le_refl _) fun _ f=>hf f) us ha h1 (fun x y hx hy=>(h x y hx hy).1 E _ (hc x y hx hy)) fun x y hx hy=>(h x y hx hy).2
theorem ro_wk0 {es es':Nat} {nl:Bool} {c c':Nat->Nat->AV}:WkV (.ro es 0 false c') (.ro es' 0 nl c):=fun E u hv=>by
 cases hv with
 | ro _ _ _ _ a cap hn hcm hnl hz us ha h1 hc hrf =>
  exact .ro es 0 false c' a cap hn hcm (fun h=>by cases h) (zrN hz.1) (fun _ _=>undef) (fun h=>by omega) (fun x y hx=>by omega) (fun x y hx=>by omega) fun x y hx=>by omega
theorem agg_wk {l l':List AV} (hl:l'.length=l.length) (h:∀ i,i < l.length->WkV (zL l' i) (zL l i)):WkV (.agg l') (.agg l):=fun E u hv=>by
 cases hv with
 | agg _ vs hl0 h1 hh =>
  refine .agg l' vs (hl.trans hl0) h1 fun i a v ha hv=>?_
  have hi:i < l'.length:=by
   rcases Nat.lt_or_ge i l'.length with h'|h'
   ·exact h'
   ·rw [List.getElem?_eq_none h'] at ha;cases ha
  rw [← cL ha]
  exact h i (by omega) E v (hh i _ v (yZ (by omega)) hv)
theorem tR {l l2:List AV} {vs:Array Value} {a a2:AV} (h:WkV a2 a) (F:FR E (a::l) vs) (hr:∀ vs,FR E l vs->FR E l2 vs):FR E (a2::l2) vs:=by
 obtain ⟨vs⟩:=vs
 cases vs with
 | nil=>have:=F.1;simp at this
 | cons v vs =>
  have F1:FR E l vs.toArray:=⟨by have:=F.1;simp at this;simpa using this,fun i b w hb hw=>F.2 (i+1) b w (by simpa using hb) (by simpa using hw)⟩
  obtain ⟨q1,q2⟩:=hr _ F1
  refine ⟨by simp [q1],fun i b w hb hw=>?_⟩
  cases i with
  | zero=>simp at hb hw;subst hb hw;exact h E _ (F.2 0 a _ rfl (by simp))
  | succ i=>exact q2 i b w (by simpa using hb) (by simpa using hw)
/-! ### Leaves -/
def iA:AV->Int
 | .int _ n=>n
 | _=>0
def bA:AV->Bool
 | .bool b=>b
 | _=>false
def sA:AV->ByteArray
 | .str s=>s
 | _=>ByteArray.empty
def lA {α:Type} (g:(Nat->AV)->α):AV->List α
 | .ro _ n _ c=>deR g n c
 | _=>[]
def iK (k:IntKind):AV->Prop
 | .int k' _=>k'=k
 | _=>False
def bK:AV->Prop
 | .bool _=>True
 | _=>False
def sK:AV->Prop
 | .str _=>True
 | _=>False
def Fit (k:(Nat->AV)->Prop) (n:Nat) (c:Nat->Nat->AV):Prop:=∀ x,x < n->k (c x)
def lK (k:(Nat->AV)->Prop) (es:Nat):AV->Prop
 | .ro es' n _ c=>(n=0 ∨ es'=es)/\Fit k n c
 | _=>False
theorem yB {k:IntKind} {a:AV} (h:iK k a):WkV (.int k (iA a)) a/\nref (AV.int k (iA a)):=by
 cases a<;>simp only [iK] at h
 subst h
 exact ⟨WkV_refl _,by simp only [nref]⟩
theorem vY {a:AV} (h:bK a):WkV (.bool (bA a)) a/\nref (AV.bool (bA a)):=by
 cases a<;>simp only [bK] at h
 exact ⟨WkV_refl _,by simp only [nref]⟩
theorem lK_wk {α:Type} [Inhabited α] {f:α->List AV} {g:(Nat->AV)->α} {k:(Nat->AV)->Prop} {es:Nat} (hw:∀ r,k r->∀ y,y < es->WkV (zL (f (g r)) y) (r y)/\nref (zL (f (g r)) y)) {a:AV} (h:lK k es a) (hu:∀ q,zL (f q) es = .top:=by intro q;rfl) :
  WkV (.ro es (lA g a).length false (enR f (lA g a))) a/\nref (AV.ro es (lA g a).length false (enR f (lA g a))):=by
 cases a<;>simp only [lK] at h
 rename_i es' n nl c
 refine ⟨?_,by simp only [nref]⟩
 simp only [lA,deR_length]
 by_cases h0:n=0
 ·subst h0;exact ro_wk0
 ·obtain ⟨h1,h2⟩:=h
  rcases h1 with h1|h1
  ·exact absurd h1 h0
  ·subst h1
   refine ro_wk (fun x y hx hy=>?_) (fun f=>absurd f (enR_nf hu))
   have:=hw _ (h2 x hx) y hy
   simp only [enR,deR_get hx]
   exact this
theorem wN {α:Type} [Inhabited α] {f:α->List AV} {k:(Nat->AV)->Prop} {n:Nat} {l:List α} (h:∀ a,k (zL (f a))):Fit k n (enR f l):=fun x _=>h _
def aL:AV->Nat->AV
 | .agg l=>zL l
 | _=>fun _=>.top
def aK (z:Nat) (k:(Nat->AV)->Prop):AV->Prop
 | .agg l=>l.length=z/\k (zL l)
 | _=>False
theorem aK_wk {α:Type} {f:α->List AV} {g:(Nat->AV)->α} {k:(Nat->AV)->Prop} {z:Nat} {v:AV} (hw:∀ r,k r->∀ y,y < z->WkV (zL (f (g r)) y) (r y)/\nref (zL (f (g r)) y)) (hz:(f (g (aL v))).length=z) (hn:zX (f (g (aL v)))) (h:aK z k v) :
  WkV (.agg (f (g (aL v)))) v/\nref (.agg (f (g (aL v)))):=by
 cases v<;>simp only [aK] at h
 rename_i l
 obtain ⟨h1,h2⟩:=h
 refine ⟨agg_wk (by rw [hz,h1]) fun i hi=>(hw _ h2 i (by omega)).1,by simp only [nref];exact hn⟩
def LW (l2 l:List AV):Prop:=l2.length=l.length/\∀ i,i < l.length->WkV (zL l2 i) (zL l i)
theorem LW_nil:LW [] []:=⟨rfl,fun i hi=>by simp at hi⟩
theorem LW_cons {a a2:AV} {l l2:List AV} (h:WkV a2 a) (hl:LW l2 l):LW (a2::l2) (a::l):=⟨by simp [hl.1],fun i hi=>by
 cases i with
 | zero=>exact h
 | succ i=>exact hl.2 i (by simpa using hi)⟩
theorem fn_wk {f:FuncId} {l l2:List AV} (h:LW l2 l):WkV (.fn f l2) (.fn f l):=fun E u hv=>by
 cases hv with
 | fn _ _ vs hl hh =>
  refine .fn f l2 vs (h.1.trans hl) fun i a v ha hv=>?_
  have hi:i < l2.length:=by
   rcases Nat.lt_or_ge i l2.length with h'|h'
   ·exact h'
   ·rw [List.getElem?_eq_none h'] at ha;cases ha
  rw [← cL ha]
  exact h.2 i (by have:=h.1;omega) E v (hh i _ v (yZ (by have:=h.1;omega)) hv)
def rG:AV->Nat->AV
 | .rptr _ _ i j c=>fun y=>c i (j+y)
 | _=>fun _=>.top
def rK (z:Nat) (k:(Nat->AV)->Prop):AV->Prop
 | .rptr es n i j c=>i < n/\j+z <= es/\k (fun y=>c i (j+y))
 | _=>False
theorem rK_wk {α:Type} [Inhabited α] {f:α->List AV} {g:(Nat->AV)->α} {k:(Nat->AV)->Prop} {z:Nat} {v:AV} (hw:∀ r,k r->∀ y,y < z->WkV (zL (f (g r)) y) (r y)/\nref (zL (f (g r)) y)) (h:rK z k v) (hq:∀ q,zL (f q) z = .top:=by intro q;rfl) :
  WkV (.rptr z 1 0 0 (enR f [g (rG v)])) v/\nref (.rptr z 1 0 0 (enR f [g (rG v)])):=by
 cases v<;>simp only [rK] at h
 rename_i es n i j c
 obtain ⟨h1,h2,h3⟩:=h
 refine ⟨fun E u hv=>?_,by simp only [nref]⟩
 cases hv with
 | rptr _ _ _ _ k' o _ us hp hu h1' hc hrf =>
  rw [show o+i * es+j=(o+i * es+j)+0 * z+0 from by omega]
  have hcell:∀ y,y < z->zL (f (g (rG (.rptr es n i j c)))) y=zL (f (g (fun y=>c i (j+y)))) y:=fun y _=>rfl
  refine .rptr z 1 0 0 k' (o+i * es+j) _ (fun _ y=>us i (j+y)) ⟨hp.1,fun f=>absurd f (enR_nf hq)⟩ (fun x y hx hy=>?_) (fun x y hx hy=>h1' i (j+y) h1 (by omega)) (fun x y hx hy=>?_) (fun x y hx hy=>?_)
  ·have:=hu i (j+y) h1 (by omega)
   rw [← this];congr 2
   obtain rfl:x=0:=by omega
   omega
  ·obtain rfl:x=0:=by omega
   exact (hw _ h3 y hy).1 E _ (hc i (j+y) h1 (by omega))
  ·obtain rfl:x=0:=by omega
   exact (hw _ h3 y hy).2
theorem gd_one {α:Type} [Inhabited α] {a:α}:gd [a] 0=a:=rfl
/-! ### Conditions -/
def inb (q:Int) (n:Nat):Bool:=decide (0 <= q) && decide (q < n)
theorem xD {q:Int} {n:Nat}:inb q n=true ↔ 0 <= q/\q < n/\q.toNat < n:=by
 simp only [inb,Bool.and_eq_true,decide_eq_true_eq];omega
def capb (by_ n:Nat):Bool:=decide ((n:Int) * by_ <= 140737488355328) && decide (n <= 140737488355328)
theorem capb_iff {by_ n:Nat}:capb by_ n=true ↔ (n:Int) * by_ <= 140737488355328/\n <= 140737488355328:=by
 simp only [capb,Bool.and_eq_true,decide_eq_true_eq]
def slb (lo hi:Int) (n:Nat):Bool:=decide (0 <= lo) && decide (lo <= hi) && decide (hi <= n)
theorem slb_iff {lo hi:Int} {n:Nat}:slb lo hi n=true ↔ 0 <= lo/\lo <= hi/\hi <= n:=by
 simp only [slb,Bool.and_eq_true,decide_eq_true_eq,and_assoc]
theorem bLe_iff {x y:Int}:bLe x y=true ↔ x <= y:=by simp [bLe]
/-! ### Own rows of typed lists -/
theorem vQ {α:Type} [Inhabited α] {f:α->List AV} (L M:List α) {es:Nat} {c d:Nat->Nat->AV} (h1:∀ x y,x < L.length->y < es->enR f L x y=c x y) (h2:∀ x y,x < M.length->y < es->enR f M x y=d x y) :
  ∀ x y,x < (L ++ M).length->y < es->enR f (L ++ M) x y=kD L.length c d x y:=by
 intro x y hx hy
 rw [List.length_append] at hx
 simp only [kD]
 split
 ·rename_i h
  rw [← h1 x y h hy]
  simp only [enR,kX h]
 ·rename_i h
  rw [← h2 (x - L.length) y (by omega) hy]
  simp only [enR,gK (show L.length <= x by omega)]
theorem xR {α:Type} [Inhabited α] {f:α->List AV} {es:Nat} (L:List α) {l:List AV} (hz:∀ a ∈ L,(f a).length=es) (hl:l=L.flatMap f):∀ x y,x < L.length->y < es->enR f L x y=cP es l x y:=by
 subst hl
 induction L with
 | nil=>intro x y hx;simp at hx
 | cons a L ih =>
  intro x y hx hy
  have ha:=hz a (List.mem_cons_self ..)
  have gapp:∀ (u v:List AV) (k:Nat),zL (u ++ v) (u.length+k)=zL v k:=by
   intro u v k
   induction u with
   | nil=>simp
   | cons b u ih=>rw [show (b::u).length+k=(u.length+k)+1 from by simp;omega];simpa [zL] using ih
  have glt:∀ (u v:List AV) (k:Nat),k < u.length->zL (u ++ v) k=zL u k:=by
   intro u v k hk
   induction u generalizing k with
   | nil=>simp at hk
   | cons b u ih=>cases k with
    | zero=>rfl
    | succ k=>simpa [zL] using ih k (by simpa using hk)
  cases x with
  | zero =>
   simp only [enR,cP,List.flatMap_cons,Nat.zero_mul,Nat.zero_add]
   rw [glt _ _ _ (by omega)]
   rfl
  | succ x =>
   have:=ih (fun b hb=>hz b (List.mem_cons_of_mem _ hb)) x y (by simpa using hx) hy
   simp only [enR,cP,List.flatMap_cons] at this ⊢
   rw [show (x+1) * es+y=(f a).length+(x * es+y) from by rw [ha,Nat.add_mul];omega,gapp,← this]
   rfl
theorem wC {l:List AV} (h:zX l) (y:Nat):nref (zL l y):=zR h y
theorem zW {α:Type} [Inhabited α] {f:α->List AV} {μ:Mu} {e es n:Nat} {m:Nat} {L:List α} {c:Nat->Nat->AV} (hr:∀ a,zX (f a)) (hn:L.length=n) (h:∀ x y,x < L.length->y < es->enR f L x y=c x y) :
  CvB μ (.row e es L.length (enR f L)) (some m) (.row e es n c):=by
 simp only [CvB]
 refine ⟨trivial,trivial,Nat.le_of_eq hn,fun x y hx hy=>?_⟩
 rw [← h x y hx hy]
 exact yJ _ (wC (hr _) y)
theorem qU {α:Type} [Inhabited α] {f:α->List AV} {μ:Mu} {e es:Nat} {b:ABlk}:CvB μ (.row e es ([]:List α).length (enR f [])) none b:=by
 cases b<;>simp only [CvB,List.length_nil]
theorem zH {μ:Mu} {m:Option Nat} {b:ABlk}:CvB μ .dead m b:=by cases b<;>simp only [CvB]
theorem vT {α:Type} [Inhabited α] {f:α->List AV} {μ:Mu} {es n:Nat} {nl:Bool} {L:List α} {c:Nat->Nat->AV} (hn:L.length=n) (h:∀ x y,x < L.length->y < es->enR f L x y=c x y) (hu:(∀ q,zL (f q) es = .top) ∨ Fl es c:=by first|exact .inl (fun q=>rfl)|exact .inr ⟨0,rfl⟩):Cv μ (.ro es L.length false (enR f L)) (.ro es n nl c):=by
 simp only [Cv]
 exact ⟨.inr trivial,hn,(fun h=>by cases h),.inr fun f=>hu.elim (fun u=>absurd f (enR_nf u)) id,h⟩
theorem g_iff {g b:Bool}:(bif g then b else true)=true ↔ (g=true->b=true):=by cases g<;>simp
theorem xH {α:Type} {c:Bool} {A B:Option α} {x:α} (h:c=true) (H:(bif c then A else B)=some x):A=some x:=by rw [h] at H;exact H
theorem yM {α:Type} {c:Bool} {A B:Option α} {x:α} (h:c=false) (H:(bif c then A else B)=some x):B=some x:=by rw [h] at H;exact H
theorem yX {c:Operand} {x y:Code} {K:Kt} {t:List AV} {b:Bool} (hr:rho t c = .bool b) (ho:og t c) (h1:b=true->Mean P x K t h) (h2:b=false->Mean P y K t h):Mean P (.cond c x y) K t h:=by
 intro E a Q H F hd hQ
 have hv:=zS F ho
 rw [hr] at hv
 have hv:=qV hv
 cases b with
 | true=>exact wp_cond_true hv (h1 rfl E a Q H F hd hQ)
 | false=>exact wp_cond_false hv (h2 rfl E a Q H F hd hQ)
theorem condM' {c:Operand} {x y:Code} {K:Kt} {t:List AV} {b:Bool} (hr:rho t c = .bool b) (ho:og t c) (h2:b=false->Mean P y K t h) (h1:b=true->Mean P x K t h):Mean P (.cond c x y) K t h:=yX hr ho h1 h2
theorem qC {μ:Mu} {l l':List AV} (h:CvL μ l l'):Cv μ (.tup l) (.tup l'):=by simp only [Cv];exact h
theorem qB {μ:Mu} {l l':List AV} (h:CvL μ l l'):Cv μ (.agg l) (.agg l'):=by simp only [Cv];exact h
theorem xO {μ:Mu}:CvL μ [] []:=by simp only [CvL]
theorem zM {μ:Mu} {a b:AV} {l m:List AV} (h1:Cv μ a b) (h2:CvL μ l m):CvL μ (a::l) (b::m):=by simp only [CvL];exact ⟨h1,h2⟩
theorem Cv_nf {μ:Mu} {a:AV} (h:nref a):Cv μ a a:=yJ a h
theorem xF {μ:Mu} {k:IntKind} {n:Int}:Cv μ (.int k n) (.int k n):=by simp only [Cv,and_self]
theorem Cv_bool {μ:Mu} {b:Bool}:Cv μ (.bool b) (.bool b):=by simp only [Cv]
theorem yV {α:Type} {μ:Mu} {es es':Nat} {nl:Bool} {c c':Nat->Nat->AV}:Cv μ (.ro es ([]:List α).length false c) (.ro es' 0 nl c'):=by
 simp only [Cv,List.length_nil]
 exact ⟨.inl trivial,trivial,(fun h=>by cases h),.inl trivial,fun x y hx=>by omega⟩
mutual
theorem nr_nref {n:Nat}:∀ {a:AV},nref a->nr n a
 | .top,_=>by simp only [nr]
 | .bool _,_=>by simp only [nr]
 | .int _ _,_=>by simp only [nr]
 | .str _,_=>by simp only [nr]
 | .nilp,_=>by simp only [nr]
 | .ptr _ _ _ _,h=>by simp only [nref] at h
 | .rptr _ _ _ _ _,_=>by simp only [nr]
 | .sl _ _ _ _ _,h=>by simp only [nref] at h
 | .isl _ _ _ _ _ _,h=>by simp only [nref] at h
 | .csl _ _ _ _ _,h=>by simp only [nref] at h
 | .ro _ _ _ _,_=>by simp only [nr]
 | .emp,_=>by simp only [nr]
 | .agg l,h=>by simp only [nr];exact nrL_nref (by simpa only [nref] using h)
 | .tup l,h=>by simp only [nr];exact nrL_nref (by simpa only [nref] using h)
 | .fn _ l,h=>by simp only [nr];exact nrL_nref (by simpa only [nref] using h)
 | .mfn _ l,h=>by simp only [nr];exact nrL_nref (by simpa only [nref] using h)
 | .nilf,_=>by simp only [nr]
 | .opt _ v,h=>by simp only [nr];exact nr_nref (by simpa only [nref] using h)
 | .ub,_=>by simp only [nr]
 | .val _,_=>by simp only [nr]
 | .mp _,_=>by simp only [nr]
theorem nrL_nref {n:Nat}:∀ {l:List AV},zX l->nrL n l
 | [],_=>by simp only [nrL]
 | a::l,h=>by simp only [zX] at h;simp only [nrL];exact ⟨nr_nref h.1,nrL_nref h.2⟩
end
theorem nrR_en {α:Type} [Inhabited α] {n x y:Nat} {f:α->List AV} {L:List α} (h:∀ a,zX (f a)):nr n (enR f L x y):=nr_nref (zR (h _) _)
theorem cY {α:Type} [Inhabited α] {f:α->List AV} (L:List α) (i j:Nat) (a:α) {es:Nat} {c:Nat->Nat->AV} {vs:List AV} (h1:∀ x y,x < L.length->y < es->enR f L x y=c x y)
  (hv:∀ y,y < es->zL (f a) y=if j <= y/\y < j+vs.length then zL vs (y - j) else zL (f (gd L i)) y):∀ x y,x < (L.set i a).length->y < es->enR f (L.set i a) x y=upc c i j vs x y:=by
 intro x y hx hy
 rw [List.length_set] at hx
 simp only [upc]
 by_cases hxi:x=i
 ·subst hxi
  have hg:gd (L.set x a) x=a:=by simp [gd,hx]
  simp only [enR,hg,true_and]
  rw [hv y hy]
  split
  ·rfl
  ·rw [← h1 x y hx hy];rfl
 ·have hg:gd (L.set i a) x=gd L x:=by simp [gd,List.getElem?_set_ne (Ne.symm hxi)]
  rw [if_neg (by rintro ⟨h,_⟩;exact hxi h),← h1 x y hx hy]
  simp only [enR,hg]
theorem nfR_upc {c:Nat->Nat->AV} {i j x y:Nat} {vs:List AV} (h1:∀ x y,nref (c x y)) (h2:zX vs):nref (upc c i j vs x y):=by
 simp only [upc];split
 ·exact zR h2 _
 ·exact h1 _ _
theorem nfR_lit {z x y:Nat} {l:List AV} (h:zX l):nref (cP z l x y):=zR h _
theorem nfR_en {α:Type} [Inhabited α] {x y:Nat} {f:α->List AV} {L:List α} (h:∀ a,zX (f a)):nref (enR f L x y):=zR (h _) _
theorem nfR_app {k x y:Nat} {c d:Nat->Nat->AV} (h1:∀ x y,nref (c x y)) (h2:∀ x y,nref (d x y)):nref (kD k c d x y):=by
 simp only [kD];split
 ·exact h1 _ _
 ·exact h2 _ _
theorem nilR_t {n:Nat}:nilR n true=some true:=rfl
theorem nilR_0:nilR 0 false=none:=rfl
theorem nilR_s {n:Nat}:nilR (n+1) false=some false:=rfl
theorem nilR_isEmpty {α:Type} {l:List α}:nilR l.length l.isEmpty=some l.isEmpty:=by cases l<;>rfl
theorem genC_eq (body:List AV->Nat->AR) (l:List AV) (h:List ABlk):xN body l h=genR (zX l) h (body l h.length):=rfl
theorem dP {c:Nat->Nat->AV}:wL 0 c=c:=by funext x y;simp [wL]
theorem sub_enR {α:Type} [Inhabited α] {f:α->List AV} {l:List α} {k:Nat}:wL k (enR f l)=enR f (l.drop k):=by
 funext x y
 simp [wL,enR,gd]
end Go.Am

namespace Go.Am
set_option linter.unusedVariables false
section
variable {H:Type} {enc:TypeId × Value->H} {P:Program} {w:World} {spare:Nat->Bool} {held:Bool} {fuel:Nat} {t:TypeId} {cs:List Value} {x:DataW H × List MemPlace}

def Cells (w:World) (f:List AV) (z:Nat) (cs:List Value):Prop:=cs.length=z/\∀ y,y < z->∃ v,cs[y]? = some v/\v.oneCell'=true/\VR (top w) (zL f y) v/\nref (zL f y)
theorem Cells_one {a:AV} {v:Value} (h1:v.oneCell'=true) (h2:VR (top w) a v) (h3:nref a):Cells w [a] 1 [v]:=⟨rfl,fun y hy=>by
 obtain rfl:y=0:=by omega
 exact ⟨v,rfl,h1,h2,h3⟩⟩
theorem op_int {k:IntKind} (hu:P.underlying t=some (.int k)) (h:DataW.trod enc P w 0 spare held fuel t cs=some x):∃ n:Int,Cells w [.int k n] 1 cs/\(Lit.int k n).wf=true:=by
 obtain ⟨n,rfl,_,hw⟩:=DataW.trod_int hu h
 exact ⟨n,Cells_one rfl (.int _ _) (by simp only [nref]),hw⟩
theorem op_bool (hu:P.underlying t=some .bool) (h:DataW.trod enc P w 0 spare held fuel t cs=some x):∃ b:Bool,Cells w [.bool b] 1 cs:=by
 obtain ⟨b,rfl,_⟩:=DataW.trod_bool hu h
 exact ⟨b,Cells_one rfl (.bool _) (by simp only [nref])⟩
theorem op_slice {α:Type} [Inhabited α] {f:α->List AV} {R:α->Prop} {e:TypeId} {z:Nat} (hz0:0 < z) (hu:P.underlying t=some (.slice e)) (hz:P.cellsOf e=z)
  (he:∀ {fuel:Nat} {cs:List Value} {x:DataW H × List MemPlace},DataW.trod enc P w 0 spare held fuel e cs=some x->∃ a,Cells w (f a) z cs/\R a)
  (h:DataW.trod enc P w 0 spare held fuel t cs=some x) (hq:∀ q,zL (f q) z = .top:=by intro q;rfl):∃ l:List α,Cells w [.ro z l.length false (enR f l)] 1 cs/\l.length <= maxLen/\∀ a ∈ l,R a:=by
 subst hz
 rcases DataW.trod_slice hu h with ⟨rfl,_⟩|⟨a,len,cap,elems,rest,n,_,rfl,_,_,hl,hm,hlen,hi,_,_⟩
 ·exact ⟨[],Cells_one rfl (.ro _ 0 false _ none 0 (Nat.le_refl _) (by decide) (fun h=>by cases h) (zrN fun _=>rfl) (fun _ _=>undef) (fun h=>absurd h (by omega)) (fun x y hx=>absurd hx (by omega)) (fun x y hx=>absurd hx (by omega)) fun x y hx=>absurd hx (by omega)) (by simp only [nref]),by simp,fun a ha=>by simp at ha⟩
 ·have key:∀ i,i < len->∃ (q:α) (cs:List Value),w.cells? 0 (a.add (i * P.cellsOf e)) (P.cellsOf e)=some cs/\Cells w (f q) (P.cellsOf e) cs/\R q:=by
   intro i hil
   have h2:=hi i hil
   rw [List.getElem?_eq_getElem (by omega)] at h2
   obtain ⟨cs,hcs,ht⟩:=Option.bind_eq_some_iff.mp h2
   obtain ⟨q,c1,c2⟩:=he ht
   exact ⟨q,cs,hcs,c1,c2⟩
  let g:Nat->α:=fun i=>if hh:i < len then (key i hh).choose else default
  have hg:∀ i (hh:i < len),∃ cs,w.cells? 0 (a.add (i * P.cellsOf e)) (P.cellsOf e)=some cs/\Cells w (f (g i)) (P.cellsOf e) cs/\R (g i):=by
   intro i hh
   have:g i=(key i hh).choose:=dif_pos hh
   rw [this]
   exact (key i hh).choose_spec
  have hgd:∀ i,i < len->gd ((List.range len).map g) i=g i:=fun i hh=>by simp [gd,hh]
  refine ⟨(List.range len).map g,?_,by simp;omega,fun q hq=>?_⟩
  ·refine Cells_one rfl ?_ (by simp only [nref])
   rw [List.length_map,List.length_range]
   by_cases h0:len=0
   ·subst h0
    exact .ro _ 0 false _ (some a) cap hl hm (fun h=>by cases h) (zrN fun h=>by cases h) (fun _ _=>undef) (fun h=>absurd h (by omega)) (fun x y hx=>absurd hx (by omega)) (fun x y hx=>absurd hx (by omega)) fun x y hx=>absurd hx (by omega)
   have hsp:a.spot=none:=by
    obtain ⟨cs,c1,c2,_⟩:=hg 0 (by omega)
    obtain ⟨v,v1,_⟩:=c2.2 0 hz0
    have:=(World.cells?_some c1).2.2 0 hz0
    rw [v1] at this
    have:=World.cell?_spot this
    simpa [Addr.add] using this
   obtain ⟨b,o,sp⟩:=a
   simp only at hsp
   subst hsp
   have cell:∀ x y,x < len->y < P.cellsOf e->∃ v,w.cell? ⟨b,o+x * P.cellsOf e+y,none⟩=some v/\v.oneCell'=true/\VR (top w) (zL (f (g x)) y) v/\nref (zL (f (g x)) y):=by
    intro x y hx hy
    obtain ⟨cs,c1,c2,_⟩:=hg x hx
    obtain ⟨v,v1,v2,v3,v4⟩:=c2.2 y hy
    have:=(World.cells?_some c1).2.2 y hy
    rw [v1,Addr.add_lit,Addr.add_lit] at this
    exact ⟨v,this,v2,v3,v4⟩
   have hb:b < w.heap.size:=by
    obtain ⟨cs,c1,_⟩:=hg 0 (by omega)
    have hbl:=World.cells?_block c1 hz0
    unfold Addr.add at hbl;split at hbl<;>exact hbl
   refine .ro _ len false _ (some ⟨b,o,none⟩) cap hl hm (fun h=>by cases h) (zrU (fun h=>by cases h) (enR_nf hq)) (fun x y=>(w.cell? ⟨b,o+x * P.cellsOf e+y,none⟩).getD undef) (fun _=>⟨b,o,rfl,hb,fun x y hx hy=>?_⟩) (fun x y hx hy=>?_) (fun x y hx hy=>?_) (fun x y hx hy=>?_)
   ·obtain ⟨v,h1,_⟩:=cell x y hx hy
    rw [show (top w).w=w from rfl,h1];rfl
   ·obtain ⟨v,h1,h2,_⟩:=cell x y hx hy
    rw [h1];exact h2
   ·obtain ⟨v,h1,_,h3,_⟩:=cell x y hx hy
    rw [h1]
    show VR (top w) (zL (f (gd _ x)) y) v
    rw [hgd x hx];exact h3
   ·obtain ⟨v,_,_,_,h4⟩:=cell x y hx hy
    show nref (zL (f (gd _ x)) y)
    rw [hgd x hx];exact h4
  ·rw [List.mem_map] at hq
   obtain ⟨i,hi',rfl⟩:=hq
   obtain ⟨cs,_,_,h3⟩:=hg i (List.mem_range.1 hi')
   exact h3
theorem zF {f:List AV} {off z y:Nat} (h:Cells w f z ((cs.drop off).take z)) (hy:y < z):∃ v,cs[off+y]? = some v/\v.oneCell'=true/\VR (top w) (zL f y) v/\nref (zL f y):=by
 obtain ⟨v,h1,h2⟩:=h.2 y hy
 refine ⟨v,?_,h2⟩
 rw [List.getElem?_take] at h1
 split at h1
 ·rw [List.getElem?_drop] at h1;exact h1
 ·rename_i hn;exact absurd hy hn
theorem Cells_agg {f:List AV} {z:Nat} {vs:Array Value} (h:Cells w f z vs.toList) (hl:f.length=z):VR (top w) (.agg f) (.agg vs):=by
 obtain ⟨h1,h2⟩:=h
 have hs:vs.size=z:=by simpa using h1
 refine .agg f vs (hl.trans hs.symm) (fun i v hv=>?_) fun i a v ha hv=>?_
 ·have hi:i < z:=by
   rcases Nat.lt_or_ge i vs.size with h'|h'
   ·omega
   ·rw [Array.getElem?_eq_none h'] at hv;cases hv
  obtain ⟨u,u1,u2,_⟩:=h2 i hi
  rw [Array.getElem?_toList,hv] at u1
  cases u1;exact u2
 ·have hi:i < z:=by
   rcases Nat.lt_or_ge i vs.size with h'|h'
   ·omega
   ·rw [Array.getElem?_eq_none h'] at hv;cases hv
  obtain ⟨u,u1,_,u3,_⟩:=h2 i hi
  rw [Array.getElem?_toList,hv] at u1
  cases u1
  rw [← cL ha];exact u3
end
mutual
theorem roOb_nref {h:List ABlk}:∀ {a:AV},nref a->wU h a
 | .top,_=>by simp only [wU]
 | .bool _,_=>by simp only [wU]
 | .int _ _,_=>by simp only [wU]
 | .str _,_=>by simp only [wU]
 | .nilp,_=>by simp only [wU]
 | .ptr _ _ _ _,h=>by simp only [nref] at h
 | .rptr _ _ _ _ _,_=>by simp only [wU]
 | .sl _ _ _ _ _,h=>by simp only [nref] at h
 | .isl _ _ _ _ _ _,h=>by simp only [nref] at h
 | .csl _ _ _ _ _,h=>by simp only [nref] at h
 | .ro _ _ _ _,_=>by simp only [wU]
 | .emp,_=>by simp only [wU]
 | .agg l,h=>by simp only [wU];exact fJ (by simpa only [nref] using h)
 | .tup l,h=>by simp only [wU];exact fJ (by simpa only [nref] using h)
 | .fn _ l,h=>by simp only [wU];exact fJ (by simpa only [nref] using h)
 | .mfn _ l,h=>by simp only [wU];exact fJ (by simpa only [nref] using h)
 | .nilf,_=>by simp only [wU]
 | .opt _ v,h=>by simp only [wU];simpa only [nref] using h
 | .ub,_=>by simp only [wU]
 | .val _,_=>by simp only [wU]
 | .mp _,_=>by simp only [wU]
theorem fJ {h:List ABlk}:∀ {l:List AV},zX l->jN h l
 | [],_=>by simp only [jN]
 | a::l,h=>by simp only [zX] at h;simp only [jN];exact ⟨roOb_nref h.1,fJ h.2⟩
end
section
variable {P:Program}
end
end Go.Am

namespace Go.Am
set_option linter.unusedVariables false
theorem rnN_0 (s:Nat):rnN 0 s 0=s:=by simp [rnN]
theorem rnN_s (s k:Nat):rnN 0 s (k+1)=s+(k+1):=by simp [rnN]
theorem gO {α:Type} [Inhabited α] {s e es n:Nat} {f:α->List AV} {L:List α} (hr:∀ a,zX (f a)):RenB s (.row e es n (enR f L)) (.row e es n (enR f L)) :=
 ⟨rfl,rfl,rfl,fun x y _ _=>dJ _ (nfR_en hr)⟩
theorem CvB_row0 {α:Type} [Inhabited α] {f:α->List AV} {μ:Mu} {e es:Nat} {m:Option Nat} {c:Nat->Nat->AV} (hr:∀ a,zX (f a)) :
  CvB μ (.row e es ([]:List α).length (enR f [])) m (.row e es 0 c):=by
 cases m with
 | none=>exact qU
 | some m=>exact zW (L:=[]) hr rfl (fun x y hx=>by simp at hx)

/-! ### Delete, Insert at any content -/
variable {P:Program} {E:Env} {h:List ABlk}
theorem eD {b e es n:Nat} {c:Nat->Nat->AV} (hB:BR E b (.row e es n c)) :
  ∃ cv:Nat->Nat->AV,BR E b (.row e es n cv)/\(∀ x y,flatA (cv x y))/\∀ x y,x < n->y < es->∀ E' v,VR E' (cv x y) v->VR E (c x y) v:=by
 classical
 unfold BR at hB
 cases hs:E.σ b with
 | none =>
  rw [hs] at hB
  subst hB
  exact ⟨fun _ _=>.top,by unfold BR;rw [hs],fun x y=>by simp [flatA,nref,noro],fun x y hx=>by omega⟩
 | some p =>
  rw [hs] at hB
  obtain ⟨cs,h1,h2,h3⟩:=hB
  let cv:Nat->Nat->AV:=fun x y=>if hq:x < n/\y < es then .val (Classical.choose (h3 x y hq.1 hq.2)) else .top
  refine ⟨cv,?_,fun x y=>?_,fun x y hx hy E' v hv=>?_⟩
  ·unfold BR
   rw [hs]
   refine ⟨cs,h1,h2,fun x y hx hy=>?_⟩
   obtain ⟨q1,q2,q3⟩:=Classical.choose_spec (h3 x y hx hy)
   refine ⟨_,q1,q2,?_⟩
   simp only [cv,dif_pos (And.intro hx hy)]
   exact .val _ q2
  ·simp only [cv]
   split<;>simp [flatA,nref,noro]
  ·simp only [cv,dif_pos (And.intro hx hy)] at hv
   obtain ⟨q1,q2,q3⟩:=Classical.choose_spec (h3 x y hx hy)
   cases hv
   exact q3
theorem BR_back {E':Env} (K:Keep E E') {b e es n:Nat} {c cv:Nat->Nat->AV} (hB:BR E' b (.row e es n cv)) (hcv:∀ x y,x < n->y < es->∀ v,VR E' (cv x y) v->VR E (c x y) v):BR E' b (.row e es n c):=by
 unfold BR at hB ⊢
 cases hs:E'.σ b with
 | none=>rw [hs] at hB;exact hB
 | some p =>
  rw [hs] at hB
  obtain ⟨cs,h1,h2,h3⟩:=hB
  exact ⟨cs,h1,h2,fun x y hx hy=>by obtain ⟨v,q1,q2,q3⟩:=h3 x y hx hy;exact ⟨v,q1,q2,(hcv x y hx hy v q3).mono K⟩⟩
theorem seth_get' (h:List ABlk) (b i:Nat) (x:ABlk):(seth h b x)[i]? = if b=i/\b < h.length then some x else h[i]?:=by
 rw [wK,List.getElem?_set]
 by_cases hb:b=i
 ·subst hb
  by_cases hl:b < h.length
  ·simp [hl]
  ·simp [hl]
 ·simp [hb]
theorem HR_put (H:HR E h) {b:Nat} {x:ABlk} (hg:geth h b ≠ .dead) (hB:BR E b x):HR E (seth h b x):=by
 have hl:=gA hg
 have hgs:=zP hg
 have back:∀ {i:Nat} {y:ABlk},(seth h b x)[i]? = some y->y ≠ .dead->∃ y',h[i]? = some y'/\y' ≠ .dead:=by
  intro i y hi hy
  rw [seth_get'] at hi
  split at hi
  ·rename_i hq;obtain ⟨rfl,_⟩:=hq;exact ⟨_,hgs,hg⟩
  ·exact ⟨y,hi,hy⟩
 refine ⟨fun i y hi=>?_,fun i j y z k o o' h1 h2 h3 h4 h5 h6=>?_,fun k hk=>?_,fun i hi=>H.fresh i (by rwa [wF] at hi),H.lo⟩
 ·rw [seth_get'] at hi
  split at hi
  ·rename_i hq;obtain ⟨rfl,_⟩:=hq;injection hi with hi;subst hi;exact hB
  ·exact H.blk i y hi
 ·obtain ⟨y',a1,a2⟩:=back h1 h2
  obtain ⟨z',b1,b2⟩:=back h3 h4
  exact H.inj i j y' z' k o o' a1 a2 b1 b2 h5 h6
 ·obtain ⟨p1,p2⟩:=H.prot k hk
  refine ⟨p1,?_⟩
  rintro ⟨i,y,o,q1,q2,q3⟩
  obtain ⟨y',a1,a2⟩:=back q1 q2
  exact p2 ⟨i,y',o,a1,a2,q3⟩
theorem Ret_back {h1 h' h1':List ABlk} {v:AV} {e:Ending} {w:World} (H:HR E h1) (hlen:h1.length=h.length) (hlen':h1'.length=h'.length)
  (hnd:∀ (i:Nat) (x:ABlk),h1[i]? = some x->x ≠ .dead->∃ x',h[i]? = some x'/\x' ≠ .dead)
  (hb:∀ (i:Nat) (x:ABlk),h'[i]? = some x->x ≠ .dead->∃ x1,h1'[i]? = some x1/\x1 ≠ .dead/\∀ E',Keep E E'->BR E' i x1->BR E' i x)
  (R:Ret E h1 h1' v e w):Ret E h h' v e w:=by
 obtain ⟨u,E',r1,r2,X,H',V⟩:=R
 have K:=X.keep H
 have own1:∀ k,Own E h1 k->Own E h k:=by
  rintro k ⟨i,x,o,q1,q2,q3⟩
  obtain ⟨x',a1,a2⟩:=hnd i x q1 q2
  exact ⟨i,x',o,a1,a2,q3⟩
 have own2:∀ k,Own E' h' k->Own E' h1' k:=by
  rintro k ⟨i,x,o,q1,q2,q3⟩
  obtain ⟨x',a1,a2,_⟩:=hb i x q1 q2
  exact ⟨i,x',o,a1,a2,q3⟩
 refine ⟨u,E',r1,r2,⟨X.os,X.tape,X.output,X.σ,X.prot,X.size,X.kind,fun k hk hn=>X.frame k hk fun ho=>hn (own1 k ho),fun k ho=>(X.own k (own2 k ho)).imp (own1 k) id,by have:=X.len;omega,fun b hb=>X.old b (by omega),fun k hk=>?_,X.lo,X.wr⟩,⟨fun i x hi=>?_,fun i j y z k o o' q1 q2 q3 q4 q5 q6=>?_,fun k hk=>?_,fun i hi=>H'.fresh i (by omega),H'.lo⟩,V⟩
 ·rcases X.pro k hk with q|q|q
  ·exact .inl q
  ·exact .inr (.inl (own1 k q))
  ·exact .inr (.inr q)
 ·by_cases hd:x = .dead
  ·subst hd;trivial
  ·obtain ⟨x1,a1,a2,a3⟩:=hb i x hi hd
   exact a3 E' K (H'.blk i x1 a1)
 ·obtain ⟨y',a1,a2,_⟩:=hb i y q1 q2
  obtain ⟨z',b1,b2,_⟩:=hb j z q3 q4
  exact H'.inj i j y' z' k o o' a1 a2 b1 b2 q5 q6
 ·obtain ⟨p1,p2⟩:=H'.prot k hk
  exact ⟨p1,fun ho=>p2 (own2 k ho)⟩
def delN (e es:Nat) (l:List AV) (h:List ABlk):AR:=match l with
 | [.sl b es' i n _,.int .i64 p,.int .i64 q]=>match geth h b with
  | .row e' es2 N c=>.heap (0 <= p/\p < q/\q <= n/\e'=e/\es'=es/\es2=es/\i+n <= N) (.sl h.length es 0 (n - (q.toNat - p.toNat)) false) (seth h b .dead ++ [.row e es (n - (q.toNat - p.toNat)) (delA i p.toNat (q.toNat - p.toNat) c)])
  | _=>.fail
 | _=>.fail
def insN (e es:Nat) (l:List AV) (h:List ABlk):AR:=match l with
 | [.sl b es' i n _,.int .i64 p,.sl b2 es3 i2 m _]=>match geth h b with
  | .row e' es2 N c=>match geth h b2 with
   | .row _ es4 N2 d=>.heap (0 <= p/\p <= n/\n+m <= 1000000/\e'=e/\es'=es/\es2=es/\es3=es/\es4=es/\b2 ≠ b/\i+n <= N/\i2+m <= N2/\m=1)
     (.sl h.length es 0 (n+m) false) (seth h b .dead ++ [.row e es (n+m) (bN i p.toNat m c (wL i2 d))])
   | _=>.fail
  | _=>.fail
 | _=>.fail
theorem row_nd {e es n:Nat} {c:Nat->Nat->AV}:ABlk.row e es n c ≠ .dead:=by intro h;cases h
theorem delN_ok {f:FuncId} {e es:Nat} (ok:yU P f (delF e es)):yU P f (delN e es):=by
 refine ⟨ok.1,fun E h l vs ob v h' H F hr hob=>?_,fun E h l vs ob v H F hr hob=>?_⟩
 ·unfold delN at hr
  split at hr
  ·rename_i b es' i n nl p q
   split at hr
   ·rename_i e' es2 N c hb
    simp only [AR.out,Option.some.injEq,Prod.mk.injEq] at hr
    obtain ⟨rfl,rfl,rfl⟩:=hr
    obtain ⟨h0,h1,h2,rfl,rfl,rfl,h3⟩:=hob
    have hnd:geth h b ≠ .dead:=by rw [hb];exact row_nd
    have hl:=gA hnd
    have hB:=H.blk b _ (zP hnd)
    rw [hb] at hB
    obtain ⟨cv,g1,g2,g3⟩:=eD hB
    have H1:=HR_put H hnd g1
    obtain ⟨p,rfl⟩:=Int.eq_ofNat_of_zero_le h0
    obtain ⟨q,rfl⟩:=Int.eq_ofNat_of_zero_le (Int.le_of_lt (Int.lt_of_le_of_lt h0 h1))
    have hg1:geth (seth h b (.row e' es2 N cv)) b = .row e' es2 N cv:=geth_seth hl
    have hc:∃ ob v h9,(delF e' es2 [.sl b es2 i n nl,.int .i64 (.ofNat p),.int .i64 (.ofNat q)] (seth h b (.row e' es2 N cv))).out (seth h b (.row e' es2 N cv))=some (ob,v,h9)/\ob/\v = .sl h.length es2 0 (n - (q - p)) false/\h9=seth h b .dead ++ [.row e' es2 (n - (q - p)) (delA i p (q - p) cv)]:=by
     refine ⟨_,_,_,by simp only [delF,hg1,AR.out];rfl,?_,by rw [wF],by rw [seth_seth]⟩
     refine ⟨trivial,trivial,trivial,h3,by omega,by omega,fun x y _ _=>g2 x y⟩
    obtain ⟨ob,v,h9,c1,c2,rfl,rfl⟩:=hc
    refine (ok.2.1 E _ [.sl b es2 i n nl,.int .i64 (.ofNat p),.int .i64 (.ofNat q)] vs _ _ _ H1 F c1 c2).mono fun e1 w1 R=>Ret_back H1 wF (by simp [wF]) (fun i x hi hx=>?_) (fun i x hi hx=>?_) R
    ·rw [seth_get'] at hi
     split at hi
     ·rename_i hq;obtain ⟨rfl,_⟩:=hq;exact ⟨_,zP hnd,hnd⟩
     ·exact ⟨x,hi,hx⟩
    ·rcases getElem?_snoc hi with ⟨hl1,hi⟩|⟨rfl,rfl⟩
     ·exact ⟨x,by rw [List.getElem?_append_left hl1];exact hi,hx,fun E' _ hB=>hB⟩
     ·refine ⟨_,List.getElem?_concat_length,row_nd,fun E' K hB=>BR_back K hB fun x y hx hy v hv=>?_⟩
      simp only [Int.ofNat_eq_natCast,Int.toNat_natCast] at hx
      simp only [delA,Int.ofNat_eq_natCast,Int.toNat_natCast] at hv ⊢
      split
      ·rename_i hq;rw [if_pos hq] at hv;exact g3 _ _ (by omega) hy _ _ hv
      ·rename_i hq;rw [if_neg hq] at hv;exact g3 _ _ (by omega) hy _ _ hv
   ·cases hr
  ·cases hr
 ·exfalso
  unfold delN at hr
  split at hr
  ·split at hr<;>cases hr
  ·cases hr
theorem insN_ok {f:FuncId} {e es:Nat} (ok:yU P f (insF e es)):yU P f (insN e es):=by
 refine ⟨ok.1,fun E h l vs ob v h' H F hr hob=>?_,fun E h l vs ob v H F hr hob=>?_⟩
 ·unfold insN at hr
  split at hr
  ·rename_i b es' i n nl p b2 es3 i2 m nl2
   split at hr
   ·rename_i e' es2 N c hb
    split at hr
    ·rename_i e2 es4 N2 d hb2
     simp only [AR.out,Option.some.injEq,Prod.mk.injEq] at hr
     obtain ⟨rfl,rfl,rfl⟩:=hr
     obtain ⟨h0,h1,h2,rfl,rfl,rfl,rfl,rfl,hne,h3,h4,rfl⟩:=hob
     have hnd:geth h b ≠ .dead:=by rw [hb];exact row_nd
     have hnd2:geth h b2 ≠ .dead:=by rw [hb2];exact row_nd
     have hl:=gA hnd
     have hl2:=gA hnd2
     have hB:=H.blk b _ (zP hnd)
     have hB2:=H.blk b2 _ (zP hnd2)
     rw [hb] at hB
     rw [hb2] at hB2
     obtain ⟨cv,g1,g2,g3⟩:=eD hB
     obtain ⟨dv,k1,k2,k3⟩:=eD hB2
     have H0:=HR_put H hnd g1
     have hgb2:geth (seth h b (.row e' es4 N cv)) b2 = .row e2 es4 N2 d:=by rw [geth_seth_ne hne,hb2]
     have H1:=HR_put H0 (b:=b2) (by rw [hgb2];exact row_nd) k1
     obtain ⟨p,rfl⟩:=Int.eq_ofNat_of_zero_le h0
     have hg1:geth (seth (seth h b (.row e' es4 N cv)) b2 (.row e2 es4 N2 dv)) b = .row e' es4 N cv:=by rw [geth_seth_ne (Ne.symm hne),geth_seth hl]
     have hg2:geth (seth (seth h b (.row e' es4 N cv)) b2 (.row e2 es4 N2 dv)) b2 = .row e2 es4 N2 dv:=geth_seth (by rw [wF];exact hl2)
     have hc:∃ ob v h9,(insF e' es4 [.sl b es4 i n nl,.int .i64 (.ofNat p),.sl b2 es4 i2 1 nl2] (seth (seth h b (.row e' es4 N cv)) b2 (.row e2 es4 N2 dv))).out (seth (seth h b (.row e' es4 N cv)) b2 (.row e2 es4 N2 dv))=some (ob,v,h9)/\ob/\v = .sl h.length es4 0 (n+1) false /\
       h9=seth (seth (seth h b (.row e' es4 N cv)) b2 (.row e2 es4 N2 dv)) b .dead ++ [.row e' es4 (n+1) (bN i p 1 cv (wL i2 dv))]:=by
      refine ⟨_,_,_,by simp only [insF,hg1,hg2,AR.out];rfl,?_,by rw [wF,wF],rfl⟩
      refine ⟨trivial,trivial,trivial,trivial,trivial,hne,h3,h4,?_,trivial,h2,fun x y _ _=>g2 x y,fun x y _ _=>k2 x y⟩
      omega
     obtain ⟨ob,v,h9,c1,c2,rfl,rfl⟩:=hc
     refine (ok.2.1 E _ [.sl b es4 i n nl,.int .i64 (.ofNat p),.sl b2 es4 i2 1 nl2] vs _ _ _ H1 F c1 c2).mono fun e1 w1 R=>Ret_back H1 (by rw [wF,wF]) (by simp [wF]) (fun i x hi hx=>?_) (fun i x hi hx=>?_) R
     ·rw [seth_get'] at hi
      split at hi
      ·rename_i hq;obtain ⟨rfl,_⟩:=hq;exact ⟨_,zP hnd2,hnd2⟩
      ·rw [seth_get'] at hi
       split at hi
       ·rename_i hq;obtain ⟨rfl,_⟩:=hq;exact ⟨_,zP hnd,hnd⟩
       ·exact ⟨x,hi,hx⟩
     ·rcases getElem?_snoc hi with ⟨hl1,hi⟩|⟨rfl,rfl⟩
      ·rw [seth_get'] at hi
       split at hi
       ·injection hi with hi;exact absurd hi.symm hx
       ·rename_i hq
        by_cases h2i:b2=i
        ·subst h2i
         rw [zP hnd2,hb2] at hi
         injection hi with hi
         subst hi
         refine ⟨.row e2 es4 N2 dv,?_,row_nd,fun E' K hB=>BR_back K hB fun x y hx hy v hv=>k3 x y hx hy _ _ hv⟩
         rw [List.getElem?_append_left (by simp [wF];exact hl2),seth_get',if_neg (by simp [wF];intro hbb;exact absurd hbb.symm hne),seth_get',if_pos ⟨rfl,by rw [wF];exact hl2⟩]
        ·refine ⟨x,?_,hx,fun E' _ hB=>hB⟩
         have hil:=(List.getElem?_eq_some_iff.1 hi).1
         rw [List.getElem?_append_left (by simp [wF];exact hil),seth_get',if_neg (by simp [wF];intro hbb;exact Nat.not_lt.1 fun h9=>hq ⟨hbb,h9⟩),seth_get',if_neg (by intro h9;exact h2i h9.1),seth_get',if_neg (by intro h9;exact hq ⟨h9.1,h9.2⟩)]
         exact hi
      ·refine ⟨.row e' es4 (n+1) (bN i p 1 cv (wL i2 dv)),by simp [wF],row_nd,fun E' K hB=>BR_back K hB fun x y hx hy v hv=>?_⟩
       simp only [bN,wL,Int.ofNat_eq_natCast,Int.toNat_natCast] at hv ⊢
       by_cases q1:x < p
       ·rw [if_pos q1] at hv ⊢;exact g3 _ _ (by omega) hy _ _ hv
       ·rw [if_neg q1] at hv ⊢
        by_cases q2:x < p+1
        ·rw [if_pos q2] at hv ⊢;exact k3 _ _ (by omega) hy _ _ hv
        ·rw [if_neg q2] at hv ⊢;exact g3 _ _ (by omega) hy _ _ hv
    ·cases hr
   ·cases hr
  ·cases hr
 ·exfalso
  unfold insN at hr
  split at hr
  ·split at hr
   ·split at hr<;>cases hr
   ·cases hr
  ·cases hr

/-! ### Delete, Insert over typed rows -/
def delb (p q:Int) (n:Nat):Bool:=decide (0 <= p/\p < q/\q <= n)
theorem delb_iff {p q:Int} {n:Nat}:delb p q n=true ↔ 0 <= p/\p < q/\q <= n:=by simp [delb]
def insb (p:Int) (n:Nat):Bool:=decide (0 <= p/\p <= n/\n+1 <= 1000000)
theorem insb_iff {p:Int} {n:Nat}:insb p n=true ↔ 0 <= p/\p <= n/\n+1 <= 1000000:=by simp [insb]
def delL {α:Type} (L:List α) (p q:Int):List α:=L.take p.toNat ++ L.drop q.toNat
def insL {α:Type} (L:List α) (p:Int) (d:List α):List α:=L.take p.toNat ++ d ++ L.drop p.toNat
theorem del_len {α:Type} {L:List α} {p q:Int} {n:Nat} (f:0 <= p/\p < q/\q <= n) (hn:L.length=n):(delL L p q).length=n - (q.toNat - p.toNat):=by
 simp only [delL,List.length_append,List.length_take,List.length_drop];omega
theorem ins_len {α:Type} {L d:List α} {p:Int} {n:Nat} (f:0 <= p/\p <= n/\n+1 <= 1000000) (hn:L.length=n) (hd:d.length=1:=by rfl):(insL L p d).length=n+1:=by
 simp only [insL,List.length_append,List.length_take,List.length_drop];omega
theorem gd_take {α:Type} [Inhabited α] {L:List α} {p i:Nat} (h:i < p):gd (L.take p) i=gd L i:=by
 simp [gd,List.getD_eq_getElem?_getD,List.getElem?_take,h]
theorem gd_drop {α:Type} [Inhabited α] {L:List α} {p i:Nat}:gd (L.drop p) i=gd L (p+i):=by
 simp [gd,List.getD_eq_getElem?_getD,List.getElem?_drop]
theorem del_row {α:Type} [Inhabited α] {f:α->List AV} {L:List α} {p q:Int} {n es:Nat} {c:Nat->Nat->AV} (g:0 <= p/\p < q/\q <= n) (hn:L.length=n) (h1:∀ x y,x < L.length->y < es->enR f L x y=c x y) :
  ∀ x y,x < (delL L p q).length->y < es->enR f (delL L p q) x y=delA 0 p.toNat (q.toNat - p.toNat) c x y:=by
 intro x y hx hy
 rw [del_len g hn] at hx
 have hl:(L.take p.toNat).length=p.toNat:=by simp;omega
 simp only [delA,Nat.zero_add]
 by_cases hp:x < p.toNat
 ·rw [if_pos hp,← h1 x y (by omega) hy]
  simp only [enR,delL];rw [kX (by omega),gd_take hp]
 ·rw [if_neg hp,← h1 _ y (by omega) hy]
  simp only [enR,delL];rw [gK (by omega),gd_drop,hl]
  congr 3;omega
theorem ins_row {α:Type} [Inhabited α] {f:α->List AV} {L d:List α} {p:Int} {n es:Nat} {c k:Nat->Nat->AV} (g:0 <= p/\p <= n/\n+1 <= 1000000) (hn:L.length=n) (h1:∀ x y,x < L.length->y < es->enR f L x y=c x y)
  (h2:∀ x y,x < d.length->y < es->enR f d x y=k x y) (hd:d.length=1:=by rfl) :
  ∀ x y,x < (insL L p d).length->y < es->enR f (insL L p d) x y=bN 0 p.toNat 1 c k x y:=by
 intro x y hx hy
 rw [ins_len g hn hd] at hx
 have hl:(L.take p.toNat).length=p.toNat:=by simp;omega
 simp only [bN,Nat.zero_add]
 by_cases hp:x < p.toNat
 ·rw [if_pos hp,← h1 x y (by omega) hy]
  simp only [enR,insL];rw [kX (by simp;omega),kX (by omega),gd_take hp]
 ·rw [if_neg hp]
  by_cases hq:x < p.toNat+1
  ·rw [if_pos hq,← h2 _ y (by omega) hy]
   simp only [enR,insL];rw [kX (by simp;omega),gK (by omega),hl]
  ·rw [if_neg hq,← h1 _ y (by omega) hy]
   simp only [enR,insL];rw [gK (by simp;omega),gd_drop]
   congr 3;simp;omega
theorem nfR_ins {i p m x y:Nat} {c d:Nat->Nat->AV} (h1:∀ x y,nref (c x y)) (h2:∀ x y,nref (d x y)):nref (bN i p m c d x y):=by
 simp only [bN];split
 ·exact h1 _ _
 ·split
  ·exact h2 _ _
  ·exact h1 _ _
theorem nfR_del {i p m x y:Nat} {c:Nat->Nat->AV} (h1:∀ x y,nref (c x y)):nref (delA i p m c x y):=by
 simp only [delA];split<;>exact h1 _ _
theorem yI {μ:Mu} {e es n m:Nat} {c:Nat->Nat->AV} (hr:∀ x y,nref (c x y)):CvB μ (.row e es n c) (some m) (.row e es n c):=by
 simp only [CvB]
 exact ⟨trivial,trivial,Nat.le_refl _,fun x y _ _=>yJ _ (hr x y)⟩

/-! ### Arguments given up at the call -/
def obR (o:Prop) (h:List ABlk):AR->AR
 | .pure ob v=>.heap (o/\ob) v h
 | .heap ob v h'=>.heap (o/\ob) v h'
 | .fail=>.fail
def frC (c:List AV->List ABlk->AR) (l:List AV) (h:List ABlk):AR:=obR (vO h (vC l) l/\uT h (vC l) h) (fzH h (vC l)) (c (fzL h (vC l) l) (fzH h (vC l)))
theorem fr_ok {f:FuncId} {c:List AV->List ABlk->AR} (ok:yU P f c):yU P f (frC c):=by
 refine ⟨ok.1,fun E h l vs ob v h' H F hr hob=>?_,fun E h l vs ob v H F hr hob=>?_⟩
 ·unfold frC at hr
  generalize vC l=fz at hr
  have key:∀ ob0 v0 h0,(c (fzL h fz l) (fzH h fz)).out (fzH h fz)=some (ob0,v0,h0)->vO h fz l/\uT h fz h->ob0->Calls P f vs E.w (Ret E h h0 v0):=by
   intro ob0 v0 h0 hc ho h1
   obtain ⟨H1,X1⟩:=fz_HR H ho.2
   have F1:FR (E.fz h fz) (fzL h fz l) vs:=⟨by rw [kW];exact F.1,fun i a v ha hv=>by
    rw [fzL_get] at ha
    cases hl:l[i]? with
    | none=>rw [hl] at ha;cases ha
    | some a0 =>
     rw [hl] at ha
     simp only [Option.map_some,Option.some.injEq] at ha
     subst ha
     exact fz_VR H (F.2 i a0 v hl hv) (gJ ho.1 hl)⟩
   refine (ok.2.1 (E.fz h fz) _ _ vs ob0 v0 h0 H1 F1 hc h1).mono ?_
   rintro e w ⟨u,E',r1,r2,X,H',V⟩
   exact ⟨u,E',r1,r2,X1.trans X,H',V⟩
  cases hc:c (fzL h fz l) (fzH h fz) with
  | fail=>rw [hc] at hr;cases hr
  | pure ob0 v0 =>
   rw [hc] at hr key
   simp only [obR,AR.out,Option.some.injEq,Prod.mk.injEq] at hr
   obtain ⟨rfl,rfl,rfl⟩:=hr
   exact key ob0 v0 _ rfl hob.1 hob.2
  | heap ob0 v0 h0 =>
   rw [hc] at hr key
   simp only [obR,AR.out,Option.some.injEq,Prod.mk.injEq] at hr
   obtain ⟨rfl,rfl,rfl⟩:=hr
   exact key ob0 v0 _ rfl hob.1 hob.2
 ·exfalso
  unfold frC at hr
  cases hc:c (fzL h (vC l) l) (fzH h (vC l))<;>rw [hc] at hr<;>cases hr
theorem deR_0 {α:Type} {g:(Nat->AV)->α} {c:Nat->Nat->AV}:deR g 0 c=[]:=by simp [deR]
theorem Fit_0 {k:(Nat->AV)->Prop} {c:Nat->Nat->AV}:Fit k 0 c=True:=by simp [Fit]
end Go.Am

namespace Go.Am
set_option linter.unusedVariables false

theorem loop_inv {S B:Type} {step:S->Option (Lp S B)} (Inv:S->Prop) (Post:B->Prop) (m:S->Nat)
  (hs:∀ s,Inv s->(∃ b,step s=some (.done b)/\Post b) ∨ ∃ s',step s=some (.next s')/\Inv s'/\m s' < m s):∀ s,Inv s->∃ b,loopD step s=some b/\Post b:=by
 have:∀ (k:Nat) (s:S),m s < k->Inv s->∃ b,loopD step s=some b/\Post b:=by
  intro k
  induction k with
  | zero=>intro s hk;omega
  | succ k ih =>
   intro s hk hI
   rcases hs s hI with ⟨b,h1,h2⟩|⟨s',h1,h2,h3⟩
   ·exact ⟨b,fF h1,h2⟩
   ·obtain ⟨b,g1,g2⟩:=ih s' (by omega) h2
    exact ⟨b,(loopD_next h1).trans g1,g2⟩
 intro s hI
 exact this (m s+1) s (by omega) hI
theorem loop_for {B:Type} {step:Int->Option (Lp Int B)} (n:Nat) (Inv:Nat->Prop) (Post:B->Prop) (h0:Inv 0)
  (hs:∀ i:Nat,i < n->Inv i->(∃ b,step i=some (.done b)/\Post b) ∨ (step i=some (.next ((i+1:Nat):Int))/\Inv (i+1)))
  (he:Inv n->∃ b,step n=some (.done b)/\Post b):∃ b,loopD step 0=some b/\Post b:=by
 have:=loop_inv (step:=step) (fun s=>∃ i:Nat,s=i/\i <= n/\Inv i) Post (fun s=>(n - s).toNat) (fun s hI=>by
  obtain ⟨i,rfl,hi,hI⟩:=hI
  rcases Nat.lt_or_ge i n with h|h
  ·rcases hs i h hI with q|⟨q1,q2⟩
   ·exact .inl q
   ·exact .inr ⟨_,q1,⟨i+1,rfl,by omega,q2⟩,by omega⟩
  ·obtain rfl:i=n:=by omega
   exact .inl (he hI)) 0 ⟨0,rfl,by omega,h0⟩
 exact this
theorem loop_forS {S B:Type} {step:S->Option (Lp S B)} (n:Nat) (f:Nat->S) (Inv:Nat->Prop) (Post:B->Prop) (h0:Inv 0)
  (hs:∀ i:Nat,i < n->Inv i->(∃ b,step (f i)=some (.done b)/\Post b) ∨ (step (f i)=some (.next (f (i+1)))/\Inv (i+1)))
  (he:Inv n->∃ b,step (f n)=some (.done b)/\Post b):∃ b,loopD step (f 0)=some b/\Post b:=by
 have:∀ k i,n - i < k->i <= n->Inv i->∃ b,loopD step (f i)=some b/\Post b:=by
  intro k
  induction k with
  | zero=>intro i hk;omega
  | succ k ih =>
   intro i hk hi hI
   rcases Nat.lt_or_ge i n with h|h
   ·rcases hs i h hI with ⟨b,q1,q2⟩|⟨q1,q2⟩
    ·exact ⟨b,fF q1,q2⟩
    ·obtain ⟨b,g1,g2⟩:=ih (i+1) (by omega) (by omega) q2
     exact ⟨b,(loopD_next q1).trans g1,g2⟩
   ·obtain rfl:i=n:=by omega
    obtain ⟨b,q1,q2⟩:=he hI
    exact ⟨b,fF q1,q2⟩
 exact this (n+1) 0 (by omega) (by omega) h0
theorem wr_in {x:Int} (h : -9223372036854775808 <= x/\x <= 9223372036854775807):wr .i64 x=x:=by unfold wr;rw [IntWalk.i64_in _ (by omega)]
theorem wr_add1 {i n:Nat} (h:i < n) (hn:n < 4611686018427387904):wr .i64 ((i:Int)+1)=((i+1:Nat):Int):=by rw [wr_in (by omega)];omega
theorem bLe_eq (x y:Int):bLe x y=decide (x <= y):=rfl
theorem bLt_eq (x y:Int):bLt x y=decide (x < y):=rfl
theorem bEq_eq (x y:Int):bEq x y=decide (x=y):=rfl
theorem bB_eq (x y:Bool):bB x y=decide (x=y):=by cases x<;>cases y<;>rfl
theorem need_true {α:Type} {b:Bool} {k:Option α} (h:b=true):need b k=k:=by subst h;rfl
theorem lp_inl {A R X:Type} {o:Option (A ⊕ R)} {a:A} {k:A->Option X} {j:R->Option X} (h:o=some (.inl a)):lp o k j=k a:=by subst h;rfl
theorem lp_inr {A R X:Type} {o:Option (A ⊕ R)} {a:R} {k:A->Option X} {j:R->Option X} (h:o=some (.inr a)):lp o k j=j a:=by subst h;rfl
theorem bif_t {α:Type} {c:Bool} {a b:α} (h:c=true):(bif c then a else b)=a:=by subst h;rfl
theorem bif_f {α:Type} {c:Bool} {a b:α} (h:c=false):(bif c then a else b)=b:=by subst h;rfl
theorem inb_nat {i n:Nat} (h:i < n):inb (i:Int) n=true:=xD.2 (by omega)
theorem gd_mem {α:Type} [Inhabited α] {l:List α} {i:Nat} (h:i < l.length):gd l i ∈ l:=by
 simp only [gd,List.getD_eq_getElem?_getD,List.getElem?_eq_getElem h,Option.getD_some];exact List.getElem_mem h
theorem mem_gd {α:Type} [Inhabited α] {l:List α} {a:α} (h:a ∈ l):∃ i,i < l.length/\gd l i=a:=by
 obtain ⟨i,hi,rfl⟩:=List.getElem_of_mem h
 exact ⟨i,hi,by simp [gd,List.getD_eq_getElem?_getD,hi]⟩
end Go.Am
