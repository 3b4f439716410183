/-
  Contracts of functions: each computes its partial function.
-/
import Derived.Test.YtnclkplbeenmdaaFL
import Derived.Test.YtnclkplbeenmdaaFD
import Derived.Test.YtnclkplbeenmdaaMS
namespace Go.Proofs.Ytnclkplbeenmdaa
open Go.Am
set_option linter.unusedVariables false
set_option linter.unusedSimpArgs false
/-! hotspot/hotspotlaw35.TriggerBegins -/
noncomputable def ct5t0:Ct:=tab [(24,pureC body24)]
theorem ct5t0_ok:CtOk Try.prog ct5t0:=tab_cons ok24 <| tab_nil
theorem ct5t0_24 (l:List AV) (h:List ABlk):ct5t0 24 l h=pureC body24 l h:=rfl
noncomputable def ct5t1:Ct:=tab [(28,genC body28)]
theorem ct5t1_ok:CtOk Try.prog ct5t1:=tab_cons ok28 <| tab_nil
theorem ct5t1_28 (l:List AV) (h:List ABlk):ct5t1 28 l h=genC body28 l h:=rfl
noncomputable def ct5t2:Ct:=tab [(29,genC body29)]
theorem ct5t2_ok:CtOk Try.prog ct5t2:=tab_cons ok29 <| tab_nil
theorem ct5t2_29 (l:List AV) (h:List ABlk):ct5t2 29 l h=genC body29 l h:=rfl
noncomputable def ct5t3:Ct:=tab [(30,genC body30)]
theorem ct5t3_ok:CtOk Try.prog ct5t3:=tab_cons ok30 <| tab_nil
theorem ct5t3_30 (l:List AV) (h:List ABlk):ct5t3 30 l h=genC body30 l h:=rfl
noncomputable def ct5t4:Ct:=tab [(16,pureC body16),(31,pureC body31)]
theorem ct5t4_ok:CtOk Try.prog ct5t4:=tab_cons ok16 <| tab_cons ok31 <| tab_nil
theorem ct5t4_16 (l:List AV) (h:List ABlk):ct5t4 16 l h=pureC body16 l h:=rfl
theorem ct5t4_31 (l:List AV) (h:List ABlk):ct5t4 31 l h=pureC body31 l h:=rfl
noncomputable def ct5t5:Ct:=tab [(31,pureC body31)]
theorem ct5t5_ok:CtOk Try.prog ct5t5:=tab_cons ok31 <| tab_nil
theorem ct5t5_31 (l:List AV) (h:List ABlk):ct5t5 31 l h=pureC body31 l h:=rfl
noncomputable def F5 (p0:TBuffer) (p1:TTriggerPlan) (p2:Int) (p3:A6u8) (p4:A6u8):Option (Bool) :=
 (F24 p0 (TFrame.mk (THeader.mk 0 0 false false false false false false false 0 (A6u8.mk 0 0 0 0 0 0) (A6u8.mk 0 0 0 0 0 0) (A6u8.mk 0 0 0 0 0 0) (A6u8.mk 0 0 0 0 0 0) 0 0 0 0 false false) [])).bind fun r1=>bif r1 then (some true) else ((F28 p0).bind fun r3=>(F29 p0 p1 p2 p3 p4).bind fun r5=>(F30 p0 p1 p2 p3 p4).bind fun r7=>(F16 r5.1 r7.1).bind fun r9=>need (bif r9 then ((F31 r5.2.1 r7.2.1).isSome) else true) <| need (bif ((r9 && (gt (F31 r5.2.1 r7.2.1))) && (bEq r5.2.2 r7.2.2)) then ((F31 p0 (TBuffer.mk r3.Limit r3.Stay r3.List r3.Group)).isSome) else true) <| some (((r9 && (gt (F31 r5.2.1 r7.2.1))) && (bEq r5.2.2 r7.2.2)) && (gt (F31 p0 (TBuffer.mk r3.Limit r3.Stay r3.List r3.Group)))))
/-! ### The call of a law that writes into rows of its own -/
def I1 (W:World) (E:Env):Prop:=(∀ k,k < W.heap.size->E.prot k/\E.w.heap[k]? = W.heap[k]?)/\E.w.os=W.os/\E.w.tape=W.tape/\E.w.output=W.output/\W.heap.size <= E.w.heap.size
theorem I1_kp (W:World):Ikp (I1 W):=fun E h E' h' H X ⟨i3,i4,i5,i6,i7⟩ =>
 ⟨fun k q=>⟨X.prot k (i3 k q).1,(X.frame k (H.prot k (i3 k q).1).1 (H.prot k (i3 k q).1).2).trans (i3 k q).2⟩,X.os.trans i4,X.tape.trans i5,X.output.trans i6,Nat.le_trans i7 X.size⟩
theorem I1_of {W:World} {E0 E:Env} (i:I2 E0 E) (j:I1 W E0):I1 W E:=by
 obtain ⟨i1,i2,i3,i4,i5,i6,i7⟩:=i
 obtain ⟨j3,j4,j5,j6,j7⟩:=j
 exact ⟨fun k q=>⟨(i3 k (j3 k q).1).1,(i3 k (j3 k q).1).2.trans (j3 k q).2⟩,i4.trans j4,i5.trans j5,i6.trans j6,Nat.le_trans j7 i7⟩
theorem calls_R {P:Program} {f:FuncId} {fn:Func} {code:Code} {rs:List ResultVar} {l:List AV} {vs:Array Value} {W:World}
  (hf:P.funcs[f]? = some fn) (hb:fn.body=some code) (hrs:fn.results.toList=rs) (F:FR (top W) l vs)
  (hm:MeanR (I1 W) P code (kRet P rs fun v _=>v = .bool true) (l ++ List.replicate (fn.ntmps - l.length) .top) []) :
  Calls P f vs W fun e W'=>e = .returned (.bool true)/\Same W W':=by
 subst hrs
 have F2:FR (top W) (l ++ List.replicate (fn.ntmps - l.length) .top) (vs ++ Array.replicate (fn.ntmps - vs.size) undef):=by
  refine FR_append F ⟨by simp [F.1],fun i a v ha hv=>?_⟩
  rw [List.getElem?_replicate] at ha
  split at ha
  ·injection ha with ha;subst ha;exact .top _
  ·cases ha
 refine calls_of_wp hf hb ?_
 refine hm (top W) _ _ ⟨fun k q=>⟨q,rfl⟩,rfl,rfl,rfl,Nat.le_refl _⟩ (top_HR W) F2 rfl fun e E' a' t' h' hk i' H' F' hd=>?_
 obtain ⟨i3,i4,i5,i6,i7⟩:=i'
 have done:retK P fn.results.toList (fun w _=>w = .bool true) t' h'->a'.defers=[]/\∃ u,(results fn a'.tmps).run P E'.w = .ok u E'.w/\(fun (e:Ending) W'=>e = .returned (.bool true)/\Same W W') (.returned u) E'.w:=by
  intro hk
  obtain ⟨u,v',q1,rfl,q3⟩:=ret_sound (P:=P) H' F' hk
  exact ⟨hd,u,q1,by rw [VR_bool q3],⟨i4,i5,i6,i7,fun k hk=>(i3 k hk).2⟩⟩
 cases e with
 | normal=>exact done hk
 | ret=>exact done hk
 | exit id=>exact hk.elim
 | goto l=>exact hk.elim
/-! ### Typed rows are told as old -/
theorem NF_en {α:Type} [Inhabited α] {f:α->List AV} {es n:Nat} {nl:Bool} {L:List α} (hf:∀ q,(f q).length=es) (h:∀ q,∀ a ∈ f q,NF a):NF (.ro es n nl (enR f L)):=by
 refine .ro _ _ _ _ (fun ⟨x,e⟩=>?_) fun x y _ hy=>?_
 ·rw [show enR f L x es = .top from getL_none (by rw [hf];exact Nat.le_refl _)] at e;cases e
 ·exact h _ _ (List.mem_of_getElem? (getL_some (by rw [hf];exact hy)))
theorem NF_u8 {n:Nat} {nl:Bool} {L:List Int}:NF (.ro 1 n nl (enR c_u8 L)):=NF_en (fun _=>rfl) (by simp only [c_u8,List.mem_cons,List.not_mem_nil,or_false,forall_eq];intro q;constructor)
theorem NF_TStored {n:Nat} {nl:Bool} {L:List TStored}:NF (.ro 43 n nl (enR c_TStored L)):=NF_en (fun _=>rfl) (by intro q;simp only [c_TStored,List.mem_cons,List.not_mem_nil,or_false,forall_eq_or_imp,forall_eq];and_intros<;>first|exact NF_u8|constructor)
theorem NF_TSleeper {n:Nat} {nl:Bool} {L:List TSleeper}:NF (.ro 3 n nl (enR c_TSleeper L)):=NF_en (fun _=>rfl) (by intro q;simp only [c_TSleeper,List.mem_cons,List.not_mem_nil,or_false,forall_eq_or_imp,forall_eq];and_intros<;>first|exact NF_TStored|constructor)
theorem buf_re {E0 E:Env} (i:I2 E0 E) {a b:Int} {u2 u3 u:Value} {L:List TSleeper} {G:List TStored} (h2:VR E0 (.ro 3 L.length false (enR c_TSleeper L)) u2) (h3:VR E0 (.ro 43 G.length false (enR c_TStored G)) u3) (h:VR E (.agg [.int .i64 a,.int .i64 b,.val u2,.val u3]) u) :
  VR E (.agg [.int .i64 a,.int .i64 b,.ro 3 L.length false (enR c_TSleeper L),.ro 43 G.length false (enR c_TStored G)]) u:=by
 refine agg_re h rfl fun j x x' q1 q2 v hv=>?_
 match j,q1,q2 with
 | 0,q1,q2=>cases q1;cases q2;exact hv
 | 1,q1,q2=>cases q1;cases q2;exact hv
 | 2,q1,q2=>cases q1;cases q2;cases hv;exact h2.old i NF_TSleeper
 | 3,q1,q2=>cases q1;cases q2;cases hv;exact h3.old i NF_TStored
/-! ### The state in which the law's rows are overwritten -/
theorem fI_u8 {B:Nat->Int} {k:Nat}:fI .u8 1 0 B k 0 = .int .u8 (B k):=fI_j (by decide)
theorem fI_at {B:Nat->Int} {k:Nat}:fI .i64 43 1 B k 1 = .int .i64 (B k):=fI_j (by decide)
def TQ (i k i2 k2:AV):List AV:=tp 5 (.ptr 0 0 0 0::tp 5 (.ptr 6 0 0 0::.ptr 7 0 0 0::.ptr 8 0 0 0::tp 4 (.bool true::i::k::i2::k2::tp 100 [])))
def HQ (x1 x2:Int) (u2 u3:Value) (y1 y2:Int) (w2 w3:Value) (n1:Nat) (l1:Nat->Nat) (n2:Nat) (l2:Nat->Nat) (B1 B2:Nat->Nat->Int):List ABlk :=
 [.lit 52 [.int .i64 x1,.int .i64 x2,.val u2,.val u3],.dead,.dead,.dead,.dead,.dead,.lit 52 [.int .i64 y1,.int .i64 y2,.val w2,.val w3],.lit 33 [.top,.ro 41 n1 false (fA .u8 40 1 0 l1 B1)],.lit 52 [.top,.top,.ro 3 n2 false (fA .i64 2 43 1 l2 B2),.top],.dead,.dead]
theorem HQ_soft {E E':Env} {x1 x2 y1 y2:Int} {u2 u3 w2 w3:Value} {n1 n2:Nat} {l1 l2:Nat->Nat} {B1 B2:Nat->Nat->Int} (H:HR E (HQ x1 x2 u2 u3 y1 y2 w2 w3 n1 l1 n2 l2 B1 B2)) (S:Soft E E'):∃ B1' B2',HR E' (HQ x1 x2 u2 u3 y1 y2 w2 w3 n1 l1 n2 l2 B1' B2'):=by
 obtain ⟨B1',c1⟩:=litA_soft H S (b:=7) (pre:=[.top]) (post:=[]) (by decide) (by decide) rfl (by simp only [List.mem_cons,List.not_mem_nil,or_false,forall_eq];trivial) (fun a h=>by cases h)
 obtain ⟨B2',c2⟩:=litA_soft H S (b:=8) (pre:=[.top,.top]) (post:=[.top]) (by decide) (by decide) rfl (by simp only [List.mem_cons,List.not_mem_nil,or_false,forall_eq_or_imp,forall_eq];exact ⟨trivial,trivial⟩) (by simp only [List.mem_cons,List.not_mem_nil,or_false,forall_eq];trivial)
 refine ⟨B1',B2',HR_soft H S rfl fun b x' hb=>?_⟩
 match b,hb with
 | 0,hb=>cases hb;exact .inr ⟨litN_soft H S (b:=0) rfl (by simp only [List.mem_cons,List.not_mem_nil,or_false,forall_eq_or_imp,forall_eq];and_intros<;>trivial),_,rfl,fun e=>by cases e⟩
 | 1,hb=>cases hb;exact .inl rfl
 | 2,hb=>cases hb;exact .inl rfl
 | 3,hb=>cases hb;exact .inl rfl
 | 4,hb=>cases hb;exact .inl rfl
 | 5,hb=>cases hb;exact .inl rfl
 | 6,hb=>cases hb;exact .inr ⟨litN_soft H S (b:=6) rfl (by simp only [List.mem_cons,List.not_mem_nil,or_false,forall_eq_or_imp,forall_eq];and_intros<;>trivial),_,rfl,fun e=>by cases e⟩
 | 7,hb=>cases hb;exact .inr ⟨c1,_,rfl,fun e=>by cases e⟩
 | 8,hb=>cases hb;exact .inr ⟨c2,_,rfl,fun e=>by cases e⟩
 | 9,hb=>cases hb;exact .inl rfl
 | 10,hb=>cases hb;exact .inl rfl
theorem TQ_soft {E E':Env} {t:List AV} {a:Array Value} {i k i2 k2:AV} (S:Soft E E') (F:FR E t a) (h:wkL t (TQ i k i2 k2)) (n1:NS i) (n2:NS k) (n3:NS i2) (n4:NS k2):FR E' (TQ i k i2 k2) a :=
 FR_soft S (FR_wk h F) (by
  simp only [TQ,tp,List.mem_cons,List.not_mem_nil,or_false,forall_eq_or_imp,forall_eq]
  and_intros<;>first|trivial|assumption)
theorem tellL {E:Env} {s:Value} {L:List TFrame} (h:VR E (.ro 41 L.length false (enR d_TFrame L)) s):VR E (.ro 41 L.length false (fA .u8 40 1 0 (fun x=>((gd L x).Body).length) fun x k=>gd ((gd L x).Body) k)) s :=
 tellA (by decide) (by decide) _ _ (fun x=>enR d_u8 ((gd L x).Body)) h (fun x _=>rfl) (fun x _=>⟨0,rfl⟩) (fun x k _ _=>rfl)
theorem tellS {E:Env} {s:Value} {L:List TSleeper} (h:VR E (.ro 3 L.length false (enR d_TSleeper L)) s):VR E (.ro 3 L.length false (fA .i64 2 43 1 (fun x=>((gd L x).Held).length) fun x k=>(gd ((gd L x).Held) k).At)) s :=
 tellA (by decide) (by decide) _ _ (fun x=>enR d_TStored ((gd L x).Held)) h (fun x _=>rfl) (fun x _=>⟨0,rfl⟩) (fun x k _ _=>rfl)
theorem box_len {b:Nat} {e:TypeId} {l:List AV} {E:Env} (h:BR E b (.lit e l)) {j:Nat} {a:AV} (hj:l[j]? = some a):∃ v,VR E a v:=by
 obtain ⟨k,o,cs,q1,q2,q3,q4⟩:=h
 obtain ⟨v,w1,w2,w3⟩:=q4 j a hj
 exact ⟨v,w3⟩
theorem wk_back {t t':List AV} {h:List ABlk} (w:wkL t t'):∀ (E:Env) (a:Array Value),HR E h->FR E t a->HR E h/\FR E t' a:=fun E a H F=>⟨H,FR_wk w F⟩
theorem wkR {P:Program} {I:Env->Prop} {c:Code} {K:Kt} {t t':List AV} {h:List ABlk} (w:wkL t t') (hm:MeanR I P c K t' h):MeanR I P c K t h:=fun E a Q i H F hd hQ=>hm E a Q i H (FR_wk w F) hd hQ
set_option maxHeartbeats 4000000 in
set_option maxRecDepth 20000 in
theorem calls5 {W:World} {args:Array Value} {p0:TBuffer} {p1:TTriggerPlan} {p2:Int} {p3 p4:A6u8} (F:FR (top W) [.agg [.int .i64 p0.Limit,.int .i64 p0.Stay,.ro 3 p0.List.length false (enR c_TSleeper p0.List),.ro 43 p0.Group.length false (enR c_TStored p0.Group)],.agg [.int .u8 p1.Start,.int .u8 p1.Deliver,.int .i64 p1.Most],.int .i64 p2,.agg [.int .u8 p3.x0,.int .u8 p3.x1,.int .u8 p3.x2,.int .u8 p3.x3,.int .u8 p3.x4,.int .u8 p3.x5],.agg [.int .u8 p4.x0,.int .u8 p4.x1,.int .u8 p4.x2,.int .u8 p4.x3,.int .u8 p4.x4,.int .u8 p4.x5]] args) (H:F5 p0 p1 p2 p3 p4=some true) :
  Calls Try.prog 5 args W fun e W'=>e = .returned (.bool true)/\Same W W':=by
 refine calls_R (rs:=[.tmp 10]) Try.func5 rfl rfl F ?_
 rw [Try.ntmps5]
 simp only [List.length_cons,List.length_nil,Nat.reduceAdd,Nat.reduceSub,List.replicate_succ,List.replicate_zero,List.cons_append,List.nil_append]
 unfold F5 at H
 try dsimp only at H
 refine seqR (ofM (I1_kp W) (rg ctNo_ok ?_))
 simp only [go_sem,kR_normal,Nat.reduceAdd]
 refine seqR (seqR ?_)
 obtain ⟨r1,e2,H⟩:=bsi H
 refine ofM (I1_kp W) (rg ct5t0_ok ?_)
 simp only [go_sem,kR_normal,Nat.reduceLT,Nat.reduceAdd,reduceCtorEq,ct5t0_24,body24,e2]
 repeat ((with_reducible refine And.intro ?_ ?_);focus (first|(and_intros<;>first|(with_reducible trivial)|omega|assumption|exact nfc|first|exact rfl|exact trivial|exact fitI|exact .inr rfl|exact .inl rfl|exact fun x hx=>absurd hx (by omega))|grind))
 refine condR r1 rfl trivial (fun hc=>?_) (fun hc=>?_)
 ·replace H:=cond_t hc H
  refine ofM (I1_kp W) (sq ctNo_ok ?_)
  simp only [go_sem]
  refine rg ctNo_ok ?_
  simp only [go_sem,kR_ret]
 replace H:=cond_f hc H
 refine ofM (I1_kp W) (rg ctNo_ok ?_)
 simp only [go_sem,kR_normal]
 refine seqR ?_
 obtain ⟨r3,e4,H⟩:=bsi H
 refine ofM (I1_kp W) (rg ct5t1_ok ?_)
 simp only [go_sem,kR_normal,Nat.reduceLT,Nat.reduceAdd,ct5t1_28,body28,e4]
 repeat ((with_reducible refine And.intro ?_ ?_);focus (first|(and_intros<;>first|(with_reducible trivial)|omega|assumption|exact nfc|first|exact rfl|exact trivial|exact fitI|exact .inr rfl|exact .inl rfl|exact fun x hx=>absurd hx (by omega))|grind))
 refine atR fun E a i Hh F=>?_
 obtain ⟨Hf,Xf⟩:=fz_HR (fz:=[4,5]) Hh (by
  simp only [go_sem,Nat.reduceBEq]
  (try and_intros)<;>first|(with_reducible trivial)|omega|exact nfc|trivial)
 have F1:=FR_mono (Xf.keep Hh) (FR_wk (t':=(.top::.top::.int .i64 p2::.top::.top::.ptr 0 0 0 0::.ptr 1 0 0 0::.top::.ptr 2 0 0 0::.ptr 3 0 0 0::.top::.ptr 6 0 0 0::tp 111 [])) (by simp only [tp,wkL,true_or,or_true,and_self]) F)
 have i1:=I1_kp W _ _ _ _ Hh Xf i
 simp only [go_sem,Nat.reduceBEq,Nat.reduceAdd] at Hf
 have key:=(⟨_,Hf,F1,i1,rfl⟩:∃ E1,HR E1 _/\FR E1 _ a.tmps/\I1 W E1/\E1.w=E.w)
 clear Hf F1 i1 Xf F i Hh
 obtain ⟨E1,Hf,F1,i1,ew⟩:=key
 obtain ⟨u2,u3,hu2,hu3,b0⟩:=BR_two (Hf.blk 0 _ rfl)
 obtain ⟨w2,w3,hw2,hw3,b6⟩:=BR_two (Hf.blk 6 _ rfl)
 have H2:HR E1 [.lit 52 [.int .i64 p0.Limit,.int .i64 p0.Stay,.val u2,.val u3],.lit 23 [.int .u8 p1.Start,.int .u8 p1.Deliver,.int .i64 p1.Most],.lit 25 [.int .u8 p3.x0,.int .u8 p3.x1,.int .u8 p3.x2,.int .u8 p3.x3,.int .u8 p3.x4,.int .u8 p3.x5],.lit 25 [.int .u8 p4.x0,.int .u8 p4.x1,.int .u8 p4.x2,.int .u8 p4.x3,.int .u8 p4.x4,.int .u8 p4.x5],.dead,.dead,.lit 52 [.int .i64 r3.Limit,.int .i64 r3.Stay,.val w2,.val w3]]:=HR_re Hf rfl fun b x' hb=>by
  match b,hb with
  | 0,hb=>cases hb;exact .inr ⟨b0,_,rfl,fun e=>by cases e⟩
  | 1,hb=>cases hb;exact .inr ⟨Hf.blk 1 _ rfl,_,rfl,fun e=>by cases e⟩
  | 2,hb=>cases hb;exact .inr ⟨Hf.blk 2 _ rfl,_,rfl,fun e=>by cases e⟩
  | 3,hb=>cases hb;exact .inr ⟨Hf.blk 3 _ rfl,_,rfl,fun e=>by cases e⟩
  | 4,hb=>cases hb;exact .inl rfl
  | 5,hb=>cases hb;exact .inl rfl
  | 6,hb=>cases hb;exact .inr ⟨b6,_,rfl,fun e=>by cases e⟩
 refine ⟨E1.reb,_,_,I2 E1,ew,HR_reb H2 (by simp only [List.mem_cons,List.not_mem_nil,or_false,forall_eq_or_imp,forall_eq,NFb,true_and];and_intros<;>constructor),FR_old (I2_reb E1) F1 (by simp only [tp,List.mem_cons,List.not_mem_nil,or_false,forall_eq_or_imp,forall_eq];and_intros<;>constructor),I2_reb E1,fun E' i2=>I1_of i2 i1,?_⟩
 clear b0 b6 H2 Hf F1
 simp only [tp]
 refine seqR ?_
 obtain ⟨r5,e6,H⟩:=bsi H
 refine regR (cutRO shT_ok ctNo_ok (I2_kp E1) 1 ?_)
 simp only [go_sem,kRO_normal,List.take_succ_cons,List.take_zero,List.drop_succ_cons,List.drop_zero,Nat.reduceLT,Nat.reduceAdd]
 repeat ((with_reducible refine And.intro ?_ ?_);focus (first|(and_intros<;>first|(with_reducible trivial)|omega|assumption|exact nfc|first|exact rfl|exact trivial|exact fitI|exact .inr rfl|exact .inl rfl|exact fun x hx=>absurd hx (by omega))|grind))
 refine atO fun E a i Hh F=>?_
 refine ⟨_,_,Hh,FR_re F 29 (x:=.agg [.int .i64 p0.Limit,.int .i64 p0.Stay,.ro 3 p0.List.length false (enR c_TSleeper p0.List),.ro 43 p0.Group.length false (enR c_TStored p0.Group)]) (fun u h=>buf_re i hu2 hu3 h),?_⟩
 clear Hh F i
 simp only [setL]
 refine ofO (I2_kp E1) (cutO shT_ok ct5t2_ok 14 ?_)
 simp only [go_sem,kO_normal,List.take_succ_cons,List.take_zero,List.drop_succ_cons,List.drop_zero,Nat.reduceLT,Nat.reduceAdd,ct5t2_29,body29,e6]
 repeat ((with_reducible refine And.intro ?_ ?_);focus (first|(and_intros<;>first|(with_reducible trivial)|omega|assumption|exact nfc|first|exact rfl|exact trivial|exact fitI|exact .inr rfl|exact .inl rfl|exact fun x hx=>absurd hx (by omega))|grind))
 refine endO ?_
 simp only [kR_normal]
 refine seqR ?_
 obtain ⟨r7,e8,H⟩:=bsi H
 refine regR (cutRO shT_ok ctNo_ok (I2_kp E1) 1 ?_)
 simp only [go_sem,kRO_normal,List.take_succ_cons,List.take_zero,List.drop_succ_cons,List.drop_zero,Nat.reduceLT,Nat.reduceAdd]
 repeat ((with_reducible refine And.intro ?_ ?_);focus (first|(and_intros<;>first|(with_reducible trivial)|omega|assumption|exact nfc|first|exact rfl|exact trivial|exact fitI|exact .inr rfl|exact .inl rfl|exact fun x hx=>absurd hx (by omega))|grind))
 refine atO fun E a i Hh F=>?_
 refine ⟨_,_,Hh,FR_re F 39 (x:=.agg [.int .i64 p0.Limit,.int .i64 p0.Stay,.ro 3 p0.List.length false (enR c_TSleeper p0.List),.ro 43 p0.Group.length false (enR c_TStored p0.Group)]) (fun u h=>buf_re i hu2 hu3 h),?_⟩
 clear Hh F i
 simp only [setL]
 refine ofO (I2_kp E1) (cutO shT_ok ct5t3_ok 14 ?_)
 simp only [go_sem,kO_normal,List.take_succ_cons,List.take_zero,List.drop_succ_cons,List.drop_zero,Nat.reduceLT,Nat.reduceAdd,ct5t3_30,body30,e8]
 repeat ((with_reducible refine And.intro ?_ ?_);focus (first|(and_intros<;>first|(with_reducible trivial)|omega|assumption|exact nfc|first|exact rfl|exact trivial|exact fitI|exact .inr rfl|exact .inl rfl|exact fun x hx=>absurd hx (by omega))|grind))
 refine endO ?_
 simp only [kR_normal]
 refine seqR ?_
 obtain ⟨r9,e10,H⟩:=bsi H
 obtain ⟨f11,H⟩:=need_some.1 H
 replace f11:=g_iff.1 f11
 obtain ⟨f12,H⟩:=need_some.1 H
 replace H:=Option.some.inj H
 refine ofM (I2_kp E1) (rg ct5t4_ok ?_)
 simp only [go_sem,kR_normal,Nat.reduceLT,Nat.reduceAdd,ct5t4_16,body16,ct5t4_31,body31,e10]
 repeat ((with_reducible refine And.intro ?_ ?_);focus (first|(with_reducible trivial)|omega|exact f11|(intro g;have q:=f11 (by first|exact g|(rw [g];rfl)|simpa using g);first|exact q|exact ⟨q.1,q.2.1⟩|exact q.2.2|omega|exact ⟨g,q⟩|exact ⟨trivial,q⟩|exact ⟨g,q.1,q.2.1⟩|exact ⟨g,q.2.2⟩)|(intro g;(try have q0:=f11 (by first|exact g|(rw [g];rfl)|simpa using g));and_intros<;>first|(with_reducible trivial)|assumption|exact nfc|(intro g2;rw [g,g2];rfl)|(intro g2;assumption)|(simp only [g,Bool.true_and,Bool.and_true,Bool.not_false,Bool.not_true];assumption)|grind)|(and_intros<;>first|(with_reducible trivial)|omega|assumption|exact nfc|first|exact rfl|exact trivial|exact fitI|exact .inr rfl|exact .inl rfl|exact fun x hx=>absurd hx (by omega))|grind))
 have g0:=(Bool.and_eq_true_iff.1 H).2
 have g1:=(Bool.and_eq_true_iff.1 H).1
 rw [g1] at f12 ⊢
 simp only [cond_true] at f12
 refine atR fun E a i Hh F=>?_
 have F1:=FR_wk (t':=TQ .top .top .top .top) (by simp only [TQ,tp,wkL,true_or,or_true,and_self]) F
 obtain ⟨l1,e1⟩:∃ l1:Nat->Nat,l1=(fun x=>((gd r5.1.Left x).Body).length):=⟨_,rfl⟩
 obtain ⟨l2,e2'⟩:∃ l2:Nat->Nat,l2=(fun x=>((gd r5.2.1.List x).Held).length):=⟨_,rfl⟩
 have b7:=Hh.blk 7 _ rfl
 have b8:=Hh.blk 8 _ rfl
 have c7:=BR_re (l':=[.top,.ro 41 r5.1.Left.length false (fA .u8 40 1 0 l1 fun x k=>gd ((gd r5.1.Left x).Body) k)]) b7 rfl fun j x x' q1 q2 v hv=>by
  match j,q1,q2 with
  | 0,q1,q2=>cases q2;exact .top _
  | 1,q1,q2=>cases q1;cases q2;rw [e1];exact tellL hv
 have c8:=BR_re (l':=[.top,.top,.ro 3 r5.2.1.List.length false (fA .i64 2 43 1 l2 fun x k=>(gd ((gd r5.2.1.List x).Held) k).At),.top]) b8 rfl fun j x x' q1 q2 v hv=>by
  match j,q1,q2 with
  | 0,q1,q2=>cases q2;exact .top _
  | 1,q1,q2=>cases q2;exact .top _
  | 2,q1,q2=>cases q1;cases q2;rw [e2'];exact tellS hv
  | 3,q1,q2=>cases q2;exact .top _
 obtain ⟨v7,hv7⟩:=box_len c7 (j:=1) rfl
 obtain ⟨v8,hv8⟩:=box_len c8 (j:=2) rfl
 have hn1:=ro_len hv7
 have hn2:=ro_len hv8
 have hl1:=fA_len (by decide) hv7
 have hl2:=fA_len (by decide) hv8
 have H3:=HR_re (h':=HQ p0.Limit p0.Stay u2 u3 r3.Limit r3.Stay w2 w3 r5.1.Left.length l1 r5.2.1.List.length l2 (fun x k=>gd ((gd r5.1.Left x).Body) k) (fun x k=>(gd ((gd r5.2.1.List x).Held) k).At)) Hh rfl fun b x' hb=>by
  match b,hb with
  | 0,hb=>cases hb;exact .inr ⟨Hh.blk 0 _ rfl,_,rfl,fun e=>by cases e⟩
  | 1,hb=>cases hb;exact .inl rfl
  | 2,hb=>cases hb;exact .inl rfl
  | 3,hb=>cases hb;exact .inl rfl
  | 4,hb=>cases hb;exact .inl rfl
  | 5,hb=>cases hb;exact .inl rfl
  | 6,hb=>cases hb;exact .inr ⟨Hh.blk 6 _ rfl,_,rfl,fun e=>by cases e⟩
  | 7,hb=>cases hb;exact .inr ⟨c7,_,rfl,fun e=>by cases e⟩
  | 8,hb=>cases hb;exact .inr ⟨c8,_,rfl,fun e=>by cases e⟩
  | 9,hb=>cases hb;exact .inl rfl
  | 10,hb=>cases hb;exact .inl rfl
 refine ⟨E,_,_,I2 E1,rfl,H3,F1,i,fun _ h=>h,?_⟩
 clear H3 c7 c8 b7 b8 F1 hv7 hv8 v7 v8 i Hh F E a
 clear e1 e2'
 generalize (fun x k=>gd ((gd r5.1.Left x).Body) k)=B1 at *
 generalize (fun x k=>(gd ((gd r5.2.1.List x).Held) k).At)=B2 at *
 generalize r5.1.Left.length=n1 at *
 generalize r5.2.1.List.length=n2 at *
 simp only [maxLen] at hn1 hn2 hl1 hl2
 simp only [TQ,HQ,tp]
 refine seqR (seqR (ofM (I2_kp E1) (rg ctNo_ok ?_)))
 simp only [go_sem,kR_normal]
 repeat ((with_reducible refine And.intro ?_ ?_);focus (first|(and_intros<;>first|(with_reducible trivial)|omega|assumption|exact nfc|first|exact rfl|exact trivial|exact fitI|exact .inr rfl|exact .inl rfl|exact fun x hx=>absurd hx (by omega))|grind))
 refine wkR (t':=TQ (.int .i64 0) .top .top .top) (by simp only [TQ,tp,wkL,true_or,or_true,and_self]) (blkR ?_)
 refine loopR (α:=Int × (Nat->Nat->Int) × (Nat->Nat->Int)) (fun x=>TQ (.int .i64 x.1) .top .top .top) (fun x=>HQ p0.Limit p0.Stay u2 u3 r3.Limit r3.Stay w2 w3 n1 l1 n2 l2 x.2.1 x.2.2) (fun x=>0 <= x.1/\x.1 <= (n1:Int)) (fun x=>((n1:Int) - x.1).toNat) (0,B1,B2) ⟨Int.le_refl _,by omega⟩ ?_
 clear B1 B2
 intro ⟨i,B1,B2⟩ ⟨hi0,hi1⟩
 simp only at hi0 hi1 ⊢
 refine seqR (seqR (ofM (I2_kp E1) (rg ctNo_ok ?_)))
 simp only [TQ,HQ,tp,go_sem,kR_normal,cond_false,cond_true,Nat.reduceLT,Nat.reduceAdd]
 repeat ((with_reducible refine And.intro ?_ ?_);focus (first|(and_intros<;>first|(with_reducible trivial)|omega|assumption|exact nfc|first|exact rfl|exact trivial|exact fitI|exact .inr rfl|exact .inl rfl|exact fun x hx=>absurd hx (by omega))|grind))
 refine condR _ rfl trivial (fun hc=>?_) (fun hc=>?_)
 ·have hi:i < (n1:Int):=by simpa [bLt_eq] using hc
  have hin:i.toNat < n1:=by omega
  have hlk:=hl1 i.toNat hin
  refine skipR ?_
  simp only [kR_normal]
  refine seqR (blkR (seqR (ofM (I2_kp E1) (rg ctNo_ok ?_))))
  simp only [go_sem,kR_normal]
  repeat ((with_reducible refine And.intro ?_ ?_);focus (first|(and_intros<;>first|(with_reducible trivial)|omega|assumption|exact nfc|first|exact rfl|exact trivial|exact fitI|exact .inr rfl|exact .inl rfl|exact fun x hx=>absurd hx (by omega))|grind))
  refine wkR (t':=TQ (.int .i64 i) (.int .i64 0) .top .top) (by simp only [TQ,tp,wkL,true_or,or_true,and_self]) (blkR ?_)
  refine loopR (α:=Int × (Nat->Nat->Int) × (Nat->Nat->Int)) (fun x=>TQ (.int .i64 i) (.int .i64 x.1) .top .top) (fun x=>HQ p0.Limit p0.Stay u2 u3 r3.Limit r3.Stay w2 w3 n1 l1 n2 l2 x.2.1 x.2.2) (fun x=>0 <= x.1/\x.1 <= (l1 i.toNat:Int)) (fun x=>((l1 i.toNat:Int) - x.1).toNat) (0,B1,B2) ⟨Int.le_refl _,by omega⟩ ?_
  clear B1 B2
  intro ⟨k,B1,B2⟩ ⟨hk0,hk1⟩
  simp only at hk0 hk1 ⊢
  refine seqR (seqR (ofM (I2_kp E1) (rg ctNo_ok ?_)))
  simp only [TQ,HQ,tp,go_sem,kR_normal,fA_J,cond_false,cond_true,Nat.reduceLT,Nat.reduceAdd]
  repeat ((with_reducible refine And.intro ?_ ?_);focus (first|(and_intros<;>first|(with_reducible trivial)|omega|assumption|exact nfc|first|exact rfl|exact trivial|exact fitI|exact .inr rfl|exact .inl rfl|exact fun x hx=>absurd hx (by omega))|grind))
  refine condR _ rfl trivial (fun hc=>?_) (fun hc=>?_)
  ·have hk:k < (l1 i.toNat:Int):=by simpa [bLt_eq] using hc
   refine skipR ?_
   simp only [kR_normal]
   refine seqR (blkR (regR (cutRO shT_ok ctNo_ok (I2_kp E1) 11 ?_)))
   simp only [go_sem,kRO_normal,fA_J,fI_u8,cond_false,cond_true,List.take_succ_cons,List.take_zero,List.drop_succ_cons,List.drop_zero,Nat.reduceLT,Nat.reduceAdd]
   repeat ((with_reducible refine And.intro ?_ ?_);focus (first|(and_intros<;>first|(with_reducible trivial)|omega|assumption|exact nfc|first|exact rfl|exact trivial|exact fitI|exact .inr rfl|exact .inl rfl|exact fun x hx=>absurd hx (by omega))|grind))
   refine softO (κ:=.u8) rfl rfl rfl tsz5 trivial trivial rfl rfl (by omega) (by decide) fI_fl (fI_j (by decide)) fun E E' a j Hh F S=>?_
   obtain ⟨B1',B2',H'⟩:=HQ_soft (E:=E) (E':=E') (B1:=B1) (B2:=B2) Hh S
   refine ⟨I2_soft S j,TQ (.int .i64 i) (.int .i64 k) .top .top,_,H',TQ_soft S F (by simp only [TQ,tp,wkL,true_or,or_true,and_self]) trivial trivial trivial trivial,?_⟩
   simp only [go_sem,kR_normal]
   refine ofM (I2_kp E1) (rg ctNo_ok ?_)
   simp only [TQ,tp,go_sem,cond_true]
   repeat ((with_reducible refine And.intro ?_ ?_);focus (first|(and_intros<;>first|(with_reducible trivial)|omega|assumption|exact nfc|first|exact rfl|exact trivial|exact fitI|exact .inr rfl|exact .inl rfl|exact fun x hx=>absurd hx (by omega))|grind))
   rw [wr_in (by omega)]
   exact ⟨(k+1,B1',B2'),⟨by simp only;omega,by simp only;omega⟩,by simp only;omega,wk_back (by simp only [wkL,true_or,or_true,and_self])⟩
  ·refine exitR ?_
   simp only [go_sem,kR_normal,kR_exit,cond_false,cond_true,Nat.reduceBEq]
   refine ofM (I2_kp E1) (rg ctNo_ok ?_)
   simp only [go_sem,cond_true]
   repeat ((with_reducible refine And.intro ?_ ?_);focus (first|(and_intros<;>first|(with_reducible trivial)|omega|assumption|exact nfc|first|exact rfl|exact trivial|exact fitI|exact .inr rfl|exact .inl rfl|exact fun x hx=>absurd hx (by omega))|grind))
   rw [wr_in (by omega)]
   exact ⟨(i+1,B1,B2),⟨by simp only;omega,by simp only;omega⟩,by simp only;omega,wk_back (by simp only [wkL,true_or,or_true,and_self])⟩
 refine exitR ?_
 simp only [go_sem,kR_normal,kR_exit,cond_true]
 refine seqR (seqR (ofM (I2_kp E1) (rg ctNo_ok ?_)))
 simp only [go_sem,kR_normal]
 repeat ((with_reducible refine And.intro ?_ ?_);focus (first|(and_intros<;>first|(with_reducible trivial)|omega|assumption|exact nfc|first|exact rfl|exact trivial|exact fitI|exact .inr rfl|exact .inl rfl|exact fun x hx=>absurd hx (by omega))|grind))
 refine wkR (t':=TQ .top .top (.int .i64 0) .top) (by simp only [TQ,tp,wkL,true_or,or_true,and_self]) (blkR ?_)
 refine loopR (α:=Int × (Nat->Nat->Int) × (Nat->Nat->Int)) (fun x=>TQ .top .top (.int .i64 x.1) .top) (fun x=>HQ p0.Limit p0.Stay u2 u3 r3.Limit r3.Stay w2 w3 n1 l1 n2 l2 x.2.1 x.2.2) (fun x=>0 <= x.1/\x.1 <= (n2:Int)) (fun x=>((n2:Int) - x.1).toNat) (0,B1,B2) ⟨Int.le_refl _,by omega⟩ ?_
 clear B1 B2
 intro ⟨i,B1,B2⟩ ⟨hi0,hi1⟩
 simp only at hi0 hi1 ⊢
 refine seqR (seqR (ofM (I2_kp E1) (rg ctNo_ok ?_)))
 simp only [TQ,HQ,tp,go_sem,kR_normal,cond_false,cond_true,Nat.reduceLeDiff,Nat.reduceLT,Nat.reduceAdd]
 repeat ((with_reducible refine And.intro ?_ ?_);focus (first|(and_intros<;>first|(with_reducible trivial)|omega|assumption|exact nfc|first|exact rfl|exact trivial|exact fitI|exact .inr rfl|exact .inl rfl|exact fun x hx=>absurd hx (by omega))|grind))
 refine condR _ rfl trivial (fun hc=>?_) (fun hc=>?_)
 ·have hi:i < (n2:Int):=by simpa [bLt_eq] using hc
  have hin:i.toNat < n2:=by omega
  have hlk:=hl2 i.toNat hin
  refine skipR ?_
  simp only [kR_normal]
  refine seqR (blkR (seqR (ofM (I2_kp E1) (rg ctNo_ok ?_))))
  simp only [go_sem,kR_normal]
  repeat ((with_reducible refine And.intro ?_ ?_);focus (first|(and_intros<;>first|(with_reducible trivial)|omega|assumption|exact nfc|first|exact rfl|exact trivial|exact fitI|exact .inr rfl|exact .inl rfl|exact fun x hx=>absurd hx (by omega))|grind))
  refine wkR (t':=TQ .top .top (.int .i64 i) (.int .i64 0)) (by simp only [TQ,tp,wkL,true_or,or_true,and_self]) (blkR ?_)
  refine loopR (α:=Int × (Nat->Nat->Int) × (Nat->Nat->Int)) (fun x=>TQ .top .top (.int .i64 i) (.int .i64 x.1)) (fun x=>HQ p0.Limit p0.Stay u2 u3 r3.Limit r3.Stay w2 w3 n1 l1 n2 l2 x.2.1 x.2.2) (fun x=>0 <= x.1/\x.1 <= (l2 i.toNat:Int)) (fun x=>((l2 i.toNat:Int) - x.1).toNat) (0,B1,B2) ⟨Int.le_refl _,by omega⟩ ?_
  clear B1 B2
  intro ⟨k,B1,B2⟩ ⟨hk0,hk1⟩
  simp only at hk0 hk1 ⊢
  refine seqR (seqR (ofM (I2_kp E1) (rg ctNo_ok ?_)))
  simp only [TQ,HQ,tp,go_sem,kR_normal,fA_J,cond_false,cond_true,Nat.reduceLeDiff,Nat.reduceLT,Nat.reduceAdd]
  repeat ((with_reducible refine And.intro ?_ ?_);focus (first|(and_intros<;>first|(with_reducible trivial)|omega|assumption|exact nfc|first|exact rfl|exact trivial|exact fitI|exact .inr rfl|exact .inl rfl|exact fun x hx=>absurd hx (by omega))|grind))
  refine condR _ rfl trivial (fun hc=>?_) (fun hc=>?_)
  ·have hk:k < (l2 i.toNat:Int):=by simpa [bLt_eq] using hc
   refine skipR ?_
   simp only [kR_normal]
   refine seqR (blkR (regR (cutRO shT_ok ctNo_ok (I2_kp E1) 9 ?_)))
   simp only [go_sem,kRO_normal,fA_J,cond_false,List.take_succ_cons,List.take_zero,List.drop_succ_cons,List.drop_zero,Nat.reduceLeDiff,Nat.reduceLT,Nat.reduceAdd]
   repeat ((with_reducible refine And.intro ?_ ?_);focus (first|(and_intros<;>first|(with_reducible trivial)|omega|assumption|exact nfc|first|exact rfl|exact trivial|exact fitI|exact .inr rfl|exact .inl rfl|exact fun x hx=>absurd hx (by omega))|grind))
   refine softO (κ:=.i64) rfl rfl rfl tsz3 trivial trivial rfl rfl (by omega) (by decide) fI_fl (fI_j (by decide)) fun E E' a j Hh F S=>?_
   obtain ⟨B1',B2',H'⟩:=HQ_soft (E:=E) (E':=E') (B1:=B1) (B2:=B2) Hh S
   refine ⟨I2_soft S j,TQ .top .top (.int .i64 i) (.int .i64 k),_,H',TQ_soft S F (by simp only [TQ,tp,wkL,true_or,or_true,and_self]) trivial trivial trivial trivial,?_⟩
   simp only [go_sem,kR_normal]
   refine ofM (I2_kp E1) (rg ctNo_ok ?_)
   simp only [TQ,tp,go_sem,cond_true]
   repeat ((with_reducible refine And.intro ?_ ?_);focus (first|(and_intros<;>first|(with_reducible trivial)|omega|assumption|exact nfc|first|exact rfl|exact trivial|exact fitI|exact .inr rfl|exact .inl rfl|exact fun x hx=>absurd hx (by omega))|grind))
   rw [wr_in (by omega)]
   exact ⟨(k+1,B1',B2'),⟨by simp only;omega,by simp only;omega⟩,by simp only;omega,wk_back (by simp only [wkL,true_or,or_true,and_self])⟩
  ·refine exitR ?_
   simp only [go_sem,kR_normal,kR_exit,cond_false,cond_true,Nat.reduceBEq]
   refine ofM (I2_kp E1) (rg ctNo_ok ?_)
   simp only [go_sem,cond_true]
   repeat ((with_reducible refine And.intro ?_ ?_);focus (first|(and_intros<;>first|(with_reducible trivial)|omega|assumption|exact nfc|first|exact rfl|exact trivial|exact fitI|exact .inr rfl|exact .inl rfl|exact fun x hx=>absurd hx (by omega))|grind))
   rw [wr_in (by omega)]
   exact ⟨(i+1,B1,B2),⟨by simp only;omega,by simp only;omega⟩,by simp only;omega,wk_back (by simp only [wkL,true_or,or_true,and_self])⟩
 refine exitR ?_
 simp only [go_sem,kR_normal,kR_exit,cond_true]
 refine seqR (regR (cutRO shT_ok ctNo_ok (I2_kp E1) 4 ?_))
 simp only [go_sem,kRO_normal,cond_true,List.take_succ_cons,List.take_zero,List.drop_succ_cons,List.drop_zero,Nat.reduceLT,Nat.reduceAdd]
 repeat ((with_reducible refine And.intro ?_ ?_);focus (first|(and_intros<;>first|(with_reducible trivial)|omega|assumption|exact nfc|first|exact rfl|exact trivial|exact fitI|exact .inr rfl|exact .inl rfl|exact fun x hx=>absurd hx (by omega))|grind))
 refine atO fun E a i Hh F=>?_
 refine ⟨_,_,Hh,FR_re (FR_re F 119 (x:=.opt true (.agg [.int .i64 p0.Limit,.int .i64 p0.Stay,.ro 3 p0.List.length false (enR c_TSleeper p0.List),.ro 43 p0.Group.length false (enR c_TStored p0.Group)])) (fun u h=>by cases h with|opt_t a v h=>exact .opt_t _ _ (buf_re i hu2 hu3 h))) 120 (x:=.opt true (.agg [.int .i64 r3.Limit,.int .i64 r3.Stay,.ro 3 r3.List.length false (enR c_TSleeper r3.List),.ro 43 r3.Group.length false (enR c_TStored r3.Group)])) (fun u h=>by cases h with|opt_t a v h=>exact .opt_t _ _ (buf_re i hw2 hw3 h)),?_⟩
 clear Hh F i
 simp only [setL]
 refine ofO (I2_kp E1) (cutO shT_ok ct5t5_ok 3 ?_)
 simp only [go_sem,kO_normal,cond_true,List.take_succ_cons,List.take_zero,List.drop_succ_cons,List.drop_zero,Nat.reduceAdd,ct5t5_31,body31]
 repeat ((with_reducible refine And.intro ?_ ?_);focus (first|(and_intros<;>first|(with_reducible trivial)|omega|assumption|exact nfc|first|exact rfl|exact trivial|exact fitI|exact .inr rfl|exact .inl rfl|exact fun x hx=>absurd hx (by omega))|grind))
 refine endO ?_
 simp only [kR_normal]
 refine retR ?_
 simp only [go_sem]
 exact congrArg AV.bool g0
end Go.Proofs.Ytnclkplbeenmdaa
