/-
  The law's walk: what is written into the results leaves what was given as it was.
-/
import Derived.Test.YtefiemaoacmdkaaSP
import Derived.Test.YtefiemaoacmdkaaZE
namespace Go.Proofs.Ytefiemaoacmdkaa
open Go.Am
set_option linter.unusedVariables false
set_option linter.unusedSimpArgs false
def I1 (W:World) (E:Env):Prop:=(∀ k,k < W.heap.size->E.prot k/\E.w.heap[k]? = W.heap[k]?)/\E.w.os=W.os/\E.w.tape=W.tape/\E.w.output=W.output/\W.heap.size <= E.w.heap.size
theorem I1_kp (W:World):Ikp (I1 W):=fun E h E' h' H X ⟨i3,i4,i5,i6,i7⟩ =>
 ⟨fun k q=>⟨X.prot k (i3 k q).1,(X.frame k (H.prot k (i3 k q).1).1 (H.prot k (i3 k q).1).2).trans (i3 k q).2⟩,X.os.trans i4,X.tape.trans i5,X.output.trans i6,Nat.le_trans i7 X.size⟩
theorem I1_of {W:World} {E0 E:Env} (i:I2 E0 E) (j:I1 W E0):I1 W E:=by
 obtain ⟨i1,i2,i3,i4,i5,i6,i7⟩:=i
 obtain ⟨j3,j4,j5,j6,j7⟩:=j
 exact ⟨fun k q=>⟨(i3 k (j3 k q).1).1,(i3 k (j3 k q).1).2.trans (j3 k q).2⟩,i4.trans j4,i5.trans j5,i6.trans j6,Nat.le_trans j7 i7⟩
theorem calls_R {P:Program} {f:FuncId} {fn:Func} {code:Code} {rs:List ResultVar} {l:List AV} {vs:Array Value} {W:World}
  (hf:P.funcs[f]? = some fn) (hb:fn.body=some code) (hrs:fn.results.toList=rs) (F:FR (top W) l vs)
  (hm:uV (I1 W) P code (kY P rs fun v _=>v = .bool true) (l ++ List.replicate (fn.ntmps - l.length) .top) []) :
  Calls P f vs W fun e W'=>e = .returned (.bool true)/\Same W W':=by
 subst hrs
 have F2:FR (top W) (l ++ List.replicate (fn.ntmps - l.length) .top) (vs ++ Array.replicate (fn.ntmps - vs.size) undef):=by
  refine xM F ⟨by simp [F.1],fun i a v ha hv=>?_⟩
  rw [List.getElem?_replicate] at ha
  split at ha
  ·injection ha with ha;subst ha;exact .top _
  ·cases ha
 refine calls_of_wp hf hb ?_
 refine hm (top W) _ _ ⟨fun k q=>⟨q,rfl⟩,rfl,rfl,rfl,Nat.le_refl _⟩ (top_HR W) F2 rfl fun e E' a' t' h' hk i' H' F' hd=>?_
 obtain ⟨i3,i4,i5,i6,i7⟩:=i'
 have done:cV P fn.results.toList (fun w _=>w = .bool true) t' h'->a'.defers=[]/\∃ u,(results fn a'.tmps).run P E'.w = .ok u E'.w/\(fun (e:Ending) W'=>e = .returned (.bool true)/\Same W W') (.returned u) E'.w:=by
  intro hk
  obtain ⟨u,v',q1,rfl,q3⟩:=tP (P:=P) H' F' hk
  exact ⟨hd,u,q1,by rw [qV q3],⟨i4,i5,i6,i7,fun k hk=>(i3 k hk).2⟩⟩
 cases e with
 | normal=>exact done hk
 | ret=>exact done hk
 | exit id=>exact hk.elim
 | goto l=>exact hk.elim
theorem NF_en {α:Type} [Inhabited α] {f:α->List AV} {es n:Nat} {nl:Bool} {L:List α} (hf:∀ q,(f q).length=es) (h:∀ q,∀ a ∈ f q,NF a):NF (.ro es n nl (enR f L)):=by
 refine .ro _ _ _ _ (fun ⟨x,e⟩=>?_) fun x y _ hy=>?_
 ·rw [show enR f L x es = .top from tN (by rw [hf];exact Nat.le_refl _)] at e;cases e
 ·exact h _ _ (List.mem_of_getElem? (yZ (by rw [hf];exact hy)))
theorem NF_u8 {n:Nat} {nl:Bool} {L:List Int}:NF (.ro 1 n nl (enR xA L)):=NF_en (fun _=>rfl) (by simp only [xA,List.mem_cons,List.not_mem_nil,or_false,forall_eq];intro q;constructor)
theorem gN {n:Nat} {nl:Bool} {L:List TStored}:NF (.ro 43 n nl (enR zD L)):=NF_en (fun _=>rfl) (by intro q;simp only [zD,List.mem_cons,List.not_mem_nil,or_false,forall_eq_or_imp,forall_eq];and_intros<;>first|exact NF_u8|constructor)
theorem fQ {n:Nat} {nl:Bool} {L:List TSleeper}:NF (.ro 3 n nl (enR zC L)):=NF_en (fun _=>rfl) (by intro q;simp only [zC,List.mem_cons,List.not_mem_nil,or_false,forall_eq_or_imp,forall_eq];and_intros<;>first|exact gN|constructor)
theorem eD {E:Env} {b:Nat} {e:TypeId} {l:List AV} (h:BR E b (.lit e l)) (i:Nat) (hi:Nat.ble (i+1) l.length=true):∃ u,VR E (zL l i) u/\BR E b (.lit e (kG l i (.val u))):=by
 obtain ⟨k,o,cs,q1,q2,q3,q4⟩:=h
 replace hi:=Nat.le_of_ble_eq_true hi
 obtain ⟨u,x1,x2,x3⟩:=q4 i (zL l i) (yZ hi)
 refine ⟨u,x3,k,o,cs,q1,q2,by rw [tH];exact q3,fun j a hj=>?_⟩
 rw [dO] at hj
 by_cases w:j=i/\i < l.length
 ·rw [if_pos w] at hj
  obtain ⟨rfl,_⟩:=w
  cases hj
  exact ⟨u,x1,x2,.val _ x2⟩
 ·rw [if_neg w] at hj;exact q4 j a hj
theorem aggV {E:Env} {l:List AV} {v u:Value} {x:AV} (i:Nat) (h:VR E (.agg l) v) (hi:zL l i = .val u) (hx:VR E x u):VR E (.agg (kG l i x)) v:=by
 refine agg_re h (by rw [tH]) fun j a a' q1 q2 w hw=>?_
 rw [dO] at q2
 by_cases z:j=i/\i < l.length
 ·rw [if_pos z] at q2
  obtain ⟨rfl,_⟩:=z
  cases q2
  rw [show zL l j=a from by have:=yZ (l:=l) (j:=j) (by rcases Nat.lt_or_ge j l.length with w|w;exact w;rw [List.getElem?_eq_none w] at q1;cases q1);rw [q1] at this;exact (Option.some.inj this).symm] at hi
  subst hi
  cases hw
  exact hx
 ·rw [if_neg z,q1] at q2;cases q2;exact hw
theorem HR6 {E:Env} {a0 a1 a2 a3 a4 a5 x0 x1 x4 x5:ABlk} (H:HR E [a0,a1,a2,a3,a4,a5]) (d0:a0 ≠ .dead) (d1:a1 ≠ .dead) (d4:a4 ≠ .dead) (d5:a5 ≠ .dead) (b0:BR E 0 x0) (b1:BR E 1 x1) (b4:BR E 4 x4) (b5:BR E 5 x5):HR E [x0,x1,.dead,.dead,x4,x5]:=HR_re H rfl fun b x' hb=>by
 match b,hb with
 | 0,hb=>cases hb;exact .inr ⟨b0,_,rfl,d0⟩
 | 1,hb=>cases hb;exact .inr ⟨b1,_,rfl,d1⟩
 | 2,hb=>cases hb;exact .inl rfl
 | 3,hb=>cases hb;exact .inl rfl
 | 4,hb=>cases hb;exact .inr ⟨b4,_,rfl,d4⟩
 | 5,hb=>cases hb;exact .inr ⟨b5,_,rfl,d5⟩
theorem draw_tailR {I:Env->Prop} {P:Program} {h:List ABlk} {sh:TypeId->Option (List Leaf)} {ct:Ct} (S:fN P sh) (C:wO P ct) (hI:Ikp I) (n:Nat) {id:Nat} {l:List Oper} {K:Kt} {t:List AV} (hm:P.follows .mixedOrders=true) (hB:Region.lexTailB .any l.toArray n=true) (hn:noCallB (l.take n)=true)
  (hw:wpQ P sh ct l (kRO I P l.toArray (l.drop n) K) h (l.take n) t):uV I P (.region id l.toArray true) K t h:=by
 intro E a Q i H F hd hQ
 refine wp_region_still_tail n hm hB ?_
 have hS:Same E.w { E.w with drawn:=E.w.drawn+1 }:=⟨rfl,rfl,rfl,Nat.le_refl _,fun _ _=>rfl⟩
 refine wpQ_still (w:={ E.w with drawn:=E.w.drawn+1 }) (K:=kRO I P l.toArray (l.drop n) K) (ops:=l.toArray) S C (fun _ _=>rfl) H (l.take n) hn t a F hd (by simpa using hw) fun t' a' hk F' hd'=>?_
 obtain ⟨H1,X1⟩:=fP H hS
 exact hk { E with w:={ E.w with drawn:=E.w.drawn+1 } } a' Q (hI E h _ h H X1 i) H1 (vF (X1.keep H) F') hd' hQ
def TW (o d i:AV):List AV:=.top::.top::.ptr 0 0 0 0::.ptr 1 0 0 0::.top::.ptr 4 0 0 0::.ptr 5 0 0 0::o::d::.ptr 6 0 0 0::tp 5 (.bool true::i::tp 90 [])
def HW (B S C R:List AV) (n m:Nat) (L:List TSleeper) (G:List TStored):List ABlk:=[.lit 25 B,.lit 70 S,.dead,.dead,.lit 25 C,.lit 33 R,.lit 25 [.top,.top,.ro 3 n false (enR zT L),.ro 43 m false (enR zJ G)],.dead]
theorem HW_soft {E E':Env} {B S C R:List AV} {n m:Nat} {L:List TSleeper} {G:List TStored} (H:HR E (HW B S C R n m L G)) (s:Soft E E') (hB:∀ a ∈ B,NS a) (hS:∀ a ∈ S,NS a) (hC:∀ a ∈ C,NS a) (hR:∀ a ∈ R,NS a) (hL:L.length=n) (hG:G.length=m) :
  ∃ L' G',L'.length=n/\(∀ x,x < n->(gd L' x).Held.length=(gd L x).Held.length)/\G'.length=m/\HR E' (HW B S C R n m L' G'):=by
 obtain ⟨k,o,cs,q1,q2,q3,q4⟩:=H.blk 6 _ rfl
 obtain ⟨v2,x1,x2,x3⟩:=q4 2 _ rfl
 obtain ⟨v3,y1,y2,y3⟩:=q4 3 _ rfl
 obtain ⟨L',g1,g2,g3⟩:=soft_TSleeper s hL x3
 obtain ⟨G',g4,g5⟩:=soft_TStored s hG y3
 refine ⟨L',G',g1,g2,g4,HR_soft H s rfl fun b x' hb=>?_⟩
 match b,hb with
 | 0,hb=>cases hb;exact .inr ⟨litN_soft H s (b:=0) rfl hB,_,rfl,fun e=>by cases e⟩
 | 1,hb=>cases hb;exact .inr ⟨litN_soft H s (b:=1) rfl hS,_,rfl,fun e=>by cases e⟩
 | 2,hb=>cases hb;exact .inl rfl
 | 3,hb=>cases hb;exact .inl rfl
 | 4,hb=>cases hb;exact .inr ⟨litN_soft H s (b:=4) rfl hC,_,rfl,fun e=>by cases e⟩
 | 5,hb=>cases hb;exact .inr ⟨litN_soft H s (b:=5) rfl hR,_,rfl,fun e=>by cases e⟩
 | 6,hb =>
  cases hb
  refine .inr ⟨⟨k,o,cs,by rw [s.σ];exact q1,(own_cells H s (b:=6) rfl (fun e=>by cases e) q1).trans q2,q3,fun j a hj=>?_⟩,_,rfl,fun e=>by cases e⟩
  match j,hj with
  | 0,hj =>
   obtain ⟨v,z1,z2,z3⟩:=q4 0 _ rfl
   cases hj
   exact ⟨v,z1,z2,.top _⟩
  | 1,hj =>
   obtain ⟨v,z1,z2,z3⟩:=q4 1 _ rfl
   cases hj
   exact ⟨v,z1,z2,.top _⟩
  | 2,hj=>cases hj;exact ⟨v2,x1,x2,g3⟩
  | 3,hj=>cases hj;exact ⟨v3,y1,y2,g5⟩
 | 7,hb=>cases hb;exact .inl rfl
theorem TW_soft {E E':Env} {t:List AV} {a:Array Value} {i:AV} (S:Soft E E') (F:FR E t a) (h:wkL t (TW .top .top i)) (n1:NS i):FR E' (TW .top .top i) a :=
 FR_soft S (FR_wk h F) (by
  simp only [TW,tp,List.mem_cons,List.not_mem_nil,or_false,forall_eq_or_imp,forall_eq]
  and_intros<;>first|trivial|assumption)
theorem TW_soft1 {E E':Env} {t:List AV} {a:Array Value} {o:AV} {n:Nat} {D:List TFrame} (S:Soft E E') (hD:D.length=n) (F:FR E t a) (h:wkL t (TW o (.ro 41 n false (enR yD D)) .top)):∃ D':List TFrame,D'.length=n/\FR E' (TW .top (.ro 41 n false (enR yD D')) .top) a:=by
 have F1:=FR_wk h F
 obtain ⟨D',h1,h2,h3⟩:=soft_TFrame S hD (FR_get F1 8)
 have F2:=TW_soft S F1 (by simp only [TW,tp,wkL,true_or,or_true,and_self]) (i:=.top) trivial
 exact ⟨D',h1,FR_val F2 8 h3⟩
theorem HR8 {E:Env} {B S C R:List AV} {x0:ABlk} {l l':List AV} (H:HR E [.lit 25 B,.lit 70 S,.dead,.dead,.lit 25 C,.lit 33 R,.lit 25 l,x0]) (b6:BR E 6 (.lit 25 l')):HR E [.lit 25 B,.lit 70 S,.dead,.dead,.lit 25 C,.lit 33 R,.lit 25 l',.dead]:=HR_re H rfl fun b x' hb=>by
 match b,hb with
 | 0,hb=>cases hb;exact .inr ⟨H.blk 0 _ rfl,_,rfl,fun e=>by cases e⟩
 | 1,hb=>cases hb;exact .inr ⟨H.blk 1 _ rfl,_,rfl,fun e=>by cases e⟩
 | 2,hb=>cases hb;exact .inl rfl
 | 3,hb=>cases hb;exact .inl rfl
 | 4,hb=>cases hb;exact .inr ⟨H.blk 4 _ rfl,_,rfl,fun e=>by cases e⟩
 | 5,hb=>cases hb;exact .inr ⟨H.blk 5 _ rfl,_,rfl,fun e=>by cases e⟩
 | 6,hb=>cases hb;exact .inr ⟨b6,_,rfl,fun e=>by cases e⟩
 | 7,hb=>cases hb;exact .inl rfl
set_option maxHeartbeats 4000000 in
set_option maxRecDepth 20000 in
theorem calls7 {W:World} {args:Array Value} {p0:TBuffer} {p1:TStep} (F:FR (top W) [.agg (xB p0),.agg (wP p1)] args)
  (H:F11 p0 p1.Frame=some true ∨ F11 p0 p1.Frame=some false/\∃ r3 r5 r7 r9,F29 p0=some r3/\F30_0 p1.Frame=some r5/\F31 p0 p1=some r7/\F32 p0 p1=some r9/\F33 r7.1 r9.1=some true/\F33 r7.2.1 r9.2.1=some true/\F16 r7.2.2.1 r9.2.2.1=some true/\bEq r7.2.2.2 r9.2.2.2=true /\
   (∀ L:List TStored,L.length=r7.2.2.1.Group.length->∃ r,F35 L=some r)/\(∀ x,x < r7.2.2.1.List.length->∀ L:List TStored,L.length=(gd r7.2.2.1.List x).Held.length->∃ r,F35 L=some r)/\F16 p0 r3=some true/\F36 p1.Frame r5=some true) :
  Calls Try.prog 7 args W fun e W'=>e = .returned (.bool true)/\Same W W':=by
 refine calls_R (rs:=[.tmp 4]) Try.func7 rfl rfl F ?_
 rw [Try.ntmps7]
 simp only [xB,wP,lCl,lNl,Nat.reduceAdd,Nat.reduceSub,rS,rZ,aC,aN]
 refine jV (ofM (I1_kp W) (rg zA ?_))
 simp only [go_sem,yE,xE,xT,yG,zK,cond_false,cond_true,tS,tZ,dSl,dZ,Nat.reduceLeDiff,Nat.reduceLT,Nat.reduceAdd,Nat.reduceMul,Nat.reduceSub,Nat.reduceEqDiff,Nat.reduceBEq,Int.reduceToNat,reduceCtorEq]
 repeat ((with_reducible refine And.intro ?_ ?_);focus (exact kl))
 obtain ⟨r1,e1⟩:∃ r1,F11 p0 p1.Frame=some r1:=by rcases H with h|h;exact ⟨_,h⟩;exact ⟨_,h.1⟩
 rw [e1] at H
 refine jV (jV (ofM (I1_kp W) (rg (zE ok11 zU) ?_)))
 simp only [tabH,tabN,body11,e1,gt_some,Option.isSome_some,go_sem,yE,xE,xT,yG,zK,cond_false,cond_true,tS,tZ,dSl,dZ,Nat.reduceLeDiff,Nat.reduceLT,Nat.reduceAdd,Nat.reduceMul,Nat.reduceSub,Nat.reduceEqDiff,Nat.reduceBEq,Int.reduceToNat,reduceCtorEq]
 repeat ((with_reducible refine And.intro ?_ ?_);focus (exact kl))
 refine condR r1 rfl trivial (fun hc=>?_) (fun hc=>?_)
 ·refine ofM (I1_kp W) (sq zA ?_)
  simp only [go_sem,yE,xE,xT,yG,zK,cond_false,cond_true,tS,tZ,dSl,dZ,Nat.reduceLeDiff,Nat.reduceLT,Nat.reduceAdd,Nat.reduceMul,Nat.reduceSub,Nat.reduceEqDiff,Nat.reduceBEq,Int.reduceToNat,reduceCtorEq]
  refine rg zA ?_
  simp only [go_sem,yE,xE,xT,yG,zK,cond_false,cond_true,tS,tZ,dSl,dZ,Nat.reduceLeDiff,Nat.reduceLT,Nat.reduceAdd,Nat.reduceMul,Nat.reduceSub,Nat.reduceEqDiff,Nat.reduceBEq,Int.reduceToNat,reduceCtorEq]
 subst hc
 obtain ⟨_,r3,r5,r7,r9,e29,e30,e31,e32,a1,a2,a3,a4,f1,f2,a5,a6⟩:=H.resolve_left (by simp)
 refine ofM (I1_kp W) (rg zA ?_)
 simp only [go_sem,yE,xE,xT,yG,zK,cond_false,cond_true,tS,tZ,dSl,dZ,Nat.reduceLeDiff,Nat.reduceLT,Nat.reduceAdd,Nat.reduceMul,Nat.reduceSub,Nat.reduceEqDiff,Nat.reduceBEq,Int.reduceToNat,reduceCtorEq]
 refine jV (ofM (I1_kp W) (yW zO (zE ok29 <| zE ok30_0 zU) 4 (by kernel_rfl) (by kernel_rfl) ?_))
 intro an han
 simp only [tabH,tabN,body29,body30_0,e29,e30,gt_some,Option.isSome_some,and_false,false_and,vZ,wV,qS,xrD,xoD,qT,uC,List.append_nil,xJ,refs,vC,mask,wY,place,xV,wZ,xZ,hit,inL,xK,ren,tO,rnN,nrH,nrB,nrL,nr,dead0,deadS,rZ,rS,Nat.sub_self,Nat.add_zero,Nat.zero_add,Nat.not_lt_zero,Nat.zero_le,Nat.lt_add_one,go_sem,yE,xE,xT,yG,zK,cond_false,cond_true,tS,tZ,dSl,dZ,Nat.reduceLeDiff,Nat.reduceLT,Nat.reduceAdd,Nat.reduceMul,Nat.reduceSub,Nat.reduceEqDiff,Nat.reduceBEq,Int.reduceToNat,reduceCtorEq]
 repeat ((with_reducible refine And.intro ?_ ?_);focus (exact kl))
 refine atR fun E a i Hh F=>?_
 obtain ⟨Hf,Xf⟩:=fz_HR (fz:=[2,3]) Hh (by
  simp only [go_sem,Nat.reduceEqDiff,Nat.reduceBEq,Nat.reduceAdd]
  (try and_intros)<;>first|(with_reducible trivial)|omega|exact nfc|trivial)
 have F1:=vF (Xf.keep Hh) (FR_wk (t':=(.top::.top::.ptr 0 0 0 0::.ptr 1 0 0 0::.top::.ptr 4 0 0 0::.ptr 5 0 0 0::tp 100 [])) (by simp only [tp,wkL,true_or,or_true,and_self]) F)
 have i1:=I1_kp W _ _ _ _ Hh Xf i
 simp only [go_sem,Nat.reduceEqDiff,Nat.reduceBEq,Nat.reduceAdd] at Hf
 have key:=(⟨_,Hf,F1,i1,rfl⟩:∃ E1,HR E1 _/\FR E1 _ a.tmps/\I1 W E1/\E1.w=E.w)
 clear Hf F1 i1 Xf F i Hh
 obtain ⟨E1,Hf,F1,i1,ew⟩:=key
 obtain ⟨u0,hu0,b0⟩:=eD (Hf.blk 0 _ rfl) 2 rfl
 obtain ⟨u1,hu1,b0⟩:=eD b0 3 rfl
 obtain ⟨u2,hu2,b1⟩:=eD (Hf.blk 1 _ rfl) 44 rfl
 obtain ⟨w0,hw0,b4⟩:=eD (Hf.blk 4 _ rfl) 2 rfl
 obtain ⟨w1,hw1,b4⟩:=eD b4 3 rfl
 obtain ⟨w2,hw2,b5⟩:=eD (Hf.blk 5 _ rfl) 40 rfl
 simp only [kG,zL] at b0 b1 b4 b5 hu0 hu1 hu2 hw0 hw1 hw2
 have H2:=HR6 Hf (fun e=>by cases e) (fun e=>by cases e) (fun e=>by cases e) (fun e=>by cases e) b0 b1 b4 b5
 clear b0 b1 b4 b5 Hf
 refine ⟨E1.reb,_,_,I2 E1,ew,HR_reb H2 (by simp only [List.mem_cons,List.not_mem_nil,or_false,forall_eq_or_imp,forall_eq,NFb,true_and,and_true,and_self];and_intros<;>constructor),FR_old (I2_reb E1) F1 (by simp only [tp,List.mem_cons,List.not_mem_nil,or_false,forall_eq_or_imp,forall_eq];and_intros<;>constructor),I2_reb E1,fun E' i2=>I1_of i2 i1,?_⟩
 clear H2 F1
 simp only [tp]
 refine jV (regR (cutRO zO zA (jX E1) 2 ?_))
 simp only [go_sem,yE,xE,xT,yG,zK,cond_false,cond_true,tS,tZ,dSl,dZ,Nat.reduceLeDiff,Nat.reduceLT,Nat.reduceAdd,Nat.reduceMul,Nat.reduceSub,Nat.reduceEqDiff,Nat.reduceBEq,Int.reduceToNat,reduceCtorEq]
 repeat ((with_reducible refine And.intro ?_ ?_);focus (exact kl))
 refine atO fun E a i Hh F=>?_
 refine ⟨_,_,Hh,FR_re (FR_re F 27 (x:=.agg (xB p0)) (fun u h=>aggV 3 (aggV 2 h rfl (hu0.old i fQ)) rfl (hu1.old i gN))) 28 (x:=.agg (wP p1)) (fun u h=>aggV 44 h rfl (hu2.old i NF_u8)),?_⟩
 clear Hh F i
 simp only [kG,xB,wP]
 refine ofO (jX E1) (xS zO (zE ok31d zU) 11 ?_)
 simp only [tabH,tabN,body31d,e31,gt_some,Option.isSome_some,go_sem,yE,xE,xT,yG,zK,cond_false,cond_true,tS,tZ,dSl,dZ,Nat.reduceLeDiff,Nat.reduceLT,Nat.reduceAdd,Nat.reduceMul,Nat.reduceSub,Nat.reduceEqDiff,Nat.reduceBEq,Int.reduceToNat,reduceCtorEq]
 repeat ((with_reducible refine And.intro ?_ ?_);focus (exact kl))
 refine vN ?_
 simp only [yE]
 refine jV (regR (cutRO zO zA (jX E1) 2 ?_))
 simp only [go_sem,yE,xE,xT,yG,zK,cond_false,cond_true,tS,tZ,dSl,dZ,Nat.reduceLeDiff,Nat.reduceLT,Nat.reduceAdd,Nat.reduceMul,Nat.reduceSub,Nat.reduceEqDiff,Nat.reduceBEq,Int.reduceToNat,reduceCtorEq]
 repeat ((with_reducible refine And.intro ?_ ?_);focus (exact kl))
 refine atO fun E a i Hh F=>?_
 refine ⟨_,_,Hh,FR_re (FR_re F 35 (x:=.agg (xB p0)) (fun u h=>aggV 3 (aggV 2 h rfl (hu0.old i fQ)) rfl (hu1.old i gN))) 36 (x:=.agg (wP p1)) (fun u h=>aggV 44 h rfl (hu2.old i NF_u8)),?_⟩
 clear Hh F i
 simp only [kG,xB,wP]
 refine ofO (jX E1) (xS zO (zE ok32 zU) 11 ?_)
 simp only [tabH,tabN,body32,e32,gt_some,Option.isSome_some,go_sem,yE,xE,xT,yG,zK,cond_false,cond_true,tS,tZ,dSl,dZ,Nat.reduceLeDiff,Nat.reduceLT,Nat.reduceAdd,Nat.reduceMul,Nat.reduceSub,Nat.reduceEqDiff,Nat.reduceBEq,Int.reduceToNat,reduceCtorEq]
 repeat ((with_reducible refine And.intro ?_ ?_);focus (exact kl))
 refine vN ?_
 simp only [yE]
 refine jV (ofM (jX E1) (rg (zE ok33 <| zE ok16 zU) ?_))
 simp only [tabH,tabN,body33,body16,a1,a2,a3,a4,gt_some,Option.isSome_some,go_sem,yE,xE,xT,yG,zK,cond_false,cond_true,tS,tZ,dSl,dZ,Nat.reduceLeDiff,Nat.reduceLT,Nat.reduceAdd,Nat.reduceMul,Nat.reduceSub,Nat.reduceEqDiff,Nat.reduceBEq,Int.reduceToNat,reduceCtorEq]
 repeat ((with_reducible refine And.intro ?_ ?_);focus (exact kl))
 refine atR fun E a i Hh F=>?_
 have b6:=BR_re (l':=[.top,.top,.ro 3 r7.2.2.1.List.length false (enR zT r7.2.2.1.List),.ro 43 r7.2.2.1.Group.length false (enR zJ r7.2.2.1.Group)]) (Hh.blk 6 _ rfl) rfl fun j x x' q1 q2 v hv=>by
  match j,q1,q2 with
  | 0,q1,q2=>cases q2;exact .top _
  | 1,q1,q2=>cases q2;exact .top _
  | 2,q1,q2=>cases q1;cases q2;exact hv
  | 3,q1,q2=>cases q1;cases q2;exact hv
 have hn:r7.2.2.1.List.length <= maxLen:=by
  obtain ⟨k,o,cs,q1,q2,q3,q4⟩:=b6
  obtain ⟨v,w1,w2,w3⟩:=q4 2 _ rfl
  exact ro_len w3
 simp only [maxLen] at hn
 have H8:=HR8 Hh b6
 refine ⟨E,TW (.ro 41 r7.1.length false (enR yD r7.1)) (.ro 41 r7.2.1.length false (enR yD r7.2.1)) .top,_,I2 E1,rfl,H8,FR_wk (by simp only [TW,tp,wkL,true_or,or_true,and_self]) F,i,fun _ h=>h,?_⟩
 clear H8 b6 Hh F i E a a1 a2 a3 a4 e29 e30 e31 e32
 obtain ⟨Hl,hL0⟩:∃ Hl:Nat->Nat,∀ x,x < r7.2.2.1.List.length->(gd r7.2.2.1.List x).Held.length=Hl x:=⟨_,fun _ _=>rfl⟩
 replace f2:∀ x,x < r7.2.2.1.List.length->∀ L:List TStored,L.length=Hl x->∃ r,F35 L=some r:=fun x hx L h=>f2 x hx L (h.trans (hL0 x hx).symm)
 generalize r7.2.2.1.List=L at *
 generalize r7.2.2.1.Group=G at *
 generalize r7.2.1=D at *
 generalize r7.1=O at *
 generalize hLl:L.length=n at *
 generalize hGl:G.length=m at *
 generalize hDl:D.length=nd at *
 clear F H e1 han
 refine jV (regR (cutRO zO zA (jX E1) 1 ?_))
 simp only [TW,tp,go_sem,yE,xE,xT,yG,zK,cond_false,cond_true,tS,tZ,dSl,dZ,Nat.reduceLeDiff,Nat.reduceLT,Nat.reduceAdd,Nat.reduceMul,Nat.reduceSub,Nat.reduceEqDiff,Nat.reduceBEq,Int.reduceToNat,reduceCtorEq]
 repeat ((with_reducible refine And.intro ?_ ?_);focus (exact kl))
 refine softCall (spoil_ok rfl) trivial rfl fun E E' a i Hh F S=>?_
 obtain ⟨L2,G2,g1,g2,g3,H'⟩:=HW_soft Hh S (by simp only [List.mem_cons,List.not_mem_nil,or_false,forall_eq_or_imp,forall_eq];and_intros<;>trivial) (by simp only [List.mem_cons,List.not_mem_nil,or_false,forall_eq_or_imp,forall_eq];and_intros<;>trivial) (by simp only [List.mem_cons,List.not_mem_nil,or_false,forall_eq_or_imp,forall_eq];and_intros<;>trivial) (by simp only [List.mem_cons,List.not_mem_nil,or_false,forall_eq_or_imp,forall_eq];and_intros<;>trivial) hLl hGl
 obtain ⟨D2,g4,F'⟩:=TW_soft1 (o:=.ro 41 O.length false (enR yD O)) S hDl F (by simp only [TW,tp,wkL,true_or,or_true,and_self])
 refine ⟨I2_soft S i,TW .top (.ro 41 nd false (enR yD D2)) .top,_,H',F',?_⟩
 replace hL0:=fun x hx=>(g2 x hx).trans (hL0 x hx)
 clear H' F' Hh F S i a E E' g2 hLl hGl hDl
 refine endRO ?_
 simp only [TW,tp,kG,yE]
 refine jV (regR (cutRO zO zA (jX E1) 1 ?_))
 simp only [go_sem,yE,xE,xT,yG,zK,cond_false,cond_true,tS,tZ,dSl,dZ,Nat.reduceLeDiff,Nat.reduceLT,Nat.reduceAdd,Nat.reduceMul,Nat.reduceSub,Nat.reduceEqDiff,Nat.reduceBEq,Int.reduceToNat,reduceCtorEq]
 repeat ((with_reducible refine And.intro ?_ ?_);focus (exact kl))
 refine softCall (spoil_ok g4) trivial rfl fun E E' a i Hh F S=>?_
 obtain ⟨L3,G3,g5,g6,g7,H'⟩:=HW_soft Hh S (by simp only [List.mem_cons,List.not_mem_nil,or_false,forall_eq_or_imp,forall_eq];and_intros<;>trivial) (by simp only [List.mem_cons,List.not_mem_nil,or_false,forall_eq_or_imp,forall_eq];and_intros<;>trivial) (by simp only [List.mem_cons,List.not_mem_nil,or_false,forall_eq_or_imp,forall_eq];and_intros<;>trivial) (by simp only [List.mem_cons,List.not_mem_nil,or_false,forall_eq_or_imp,forall_eq];and_intros<;>trivial) g1 g3
 have F':=TW_soft (i:=.top) S F (by simp only [TW,tp,wkL,true_or,or_true,and_self]) trivial
 refine ⟨I2_soft S i,TW .top .top .top,_,H',F',?_⟩
 replace hL0:=fun x hx=>(g6 x hx).trans (hL0 x hx)
 clear H' F' Hh F S i a E E' g6 g1 g3
 refine endRO ?_
 simp only [TW,tp,kG,yE]
 subst g7
 obtain ⟨r,hr⟩:=f1 G3 rfl
 refine jV (regR (cutRO zO (zE (gen_up ok35p) zU) (jX E1) 3 ?_))
 simp only [HW,tabH,tabN,upG,body35p,rL0,rL1,xP,eC,hr,gt_some,Option.isSome_some,go_sem,yE,xE,xT,yG,zK,cond_false,cond_true,tS,tZ,dSl,dZ,Nat.reduceLeDiff,Nat.reduceLT,Nat.reduceAdd,Nat.reduceMul,Nat.reduceSub,Nat.reduceEqDiff,Nat.reduceBEq,Int.reduceToNat,reduceCtorEq]
 repeat ((with_reducible refine And.intro ?_ ?_);focus (exact kl))
 refine softCall (spoil_ok rfl) trivial rfl fun E E' a i Hh F S=>?_
 obtain ⟨L4,G4,g1,g2,g3,H'⟩:=HW_soft Hh S (by simp only [List.mem_cons,List.not_mem_nil,or_false,forall_eq_or_imp,forall_eq];and_intros<;>trivial) (by simp only [List.mem_cons,List.not_mem_nil,or_false,forall_eq_or_imp,forall_eq];and_intros<;>trivial) (by simp only [List.mem_cons,List.not_mem_nil,or_false,forall_eq_or_imp,forall_eq];and_intros<;>trivial) (by simp only [List.mem_cons,List.not_mem_nil,or_false,forall_eq_or_imp,forall_eq];and_intros<;>trivial) g5 rfl
 have F':=TW_soft (i:=.top) S F (by simp only [TW,tp,wkL,true_or,or_true,and_self]) trivial
 refine ⟨I2_soft S i,TW .top .top .top,_,H',F',?_⟩
 replace hL0:=fun x hx=>(g2 x hx).trans (hL0 x hx)
 clear H' F' Hh F S i a E E' g2 g5 hr r f1
 generalize G3.length=m at *
 refine endRO ?_
 simp only [TW,tp,kG,yE]
 refine jV (jV (ofM (jX E1) (rg zA ?_)))
 simp only [go_sem,yE,xE,xT,yG,zK,cond_false,cond_true,tS,tZ,dSl,dZ,Nat.reduceLeDiff,Nat.reduceLT,Nat.reduceAdd,Nat.reduceMul,Nat.reduceSub,Nat.reduceEqDiff,Nat.reduceBEq,Int.reduceToNat,reduceCtorEq]
 refine wkR (t':=TW .top .top (.int .i64 0)) (by simp only [TW,tp,wkL,true_or,or_true,and_self]) (blkR ?_)
 refine loopR (α:=Int × List TSleeper × List TStored) (fun x=>TW .top .top (.int .i64 x.1)) (fun x=>HW _ _ _ _ n m x.2.1 x.2.2) (fun x=>0 <= x.1/\x.1 <= (n:Int)/\x.2.1.length=n/\(∀ y,y < n->(gd x.2.1 y).Held.length=Hl y)/\x.2.2.length=m) (fun x=>((n:Int) - x.1).toNat) (0,L4,G4) ⟨Int.le_refl _,by simp only;omega,g1,hL0,g3⟩ ?_
 clear g1 hL0 g3 L L2 L3 L4 G G2 G3 G4
 intro ⟨i,L,G⟩ ⟨hi0,hi1,hL,hH,hG⟩
 simp only at hi0 hi1 hL hH hG ⊢
 refine jV (jV (ofM (jX E1) (rg zA ?_)))
 simp only [TW,HW,tp,go_sem,yE,xE,xT,yG,zK,cond_false,cond_true,tS,tZ,dSl,dZ,Nat.reduceLeDiff,Nat.reduceLT,Nat.reduceAdd,Nat.reduceMul,Nat.reduceSub,Nat.reduceEqDiff,Nat.reduceBEq,Int.reduceToNat,reduceCtorEq]
 repeat ((with_reducible refine And.intro ?_ ?_);focus (exact kl))
 refine condR _ rfl trivial (fun hc=>?_) (fun hc=>?_)
 ·have hi:i < (n:Int):=by simpa [bLt_eq] using hc
  have hin:i.toNat < n:=by omega
  obtain ⟨r,hr⟩:=f2 i.toNat hin _ (hH i.toNat hin)
  refine skipR ?_
  simp only [yE]
  refine jV (blkR (jV (regR (cutRO zO (zE (gen_up ok35p) zU) (jX E1) 7 ?_))))
  simp only [tabH,tabN,upG,body35p,rL0,rL1,xP,eC,hr,gt_some,Option.isSome_some,go_sem,yE,xE,xT,yG,zK,cond_false,cond_true,tS,tZ,dSl,dZ,Nat.reduceLeDiff,Nat.reduceLT,Nat.reduceAdd,Nat.reduceMul,Nat.reduceSub,Nat.reduceEqDiff,Nat.reduceBEq,Int.reduceToNat,reduceCtorEq]
  repeat ((with_reducible refine And.intro ?_ ?_);focus (exact kl))
  refine softCall (spoil_ok rfl) trivial rfl fun E E' a j Hh F S=>?_
  obtain ⟨L2,G2,g1,g2,g3,H'⟩:=HW_soft Hh S (by simp only [List.mem_cons,List.not_mem_nil,or_false,forall_eq_or_imp,forall_eq];and_intros<;>trivial) (by simp only [List.mem_cons,List.not_mem_nil,or_false,forall_eq_or_imp,forall_eq];and_intros<;>trivial) (by simp only [List.mem_cons,List.not_mem_nil,or_false,forall_eq_or_imp,forall_eq];and_intros<;>trivial) (by simp only [List.mem_cons,List.not_mem_nil,or_false,forall_eq_or_imp,forall_eq];and_intros<;>trivial) hL hG
  have F':=TW_soft (i:=.int .i64 i) S F (by simp only [TW,tp,wkL,true_or,or_true,and_self]) trivial
  refine ⟨I2_soft S j,TW .top .top (.int .i64 i),_,H',F',?_⟩
  replace hH:=fun x hx=>(g2 x hx).trans (hH x hx)
  clear H' F' Hh F S j a E E' g2 hr r hL hG
  refine endRO ?_
  simp only [TW,HW,tp,kG,yE]
  refine draw_tailR zO zA (jX E1) 12 (by kernel_rfl) (by kernel_rfl) (by kernel_rfl) ?_
  simp only [go_sem,yE,xE,xT,yG,zK,cond_false,cond_true,tS,tZ,dSl,dZ,Nat.reduceLeDiff,Nat.reduceLT,Nat.reduceAdd,Nat.reduceMul,Nat.reduceSub,Nat.reduceEqDiff,Nat.reduceBEq,Int.reduceToNat,reduceCtorEq]
  repeat ((with_reducible refine And.intro ?_ ?_);focus (exact kl))
  refine softO rfl rfl rfl tsz4 trivial trivial rfl (by omega) (by decide) ⟨0,rfl⟩ (.inr ⟨_,_,rfl,rfl⟩) fun E E' a j Hh F S=>?_
  obtain ⟨L3,G3,g4,g5,g6,H'⟩:=HW_soft Hh S (by simp only [List.mem_cons,List.not_mem_nil,or_false,forall_eq_or_imp,forall_eq];and_intros<;>trivial) (by simp only [List.mem_cons,List.not_mem_nil,or_false,forall_eq_or_imp,forall_eq];and_intros<;>trivial) (by simp only [List.mem_cons,List.not_mem_nil,or_false,forall_eq_or_imp,forall_eq];and_intros<;>trivial) (by simp only [List.mem_cons,List.not_mem_nil,or_false,forall_eq_or_imp,forall_eq];and_intros<;>trivial) g1 g3
  have F':=TW_soft (i:=.int .i64 i) S F (by simp only [TW,tp,wkL,true_or,or_true,and_self]) trivial
  refine ⟨I2_soft S j,TW .top .top (.int .i64 i),_,H',F',?_⟩
  replace hH:=fun x hx=>(g5 x hx).trans (hH x hx)
  clear H' F' Hh F S j a E E' g5 g1 g3
  simp only [TW,tp,go_sem,yE,xE,xT,yG,zK,cond_false,cond_true,tS,tZ,dSl,dZ,Nat.reduceLeDiff,Nat.reduceLT,Nat.reduceAdd,Nat.reduceMul,Nat.reduceSub,Nat.reduceEqDiff,Nat.reduceBEq,Int.reduceToNat,reduceCtorEq]
  refine ofM (jX E1) (rg zA ?_)
  simp only [go_sem,yE,xE,xT,yG,zK,cond_false,cond_true,tS,tZ,dSl,dZ,Nat.reduceLeDiff,Nat.reduceLT,Nat.reduceAdd,Nat.reduceMul,Nat.reduceSub,Nat.reduceEqDiff,Nat.reduceBEq,Int.reduceToNat,reduceCtorEq]
  repeat ((with_reducible refine And.intro ?_ ?_);focus (exact kl))
  rw [wr_in (by omega)]
  exact ⟨(i+1,L3,G3),⟨by simp only;omega,by simp only;omega,g4,hH,g6⟩,by simp only;omega,wk_back (by simp only [TW,tp,wkL,true_or,or_true,and_self])⟩
 refine exitR ?_
 simp only [go_sem,yE,xE,xT,yG,zK,cond_false,cond_true,tS,tZ,dSl,dZ,Nat.reduceLeDiff,Nat.reduceLT,Nat.reduceAdd,Nat.reduceMul,Nat.reduceSub,Nat.reduceEqDiff,Nat.reduceBEq,Int.reduceToNat,reduceCtorEq]
 refine jV (regR (cutRO zO zA (jX E1) 4 ?_))
 simp only [go_sem,yE,xE,xT,yG,zK,cond_false,cond_true,tS,tZ,dSl,dZ,Nat.reduceLeDiff,Nat.reduceLT,Nat.reduceAdd,Nat.reduceMul,Nat.reduceSub,Nat.reduceEqDiff,Nat.reduceBEq,Int.reduceToNat,reduceCtorEq]
 repeat ((with_reducible refine And.intro ?_ ?_);focus (exact kl))
 refine atO fun E a i Hh F=>?_
 refine ⟨_,_,Hh,FR_re (FR_re F 97 (x:=.opt true (.agg (xB p0))) (fun u h=>by cases h with|opt_t a v h=>exact .opt_t _ _ (aggV 3 (aggV 2 h rfl (hu0.old i fQ)) rfl (hu1.old i gN)))) 98 (x:=.opt true (.agg (xB r3))) (fun u h=>by cases h with|opt_t a v h=>exact .opt_t _ _ (aggV 3 (aggV 2 h rfl (hw0.old i fQ)) rfl (hw1.old i gN))),?_⟩
 clear Hh F i
 simp only [kG,xB]
 refine cutRO zO (zE ok16 zU) (jX E1) 6 ?_
 simp only [tabH,tabN,body16,a5,gt_some,Option.isSome_some,go_sem,yE,xE,xT,yG,zK,cond_false,cond_true,tS,tZ,dSl,dZ,Nat.reduceLeDiff,Nat.reduceLT,Nat.reduceAdd,Nat.reduceMul,Nat.reduceSub,Nat.reduceEqDiff,Nat.reduceBEq,Int.reduceToNat,reduceCtorEq]
 repeat ((with_reducible refine And.intro ?_ ?_);focus (exact kl))
 refine atO fun E a i Hh F=>?_
 refine ⟨_,_,Hh,FR_re (FR_re F 103 (x:=.opt true (.agg (zI p1.Frame))) (fun u h=>by cases h with|opt_t a v h=>exact .opt_t _ _ (aggV 40 h rfl (hu2.old i NF_u8)))) 104 (x:=.opt true (.agg (zI r5))) (fun u h=>by cases h with|opt_t a v h=>exact .opt_t _ _ (aggV 40 h rfl (hw2.old i NF_u8))),?_⟩
 clear Hh F i
 simp only [kG,zI]
 refine cutRO zO (zE ok36 zU) (jX E1) 3 ?_
 simp only [tabH,tabN,body36,a6,gt_some,Option.isSome_some,go_sem,yE,xE,xT,yG,zK,cond_false,cond_true,tS,tZ,dSl,dZ,Nat.reduceLeDiff,Nat.reduceLT,Nat.reduceAdd,Nat.reduceMul,Nat.reduceSub,Nat.reduceEqDiff,Nat.reduceBEq,Int.reduceToNat,reduceCtorEq]
 repeat ((with_reducible refine And.intro ?_ ?_);focus (exact kl))
 refine endRO ?_
 simp only [yE]
 refine retR ?_
 simp only [go_sem,yE,xE,xT,yG,zK,cond_false,cond_true,tS,tZ,dSl,dZ,Nat.reduceLeDiff,Nat.reduceLT,Nat.reduceAdd,Nat.reduceMul,Nat.reduceSub,Nat.reduceEqDiff,Nat.reduceBEq,Int.reduceToNat,reduceCtorEq]
end Go.Proofs.Ytefiemaoacmdkaa
