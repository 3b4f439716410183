/-
  Contracts of functions: each computes its partial function.
-/
import Derived.Test.YtnclkplbeenmdaaFD
namespace Go.Proofs.Ytnclkplbeenmdaa
open Go.Am
set_option maxHeartbeats 4000000
set_option maxRecDepth 20000
set_option linter.unusedVariables false
set_option linter.unusedSimpArgs false
noncomputable def F11 (p0:TFrame):Option (Bool) :=
 some (bLt 2400 (p0.Body.length:Nat))
noncomputable def body11:List AV->AR
 | [v0]=>.pure (aK 41 k_TFrame v0/\(F11 (g_TFrame (aL v0))).isSome=true) (.bool (gt (F11 (g_TFrame (aL v0)))))
 | _=>.fail
theorem ok11:FnOk Try.prog 11 (pureC body11):=by
 refine pure_fnM body11 (rs:=[.tmp 2]) Try.func11 (by kernel_rfl) rfl rfl ?_
 intro l ob v hb hob
 unfold body11 at hb
 split at hb
 ·rename_i v0
  injection hb with q1 q2;subst q1 q2
  obtain ⟨hk0_0,hob⟩:=hob
  obtain ⟨r,H⟩:=Option.isSome_iff_exists.1 hob
  rw [H,gt_some]
  have hw0:=wA_TFrame hk0_0
  generalize g_TFrame (aL v0)=p0 at H hw0
  refine ⟨[.agg (.int .u8 p0.Head.Kind::.int .u8 p0.Head.Sub::.bool p0.Head.ToDs::.bool p0.Head.FromDs::.bool p0.Head.More::.bool p0.Head.Retry::.bool p0.Head.Sleep::.bool p0.Head.MoreData::.bool p0.Head.Protected::.int .i64 p0.Head.Duration::.int .u8 p0.Head.A1.x0::.int .u8 p0.Head.A1.x1::.int .u8 p0.Head.A1.x2::.int .u8 p0.Head.A1.x3::.int .u8 p0.Head.A1.x4::.int .u8 p0.Head.A1.x5::.int .u8 p0.Head.A2.x0::.int .u8 p0.Head.A2.x1::.int .u8 p0.Head.A2.x2::.int .u8 p0.Head.A2.x3::.int .u8 p0.Head.A2.x4::.int .u8 p0.Head.A2.x5::.int .u8 p0.Head.A3.x0::.int .u8 p0.Head.A3.x1::.int .u8 p0.Head.A3.x2::.int .u8 p0.Head.A3.x3::.int .u8 p0.Head.A3.x4::.int .u8 p0.Head.A3.x5::.int .u8 p0.Head.A4.x0::.int .u8 p0.Head.A4.x1::.int .u8 p0.Head.A4.x2::.int .u8 p0.Head.A4.x3::.int .u8 p0.Head.A4.x4::.int .u8 p0.Head.A4.x5::.int .i64 p0.Head.Seq::.int .i64 p0.Head.Frag::.int .i64 p0.Head.Tid::.int .u8 p0.Head.Ack::.bool p0.Head.Amsdu::.bool p0.Head.Eosp::.ro 1 p0.Body.length false (enR c_u8 p0.Body)::[])],_,(fun E vs F=>FR_wk1 hw0.1 F (fun vs F=>F)),rfl,rfl,?_⟩
  rw [Try.ntmps11]
  simp only [List.length_cons,List.length_nil,Nat.reduceAdd,Nat.reduceSub,List.replicate_succ,List.replicate_zero,List.cons_append,List.nil_append]
  unfold F11 at H
  try dsimp only at H
  refine sq ctNo_ok ?_
  simp only [go_sem]
  refine sq ctNo_ok ?_
  simp only [go_sem,Nat.reduceLT,Nat.reduceAdd]
  repeat ((with_reducible refine And.intro ?_ ?_);focus (first|(and_intros<;>first|(with_reducible trivial)|omega|assumption|exact nfc|first|exact rfl|exact trivial|exact fitI|exact .inr rfl|exact .inl rfl|exact fun x hx=>absurd hx (by omega))|grind))
  refine rg ctNo_ok ?_
  simp only [go_sem]
  obtain rfl:=Option.some.inj H
  first|rfl|simp only [Bool.and_false,Bool.false_and,Bool.and_true,Bool.true_and]
 ·cases hb
noncomputable def ct47t0:Ct:=tab [(11,pureC body11)]
theorem ct47t0_ok:CtOk Try.prog ct47t0:=tab_cons ok11 <| tab_nil
theorem ct47t0_11 (l:List AV) (h:List ABlk):ct47t0 11 l h=pureC body11 l h:=rfl
noncomputable def F47_L1 (p0:List TStored) (v1_1:Int):Option (Lp (Int) ((Unit) ⊕ (Bool))) :=
 bif (bLt v1_1 (p0.length:Nat)) then (need (inb v1_1 p0.length) <| (F11 (TFrame.mk (THeader.mk ((((gd p0 v1_1.toNat).Frame).Head).Kind) ((((gd p0 v1_1.toNat).Frame).Head).Sub) ((((gd p0 v1_1.toNat).Frame).Head).ToDs) ((((gd p0 v1_1.toNat).Frame).Head).FromDs) ((((gd p0 v1_1.toNat).Frame).Head).More) ((((gd p0 v1_1.toNat).Frame).Head).Retry) ((((gd p0 v1_1.toNat).Frame).Head).Sleep) ((((gd p0 v1_1.toNat).Frame).Head).MoreData) ((((gd p0 v1_1.toNat).Frame).Head).Protected) ((((gd p0 v1_1.toNat).Frame).Head).Duration) (A6u8.mk (((((gd p0 v1_1.toNat).Frame).Head).A1).x0) (((((gd p0 v1_1.toNat).Frame).Head).A1).x1) (((((gd p0 v1_1.toNat).Frame).Head).A1).x2) (((((gd p0 v1_1.toNat).Frame).Head).A1).x3) (((((gd p0 v1_1.toNat).Frame).Head).A1).x4) (((((gd p0 v1_1.toNat).Frame).Head).A1).x5)) (A6u8.mk (((((gd p0 v1_1.toNat).Frame).Head).A2).x0) (((((gd p0 v1_1.toNat).Frame).Head).A2).x1) (((((gd p0 v1_1.toNat).Frame).Head).A2).x2) (((((gd p0 v1_1.toNat).Frame).Head).A2).x3) (((((gd p0 v1_1.toNat).Frame).Head).A2).x4) (((((gd p0 v1_1.toNat).Frame).Head).A2).x5)) (A6u8.mk (((((gd p0 v1_1.toNat).Frame).Head).A3).x0) (((((gd p0 v1_1.toNat).Frame).Head).A3).x1) (((((gd p0 v1_1.toNat).Frame).Head).A3).x2) (((((gd p0 v1_1.toNat).Frame).Head).A3).x3) (((((gd p0 v1_1.toNat).Frame).Head).A3).x4) (((((gd p0 v1_1.toNat).Frame).Head).A3).x5)) (A6u8.mk (((((gd p0 v1_1.toNat).Frame).Head).A4).x0) (((((gd p0 v1_1.toNat).Frame).Head).A4).x1) (((((gd p0 v1_1.toNat).Frame).Head).A4).x2) (((((gd p0 v1_1.toNat).Frame).Head).A4).x3) (((((gd p0 v1_1.toNat).Frame).Head).A4).x4) (((((gd p0 v1_1.toNat).Frame).Head).A4).x5)) ((((gd p0 v1_1.toNat).Frame).Head).Seq) ((((gd p0 v1_1.toNat).Frame).Head).Frag) ((((gd p0 v1_1.toNat).Frame).Head).Tid) ((((gd p0 v1_1.toNat).Frame).Head).Ack) ((((gd p0 v1_1.toNat).Frame).Head).Amsdu) ((((gd p0 v1_1.toNat).Frame).Head).Eosp)) (((gd p0 v1_1.toNat).Frame).Body))).bind fun r2=>bif r2 then (some (.done (.inr true))) else (some (.next (wr .i64 (v1_1+1))))) else (some (.done (.inl ())))
noncomputable def F47 (p0:List TStored):Option (Bool) :=
 bif (bLt 70 (p0.length:Nat)) then (some true) else (lp (loopD (fun s=>F47_L1 p0 s) 0) (fun _=>some false) some)
noncomputable def body47:List AV->AR
 | [v0]=>.pure (lK k_TStored 43 v0/\(F47 (lA g_TStored v0)).isSome=true) (.bool (gt (F47 (lA g_TStored v0))))
 | _=>.fail
theorem ok47:FnOk Try.prog 47 (pureC body47):=by
 refine pure_fnM body47 (rs:=[.tmp 2]) Try.func47 (by kernel_rfl) rfl rfl ?_
 intro l ob v hb hob
 unfold body47 at hb
 split at hb
 ·rename_i v0
  injection hb with q1 q2;subst q1 q2
  obtain ⟨hk0_0,hob⟩:=hob
  obtain ⟨r,H⟩:=Option.isSome_iff_exists.1 hob
  rw [H,gt_some]
  have hw0:=lK_wk (fun r h=>w_TStored h) hk0_0
  generalize lA g_TStored v0=p0 at H hw0
  refine ⟨[.ro 43 p0.length false (enR c_TStored p0)],_,(fun E vs F=>FR_wk1 hw0.1 F (fun vs F=>F)),rfl,rfl,?_⟩
  rw [Try.ntmps47]
  simp only [List.length_cons,List.length_nil,Nat.reduceAdd,Nat.reduceSub,List.replicate_succ,List.replicate_zero,List.cons_append,List.nil_append]
  unfold F47 at H
  try dsimp only at H
  refine sq ctNo_ok ?_
  simp only [go_sem]
  refine seqM ?_
  refine sq ctNo_ok ?_
  simp only [go_sem]
  repeat ((with_reducible refine And.intro ?_ ?_);focus (first|(and_intros<;>first|(with_reducible trivial)|omega|assumption|exact nfc|first|exact rfl|exact trivial|exact fitI|exact .inr rfl|exact .inl rfl|exact fun x hx=>absurd hx (by omega))|grind))
  refine condM rfl trivial (fun hc=>?_) (fun hc=>?_)
  ·replace H:=cond_t hc H
   refine sq ctNo_ok ?_
   simp only [go_sem]
   refine rg ctNo_ok ?_
   simp only [go_sem]
   obtain rfl:=Option.some.inj H
   first|rfl|simp only [Bool.and_false,Bool.false_and,Bool.and_true,Bool.true_and]
  replace H:=cond_f hc H
  refine rg ctNo_ok ?_
  simp only [go_sem]
  refine seqM ?_
  refine sq ctNo_ok ?_
  simp only [go_sem]
  refine blkM ?_
  refine loop_den (fun s:Int=>(.ro 43 p0.length false (enR c_TStored p0)::.top::.top::.int .i64 s::tp 15 [])) (fun s=>[]) (fun e:Unit=>(tp 19 [])) (fun e=>[]) H ?_ (fun v1_1 o H hn1_1 hn2_1=>?_) (fun e H=>?_)
  ·refine SubF_of ⟨[],?_,?_,by rfl,by rfl⟩
   ·simp [CvL,Cv,tp]
   ·trivial
  ·unfold F47_L1 at H
   try dsimp only at H ⊢
   try simp only [tp]
   refine seqM ?_
   refine sq ctNo_ok ?_
   simp only [go_sem]
   repeat ((with_reducible refine And.intro ?_ ?_);focus (first|(and_intros<;>first|(with_reducible trivial)|omega|assumption|exact nfc|first|exact rfl|exact trivial|exact fitI|exact .inr rfl|exact .inl rfl|exact fun x hx=>absurd hx (by omega))|grind))
   refine condM' rfl trivial (fun hc=>?_) (fun hc=>?_)
   ·replace H:=cond_f hc H
    refine rg ctNo_ok ?_
    simp only [go_sem]
    refine ⟨_,(Option.some.inj H).symm,?_⟩
    refine SubF_of ⟨[],?_,?_,by rfl,by rfl⟩
    ·simp [CvL,Cv]
    ·trivial
   replace H:=cond_t hc H
   refine rg ctNo_ok ?_
   simp only [go_sem]
   refine seqM ?_
   refine blkM ?_
   refine seqM ?_
   obtain ⟨f1,H⟩:=need_some.1 H
   replace f1:=inb_iff.1 f1
   obtain ⟨r2,e3,H⟩:=bsi H
   refine rg ct47t0_ok ?_
   simp only [go_sem,Nat.reduceLT,Nat.reduceAdd,reduceCtorEq,ct47t0_11,body11,f1,e3]
   repeat ((with_reducible refine And.intro ?_ ?_);focus (first|(and_intros<;>first|(with_reducible trivial)|omega|assumption|exact nfc|first|exact rfl|exact trivial|exact fitI|exact .inr rfl|exact .inl rfl|exact fun x hx=>absurd hx (by omega))|grind))
   refine condM rfl trivial (fun hc=>?_) (fun hc=>?_)
   ·replace H:=cond_t hc H
    refine sq ctNo_ok ?_
    simp only [go_sem]
    refine rg ctNo_ok ?_
    simp only [go_sem]
    have H:=hn2_1 _ (Option.some.inj H).symm
    obtain rfl:=Option.some.inj H
    first|rfl|simp only [Bool.and_false,Bool.false_and,Bool.and_true,Bool.true_and]
   replace H:=cond_f hc H
   refine rg ctNo_ok ?_
   simp only [go_sem]
   refine rg ctNo_ok ?_
   simp only [go_sem]
   refine ⟨_,(Option.some.inj H).symm,?_⟩
   refine SubF_of ⟨[],?_,?_,by rfl,by rfl⟩
   ·simp [CvL,Cv]
   ·trivial
  ·try dsimp only at H ⊢
   try simp only [tp]
   try simp only [m_normal]
   refine sq ctNo_ok ?_
   simp only [go_sem]
   refine rg ctNo_ok ?_
   simp only [go_sem]
   obtain rfl:=Option.some.inj H
   first|rfl|simp only [Bool.and_false,Bool.false_and,Bool.and_true,Bool.true_and]
 ·cases hb
noncomputable def ct24t0:Ct:=tab [(11,pureC body11),(47,pureC body47)]
theorem ct24t0_ok:CtOk Try.prog ct24t0:=tab_cons ok11 <| tab_cons ok47 <| tab_nil
theorem ct24t0_11 (l:List AV) (h:List ABlk):ct24t0 11 l h=pureC body11 l h:=rfl
theorem ct24t0_47 (l:List AV) (h:List ABlk):ct24t0 47 l h=pureC body47 l h:=rfl
noncomputable def ct24t1:Ct:=tab [(47,pureC body47)]
theorem ct24t1_ok:CtOk Try.prog ct24t1:=tab_cons ok47 <| tab_nil
theorem ct24t1_47 (l:List AV) (h:List ABlk):ct24t1 47 l h=pureC body47 l h:=rfl
noncomputable def F24_L1 (p0:TBuffer) (v1_1:Int):Option (Lp (Int) ((Unit) ⊕ (Bool))) :=
 bif (bLt v1_1 (p0.List.length:Nat)) then (need (inb v1_1 p0.List.length) <| (F47 ((gd p0.List v1_1.toNat).Held)).bind fun r4=>bif r4 then (some (.done (.inr true))) else (some (.next (wr .i64 (v1_1+1))))) else (some (.done (.inl ())))
noncomputable def F24 (p0:TBuffer) (p1:TFrame):Option (Bool) :=
 need (bif (!(bLt 40 (p0.List.length:Nat))) then ((F47 p0.Group).isSome) else true) <| need (bif (!((bLt 40 (p0.List.length:Nat)) || (gt (F47 p0.Group)))) then ((F11 p1).isSome) else true) <| bif (((bLt 40 (p0.List.length:Nat)) || (gt (F47 p0.Group))) || (gt (F11 p1))) then (some true) else (lp (loopD (fun s=>F24_L1 p0 s) 0) (fun _=>some false) some)
noncomputable def body24:List AV->AR
 | [v0,v1]=>.pure (aK 4 k_TBuffer v0/\aK 41 k_TFrame v1/\(F24 (g_TBuffer (aL v0)) (g_TFrame (aL v1))).isSome=true) (.bool (gt (F24 (g_TBuffer (aL v0)) (g_TFrame (aL v1)))))
 | _=>.fail
theorem ok24:FnOk Try.prog 24 (pureC body24):=by
 refine pure_fnM body24 (rs:=[.tmp 4]) Try.func24 (by kernel_rfl) rfl rfl ?_
 intro l ob v hb hob
 unfold body24 at hb
 split at hb
 ·rename_i v0 v1
  injection hb with q1 q2;subst q1 q2
  obtain ⟨hk0_0,hk1_0,hob⟩:=hob
  obtain ⟨r,H⟩:=Option.isSome_iff_exists.1 hob
  rw [H,gt_some]
  have hw0:=wA_TBuffer hk0_0
  have hw1:=wA_TFrame hk1_0
  generalize g_TBuffer (aL v0)=p0 at H hw0
  generalize g_TFrame (aL v1)=p1 at H hw1
  refine ⟨[.agg [.int .i64 p0.Limit,.int .i64 p0.Stay,.ro 3 p0.List.length false (enR c_TSleeper p0.List),.ro 43 p0.Group.length false (enR c_TStored p0.Group)],.agg (.int .u8 p1.Head.Kind::.int .u8 p1.Head.Sub::.bool p1.Head.ToDs::.bool p1.Head.FromDs::.bool p1.Head.More::.bool p1.Head.Retry::.bool p1.Head.Sleep::.bool p1.Head.MoreData::.bool p1.Head.Protected::.int .i64 p1.Head.Duration::.int .u8 p1.Head.A1.x0::.int .u8 p1.Head.A1.x1::.int .u8 p1.Head.A1.x2::.int .u8 p1.Head.A1.x3::.int .u8 p1.Head.A1.x4::.int .u8 p1.Head.A1.x5::.int .u8 p1.Head.A2.x0::.int .u8 p1.Head.A2.x1::.int .u8 p1.Head.A2.x2::.int .u8 p1.Head.A2.x3::.int .u8 p1.Head.A2.x4::.int .u8 p1.Head.A2.x5::.int .u8 p1.Head.A3.x0::.int .u8 p1.Head.A3.x1::.int .u8 p1.Head.A3.x2::.int .u8 p1.Head.A3.x3::.int .u8 p1.Head.A3.x4::.int .u8 p1.Head.A3.x5::.int .u8 p1.Head.A4.x0::.int .u8 p1.Head.A4.x1::.int .u8 p1.Head.A4.x2::.int .u8 p1.Head.A4.x3::.int .u8 p1.Head.A4.x4::.int .u8 p1.Head.A4.x5::.int .i64 p1.Head.Seq::.int .i64 p1.Head.Frag::.int .i64 p1.Head.Tid::.int .u8 p1.Head.Ack::.bool p1.Head.Amsdu::.bool p1.Head.Eosp::.ro 1 p1.Body.length false (enR c_u8 p1.Body)::[])],_,(fun E vs F=>FR_wk1 hw0.1 F (fun vs F=>FR_wk1 hw1.1 F (fun vs F=>F))),rfl,rfl,?_⟩
  rw [Try.ntmps24]
  simp only [List.length_cons,List.length_nil,Nat.reduceAdd,Nat.reduceSub,List.replicate_succ,List.replicate_zero,List.cons_append,List.nil_append]
  unfold F24 at H
  try dsimp only at H
  refine sq ctNo_ok ?_
  simp only [go_sem]
  refine seqM ?_
  refine seqM ?_
  obtain ⟨f1,H⟩:=need_some.1 H
  replace f1:=g_iff.1 f1
  obtain ⟨f2,H⟩:=need_some.1 H
  replace f2:=g_iff.1 f2
  refine rg ct24t0_ok ?_
  simp only [go_sem,Nat.reduceLeDiff,Nat.reduceLT,Nat.reduceAdd,ct24t0_11,body11,ct24t0_47,body47]
  repeat ((with_reducible refine And.intro ?_ ?_);focus (first|(with_reducible trivial)|omega|exact f1|exact f2|(intro g;have q:=f1 (by first|exact g|(rw [g];rfl)|simpa using g);first|exact q|exact ⟨q.1,q.2.1⟩|exact q.2.2|omega|exact ⟨g,q⟩|exact ⟨trivial,q⟩|exact ⟨g,q.1,q.2.1⟩|exact ⟨g,q.2.2⟩)|(intro g;have q:=f2 (by first|exact g|(rw [g];rfl)|simpa using g);first|exact q|exact ⟨q.1,q.2.1⟩|exact q.2.2|omega|exact ⟨g,q⟩|exact ⟨trivial,q⟩|exact ⟨g,q.1,q.2.1⟩|exact ⟨g,q.2.2⟩)|(intro g;(try have q0:=f1 (by first|exact g|(rw [g];rfl)|simpa using g));(try have q1:=f2 (by first|exact g|(rw [g];rfl)|simpa using g));and_intros<;>first|(with_reducible trivial)|assumption|exact nfc|(intro g2;rw [g,g2];rfl)|(intro g2;assumption)|(simp only [g,Bool.true_and,Bool.and_true,Bool.not_false,Bool.not_true];assumption)|grind)|(and_intros<;>first|(with_reducible trivial)|omega|assumption|exact nfc|first|exact rfl|exact trivial|exact fitI|exact .inr rfl|exact .inl rfl|exact fun x hx=>absurd hx (by omega))|grind))
  refine condM rfl trivial (fun hc=>?_) (fun hc=>?_)
  ·replace H:=cond_t hc H
   refine sq ctNo_ok ?_
   simp only [go_sem]
   refine rg ctNo_ok ?_
   simp only [go_sem]
   obtain rfl:=Option.some.inj H
   first|rfl|simp only [Bool.and_false,Bool.false_and,Bool.and_true,Bool.true_and]
  replace H:=cond_f hc H
  refine rg ctNo_ok ?_
  simp only [go_sem]
  refine seqM ?_
  refine sq ctNo_ok ?_
  simp only [go_sem]
  refine blkM ?_
  refine loop_den (fun s:Int=>(.top::.top::.ptr 0 0 0 0::.top::.top::.int .i64 s::tp 27 [])) (fun s=>[.lit 52 [.int .i64 p0.Limit,.int .i64 p0.Stay,.ro 3 p0.List.length false (enR c_TSleeper p0.List),.ro 43 p0.Group.length false (enR c_TStored p0.Group)],.dead]) (fun e:Unit=>(tp 33 [])) (fun e=>[.dead,.dead]) H ?_ (fun v1_1 o H hn1_1 hn2_1=>?_) (fun e H=>?_)
  ·refine SubF_of ⟨[some 0,some 1],?_,?_,by rfl,by rfl⟩
   ·simp [CvL,Cv,getM,tp]
   ·exact ⟨(by simp [CvB,CvL,Cv,blkAt,geth]),CvB_dead,trivial⟩
  ·unfold F24_L1 at H
   try dsimp only at H ⊢
   try simp only [tp]
   refine seqM ?_
   refine sq ctNo_ok ?_
   simp only [go_sem,Nat.reduceLeDiff,Nat.reduceLT,Nat.reduceAdd]
   repeat ((with_reducible refine And.intro ?_ ?_);focus (first|(and_intros<;>first|(with_reducible trivial)|omega|assumption|exact nfc|first|exact rfl|exact trivial|exact fitI|exact .inr rfl|exact .inl rfl|exact fun x hx=>absurd hx (by omega))|grind))
   refine condM' rfl trivial (fun hc=>?_) (fun hc=>?_)
   ·replace H:=cond_f hc H
    refine rg ctNo_ok ?_
    simp only [go_sem]
    refine ⟨_,(Option.some.inj H).symm,?_⟩
    refine SubF_of ⟨[some 0,some 1],?_,?_,by rfl,by rfl⟩
    ·simp [CvL,Cv]
    ·exact ⟨CvB_dead,CvB_dead,trivial⟩
   replace H:=cond_t hc H
   refine rg ctNo_ok ?_
   simp only [go_sem]
   refine seqM ?_
   refine blkM ?_
   refine seqM ?_
   obtain ⟨f3,H⟩:=need_some.1 H
   replace f3:=inb_iff.1 f3
   obtain ⟨r4,e5,H⟩:=bsi H
   refine rg ct24t1_ok ?_
   simp only [go_sem,Nat.reduceLeDiff,Nat.reduceLT,Nat.reduceAdd,ct24t1_47,body47,f3,e5]
   repeat ((with_reducible refine And.intro ?_ ?_);focus (first|(and_intros<;>first|(with_reducible trivial)|omega|assumption|exact nfc|first|exact rfl|exact trivial|exact fitI|exact .inr rfl|exact .inl rfl|exact fun x hx=>absurd hx (by omega))|grind))
   refine condM rfl trivial (fun hc=>?_) (fun hc=>?_)
   ·replace H:=cond_t hc H
    refine sq ctNo_ok ?_
    simp only [go_sem]
    refine rg ctNo_ok ?_
    simp only [go_sem]
    have H:=hn2_1 _ (Option.some.inj H).symm
    obtain rfl:=Option.some.inj H
    first|rfl|simp only [Bool.and_false,Bool.false_and,Bool.and_true,Bool.true_and]
   replace H:=cond_f hc H
   refine rg ctNo_ok ?_
   simp only [go_sem]
   refine rg ctNo_ok ?_
   simp only [go_sem]
   refine ⟨_,(Option.some.inj H).symm,?_⟩
   refine SubF_of ⟨[some 0,some 1],?_,?_,by rfl,by rfl⟩
   ·simp [CvL,Cv,getM]
   ·exact ⟨(by simp [CvB,CvL,Cv,blkAt,geth]),CvB_dead,trivial⟩
  ·try dsimp only at H ⊢
   try simp only [tp]
   try simp only [m_normal]
   refine sq ctNo_ok ?_
   simp only [go_sem]
   refine rg ctNo_ok ?_
   simp only [go_sem]
   obtain rfl:=Option.some.inj H
   first|rfl|simp only [Bool.and_false,Bool.false_and,Bool.and_true,Bool.true_and]
 ·cases hb
noncomputable def F17 (p0:TFrame):Option (TFrame) :=
 need (capb 1 p0.Body.length) <| some (TFrame.mk (THeader.mk p0.Head.Kind p0.Head.Sub p0.Head.ToDs p0.Head.FromDs p0.Head.More p0.Head.Retry p0.Head.Sleep p0.Head.MoreData p0.Head.Protected p0.Head.Duration (A6u8.mk p0.Head.A1.x0 p0.Head.A1.x1 p0.Head.A1.x2 p0.Head.A1.x3 p0.Head.A1.x4 p0.Head.A1.x5) (A6u8.mk p0.Head.A2.x0 p0.Head.A2.x1 p0.Head.A2.x2 p0.Head.A2.x3 p0.Head.A2.x4 p0.Head.A2.x5) (A6u8.mk p0.Head.A3.x0 p0.Head.A3.x1 p0.Head.A3.x2 p0.Head.A3.x3 p0.Head.A3.x4 p0.Head.A3.x5) (A6u8.mk p0.Head.A4.x0 p0.Head.A4.x1 p0.Head.A4.x2 p0.Head.A4.x3 p0.Head.A4.x4 p0.Head.A4.x5) p0.Head.Seq p0.Head.Frag p0.Head.Tid p0.Head.Ack p0.Head.Amsdu p0.Head.Eosp) ([] ++ p0.Body))
noncomputable def body17:List AV->List ABlk->ED
 | [v0],h=>.ed [] (aK 41 k_TFrame (roD (deadL h []) v0)/\roDOb (deadL h []) v0/\(F17 (g_TFrame (aL (roD (deadL h []) v0)))).isSome=true) (.agg (.int .u8 (((gt (F17 (g_TFrame (aL (roD (deadL h []) v0))))).Head).Kind)::.int .u8 (((gt (F17 (g_TFrame (aL (roD (deadL h []) v0))))).Head).Sub)::.bool (((gt (F17 (g_TFrame (aL (roD (deadL h []) v0))))).Head).ToDs)::.bool (((gt (F17 (g_TFrame (aL (roD (deadL h []) v0))))).Head).FromDs)::.bool (((gt (F17 (g_TFrame (aL (roD (deadL h []) v0))))).Head).More)::.bool (((gt (F17 (g_TFrame (aL (roD (deadL h []) v0))))).Head).Retry)::.bool (((gt (F17 (g_TFrame (aL (roD (deadL h []) v0))))).Head).Sleep)::.bool (((gt (F17 (g_TFrame (aL (roD (deadL h []) v0))))).Head).MoreData)::.bool (((gt (F17 (g_TFrame (aL (roD (deadL h []) v0))))).Head).Protected)::.int .i64 (((gt (F17 (g_TFrame (aL (roD (deadL h []) v0))))).Head).Duration)::.int .u8 ((((gt (F17 (g_TFrame (aL (roD (deadL h []) v0))))).Head).A1).x0)::.int .u8 ((((gt (F17 (g_TFrame (aL (roD (deadL h []) v0))))).Head).A1).x1)::.int .u8 ((((gt (F17 (g_TFrame (aL (roD (deadL h []) v0))))).Head).A1).x2)::.int .u8 ((((gt (F17 (g_TFrame (aL (roD (deadL h []) v0))))).Head).A1).x3)::.int .u8 ((((gt (F17 (g_TFrame (aL (roD (deadL h []) v0))))).Head).A1).x4)::.int .u8 ((((gt (F17 (g_TFrame (aL (roD (deadL h []) v0))))).Head).A1).x5)::.int .u8 ((((gt (F17 (g_TFrame (aL (roD (deadL h []) v0))))).Head).A2).x0)::.int .u8 ((((gt (F17 (g_TFrame (aL (roD (deadL h []) v0))))).Head).A2).x1)::.int .u8 ((((gt (F17 (g_TFrame (aL (roD (deadL h []) v0))))).Head).A2).x2)::.int .u8 ((((gt (F17 (g_TFrame (aL (roD (deadL h []) v0))))).Head).A2).x3)::.int .u8 ((((gt (F17 (g_TFrame (aL (roD (deadL h []) v0))))).Head).A2).x4)::.int .u8 ((((gt (F17 (g_TFrame (aL (roD (deadL h []) v0))))).Head).A2).x5)::.int .u8 ((((gt (F17 (g_TFrame (aL (roD (deadL h []) v0))))).Head).A3).x0)::.int .u8 ((((gt (F17 (g_TFrame (aL (roD (deadL h []) v0))))).Head).A3).x1)::.int .u8 ((((gt (F17 (g_TFrame (aL (roD (deadL h []) v0))))).Head).A3).x2)::.int .u8 ((((gt (F17 (g_TFrame (aL (roD (deadL h []) v0))))).Head).A3).x3)::.int .u8 ((((gt (F17 (g_TFrame (aL (roD (deadL h []) v0))))).Head).A3).x4)::.int .u8 ((((gt (F17 (g_TFrame (aL (roD (deadL h []) v0))))).Head).A3).x5)::.int .u8 ((((gt (F17 (g_TFrame (aL (roD (deadL h []) v0))))).Head).A4).x0)::.int .u8 ((((gt (F17 (g_TFrame (aL (roD (deadL h []) v0))))).Head).A4).x1)::.int .u8 ((((gt (F17 (g_TFrame (aL (roD (deadL h []) v0))))).Head).A4).x2)::.int .u8 ((((gt (F17 (g_TFrame (aL (roD (deadL h []) v0))))).Head).A4).x3)::.int .u8 ((((gt (F17 (g_TFrame (aL (roD (deadL h []) v0))))).Head).A4).x4)::.int .u8 ((((gt (F17 (g_TFrame (aL (roD (deadL h []) v0))))).Head).A4).x5)::.int .i64 (((gt (F17 (g_TFrame (aL (roD (deadL h []) v0))))).Head).Seq)::.int .i64 (((gt (F17 (g_TFrame (aL (roD (deadL h []) v0))))).Head).Frag)::.int .i64 (((gt (F17 (g_TFrame (aL (roD (deadL h []) v0))))).Head).Tid)::.int .u8 (((gt (F17 (g_TFrame (aL (roD (deadL h []) v0))))).Head).Ack)::.bool (((gt (F17 (g_TFrame (aL (roD (deadL h []) v0))))).Head).Amsdu)::.bool (((gt (F17 (g_TFrame (aL (roD (deadL h []) v0))))).Head).Eosp)::.sl 0 1 0 (((gt (F17 (g_TFrame (aL (roD (deadL h []) v0))))).Body).length) false::[])) [.row 5 1 (((gt (F17 (g_TFrame (aL (roD (deadL h []) v0))))).Body).length) (enR c_u8 ((gt (F17 (g_TFrame (aL (roD (deadL h []) v0))))).Body))]
 | _,_=>.fail
theorem ok17:FnOk Try.prog 17 (edC body17):=by
 refine edit_fnV body17 (rs:=[.cell 2 30]) Try.func17 (by kernel_rfl) rfl rfl ?_
 intro l h bs ob q0 g0 hb hob
 unfold body17 at hb
 split at hb
 ·rename_i v0
  injection hb with q1 q2 q3 q4;subst q1 q2 q3 q4
  obtain ⟨hk0_0,hk0_1,hob⟩:=hob
  obtain ⟨r,H⟩:=Option.isSome_iff_exists.1 hob
  rw [H,gt_some]
  have hw0:=wA_TFrame hk0_0
  obtain ⟨p0,hp_p0⟩:∃ p0,p0=g_TFrame (aL (roD (deadL h []) v0)):=⟨_,rfl⟩
  rw [← hp_p0] at H hw0
  refine ⟨[.agg (.int .u8 p0.Head.Kind::.int .u8 p0.Head.Sub::.bool p0.Head.ToDs::.bool p0.Head.FromDs::.bool p0.Head.More::.bool p0.Head.Retry::.bool p0.Head.Sleep::.bool p0.Head.MoreData::.bool p0.Head.Protected::.int .i64 p0.Head.Duration::.int .u8 p0.Head.A1.x0::.int .u8 p0.Head.A1.x1::.int .u8 p0.Head.A1.x2::.int .u8 p0.Head.A1.x3::.int .u8 p0.Head.A1.x4::.int .u8 p0.Head.A1.x5::.int .u8 p0.Head.A2.x0::.int .u8 p0.Head.A2.x1::.int .u8 p0.Head.A2.x2::.int .u8 p0.Head.A2.x3::.int .u8 p0.Head.A2.x4::.int .u8 p0.Head.A2.x5::.int .u8 p0.Head.A3.x0::.int .u8 p0.Head.A3.x1::.int .u8 p0.Head.A3.x2::.int .u8 p0.Head.A3.x3::.int .u8 p0.Head.A3.x4::.int .u8 p0.Head.A3.x5::.int .u8 p0.Head.A4.x0::.int .u8 p0.Head.A4.x1::.int .u8 p0.Head.A4.x2::.int .u8 p0.Head.A4.x3::.int .u8 p0.Head.A4.x4::.int .u8 p0.Head.A4.x5::.int .i64 p0.Head.Seq::.int .i64 p0.Head.Frag::.int .i64 p0.Head.Tid::.int .u8 p0.Head.Ack::.bool p0.Head.Amsdu::.bool p0.Head.Eosp::.ro 1 p0.Body.length false (enR c_u8 p0.Body)::[])],[],rfl,⟨(EW_view hk0_1 hw0),trivial⟩,trivial,trivial,⟨(nfB_en nr_u8),trivial⟩,⟨noroB_en,trivial⟩,(by first|(simp only [noro,noroL,and_self];done)|(simp only [noro,noroL];and_intros<;>first|trivial|exact noro_bif (by simp only [noro]) (by simp only [noro])|(simp only [noro,noroL,and_self]))),?_⟩
  rw [Try.ntmps17]
  simp only [List.length_cons,List.length_nil,Nat.reduceAdd,Nat.reduceSub,List.replicate_succ,List.replicate_zero,List.cons_append,List.nil_append]
  unfold F17 at H
  try dsimp only at H
  refine sq ctNo_ok ?_
  simp only [go_sem]
  refine seqM ?_
  obtain ⟨f1,H⟩:=need_some.1 H
  replace f1:=capb_iff.1 f1
  refine draw_rule shT_ok ctNo_ok 2 (by kernel_rfl) (by kernel_rfl) ?_
  intro an han
  simp only [d_nil,d_cons,nxtD,xrD,xoD,roEq,minL,List.append_nil,refsOp,refs,refsL,mask,maskF,place,placeF,okLog,pairOk,hit,inL,slotsF,ren,rnN,nrH,nrB,nrL,nr,List.replicate_zero,List.replicate_succ,Nat.sub_self,Nat.add_zero,Nat.zero_add,Nat.reduceSub,Nat.not_lt_zero,Nat.zero_le,Nat.lt_add_one,go_sem,Nat.reduceLeDiff,Nat.reduceLT,Nat.reduceAdd,Nat.reduceSub,Nat.reduceBEq,reduceCtorEq,f1]
  repeat ((with_reducible refine And.intro ?_ ?_);focus (and_intros<;>first|(with_reducible trivial)|(show anB _ _ _=true;subst han;kernel_rfl)|(show (anB _ _ _ && _)=true;subst han;kernel_rfl)|omega|assumption|exact nrc|exact nfc|first|exact rfl|exact trivial|exact fitI|exact .inr rfl|exact .inl rfl|exact fun x hx=>absurd hx (by omega)|(intro x hx;(repeat (first|(and_intros<;>(first|exact rfl|exact trivial|exact fitI|exact .inr rfl|exact .inl rfl|exact fun x hx=>absurd hx (by omega)))|(exfalso;omega)|(rcases x with _|x)));done)|(refine Fit_app ?_ ?_<;>first|exact fitI|(intro x hx;(repeat (first|(and_intros<;>(first|exact rfl|exact trivial|exact fitI|exact .inr rfl|exact .inl rfl|exact fun x hx=>absurd hx (by omega)))|(exfalso;omega)|(rcases x with _|x)));done)|(refine Fit_app ?_ ?_<;>first|exact fitI|(intro x hx;(repeat (first|(and_intros<;>(first|exact rfl|exact trivial|exact fitI|exact .inr rfl|exact .inl rfl|exact fun x hx=>absurd hx (by omega)))|(exfalso;omega)|(rcases x with _|x)));done)))))
  refine rg ctNo_ok ?_
  simp only [go_sem,Nat.reduceLT,Nat.reduceAdd]
  obtain rfl:=Option.some.inj H
  refine RetE_mk [] [some 3] ?_ ?_ ?_ ?_ (by rfl) (by rfl)
  ·simp only [go_sem]
   try (and_intros<;>first|(with_reducible trivial)|omega|exact nfc|trivial)
  ·simp only [go_sem]
   try (and_intros<;>first|(with_reducible trivial)|omega|exact nfc|trivial)
  ·simp only [go_sem]
   exact (by first|(simp [Cv,CvL,getM];done)|(simp [Cv,CvL,getM,gt_some];omega))
  ·simp only [go_sem,CvH]
   exact CvB_row nr_u8 (by first|rfl|(simp;done)|(simp;omega)) (app_row (f:=c_u8) [] p0.Body (lit_row (f:=c_u8) [] (fun _ _=>rfl) rfl) (fun _ _ _ _=>rfl))
 ·cases hb
noncomputable def F17_0 (p0:TFrame):Option (TFrame) :=
 need (capb 1 p0.Body.length) <| some (TFrame.mk (THeader.mk p0.Head.Kind p0.Head.Sub p0.Head.ToDs p0.Head.FromDs p0.Head.More p0.Head.Retry p0.Head.Sleep p0.Head.MoreData p0.Head.Protected p0.Head.Duration (A6u8.mk p0.Head.A1.x0 p0.Head.A1.x1 p0.Head.A1.x2 p0.Head.A1.x3 p0.Head.A1.x4 p0.Head.A1.x5) (A6u8.mk p0.Head.A2.x0 p0.Head.A2.x1 p0.Head.A2.x2 p0.Head.A2.x3 p0.Head.A2.x4 p0.Head.A2.x5) (A6u8.mk p0.Head.A3.x0 p0.Head.A3.x1 p0.Head.A3.x2 p0.Head.A3.x3 p0.Head.A3.x4 p0.Head.A3.x5) (A6u8.mk p0.Head.A4.x0 p0.Head.A4.x1 p0.Head.A4.x2 p0.Head.A4.x3 p0.Head.A4.x4 p0.Head.A4.x5) p0.Head.Seq p0.Head.Frag p0.Head.Tid p0.Head.Ack p0.Head.Amsdu p0.Head.Eosp) ([] ++ p0.Body))
noncomputable def body17_0:List AV->Nat->AR
 | [v0],_=>.pure (aK 41 k_TFrame v0/\(F17_0 (g_TFrame (aL v0))).isSome=true) (.agg (.int .u8 (((gt (F17_0 (g_TFrame (aL v0)))).Head).Kind)::.int .u8 (((gt (F17_0 (g_TFrame (aL v0)))).Head).Sub)::.bool (((gt (F17_0 (g_TFrame (aL v0)))).Head).ToDs)::.bool (((gt (F17_0 (g_TFrame (aL v0)))).Head).FromDs)::.bool (((gt (F17_0 (g_TFrame (aL v0)))).Head).More)::.bool (((gt (F17_0 (g_TFrame (aL v0)))).Head).Retry)::.bool (((gt (F17_0 (g_TFrame (aL v0)))).Head).Sleep)::.bool (((gt (F17_0 (g_TFrame (aL v0)))).Head).MoreData)::.bool (((gt (F17_0 (g_TFrame (aL v0)))).Head).Protected)::.int .i64 (((gt (F17_0 (g_TFrame (aL v0)))).Head).Duration)::.int .u8 ((((gt (F17_0 (g_TFrame (aL v0)))).Head).A1).x0)::.int .u8 ((((gt (F17_0 (g_TFrame (aL v0)))).Head).A1).x1)::.int .u8 ((((gt (F17_0 (g_TFrame (aL v0)))).Head).A1).x2)::.int .u8 ((((gt (F17_0 (g_TFrame (aL v0)))).Head).A1).x3)::.int .u8 ((((gt (F17_0 (g_TFrame (aL v0)))).Head).A1).x4)::.int .u8 ((((gt (F17_0 (g_TFrame (aL v0)))).Head).A1).x5)::.int .u8 ((((gt (F17_0 (g_TFrame (aL v0)))).Head).A2).x0)::.int .u8 ((((gt (F17_0 (g_TFrame (aL v0)))).Head).A2).x1)::.int .u8 ((((gt (F17_0 (g_TFrame (aL v0)))).Head).A2).x2)::.int .u8 ((((gt (F17_0 (g_TFrame (aL v0)))).Head).A2).x3)::.int .u8 ((((gt (F17_0 (g_TFrame (aL v0)))).Head).A2).x4)::.int .u8 ((((gt (F17_0 (g_TFrame (aL v0)))).Head).A2).x5)::.int .u8 ((((gt (F17_0 (g_TFrame (aL v0)))).Head).A3).x0)::.int .u8 ((((gt (F17_0 (g_TFrame (aL v0)))).Head).A3).x1)::.int .u8 ((((gt (F17_0 (g_TFrame (aL v0)))).Head).A3).x2)::.int .u8 ((((gt (F17_0 (g_TFrame (aL v0)))).Head).A3).x3)::.int .u8 ((((gt (F17_0 (g_TFrame (aL v0)))).Head).A3).x4)::.int .u8 ((((gt (F17_0 (g_TFrame (aL v0)))).Head).A3).x5)::.int .u8 ((((gt (F17_0 (g_TFrame (aL v0)))).Head).A4).x0)::.int .u8 ((((gt (F17_0 (g_TFrame (aL v0)))).Head).A4).x1)::.int .u8 ((((gt (F17_0 (g_TFrame (aL v0)))).Head).A4).x2)::.int .u8 ((((gt (F17_0 (g_TFrame (aL v0)))).Head).A4).x3)::.int .u8 ((((gt (F17_0 (g_TFrame (aL v0)))).Head).A4).x4)::.int .u8 ((((gt (F17_0 (g_TFrame (aL v0)))).Head).A4).x5)::.int .i64 (((gt (F17_0 (g_TFrame (aL v0)))).Head).Seq)::.int .i64 (((gt (F17_0 (g_TFrame (aL v0)))).Head).Frag)::.int .i64 (((gt (F17_0 (g_TFrame (aL v0)))).Head).Tid)::.int .u8 (((gt (F17_0 (g_TFrame (aL v0)))).Head).Ack)::.bool (((gt (F17_0 (g_TFrame (aL v0)))).Head).Amsdu)::.bool (((gt (F17_0 (g_TFrame (aL v0)))).Head).Eosp)::.ro 1 (((gt (F17_0 (g_TFrame (aL v0)))).Body).length) false (enR c_u8 ((gt (F17_0 (g_TFrame (aL v0)))).Body))::[]))
 | _,_=>.fail
theorem ok17_0:FnOk Try.prog 17 (genC body17_0):=by
 refine gen_fn body17_0 (rs:=[.cell 2 30]) Try.func17 (by kernel_rfl) rfl rfl ?_
 intro l s ob v ns hb hob
 rcases hb with ⟨hb,rfl⟩|hb
 ·unfold body17_0 at hb
  split at hb
  ·rename_i v0
   injection hb with q1 q2;subst q1 q2
   obtain ⟨hk0_0,hob⟩:=hob
   obtain ⟨r,H⟩:=Option.isSome_iff_exists.1 hob
   rw [H,gt_some]
   have hw0:=wA_TFrame hk0_0
   generalize g_TFrame (aL v0)=p0 at H hw0
   refine ⟨[.agg (.int .u8 p0.Head.Kind::.int .u8 p0.Head.Sub::.bool p0.Head.ToDs::.bool p0.Head.FromDs::.bool p0.Head.More::.bool p0.Head.Retry::.bool p0.Head.Sleep::.bool p0.Head.MoreData::.bool p0.Head.Protected::.int .i64 p0.Head.Duration::.int .u8 p0.Head.A1.x0::.int .u8 p0.Head.A1.x1::.int .u8 p0.Head.A1.x2::.int .u8 p0.Head.A1.x3::.int .u8 p0.Head.A1.x4::.int .u8 p0.Head.A1.x5::.int .u8 p0.Head.A2.x0::.int .u8 p0.Head.A2.x1::.int .u8 p0.Head.A2.x2::.int .u8 p0.Head.A2.x3::.int .u8 p0.Head.A2.x4::.int .u8 p0.Head.A2.x5::.int .u8 p0.Head.A3.x0::.int .u8 p0.Head.A3.x1::.int .u8 p0.Head.A3.x2::.int .u8 p0.Head.A3.x3::.int .u8 p0.Head.A3.x4::.int .u8 p0.Head.A3.x5::.int .u8 p0.Head.A4.x0::.int .u8 p0.Head.A4.x1::.int .u8 p0.Head.A4.x2::.int .u8 p0.Head.A4.x3::.int .u8 p0.Head.A4.x4::.int .u8 p0.Head.A4.x5::.int .i64 p0.Head.Seq::.int .i64 p0.Head.Frag::.int .i64 p0.Head.Tid::.int .u8 p0.Head.Ack::.bool p0.Head.Amsdu::.bool p0.Head.Eosp::.ro 1 p0.Body.length false (enR c_u8 p0.Body)::[])],.agg (.int .u8 r.Head.Kind::.int .u8 r.Head.Sub::.bool r.Head.ToDs::.bool r.Head.FromDs::.bool r.Head.More::.bool r.Head.Retry::.bool r.Head.Sleep::.bool r.Head.MoreData::.bool r.Head.Protected::.int .i64 r.Head.Duration::.int .u8 r.Head.A1.x0::.int .u8 r.Head.A1.x1::.int .u8 r.Head.A1.x2::.int .u8 r.Head.A1.x3::.int .u8 r.Head.A1.x4::.int .u8 r.Head.A1.x5::.int .u8 r.Head.A2.x0::.int .u8 r.Head.A2.x1::.int .u8 r.Head.A2.x2::.int .u8 r.Head.A2.x3::.int .u8 r.Head.A2.x4::.int .u8 r.Head.A2.x5::.int .u8 r.Head.A3.x0::.int .u8 r.Head.A3.x1::.int .u8 r.Head.A3.x2::.int .u8 r.Head.A3.x3::.int .u8 r.Head.A3.x4::.int .u8 r.Head.A3.x5::.int .u8 r.Head.A4.x0::.int .u8 r.Head.A4.x1::.int .u8 r.Head.A4.x2::.int .u8 r.Head.A4.x3::.int .u8 r.Head.A4.x4::.int .u8 r.Head.A4.x5::.int .i64 r.Head.Seq::.int .i64 r.Head.Frag::.int .i64 r.Head.Tid::.int .u8 r.Head.Ack::.bool r.Head.Amsdu::.bool r.Head.Eosp::.ro 1 r.Body.length false (enR c_u8 r.Body)::[]),[],(fun E vs F=>FR_wk1 hw0.1 F (fun vs F=>F)),by simp only [ren,renL],trivial,?_⟩
   rw [Try.ntmps17]
   simp only [List.length_cons,List.length_nil,Nat.reduceAdd,Nat.reduceSub,List.replicate_succ,List.replicate_zero,List.cons_append,List.nil_append]
   unfold F17_0 at H
   try dsimp only at H
   refine sq ctNo_ok ?_
   simp only [go_sem]
   refine seqM ?_
   obtain ⟨f1,H⟩:=need_some.1 H
   replace f1:=capb_iff.1 f1
   refine draw_rule shT_ok ctNo_ok 2 (by kernel_rfl) (by kernel_rfl) ?_
   intro an han
   simp only [d_nil,d_cons,nxtD,xrD,xoD,roEq,minL,List.append_nil,refsOp,refs,refsL,mask,maskF,place,placeF,okLog,pairOk,hit,inL,slotsF,ren,rnN,nrH,nrB,nrL,nr,List.replicate_zero,List.replicate_succ,Nat.sub_self,Nat.add_zero,Nat.zero_add,Nat.reduceSub,Nat.not_lt_zero,Nat.zero_le,Nat.lt_add_one,go_sem,Nat.reduceLeDiff,Nat.reduceLT,Nat.reduceAdd,Nat.reduceSub,Nat.reduceBEq,reduceCtorEq,f1]
   repeat ((with_reducible refine And.intro ?_ ?_);focus (and_intros<;>first|(with_reducible trivial)|(show anB _ _ _=true;subst han;kernel_rfl)|(show (anB _ _ _ && _)=true;subst han;kernel_rfl)|omega|assumption|exact nrc|exact nfc|first|exact rfl|exact trivial|exact fitI|exact .inr rfl|exact .inl rfl|exact fun x hx=>absurd hx (by omega)|(intro x hx;(repeat (first|(and_intros<;>(first|exact rfl|exact trivial|exact fitI|exact .inr rfl|exact .inl rfl|exact fun x hx=>absurd hx (by omega)))|(exfalso;omega)|(rcases x with _|x)));done)|(refine Fit_app ?_ ?_<;>first|exact fitI|(intro x hx;(repeat (first|(and_intros<;>(first|exact rfl|exact trivial|exact fitI|exact .inr rfl|exact .inl rfl|exact fun x hx=>absurd hx (by omega)))|(exfalso;omega)|(rcases x with _|x)));done)|(refine Fit_app ?_ ?_<;>first|exact fitI|(intro x hx;(repeat (first|(and_intros<;>(first|exact rfl|exact trivial|exact fitI|exact .inr rfl|exact .inl rfl|exact fun x hx=>absurd hx (by omega)))|(exfalso;omega)|(rcases x with _|x)));done)))))
   refine rg ctNo_ok ?_
   simp only [go_sem,Nat.reduceLT,Nat.reduceAdd]
   obtain rfl:=Option.some.inj H
   refine ⟨[3,0,1],?_,?_,[],?_,?_,rfl⟩
   ·simp only [go_sem,Nat.reduceBEq]
    try (and_intros<;>first|(with_reducible trivial)|omega|exact nfc|trivial)
   ·simp only [go_sem,Nat.reduceBEq]
    try (and_intros<;>first|(with_reducible trivial)|omega|exact nfc|trivial)
   ·simp only [go_sem,Nat.reduceBEq]
    exact (Cv_agg (CvL_cons Cv_int (CvL_cons Cv_int (CvL_cons Cv_bool (CvL_cons Cv_bool (CvL_cons Cv_bool (CvL_cons Cv_bool (CvL_cons Cv_bool (CvL_cons Cv_bool (CvL_cons Cv_bool (CvL_cons Cv_int (CvL_cons Cv_int (CvL_cons Cv_int (CvL_cons Cv_int (CvL_cons Cv_int (CvL_cons Cv_int (CvL_cons Cv_int (CvL_cons Cv_int (CvL_cons Cv_int (CvL_cons Cv_int (CvL_cons Cv_int (CvL_cons Cv_int (CvL_cons Cv_int (CvL_cons Cv_int (CvL_cons Cv_int (CvL_cons Cv_int (CvL_cons Cv_int (CvL_cons Cv_int (CvL_cons Cv_int (CvL_cons Cv_int (CvL_cons Cv_int (CvL_cons Cv_int (CvL_cons Cv_int (CvL_cons Cv_int (CvL_cons Cv_int (CvL_cons Cv_int (CvL_cons Cv_int (CvL_cons Cv_int (CvL_cons Cv_int (CvL_cons Cv_bool (CvL_cons Cv_bool (CvL_cons (ro_row (by first|rfl|simp) (app_row (f:=c_u8) [] p0.Body (lit_row (f:=c_u8) [] (fun _ _=>rfl) rfl) (fun _ _ _ _=>rfl))) CvL_nil))))))))))))))))))))))))))))))))))))))))))
   ·simp only [go_sem,CvH]
  ·cases hb
 ·unfold body17_0 at hb
  split at hb<;>cases hb
noncomputable def ct51t0:Ct:=tab [(17,genC body17_0)]
theorem ct51t0_ok:CtOk Try.prog ct51t0:=tab_cons ok17_0 <| tab_nil
theorem ct51t0_17 (l:List AV) (h:List ABlk):ct51t0 17 l h=genC body17_0 l h:=rfl
noncomputable def F51_L1 (p0:List TStored) (v1_1:List TStored) (v1_2:Int):Option (Lp ((List TStored) × Int) ((List TStored) ⊕ (List TStored))) :=
 bif (bLt v1_2 (p0.length:Nat)) then (need (inb v1_2 p0.length) <| need (inb v1_2 p0.length) <| need (inb v1_2 p0.length) <| (F17_0 (TFrame.mk (THeader.mk ((((gd p0 v1_2.toNat).Frame).Head).Kind) ((((gd p0 v1_2.toNat).Frame).Head).Sub) ((((gd p0 v1_2.toNat).Frame).Head).ToDs) ((((gd p0 v1_2.toNat).Frame).Head).FromDs) ((((gd p0 v1_2.toNat).Frame).Head).More) ((((gd p0 v1_2.toNat).Frame).Head).Retry) ((((gd p0 v1_2.toNat).Frame).Head).Sleep) ((((gd p0 v1_2.toNat).Frame).Head).MoreData) ((((gd p0 v1_2.toNat).Frame).Head).Protected) ((((gd p0 v1_2.toNat).Frame).Head).Duration) (A6u8.mk (((((gd p0 v1_2.toNat).Frame).Head).A1).x0) (((((gd p0 v1_2.toNat).Frame).Head).A1).x1) (((((gd p0 v1_2.toNat).Frame).Head).A1).x2) (((((gd p0 v1_2.toNat).Frame).Head).A1).x3) (((((gd p0 v1_2.toNat).Frame).Head).A1).x4) (((((gd p0 v1_2.toNat).Frame).Head).A1).x5)) (A6u8.mk (((((gd p0 v1_2.toNat).Frame).Head).A2).x0) (((((gd p0 v1_2.toNat).Frame).Head).A2).x1) (((((gd p0 v1_2.toNat).Frame).Head).A2).x2) (((((gd p0 v1_2.toNat).Frame).Head).A2).x3) (((((gd p0 v1_2.toNat).Frame).Head).A2).x4) (((((gd p0 v1_2.toNat).Frame).Head).A2).x5)) (A6u8.mk (((((gd p0 v1_2.toNat).Frame).Head).A3).x0) (((((gd p0 v1_2.toNat).Frame).Head).A3).x1) (((((gd p0 v1_2.toNat).Frame).Head).A3).x2) (((((gd p0 v1_2.toNat).Frame).Head).A3).x3) (((((gd p0 v1_2.toNat).Frame).Head).A3).x4) (((((gd p0 v1_2.toNat).Frame).Head).A3).x5)) (A6u8.mk (((((gd p0 v1_2.toNat).Frame).Head).A4).x0) (((((gd p0 v1_2.toNat).Frame).Head).A4).x1) (((((gd p0 v1_2.toNat).Frame).Head).A4).x2) (((((gd p0 v1_2.toNat).Frame).Head).A4).x3) (((((gd p0 v1_2.toNat).Frame).Head).A4).x4) (((((gd p0 v1_2.toNat).Frame).Head).A4).x5)) ((((gd p0 v1_2.toNat).Frame).Head).Seq) ((((gd p0 v1_2.toNat).Frame).Head).Frag) ((((gd p0 v1_2.toNat).Frame).Head).Tid) ((((gd p0 v1_2.toNat).Frame).Head).Ack) ((((gd p0 v1_2.toNat).Frame).Head).Amsdu) ((((gd p0 v1_2.toNat).Frame).Head).Eosp)) (((gd p0 v1_2.toNat).Frame).Body))).bind fun r4=>need (capb 120 (v1_1.length+1)) <| some (.next ((v1_1 ++ [(TStored.mk ((gd p0 v1_2.toNat).Cat) ((gd p0 v1_2.toNat).At) (TFrame.mk (THeader.mk r4.Head.Kind r4.Head.Sub r4.Head.ToDs r4.Head.FromDs r4.Head.More r4.Head.Retry r4.Head.Sleep r4.Head.MoreData r4.Head.Protected r4.Head.Duration (A6u8.mk r4.Head.A1.x0 r4.Head.A1.x1 r4.Head.A1.x2 r4.Head.A1.x3 r4.Head.A1.x4 r4.Head.A1.x5) (A6u8.mk r4.Head.A2.x0 r4.Head.A2.x1 r4.Head.A2.x2 r4.Head.A2.x3 r4.Head.A2.x4 r4.Head.A2.x5) (A6u8.mk r4.Head.A3.x0 r4.Head.A3.x1 r4.Head.A3.x2 r4.Head.A3.x3 r4.Head.A3.x4 r4.Head.A3.x5) (A6u8.mk r4.Head.A4.x0 r4.Head.A4.x1 r4.Head.A4.x2 r4.Head.A4.x3 r4.Head.A4.x4 r4.Head.A4.x5) r4.Head.Seq r4.Head.Frag r4.Head.Tid r4.Head.Ack r4.Head.Amsdu r4.Head.Eosp) r4.Body))]),wr .i64 (v1_2+1)))) else (some (.done (.inl v1_1)))
noncomputable def F51 (p0:List TStored):Option (List TStored) :=
 lp (loopD (fun s=>F51_L1 p0 s.1 s.2) ([],0)) (fun w1_3=>some w1_3) some
noncomputable def body51:List AV->Nat->AR
 | [v0],s=>.heap (lK k_TStored 43 v0/\(F51 (lA g_TStored v0)).isSome=true) (.sl s 43 0 ((gt (F51 (lA g_TStored v0))).length) false) [.row 73 43 ((gt (F51 (lA g_TStored v0))).length) (enR c_TStored (gt (F51 (lA g_TStored v0))))]
 | _,_=>.fail
theorem ok51:FnOk Try.prog 51 (genC body51):=by
 refine gen_fn body51 (rs:=[.tmp 2]) Try.func51 (by kernel_rfl) rfl rfl ?_
 intro l s ob v ns hb hob
 rcases hb with ⟨hb,rfl⟩|hb
 ·unfold body51 at hb
  split at hb<;>cases hb
 ·unfold body51 at hb
  split at hb
  ·rename_i v0
   injection hb with q1 q2 q3;subst q1 q2 q3
   obtain ⟨hk0_0,hob⟩:=hob
   obtain ⟨r,H⟩:=Option.isSome_iff_exists.1 hob
   rw [H,gt_some]
   have hw0:=lK_wk (fun r h=>w_TStored h) hk0_0
   generalize lA g_TStored v0=p0 at H hw0
   refine ⟨[.ro 43 p0.length false (enR c_TStored p0)],.sl 0 43 0 r.length false,[.row 73 43 r.length (enR c_TStored r)],(fun E vs F=>FR_wk1 hw0.1 F (fun vs F=>F)),by simp only [ren,rnN_0],⟨RenB_row nr_TStored,trivial⟩,?_⟩
   rw [Try.ntmps51]
   simp only [List.length_cons,List.length_nil,Nat.reduceAdd,Nat.reduceSub,List.replicate_succ,List.replicate_zero,List.cons_append,List.nil_append]
   unfold F51 at H
   try dsimp only at H
   refine sq ctNo_ok ?_
   simp only [go_sem]
   refine sq ctNo_ok ?_
   simp only [go_sem]
   refine seqM ?_
   refine sq ctNo_ok ?_
   simp only [go_sem]
   refine blkM ?_
   refine loop_den (fun s:(List TStored) × Int=>(.ro 43 p0.length false (enR c_TStored p0)::.top::.top::.sl 0 43 0 s.1.length false::.int .i64 s.2::tp 27 [])) (fun s=>[.row 73 43 s.1.length (enR c_TStored s.1)]) (fun e:List TStored=>(.top::.top::.top::.sl 0 43 0 e.length false::tp 28 [])) (fun e=>[.row 73 43 e.length (enR c_TStored e)]) H ?_ (fun s o H hn1_1 hn2_1=>?_) (fun w1_3 H=>?_)
   ·refine SubF_of ⟨[none],?_,?_,by rfl,by rfl⟩
    ·simp [CvL,Cv,tp]
    ·exact ⟨CvB_none,trivial⟩
   ·obtain ⟨v1_1,v1_2⟩:=s
    unfold F51_L1 at H
    try dsimp only at H ⊢
    try simp only [tp]
    refine seqM ?_
    refine sq ctNo_ok ?_
    simp only [go_sem]
    repeat ((with_reducible refine And.intro ?_ ?_);focus (first|(and_intros<;>first|(with_reducible trivial)|omega|assumption|exact nfc|first|exact rfl|exact trivial|exact fitI|exact .inr rfl|exact .inl rfl|exact fun x hx=>absurd hx (by omega))|grind))
    refine condM' rfl trivial (fun hc=>?_) (fun hc=>?_)
    ·replace H:=cond_f hc H
     refine rg ctNo_ok ?_
     simp only [go_sem]
     refine ⟨_,(Option.some.inj H).symm,?_⟩
     refine SubF_of ⟨[some 0],?_,?_,by rfl,by rfl⟩
     ·simp [CvL,Cv,getM]
     ·exact ⟨CvB_row nr_TStored (by first|rfl|(simp;done)|(simp;omega)) (fun _ _ _ _=>rfl),trivial⟩
    replace H:=cond_t hc H
    refine rg ctNo_ok ?_
    simp only [go_sem]
    refine seqM ?_
    refine blkM ?_
    obtain ⟨f1,H⟩:=need_some.1 H
    replace f1:=inb_iff.1 f1
    obtain ⟨f2,H⟩:=need_some.1 H
    replace f2:=inb_iff.1 f2
    obtain ⟨f3,H⟩:=need_some.1 H
    replace f3:=inb_iff.1 f3
    obtain ⟨r4,e5,H⟩:=bsi H
    obtain ⟨f6,H⟩:=need_some.1 H
    replace f6:=capb_iff.1 f6
    refine draw_rule shT_ok ct51t0_ok 2 (by kernel_rfl) (by kernel_rfl) ?_
    intro an han
    simp only [d_nil,d_cons,nxtD,xrD,xoD,roEq,minL,List.append_nil,refsOp,refs,refsL,mask,maskF,place,placeF,okLog,pairOk,hit,inL,slotsF,ren,renL,rnN,nrH,nrB,List.replicate_zero,List.replicate_succ,Nat.sub_self,Nat.add_zero,Nat.zero_add,Nat.reduceSub,Nat.lt_add_one,go_sem,Nat.reduceLeDiff,Nat.reduceLT,Nat.reduceAdd,Nat.reduceSub,Nat.reduceBEq,reduceCtorEq,ct51t0_17,body17_0,f1,e5,f6]
    repeat ((with_reducible refine And.intro ?_ ?_);focus (and_intros<;>first|(with_reducible trivial)|(show anB _ _ _=true;subst han;kernel_rfl)|(show (anB _ _ _ && _)=true;subst han;kernel_rfl)|omega|assumption|exact nrc|exact nfc|first|exact rfl|exact trivial|exact fitI|exact .inr rfl|exact .inl rfl|exact fun x hx=>absurd hx (by omega)|(intro x hx;(repeat (first|(and_intros<;>(first|exact rfl|exact trivial|exact fitI|exact .inr rfl|exact .inl rfl|exact fun x hx=>absurd hx (by omega)))|(exfalso;omega)|(rcases x with _|x)));done)|(refine Fit_app ?_ ?_<;>first|exact fitI|(intro x hx;(repeat (first|(and_intros<;>(first|exact rfl|exact trivial|exact fitI|exact .inr rfl|exact .inl rfl|exact fun x hx=>absurd hx (by omega)))|(exfalso;omega)|(rcases x with _|x)));done)|(refine Fit_app ?_ ?_<;>first|exact fitI|(intro x hx;(repeat (first|(and_intros<;>(first|exact rfl|exact trivial|exact fitI|exact .inr rfl|exact .inl rfl|exact fun x hx=>absurd hx (by omega)))|(exfalso;omega)|(rcases x with _|x)));done)))))
    refine rg ctNo_ok ?_
    simp only [go_sem]
    refine ⟨_,(Option.some.inj H).symm,?_⟩
    refine SubF_of ⟨[some 2],?_,?_,by rfl,by rfl⟩
    ·simp [CvL,Cv,getM]
    ·exact ⟨CvB_row nr_TStored (by first|rfl|(simp;done)|(simp;omega)) (app_row (f:=c_TStored) v1_1 [(TStored.mk ((gd p0 v1_2.toNat).Cat) ((gd p0 v1_2.toNat).At) (TFrame.mk (THeader.mk r4.Head.Kind r4.Head.Sub r4.Head.ToDs r4.Head.FromDs r4.Head.More r4.Head.Retry r4.Head.Sleep r4.Head.MoreData r4.Head.Protected r4.Head.Duration (A6u8.mk r4.Head.A1.x0 r4.Head.A1.x1 r4.Head.A1.x2 r4.Head.A1.x3 r4.Head.A1.x4 r4.Head.A1.x5) (A6u8.mk r4.Head.A2.x0 r4.Head.A2.x1 r4.Head.A2.x2 r4.Head.A2.x3 r4.Head.A2.x4 r4.Head.A2.x5) (A6u8.mk r4.Head.A3.x0 r4.Head.A3.x1 r4.Head.A3.x2 r4.Head.A3.x3 r4.Head.A3.x4 r4.Head.A3.x5) (A6u8.mk r4.Head.A4.x0 r4.Head.A4.x1 r4.Head.A4.x2 r4.Head.A4.x3 r4.Head.A4.x4 r4.Head.A4.x5) r4.Head.Seq r4.Head.Frag r4.Head.Tid r4.Head.Ack r4.Head.Amsdu r4.Head.Eosp) r4.Body))] (fun _ _ _ _=>rfl) (lit_row (f:=c_TStored) [(TStored.mk ((gd p0 v1_2.toNat).Cat) ((gd p0 v1_2.toNat).At) (TFrame.mk (THeader.mk r4.Head.Kind r4.Head.Sub r4.Head.ToDs r4.Head.FromDs r4.Head.More r4.Head.Retry r4.Head.Sleep r4.Head.MoreData r4.Head.Protected r4.Head.Duration (A6u8.mk r4.Head.A1.x0 r4.Head.A1.x1 r4.Head.A1.x2 r4.Head.A1.x3 r4.Head.A1.x4 r4.Head.A1.x5) (A6u8.mk r4.Head.A2.x0 r4.Head.A2.x1 r4.Head.A2.x2 r4.Head.A2.x3 r4.Head.A2.x4 r4.Head.A2.x5) (A6u8.mk r4.Head.A3.x0 r4.Head.A3.x1 r4.Head.A3.x2 r4.Head.A3.x3 r4.Head.A3.x4 r4.Head.A3.x5) (A6u8.mk r4.Head.A4.x0 r4.Head.A4.x1 r4.Head.A4.x2 r4.Head.A4.x3 r4.Head.A4.x4 r4.Head.A4.x5) r4.Head.Seq r4.Head.Frag r4.Head.Tid r4.Head.Ack r4.Head.Amsdu r4.Head.Eosp) r4.Body))] (fun _ _=>rfl) rfl)),trivial⟩
   ·try dsimp only at H ⊢
    try simp only [tp]
    try simp only [m_normal]
    refine sq ctNo_ok ?_
    simp only [go_sem]
    refine rg ctNo_ok ?_
    simp only [go_sem]
    obtain rfl:=Option.some.inj H
    refine ⟨[],?_,?_,[some 0],?_,?_,by rfl⟩
    ·simp only [go_sem]
    ·simp only [go_sem]
    ·simp [fzV,inL,Cv,getM]
     all_goals first|exact (by first|rfl|(simp;done)|(simp;omega))
    ·simp only [go_sem,CvH]
     exact CvB_row nr_TStored (by first|rfl|(simp;done)|(simp;omega)) (fun _ _ _ _=>rfl)
  ·cases hb
noncomputable def ct51_0t0:Ct:=tab [(17,genC body17_0)]
theorem ct51_0t0_ok:CtOk Try.prog ct51_0t0:=tab_cons ok17_0 <| tab_nil
theorem ct51_0t0_17 (l:List AV) (h:List ABlk):ct51_0t0 17 l h=genC body17_0 l h:=rfl
noncomputable def F51_0_L1 (p0:List TStored) (v1_1:List TStored) (v1_2:Int):Option (Lp ((List TStored) × Int) ((List TStored) ⊕ (List TStored))) :=
 bif (bLt v1_2 (p0.length:Nat)) then (need (inb v1_2 p0.length) <| need (inb v1_2 p0.length) <| need (inb v1_2 p0.length) <| (F17_0 (TFrame.mk (THeader.mk ((((gd p0 v1_2.toNat).Frame).Head).Kind) ((((gd p0 v1_2.toNat).Frame).Head).Sub) ((((gd p0 v1_2.toNat).Frame).Head).ToDs) ((((gd p0 v1_2.toNat).Frame).Head).FromDs) ((((gd p0 v1_2.toNat).Frame).Head).More) ((((gd p0 v1_2.toNat).Frame).Head).Retry) ((((gd p0 v1_2.toNat).Frame).Head).Sleep) ((((gd p0 v1_2.toNat).Frame).Head).MoreData) ((((gd p0 v1_2.toNat).Frame).Head).Protected) ((((gd p0 v1_2.toNat).Frame).Head).Duration) (A6u8.mk (((((gd p0 v1_2.toNat).Frame).Head).A1).x0) (((((gd p0 v1_2.toNat).Frame).Head).A1).x1) (((((gd p0 v1_2.toNat).Frame).Head).A1).x2) (((((gd p0 v1_2.toNat).Frame).Head).A1).x3) (((((gd p0 v1_2.toNat).Frame).Head).A1).x4) (((((gd p0 v1_2.toNat).Frame).Head).A1).x5)) (A6u8.mk (((((gd p0 v1_2.toNat).Frame).Head).A2).x0) (((((gd p0 v1_2.toNat).Frame).Head).A2).x1) (((((gd p0 v1_2.toNat).Frame).Head).A2).x2) (((((gd p0 v1_2.toNat).Frame).Head).A2).x3) (((((gd p0 v1_2.toNat).Frame).Head).A2).x4) (((((gd p0 v1_2.toNat).Frame).Head).A2).x5)) (A6u8.mk (((((gd p0 v1_2.toNat).Frame).Head).A3).x0) (((((gd p0 v1_2.toNat).Frame).Head).A3).x1) (((((gd p0 v1_2.toNat).Frame).Head).A3).x2) (((((gd p0 v1_2.toNat).Frame).Head).A3).x3) (((((gd p0 v1_2.toNat).Frame).Head).A3).x4) (((((gd p0 v1_2.toNat).Frame).Head).A3).x5)) (A6u8.mk (((((gd p0 v1_2.toNat).Frame).Head).A4).x0) (((((gd p0 v1_2.toNat).Frame).Head).A4).x1) (((((gd p0 v1_2.toNat).Frame).Head).A4).x2) (((((gd p0 v1_2.toNat).Frame).Head).A4).x3) (((((gd p0 v1_2.toNat).Frame).Head).A4).x4) (((((gd p0 v1_2.toNat).Frame).Head).A4).x5)) ((((gd p0 v1_2.toNat).Frame).Head).Seq) ((((gd p0 v1_2.toNat).Frame).Head).Frag) ((((gd p0 v1_2.toNat).Frame).Head).Tid) ((((gd p0 v1_2.toNat).Frame).Head).Ack) ((((gd p0 v1_2.toNat).Frame).Head).Amsdu) ((((gd p0 v1_2.toNat).Frame).Head).Eosp)) (((gd p0 v1_2.toNat).Frame).Body))).bind fun r4=>need (capb 120 (v1_1.length+1)) <| some (.next ((v1_1 ++ [(TStored.mk ((gd p0 v1_2.toNat).Cat) ((gd p0 v1_2.toNat).At) (TFrame.mk (THeader.mk r4.Head.Kind r4.Head.Sub r4.Head.ToDs r4.Head.FromDs r4.Head.More r4.Head.Retry r4.Head.Sleep r4.Head.MoreData r4.Head.Protected r4.Head.Duration (A6u8.mk r4.Head.A1.x0 r4.Head.A1.x1 r4.Head.A1.x2 r4.Head.A1.x3 r4.Head.A1.x4 r4.Head.A1.x5) (A6u8.mk r4.Head.A2.x0 r4.Head.A2.x1 r4.Head.A2.x2 r4.Head.A2.x3 r4.Head.A2.x4 r4.Head.A2.x5) (A6u8.mk r4.Head.A3.x0 r4.Head.A3.x1 r4.Head.A3.x2 r4.Head.A3.x3 r4.Head.A3.x4 r4.Head.A3.x5) (A6u8.mk r4.Head.A4.x0 r4.Head.A4.x1 r4.Head.A4.x2 r4.Head.A4.x3 r4.Head.A4.x4 r4.Head.A4.x5) r4.Head.Seq r4.Head.Frag r4.Head.Tid r4.Head.Ack r4.Head.Amsdu r4.Head.Eosp) r4.Body))]),wr .i64 (v1_2+1)))) else (some (.done (.inl v1_1)))
noncomputable def F51_0 (p0:List TStored):Option (List TStored) :=
 lp (loopD (fun s=>F51_0_L1 p0 s.1 s.2) ([],0)) (fun w1_3=>some w1_3) some
noncomputable def body51_0:List AV->Nat->AR
 | [v0],_=>.pure (lK k_TStored 43 v0/\(F51_0 (lA g_TStored v0)).isSome=true) (.ro 43 ((gt (F51_0 (lA g_TStored v0))).length) false (enR c_TStored (gt (F51_0 (lA g_TStored v0)))))
 | _,_=>.fail
theorem ok51_0:FnOk Try.prog 51 (genC body51_0):=by
 refine gen_fn body51_0 (rs:=[.tmp 2]) Try.func51 (by kernel_rfl) rfl rfl ?_
 intro l s ob v ns hb hob
 rcases hb with ⟨hb,rfl⟩|hb
 ·unfold body51_0 at hb
  split at hb
  ·rename_i v0
   injection hb with q1 q2;subst q1 q2
   obtain ⟨hk0_0,hob⟩:=hob
   obtain ⟨r,H⟩:=Option.isSome_iff_exists.1 hob
   rw [H,gt_some]
   have hw0:=lK_wk (fun r h=>w_TStored h) hk0_0
   generalize lA g_TStored v0=p0 at H hw0
   refine ⟨[.ro 43 p0.length false (enR c_TStored p0)],.ro 43 r.length false (enR c_TStored r),[],(fun E vs F=>FR_wk1 hw0.1 F (fun vs F=>F)),by simp only [ren],trivial,?_⟩
   rw [Try.ntmps51]
   simp only [List.length_cons,List.length_nil,Nat.reduceAdd,Nat.reduceSub,List.replicate_succ,List.replicate_zero,List.cons_append,List.nil_append]
   unfold F51_0 at H
   try dsimp only at H
   refine sq ctNo_ok ?_
   simp only [go_sem]
   refine sq ctNo_ok ?_
   simp only [go_sem]
   refine seqM ?_
   refine sq ctNo_ok ?_
   simp only [go_sem]
   refine blkM ?_
   refine loop_den (fun s:(List TStored) × Int=>(.ro 43 p0.length false (enR c_TStored p0)::.top::.top::.sl 0 43 0 s.1.length false::.int .i64 s.2::tp 27 [])) (fun s=>[.row 73 43 s.1.length (enR c_TStored s.1)]) (fun e:List TStored=>(.top::.top::.top::.sl 0 43 0 e.length false::tp 28 [])) (fun e=>[.row 73 43 e.length (enR c_TStored e)]) H ?_ (fun s o H hn1_1 hn2_1=>?_) (fun w1_3 H=>?_)
   ·refine SubF_of ⟨[none],?_,?_,by rfl,by rfl⟩
    ·simp [CvL,Cv,tp]
    ·exact ⟨CvB_none,trivial⟩
   ·obtain ⟨v1_1,v1_2⟩:=s
    unfold F51_0_L1 at H
    try dsimp only at H ⊢
    try simp only [tp]
    refine seqM ?_
    refine sq ctNo_ok ?_
    simp only [go_sem]
    repeat ((with_reducible refine And.intro ?_ ?_);focus (first|(and_intros<;>first|(with_reducible trivial)|omega|assumption|exact nfc|first|exact rfl|exact trivial|exact fitI|exact .inr rfl|exact .inl rfl|exact fun x hx=>absurd hx (by omega))|grind))
    refine condM' rfl trivial (fun hc=>?_) (fun hc=>?_)
    ·replace H:=cond_f hc H
     refine rg ctNo_ok ?_
     simp only [go_sem]
     refine ⟨_,(Option.some.inj H).symm,?_⟩
     refine SubF_of ⟨[some 0],?_,?_,by rfl,by rfl⟩
     ·simp [CvL,Cv,getM]
     ·exact ⟨CvB_row nr_TStored (by first|rfl|(simp;done)|(simp;omega)) (fun _ _ _ _=>rfl),trivial⟩
    replace H:=cond_t hc H
    refine rg ctNo_ok ?_
    simp only [go_sem]
    refine seqM ?_
    refine blkM ?_
    obtain ⟨f1,H⟩:=need_some.1 H
    replace f1:=inb_iff.1 f1
    obtain ⟨f2,H⟩:=need_some.1 H
    replace f2:=inb_iff.1 f2
    obtain ⟨f3,H⟩:=need_some.1 H
    replace f3:=inb_iff.1 f3
    obtain ⟨r4,e5,H⟩:=bsi H
    obtain ⟨f6,H⟩:=need_some.1 H
    replace f6:=capb_iff.1 f6
    refine draw_rule shT_ok ct51_0t0_ok 2 (by kernel_rfl) (by kernel_rfl) ?_
    intro an han
    simp only [d_nil,d_cons,nxtD,xrD,xoD,roEq,minL,List.append_nil,refsOp,refs,refsL,mask,maskF,place,placeF,okLog,pairOk,hit,inL,slotsF,ren,renL,rnN,nrH,nrB,List.replicate_zero,List.replicate_succ,Nat.sub_self,Nat.add_zero,Nat.zero_add,Nat.reduceSub,Nat.lt_add_one,go_sem,Nat.reduceLeDiff,Nat.reduceLT,Nat.reduceAdd,Nat.reduceSub,Nat.reduceBEq,reduceCtorEq,ct51_0t0_17,body17_0,f1,e5,f6]
    repeat ((with_reducible refine And.intro ?_ ?_);focus (and_intros<;>first|(with_reducible trivial)|(show anB _ _ _=true;subst han;kernel_rfl)|(show (anB _ _ _ && _)=true;subst han;kernel_rfl)|omega|assumption|exact nrc|exact nfc|first|exact rfl|exact trivial|exact fitI|exact .inr rfl|exact .inl rfl|exact fun x hx=>absurd hx (by omega)|(intro x hx;(repeat (first|(and_intros<;>(first|exact rfl|exact trivial|exact fitI|exact .inr rfl|exact .inl rfl|exact fun x hx=>absurd hx (by omega)))|(exfalso;omega)|(rcases x with _|x)));done)|(refine Fit_app ?_ ?_<;>first|exact fitI|(intro x hx;(repeat (first|(and_intros<;>(first|exact rfl|exact trivial|exact fitI|exact .inr rfl|exact .inl rfl|exact fun x hx=>absurd hx (by omega)))|(exfalso;omega)|(rcases x with _|x)));done)|(refine Fit_app ?_ ?_<;>first|exact fitI|(intro x hx;(repeat (first|(and_intros<;>(first|exact rfl|exact trivial|exact fitI|exact .inr rfl|exact .inl rfl|exact fun x hx=>absurd hx (by omega)))|(exfalso;omega)|(rcases x with _|x)));done)))))
    refine rg ctNo_ok ?_
    simp only [go_sem]
    refine ⟨_,(Option.some.inj H).symm,?_⟩
    refine SubF_of ⟨[some 2],?_,?_,by rfl,by rfl⟩
    ·simp [CvL,Cv,getM]
    ·exact ⟨CvB_row nr_TStored (by first|rfl|(simp;done)|(simp;omega)) (app_row (f:=c_TStored) v1_1 [(TStored.mk ((gd p0 v1_2.toNat).Cat) ((gd p0 v1_2.toNat).At) (TFrame.mk (THeader.mk r4.Head.Kind r4.Head.Sub r4.Head.ToDs r4.Head.FromDs r4.Head.More r4.Head.Retry r4.Head.Sleep r4.Head.MoreData r4.Head.Protected r4.Head.Duration (A6u8.mk r4.Head.A1.x0 r4.Head.A1.x1 r4.Head.A1.x2 r4.Head.A1.x3 r4.Head.A1.x4 r4.Head.A1.x5) (A6u8.mk r4.Head.A2.x0 r4.Head.A2.x1 r4.Head.A2.x2 r4.Head.A2.x3 r4.Head.A2.x4 r4.Head.A2.x5) (A6u8.mk r4.Head.A3.x0 r4.Head.A3.x1 r4.Head.A3.x2 r4.Head.A3.x3 r4.Head.A3.x4 r4.Head.A3.x5) (A6u8.mk r4.Head.A4.x0 r4.Head.A4.x1 r4.Head.A4.x2 r4.Head.A4.x3 r4.Head.A4.x4 r4.Head.A4.x5) r4.Head.Seq r4.Head.Frag r4.Head.Tid r4.Head.Ack r4.Head.Amsdu r4.Head.Eosp) r4.Body))] (fun _ _ _ _=>rfl) (lit_row (f:=c_TStored) [(TStored.mk ((gd p0 v1_2.toNat).Cat) ((gd p0 v1_2.toNat).At) (TFrame.mk (THeader.mk r4.Head.Kind r4.Head.Sub r4.Head.ToDs r4.Head.FromDs r4.Head.More r4.Head.Retry r4.Head.Sleep r4.Head.MoreData r4.Head.Protected r4.Head.Duration (A6u8.mk r4.Head.A1.x0 r4.Head.A1.x1 r4.Head.A1.x2 r4.Head.A1.x3 r4.Head.A1.x4 r4.Head.A1.x5) (A6u8.mk r4.Head.A2.x0 r4.Head.A2.x1 r4.Head.A2.x2 r4.Head.A2.x3 r4.Head.A2.x4 r4.Head.A2.x5) (A6u8.mk r4.Head.A3.x0 r4.Head.A3.x1 r4.Head.A3.x2 r4.Head.A3.x3 r4.Head.A3.x4 r4.Head.A3.x5) (A6u8.mk r4.Head.A4.x0 r4.Head.A4.x1 r4.Head.A4.x2 r4.Head.A4.x3 r4.Head.A4.x4 r4.Head.A4.x5) r4.Head.Seq r4.Head.Frag r4.Head.Tid r4.Head.Ack r4.Head.Amsdu r4.Head.Eosp) r4.Body))] (fun _ _=>rfl) rfl)),trivial⟩
   ·try dsimp only at H ⊢
    try simp only [tp]
    try simp only [m_normal]
    refine sq ctNo_ok ?_
    simp only [go_sem]
    refine rg ctNo_ok ?_
    simp only [go_sem]
    obtain rfl:=Option.some.inj H
    refine ⟨[0],?_,?_,[],?_,?_,rfl⟩
    ·simp only [go_sem]
     try (and_intros<;>first|(with_reducible trivial)|omega|exact nfc|trivial)
    ·simp only [go_sem]
     try (and_intros<;>first|(with_reducible trivial)|omega|exact nfc|trivial)
    ·simp only [go_sem]
     exact (ro_row (by first|rfl|simp) (fun _ _ _ _=>rfl))
    ·simp only [go_sem,CvH]
  ·cases hb
 ·unfold body51_0 at hb
  split at hb<;>cases hb
noncomputable def ct28t0:Ct:=tab [(51,genC body51)]
theorem ct28t0_ok:CtOk Try.prog ct28t0:=tab_cons ok51 <| tab_nil
theorem ct28t0_51 (l:List AV) (h:List ABlk):ct28t0 51 l h=genC body51 l h:=rfl
noncomputable def ct28t1:Ct:=tab [(51,genC body51_0)]
theorem ct28t1_ok:CtOk Try.prog ct28t1:=tab_cons ok51_0 <| tab_nil
theorem ct28t1_51 (l:List AV) (h:List ABlk):ct28t1 51 l h=genC body51_0 l h:=rfl
noncomputable def F28_L1 (p0:TBuffer) (v1_1:Int) (v1_2:List TSleeper):Option (Lp (Int × (List TSleeper)) ((List TSleeper) ⊕ (TBuffer))) :=
 bif (bLt v1_1 (p0.List.length:Nat)) then (need (inb v1_1 p0.List.length) <| (F51_0 ((gd p0.List v1_1.toNat).Held)).bind fun r4=>need (capb 40 (v1_2.length+1)) <| some (.next (wr .i64 (v1_1+1),(v1_2 ++ [(TSleeper.mk ((gd p0.List v1_1.toNat).Aid) ((gd p0.List v1_1.toNat).Asleep) r4)])))) else (some (.done (.inl v1_2)))
noncomputable def F28 (p0:TBuffer):Option (TBuffer) :=
 (F51 p0.Group).bind fun r1=>lp (loopD (fun s=>F28_L1 p0 s.1 s.2) (0,[])) (fun w1_3=>some (TBuffer.mk p0.Limit p0.Stay w1_3 r1)) some
noncomputable def body28:List AV->Nat->AR
 | [v0],s=>.heap (aK 4 k_TBuffer v0/\(F28 (g_TBuffer (aL v0))).isSome=true) (.agg [.int .i64 ((gt (F28 (g_TBuffer (aL v0)))).Limit),.int .i64 ((gt (F28 (g_TBuffer (aL v0)))).Stay),.sl s 3 0 (((gt (F28 (g_TBuffer (aL v0)))).List).length) false,.sl (s+1) 43 0 (((gt (F28 (g_TBuffer (aL v0)))).Group).length) false]) [.row 71 3 (((gt (F28 (g_TBuffer (aL v0)))).List).length) (enR c_TSleeper ((gt (F28 (g_TBuffer (aL v0)))).List)),.row 73 43 (((gt (F28 (g_TBuffer (aL v0)))).Group).length) (enR c_TStored ((gt (F28 (g_TBuffer (aL v0)))).Group))]
 | _,_=>.fail
theorem ok28:FnOk Try.prog 28 (genC body28):=by
 refine gen_fn body28 (rs:=[.cell 2 52]) Try.func28 (by kernel_rfl) rfl rfl ?_
 intro l s ob v ns hb hob
 rcases hb with ⟨hb,rfl⟩|hb
 ·unfold body28 at hb
  split at hb<;>cases hb
 ·unfold body28 at hb
  split at hb
  ·rename_i v0
   injection hb with q1 q2 q3;subst q1 q2 q3
   obtain ⟨hk0_0,hob⟩:=hob
   obtain ⟨r,H⟩:=Option.isSome_iff_exists.1 hob
   rw [H,gt_some]
   have hw0:=wA_TBuffer hk0_0
   generalize g_TBuffer (aL v0)=p0 at H hw0
   refine ⟨[.agg [.int .i64 p0.Limit,.int .i64 p0.Stay,.ro 3 p0.List.length false (enR c_TSleeper p0.List),.ro 43 p0.Group.length false (enR c_TStored p0.Group)]],.agg [.int .i64 r.Limit,.int .i64 r.Stay,.sl 0 3 0 r.List.length false,.sl 1 43 0 r.Group.length false],[.row 71 3 r.List.length (enR c_TSleeper r.List),.row 73 43 r.Group.length (enR c_TStored r.Group)],(fun E vs F=>FR_wk1 hw0.1 F (fun vs F=>F)),by simp only [ren,renL,rnN_0,rnN_s,Nat.zero_add],⟨RenB_row nr_TSleeper,RenB_row nr_TStored,trivial⟩,?_⟩
   rw [Try.ntmps28]
   simp only [List.length_cons,List.length_nil,Nat.reduceAdd,Nat.reduceSub,List.replicate_succ,List.replicate_zero,List.cons_append,List.nil_append]
   unfold F28 at H
   try dsimp only at H
   refine sq ctNo_ok ?_
   simp only [go_sem]
   refine seqM ?_
   obtain ⟨r1,e2,H⟩:=bsi H
   refine draw_rule shT_ok ct28t0_ok 2 (by kernel_rfl) (by kernel_rfl) ?_
   intro an han
   simp only [d_nil,d_cons,nxtD,xrD,xoD,roEq,minL,List.append_nil,refsOp,refs,refsL,mask,maskF,place,placeF,okLog,pairOk,hit,inL,slotsF,ren,rnN,nrH,nrB,nrL,nr,List.replicate_zero,List.replicate_succ,Nat.sub_self,Nat.add_zero,Nat.zero_add,Nat.reduceSub,Nat.lt_add_one,go_sem,Nat.reduceLeDiff,Nat.reduceLT,Nat.reduceAdd,Nat.reduceSub,Nat.reduceBEq,ct28t0_51,body51,e2]
   repeat ((with_reducible refine And.intro ?_ ?_);focus (and_intros<;>first|(with_reducible trivial)|(show anB _ _ _=true;subst han;kernel_rfl)|(show (anB _ _ _ && _)=true;subst han;kernel_rfl)|omega|assumption|exact nrc|exact nfc|first|exact rfl|exact trivial|exact fitI|exact .inr rfl|exact .inl rfl|exact fun x hx=>absurd hx (by omega)))
   refine seqM ?_
   refine sq ctNo_ok ?_
   simp only [go_sem]
   refine blkM ?_
   refine loop_den (fun s:Int × (List TSleeper)=>(.top::.ptr 0 0 0 0::.ptr 1 0 0 0::.ptr 3 0 0 0::.int .i64 s.1::tp 35 [])) (fun s=>[.lit 52 [.int .i64 p0.Limit,.int .i64 p0.Stay,.ro 3 p0.List.length false (enR c_TSleeper p0.List),.ro 43 p0.Group.length false (enR c_TStored p0.Group)],.lit 52 [.int .i64 0,.int .i64 0,.ro 0 0 true (fun _ _=>.top),.ro 0 0 true (fun _ _=>.top)],.row 73 43 r1.length (enR c_TStored r1),.lit 52 [.int .i64 p0.Limit,.int .i64 p0.Stay,.sl 4 3 0 s.2.length false,.sl 2 43 0 r1.length false],.row 71 3 s.2.length (enR c_TSleeper s.2)]) (fun e:List TSleeper=>(.top::.top::.ptr 1 0 0 0::.ptr 3 0 0 0::tp 36 [])) (fun e=>[.dead,.lit 52 [.int .i64 0,.int .i64 0,.ro 0 0 true (fun _ _=>.top),.ro 0 0 true (fun _ _=>.top)],.row 73 43 r1.length (enR c_TStored r1),.lit 52 [.int .i64 p0.Limit,.int .i64 p0.Stay,.sl 4 3 0 e.length false,.sl 2 43 0 r1.length false],.row 71 3 e.length (enR c_TSleeper e)]) H ?_ (fun s o H hn1_1 hn2_1=>?_) (fun w1_3 H=>?_)
   ·refine SubF_of ⟨[some 0,some 1,some 2,some 3,none],?_,?_,by rfl,by rfl⟩
    ·simp [CvL,Cv,getM,tp]
    ·exact ⟨(by simp [CvB,CvL,Cv,blkAt,geth]),(by simp [CvB,CvL,Cv,blkAt,geth]),(CvB_same nfA),(by simp [CvB,CvL,Cv,blkAt,geth,getM]),CvB_none,trivial⟩
   ·obtain ⟨v1_1,v1_2⟩:=s
    unfold F28_L1 at H
    try dsimp only at H ⊢
    try simp only [tp]
    refine seqM ?_
    refine sq ctNo_ok ?_
    simp only [go_sem,Nat.reduceLeDiff,Nat.reduceLT,Nat.reduceAdd]
    repeat ((with_reducible refine And.intro ?_ ?_);focus (first|(and_intros<;>first|(with_reducible trivial)|omega|assumption|exact nfc|first|exact rfl|exact trivial|exact fitI|exact .inr rfl|exact .inl rfl|exact fun x hx=>absurd hx (by omega))|grind))
    refine condM' rfl trivial (fun hc=>?_) (fun hc=>?_)
    ·replace H:=cond_f hc H
     refine rg ctNo_ok ?_
     simp only [go_sem]
     refine ⟨_,(Option.some.inj H).symm,?_⟩
     refine SubF_of ⟨[some 0,some 1,some 2,some 3,some 4],?_,?_,by rfl,by rfl⟩
     ·simp [CvL,Cv,getM]
     ·exact ⟨CvB_dead,(by simp [CvB,CvL,Cv,blkAt,geth]),(CvB_same nfA),(by simp [CvB,CvL,Cv,blkAt,geth,getM]),CvB_row nr_TSleeper (by first|rfl|(simp;done)|(simp;omega)) (fun _ _ _ _=>rfl),trivial⟩
    replace H:=cond_t hc H
    refine rg ctNo_ok ?_
    simp only [go_sem]
    refine seqM ?_
    refine blkM ?_
    refine seqM ?_
    obtain ⟨f3,H⟩:=need_some.1 H
    replace f3:=inb_iff.1 f3
    refine rg ctNo_ok ?_
    simp only [go_sem,Nat.reduceLeDiff,Nat.reduceLT,Nat.reduceAdd,f3]
    repeat ((with_reducible refine And.intro ?_ ?_);focus (first|(with_reducible trivial)|omega|grind))
    obtain ⟨r4,e5,H⟩:=bsi H
    obtain ⟨f6,H⟩:=need_some.1 H
    replace f6:=capb_iff.1 f6
    refine draw_rule shT_ok ct28t1_ok 2 (by kernel_rfl) (by kernel_rfl) ?_
    intro an han
    simp only [d_nil,d_cons,nxtD,xrD,xoD,roEq,minL,List.append_nil,refsOp,refs,refsL,mask,maskF,place,placeF,okLog,pairOk,hit,inL,slotsF,ren,rnN,nrH,nrB,nrL,nr,List.replicate_zero,List.replicate_succ,Nat.sub_self,Nat.add_zero,Nat.zero_add,Nat.reduceSub,Nat.lt_add_one,go_sem,Nat.reduceLeDiff,Nat.reduceLT,Nat.reduceAdd,Nat.reduceSub,Nat.reduceBEq,ct28t1_51,body51_0,e5,f6]
    repeat ((with_reducible refine And.intro ?_ ?_);focus (and_intros<;>first|(with_reducible trivial)|(show anB _ _ _=true;subst han;kernel_rfl)|(show (anB _ _ _ && _)=true;subst han;kernel_rfl)|omega|assumption|exact nrc|exact nfc|first|exact rfl|exact trivial|exact fitI|exact .inr rfl|exact .inl rfl|exact fun x hx=>absurd hx (by omega)|(intro x hx;(repeat (first|(and_intros<;>(first|exact rfl|exact trivial|exact fitI|exact .inr rfl|exact .inl rfl|exact fun x hx=>absurd hx (by omega)))|(exfalso;omega)|(rcases x with _|x)));done)|(refine Fit_app ?_ ?_<;>first|exact fitI|(intro x hx;(repeat (first|(and_intros<;>(first|exact rfl|exact trivial|exact fitI|exact .inr rfl|exact .inl rfl|exact fun x hx=>absurd hx (by omega)))|(exfalso;omega)|(rcases x with _|x)));done)|(refine Fit_app ?_ ?_<;>first|exact fitI|(intro x hx;(repeat (first|(and_intros<;>(first|exact rfl|exact trivial|exact fitI|exact .inr rfl|exact .inl rfl|exact fun x hx=>absurd hx (by omega)))|(exfalso;omega)|(rcases x with _|x)));done)))))
    refine rg ctNo_ok ?_
    simp only [go_sem]
    refine ⟨_,(Option.some.inj H).symm,?_⟩
    refine SubF_of ⟨[some 0,some 1,some 2,some 3,some 7],?_,?_,by rfl,by rfl⟩
    ·simp [CvL,Cv,getM]
    ·exact ⟨(by simp [CvB,CvL,Cv,blkAt,geth]),(by simp [CvB,CvL,Cv,blkAt,geth]),(CvB_same nfA),(by simp [CvB,CvL,Cv,blkAt,geth,getM]),CvB_row nr_TSleeper (by first|rfl|(simp;done)|(simp;omega)) (app_row (f:=c_TSleeper) v1_2 [(TSleeper.mk ((gd p0.List v1_1.toNat).Aid) ((gd p0.List v1_1.toNat).Asleep) r4)] (fun _ _ _ _=>rfl) (lit_row (f:=c_TSleeper) [(TSleeper.mk ((gd p0.List v1_1.toNat).Aid) ((gd p0.List v1_1.toNat).Asleep) r4)] (fun _ _=>rfl) rfl)),trivial⟩
   ·try dsimp only at H ⊢
    try simp only [tp]
    try simp only [m_normal]
    refine sq ctNo_ok ?_
    simp only [go_sem,Nat.reduceLT,Nat.reduceAdd]
    repeat ((with_reducible refine And.intro ?_ ?_);focus (first|(with_reducible trivial)|omega|grind))
    refine rg ctNo_ok ?_
    simp only [go_sem,Nat.reduceLT,Nat.reduceAdd]
    obtain rfl:=Option.some.inj H
    refine ⟨[],?_,?_,[some 4,some 2],?_,?_,by rfl⟩
    ·simp only [go_sem]
    ·simp only [go_sem]
    ·simp [fzV,fzL,inL,Cv,CvL,getM]
     all_goals first|exact (by first|rfl|(simp;done)|(simp;omega))|exact (by first|rfl|(simp;done)|(simp;omega))
    ·simp only [go_sem,CvH]
     exact ⟨CvB_row nr_TSleeper (by first|rfl|(simp;done)|(simp;omega)) (fun _ _ _ _=>rfl),CvB_row nr_TStored (by first|rfl|(simp;done)|(simp;omega)) (fun _ _ _ _=>rfl)⟩
  ·cases hb
noncomputable def F80 (p0:Int):Option (Bool) :=
 some ((bLe 0 p0) && (bLe p0 1099511627776))
noncomputable def body80:List AV->AR
 | [v0]=>.pure (iK .i64 v0/\(F80 (iA v0)).isSome=true) (.bool (gt (F80 (iA v0))))
 | _=>.fail
theorem ok80:FnOk Try.prog 80 (pureC body80):=by
 refine pure_fnM body80 (rs:=[.tmp 2]) Try.func80 (by kernel_rfl) rfl rfl ?_
 intro l ob v hb hob
 unfold body80 at hb
 split at hb
 ·rename_i v0
  injection hb with q1 q2;subst q1 q2
  obtain ⟨hk0_0,hob⟩:=hob
  obtain ⟨r,H⟩:=Option.isSome_iff_exists.1 hob
  rw [H,gt_some]
  have hw0:=iK_wk hk0_0
  generalize iA v0=p0 at H hw0
  refine ⟨[.int .i64 p0],_,(fun E vs F=>FR_wk1 hw0.1 F (fun vs F=>F)),rfl,rfl,?_⟩
  rw [Try.ntmps80]
  simp only [List.length_cons,List.length_nil,Nat.reduceAdd,Nat.reduceSub,List.replicate_succ,List.replicate_zero,List.cons_append,List.nil_append]
  unfold F80 at H
  try dsimp only at H
  refine sq ctNo_ok ?_
  simp only [go_sem]
  refine sq ctNo_ok ?_
  simp only [go_sem]
  repeat ((with_reducible refine And.intro ?_ ?_);focus (first|(with_reducible trivial)|omega|grind))
  refine rg ctNo_ok ?_
  simp only [go_sem]
  obtain rfl:=Option.some.inj H
  first|rfl|simp only [Bool.and_false,Bool.false_and,Bool.and_true,Bool.true_and]
 ·cases hb
noncomputable def ct69t0:Ct:=tab [(80,pureC body80)]
theorem ct69t0_ok:CtOk Try.prog ct69t0:=tab_cons ok80 <| tab_nil
theorem ct69t0_80 (l:List AV) (h:List ABlk):ct69t0 80 l h=pureC body80 l h:=rfl
noncomputable def F69_L1 (p0:List TStored) (p2:Int) (v1_1:Int):Option (Lp (Int) ((Unit) ⊕ (Bool))) :=
 bif (bLt v1_1 (p0.length:Nat)) then (need (inb v1_1 p0.length) <| need (bif (!(bLt p2 (wr .i64 ((gd p0 v1_1.toNat).Cat)))) then inb v1_1 p0.length else true) <| need (bif (!(bLt p2 (wr .i64 ((gd p0 v1_1.toNat).Cat)))) then ((F80 ((gd p0 v1_1.toNat).At)).isSome) else true) <| need (bif ((!((bLt p2 (wr .i64 ((gd p0 v1_1.toNat).Cat))) || (!(gt (F80 ((gd p0 v1_1.toNat).At)))))) && (bLt 0 v1_1)) then inb (wr .i64 (v1_1 - 1)) p0.length else true) <| need (bif ((!((bLt p2 (wr .i64 ((gd p0 v1_1.toNat).Cat))) || (!(gt (F80 ((gd p0 v1_1.toNat).At)))))) && (bLt 0 v1_1)) then inb v1_1 p0.length else true) <| bif (((bLt p2 (wr .i64 ((gd p0 v1_1.toNat).Cat))) || (!(gt (F80 ((gd p0 v1_1.toNat).At))))) || ((bLt 0 v1_1) && (bLt ((gd p0 v1_1.toNat).At) ((gd p0 ((wr .i64 (v1_1 - 1)).toNat)).At)))) then (some (.done (.inr false))) else (some (.next (wr .i64 (v1_1+1))))) else (some (.done (.inl ())))
noncomputable def F69 (p0:List TStored) (p1:Int) (p2:Int):Option (Bool) :=
 bif (bLt p1 (p0.length:Nat)) then (some false) else (lp (loopD (fun s=>F69_L1 p0 p2 s) 0) (fun _=>some true) some)
noncomputable def body69:List AV->AR
 | [v0,v1,v2]=>.pure (lK k_TStored 43 v0/\iK .i64 v1/\iK .i64 v2/\(F69 (lA g_TStored v0) (iA v1) (iA v2)).isSome=true) (.bool (gt (F69 (lA g_TStored v0) (iA v1) (iA v2))))
 | _=>.fail
theorem ok69:FnOk Try.prog 69 (pureC body69):=by
 refine pure_fnM body69 (rs:=[.tmp 6]) Try.func69 (by kernel_rfl) rfl rfl ?_
 intro l ob v hb hob
 unfold body69 at hb
 split at hb
 ·rename_i v0 v1 v2
  injection hb with q1 q2;subst q1 q2
  obtain ⟨hk0_0,hk1_0,hk2_0,hob⟩:=hob
  obtain ⟨r,H⟩:=Option.isSome_iff_exists.1 hob
  rw [H,gt_some]
  have hw0:=lK_wk (fun r h=>w_TStored h) hk0_0
  have hw1:=iK_wk hk1_0
  have hw2:=iK_wk hk2_0
  generalize lA g_TStored v0=p0 at H hw0
  generalize iA v1=p1 at H hw1
  generalize iA v2=p2 at H hw2
  refine ⟨[.ro 43 p0.length false (enR c_TStored p0),.int .i64 p1,.int .i64 p2],_,(fun E vs F=>FR_wk1 hw0.1 F (fun vs F=>FR_wk1 hw1.1 F (fun vs F=>FR_wk1 hw2.1 F (fun vs F=>F)))),rfl,rfl,?_⟩
  rw [Try.ntmps69]
  simp only [List.length_cons,List.length_nil,Nat.reduceAdd,Nat.reduceSub,List.replicate_succ,List.replicate_zero,List.cons_append,List.nil_append]
  unfold F69 at H
  try dsimp only at H
  refine sq ctNo_ok ?_
  simp only [go_sem]
  refine seqM ?_
  refine sq ctNo_ok ?_
  simp only [go_sem]
  repeat ((with_reducible refine And.intro ?_ ?_);focus (first|(and_intros<;>first|(with_reducible trivial)|omega|assumption|exact nfc|first|exact rfl|exact trivial|exact fitI|exact .inr rfl|exact .inl rfl|exact fun x hx=>absurd hx (by omega))|grind))
  refine condM rfl trivial (fun hc=>?_) (fun hc=>?_)
  ·replace H:=cond_t hc H
   refine sq ctNo_ok ?_
   simp only [go_sem]
   refine rg ctNo_ok ?_
   simp only [go_sem]
   obtain rfl:=Option.some.inj H
   first|rfl|simp only [Bool.and_false,Bool.false_and,Bool.and_true,Bool.true_and]
  replace H:=cond_f hc H
  refine rg ctNo_ok ?_
  simp only [go_sem]
  refine seqM ?_
  refine sq ctNo_ok ?_
  simp only [go_sem]
  refine blkM ?_
  refine loop_den (fun s:Int=>(.ro 43 p0.length false (enR c_TStored p0)::.top::.int .i64 p2::tp 4 (.int .i64 s::tp 45 []))) (fun s=>[]) (fun e:Unit=>(tp 53 [])) (fun e=>[]) H ?_ (fun v1_1 o H hn1_1 hn2_1=>?_) (fun e H=>?_)
  ·refine SubF_of ⟨[],?_,?_,by rfl,by rfl⟩
   ·simp [CvL,Cv,tp]
   ·trivial
  ·unfold F69_L1 at H
   try dsimp only at H ⊢
   try simp only [tp]
   refine seqM ?_
   refine sq ctNo_ok ?_
   simp only [go_sem]
   repeat ((with_reducible refine And.intro ?_ ?_);focus (first|(and_intros<;>first|(with_reducible trivial)|omega|assumption|exact nfc|first|exact rfl|exact trivial|exact fitI|exact .inr rfl|exact .inl rfl|exact fun x hx=>absurd hx (by omega))|grind))
   refine condM' rfl trivial (fun hc=>?_) (fun hc=>?_)
   ·replace H:=cond_f hc H
    refine rg ctNo_ok ?_
    simp only [go_sem]
    refine ⟨_,(Option.some.inj H).symm,?_⟩
    refine SubF_of ⟨[],?_,?_,by rfl,by rfl⟩
    ·simp [CvL,Cv]
    ·trivial
   replace H:=cond_t hc H
   refine rg ctNo_ok ?_
   simp only [go_sem]
   refine seqM ?_
   refine blkM ?_
   refine seqM ?_
   obtain ⟨f1,H⟩:=need_some.1 H
   replace f1:=inb_iff.1 f1
   obtain ⟨f2,H⟩:=need_some.1 H
   replace f2:=g_iff.1 f2
   replace f2:=fun g=>inb_iff.1 (f2 g)
   obtain ⟨f3,H⟩:=need_some.1 H
   replace f3:=g_iff.1 f3
   obtain ⟨f4,H⟩:=need_some.1 H
   replace f4:=g_iff.1 f4
   replace f4:=fun g=>inb_iff.1 (f4 g)
   obtain ⟨f5,H⟩:=need_some.1 H
   replace f5:=g_iff.1 f5
   replace f5:=fun g=>inb_iff.1 (f5 g)
   refine draw_quiet shT_ok ct69t0_ok (by kernel_rfl) (by kernel_rfl) ?_
   simp only [go_sem,Nat.reduceLeDiff,Nat.reduceLT,Nat.reduceAdd,ct69t0_80,body80,f1]
   repeat ((with_reducible refine And.intro ?_ ?_);focus (first|(with_reducible trivial)|omega|exact f2|exact f3|exact f4|exact f5|(intro g;have q:=f2 (by first|exact g|(rw [g];rfl)|simpa using g);first|exact q|exact ⟨q.1,q.2.1⟩|exact q.2.2|omega|exact ⟨g,q⟩|exact ⟨trivial,q⟩|exact ⟨g,q.1,q.2.1⟩|exact ⟨g,q.2.2⟩)|(intro g;have q:=f3 (by first|exact g|(rw [g];rfl)|simpa using g);first|exact q|exact ⟨q.1,q.2.1⟩|exact q.2.2|omega|exact ⟨g,q⟩|exact ⟨trivial,q⟩|exact ⟨g,q.1,q.2.1⟩|exact ⟨g,q.2.2⟩)|(intro g;have q:=f4 (by first|exact g|(rw [g];rfl)|simpa using g);first|exact q|exact ⟨q.1,q.2.1⟩|exact q.2.2|omega|exact ⟨g,q⟩|exact ⟨trivial,q⟩|exact ⟨g,q.1,q.2.1⟩|exact ⟨g,q.2.2⟩)|(intro g;have q:=f5 (by first|exact g|(rw [g];rfl)|simpa using g);first|exact q|exact ⟨q.1,q.2.1⟩|exact q.2.2|omega|exact ⟨g,q⟩|exact ⟨trivial,q⟩|exact ⟨g,q.1,q.2.1⟩|exact ⟨g,q.2.2⟩)|(intro g;(try have q0:=f2 (by first|exact g|(rw [g];rfl)|simpa using g));(try have q1:=f3 (by first|exact g|(rw [g];rfl)|simpa using g));(try have q2:=f4 (by first|exact g|(rw [g];rfl)|simpa using g));(try have q3:=f5 (by first|exact g|(rw [g];rfl)|simpa using g));and_intros<;>first|(with_reducible trivial)|assumption|exact nfc|(intro g2;rw [g,g2];rfl)|(intro g2;assumption)|(simp only [g,Bool.true_and,Bool.and_true,Bool.not_false,Bool.not_true];assumption)|grind)|(and_intros<;>first|(with_reducible trivial)|omega|assumption|exact nfc|first|exact rfl|exact trivial|exact fitI|exact .inr rfl|exact .inl rfl|exact fun x hx=>absurd hx (by omega))|grind))
   refine condM rfl trivial (fun hc=>?_) (fun hc=>?_)
   ·replace H:=cond_t hc H
    refine sq ctNo_ok ?_
    simp only [go_sem]
    refine rg ctNo_ok ?_
    simp only [go_sem]
    have H:=hn2_1 _ (Option.some.inj H).symm
    obtain rfl:=Option.some.inj H
    first|rfl|simp only [Bool.and_false,Bool.false_and,Bool.and_true,Bool.true_and]
   replace H:=cond_f hc H
   refine rg ctNo_ok ?_
   simp only [go_sem]
   refine rg ctNo_ok ?_
   simp only [go_sem]
   refine ⟨_,(Option.some.inj H).symm,?_⟩
   refine SubF_of ⟨[],?_,?_,by rfl,by rfl⟩
   ·simp [CvL,Cv]
   ·trivial
  ·try dsimp only at H ⊢
   try simp only [tp]
   try simp only [m_normal]
   refine sq ctNo_ok ?_
   simp only [go_sem]
   refine rg ctNo_ok ?_
   simp only [go_sem]
   obtain rfl:=Option.some.inj H
   first|rfl|simp only [Bool.and_false,Bool.false_and,Bool.and_true,Bool.true_and]
 ·cases hb
noncomputable def F70_L1 (p0:TBuffer) (v1_1:Int):Option (Lp (Int) ((Unit) ⊕ (Bool))) :=
 bif (bLt v1_1 (p0.List.length:Nat)) then (need (inb v1_1 p0.List.length) <| bif (gd p0.List v1_1.toNat).Asleep then (some (.done (.inr true))) else (some (.next (wr .i64 (v1_1+1))))) else (some (.done (.inl ())))
noncomputable def F70 (p0:TBuffer):Option (Bool) :=
 lp (loopD (fun s=>F70_L1 p0 s) 0) (fun _=>some false) some
noncomputable def body70:List AV->AR
 | [v0]=>.pure (aK 4 k_TBuffer v0/\(F70 (g_TBuffer (aL v0))).isSome=true) (.bool (gt (F70 (g_TBuffer (aL v0)))))
 | _=>.fail
theorem ok70:FnOk Try.prog 70 (pureC body70):=by
 refine pure_fnM body70 (rs:=[.tmp 2]) Try.func70 (by kernel_rfl) rfl rfl ?_
 intro l ob v hb hob
 unfold body70 at hb
 split at hb
 ·rename_i v0
  injection hb with q1 q2;subst q1 q2
  obtain ⟨hk0_0,hob⟩:=hob
  obtain ⟨r,H⟩:=Option.isSome_iff_exists.1 hob
  rw [H,gt_some]
  have hw0:=wA_TBuffer hk0_0
  generalize g_TBuffer (aL v0)=p0 at H hw0
  refine ⟨[.agg [.int .i64 p0.Limit,.int .i64 p0.Stay,.ro 3 p0.List.length false (enR c_TSleeper p0.List),.ro 43 p0.Group.length false (enR c_TStored p0.Group)]],_,(fun E vs F=>FR_wk1 hw0.1 F (fun vs F=>F)),rfl,rfl,?_⟩
  rw [Try.ntmps70]
  simp only [List.length_cons,List.length_nil,Nat.reduceAdd,Nat.reduceSub,List.replicate_succ,List.replicate_zero,List.cons_append,List.nil_append]
  unfold F70 at H
  try dsimp only at H
  refine sq ctNo_ok ?_
  simp only [go_sem]
  refine seqM ?_
  refine sq ctNo_ok ?_
  simp only [go_sem]
  refine blkM ?_
  refine loop_den (fun s:Int=>(.top::.ptr 0 0 0 0::.top::.int .i64 s::tp 13 [])) (fun s=>[.lit 52 [.int .i64 p0.Limit,.int .i64 p0.Stay,.ro 3 p0.List.length false (enR c_TSleeper p0.List),.ro 43 p0.Group.length false (enR c_TStored p0.Group)]]) (fun e:Unit=>(tp 17 [])) (fun e=>[.dead]) H ?_ (fun v1_1 o H hn1_1 hn2_1=>?_) (fun e H=>?_)
  ·refine SubF_of ⟨[some 0],?_,?_,by rfl,by rfl⟩
   ·simp [CvL,Cv,getM,tp]
   ·exact ⟨(by simp [CvB,CvL,Cv,blkAt,geth]),trivial⟩
  ·unfold F70_L1 at H
   try dsimp only at H ⊢
   try simp only [tp]
   refine seqM ?_
   refine sq ctNo_ok ?_
   simp only [go_sem,Nat.reduceLeDiff,Nat.reduceLT,Nat.reduceAdd]
   repeat ((with_reducible refine And.intro ?_ ?_);focus (first|(and_intros<;>first|(with_reducible trivial)|omega|assumption|exact nfc|first|exact rfl|exact trivial|exact fitI|exact .inr rfl|exact .inl rfl|exact fun x hx=>absurd hx (by omega))|grind))
   refine condM' rfl trivial (fun hc=>?_) (fun hc=>?_)
   ·replace H:=cond_f hc H
    refine rg ctNo_ok ?_
    simp only [go_sem]
    refine ⟨_,(Option.some.inj H).symm,?_⟩
    refine SubF_of ⟨[some 0],?_,?_,by rfl,by rfl⟩
    ·simp [CvL,Cv]
    ·exact ⟨CvB_dead,trivial⟩
   replace H:=cond_t hc H
   refine rg ctNo_ok ?_
   simp only [go_sem]
   refine seqM ?_
   refine blkM ?_
   refine seqM ?_
   obtain ⟨f1,H⟩:=need_some.1 H
   replace f1:=inb_iff.1 f1
   refine rg ctNo_ok ?_
   simp only [go_sem,Nat.reduceLeDiff,Nat.reduceLT,Nat.reduceAdd,f1]
   repeat ((with_reducible refine And.intro ?_ ?_);focus (first|(with_reducible trivial)|omega|grind))
   refine condM rfl trivial (fun hc=>?_) (fun hc=>?_)
   ·replace H:=cond_t hc H
    refine sq ctNo_ok ?_
    simp only [go_sem]
    refine rg ctNo_ok ?_
    simp only [go_sem]
    have H:=hn2_1 _ (Option.some.inj H).symm
    obtain rfl:=Option.some.inj H
    first|rfl|simp only [Bool.and_false,Bool.false_and,Bool.and_true,Bool.true_and]
   replace H:=cond_f hc H
   refine rg ctNo_ok ?_
   simp only [go_sem]
   refine rg ctNo_ok ?_
   simp only [go_sem]
   refine ⟨_,(Option.some.inj H).symm,?_⟩
   refine SubF_of ⟨[some 0],?_,?_,by rfl,by rfl⟩
   ·simp [CvL,Cv,getM]
   ·exact ⟨(by simp [CvB,CvL,Cv,blkAt,geth]),trivial⟩
  ·try dsimp only at H ⊢
   try simp only [tp]
   try simp only [m_normal]
   refine sq ctNo_ok ?_
   simp only [go_sem]
   refine rg ctNo_ok ?_
   simp only [go_sem]
   obtain rfl:=Option.some.inj H
   first|rfl|simp only [Bool.and_false,Bool.false_and,Bool.and_true,Bool.true_and]
 ·cases hb
noncomputable def ct50t0:Ct:=tab [(69,pureC body69)]
theorem ct50t0_ok:CtOk Try.prog ct50t0:=tab_cons ok69 <| tab_nil
theorem ct50t0_69 (l:List AV) (h:List ABlk):ct50t0 69 l h=pureC body69 l h:=rfl
noncomputable def ct50t1:Ct:=tab [(70,pureC body70)]
theorem ct50t1_ok:CtOk Try.prog ct50t1:=tab_cons ok70 <| tab_nil
theorem ct50t1_70 (l:List AV) (h:List ABlk):ct50t1 70 l h=pureC body70 l h:=rfl
noncomputable def F50_L1 (p0:TBuffer) (v1_1:Int):Option (Lp (Int) ((Unit) ⊕ (Bool))) :=
 bif (bLt v1_1 (p0.List.length:Nat)) then (need (inb v1_1 p0.List.length) <| need (bif ((!((bLt ((gd p0.List v1_1.toNat).Aid) 1) || (bLt 255 ((gd p0.List v1_1.toNat).Aid)))) && (bLt 0 v1_1)) then inb (wr .i64 (v1_1 - 1)) p0.List.length else true) <| need (bif (!(((bLt ((gd p0.List v1_1.toNat).Aid) 1) || (bLt 255 ((gd p0.List v1_1.toNat).Aid))) || ((bLt 0 v1_1) && (bLe ((gd p0.List v1_1.toNat).Aid) ((gd p0.List ((wr .i64 (v1_1 - 1)).toNat)).Aid))))) then ((F69 ((gd p0.List v1_1.toNat).Held) p0.Limit 3).isSome) else true) <| bif (((((bLt ((gd p0.List v1_1.toNat).Aid) 1) || (bLt 255 ((gd p0.List v1_1.toNat).Aid))) || ((bLt 0 v1_1) && (bLe ((gd p0.List v1_1.toNat).Aid) ((gd p0.List ((wr .i64 (v1_1 - 1)).toNat)).Aid)))) || (!(gt (F69 ((gd p0.List v1_1.toNat).Held) p0.Limit 3)))) || ((!((gd p0.List v1_1.toNat).Asleep)) && (bLt 0 (((gd p0.List v1_1.toNat).Held).length:Nat)))) then (some (.done (.inr false))) else (some (.next (wr .i64 (v1_1+1))))) else (some (.done (.inl ())))
noncomputable def F50 (p0:TBuffer):Option (Bool) :=
 need (bif (!(((((bLt p0.Limit 1) || (bLt 64 p0.Limit)) || (bLt p0.Stay 1)) || (bLt 1073741824 p0.Stay)) || (bLt 32 (p0.List.length:Nat)))) then ((F69 p0.Group p0.Limit 0).isSome) else true) <| bif ((((((bLt p0.Limit 1) || (bLt 64 p0.Limit)) || (bLt p0.Stay 1)) || (bLt 1073741824 p0.Stay)) || (bLt 32 (p0.List.length:Nat))) || (!(gt (F69 p0.Group p0.Limit 0)))) then (some false) else (lp (loopD (fun s=>F50_L1 p0 s) 0) (fun _=>need (bif (!(bEq (p0.Group.length:Nat) 0)) then ((F70 p0).isSome) else true) <| some ((bEq (p0.Group.length:Nat) 0) || (gt (F70 p0)))) some)
noncomputable def body50:List AV->AR
 | [v0]=>.pure (aK 4 k_TBuffer v0/\(F50 (g_TBuffer (aL v0))).isSome=true) (.bool (gt (F50 (g_TBuffer (aL v0)))))
 | _=>.fail
theorem ok50:FnOk Try.prog 50 (pureC body50):=by
 refine pure_fnM body50 (rs:=[.tmp 2]) Try.func50 (by kernel_rfl) rfl rfl ?_
 intro l ob v hb hob
 unfold body50 at hb
 split at hb
 ·rename_i v0
  injection hb with q1 q2;subst q1 q2
  obtain ⟨hk0_0,hob⟩:=hob
  obtain ⟨r,H⟩:=Option.isSome_iff_exists.1 hob
  rw [H,gt_some]
  have hw0:=wA_TBuffer hk0_0
  generalize g_TBuffer (aL v0)=p0 at H hw0
  refine ⟨[.agg [.int .i64 p0.Limit,.int .i64 p0.Stay,.ro 3 p0.List.length false (enR c_TSleeper p0.List),.ro 43 p0.Group.length false (enR c_TStored p0.Group)]],_,(fun E vs F=>FR_wk1 hw0.1 F (fun vs F=>F)),rfl,rfl,?_⟩
  rw [Try.ntmps50]
  simp only [List.length_cons,List.length_nil,Nat.reduceAdd,Nat.reduceSub,List.replicate_succ,List.replicate_zero,List.cons_append,List.nil_append]
  unfold F50 at H
  try dsimp only at H
  refine sq ctNo_ok ?_
  simp only [go_sem]
  refine seqM ?_
  refine seqM ?_
  obtain ⟨f1,H⟩:=need_some.1 H
  replace f1:=g_iff.1 f1
  refine rg ct50t0_ok ?_
  simp only [go_sem,Nat.reduceLeDiff,Nat.reduceLT,Nat.reduceAdd,ct50t0_69,body69]
  repeat ((with_reducible refine And.intro ?_ ?_);focus (first|(with_reducible trivial)|omega|exact f1|(intro g;have q:=f1 (by first|exact g|(rw [g];rfl)|simpa using g);first|exact q|exact ⟨q.1,q.2.1⟩|exact q.2.2|omega|exact ⟨g,q⟩|exact ⟨trivial,q⟩|exact ⟨g,q.1,q.2.1⟩|exact ⟨g,q.2.2⟩)|(intro g;(try have q0:=f1 (by first|exact g|(rw [g];rfl)|simpa using g));and_intros<;>first|(with_reducible trivial)|assumption|exact nfc|(intro g2;rw [g,g2];rfl)|(intro g2;assumption)|(simp only [g,Bool.true_and,Bool.and_true,Bool.not_false,Bool.not_true];assumption)|grind)|(and_intros<;>first|(with_reducible trivial)|omega|assumption|exact nfc|first|exact rfl|exact trivial|exact fitI|exact .inr rfl|exact .inl rfl|exact fun x hx=>absurd hx (by omega))|grind))
  refine condM rfl trivial (fun hc=>?_) (fun hc=>?_)
  ·replace H:=cond_t hc H
   refine sq ctNo_ok ?_
   simp only [go_sem]
   refine rg ctNo_ok ?_
   simp only [go_sem]
   obtain rfl:=Option.some.inj H
   first|rfl|simp only [Bool.and_false,Bool.false_and,Bool.and_true,Bool.true_and]
  replace H:=cond_f hc H
  refine rg ctNo_ok ?_
  simp only [go_sem]
  refine seqM ?_
  refine sq ctNo_ok ?_
  simp only [go_sem]
  refine blkM ?_
  refine loop_den (fun s:Int=>(.top::.ptr 0 0 0 0::.top::.int .i64 s::tp 96 [])) (fun s=>[.lit 52 [.int .i64 p0.Limit,.int .i64 p0.Stay,.ro 3 p0.List.length false (enR c_TSleeper p0.List),.ro 43 p0.Group.length false (enR c_TStored p0.Group)]]) (fun e:Unit=>(.top::.ptr 0 0 0 0::tp 98 [])) (fun e=>[.lit 52 [.int .i64 p0.Limit,.int .i64 p0.Stay,.ro 3 p0.List.length false (enR c_TSleeper p0.List),.ro 43 p0.Group.length false (enR c_TStored p0.Group)]]) H ?_ (fun v1_1 o H hn1_1 hn2_1=>?_) (fun e H=>?_)
  ·refine SubF_of ⟨[some 0],?_,?_,by rfl,by rfl⟩
   ·simp [CvL,Cv,getM,tp]
   ·exact ⟨(by simp [CvB,CvL,Cv,blkAt,geth]),trivial⟩
  ·unfold F50_L1 at H
   try dsimp only at H ⊢
   try simp only [tp]
   refine seqM ?_
   refine sq ctNo_ok ?_
   simp only [go_sem,Nat.reduceLeDiff,Nat.reduceLT,Nat.reduceAdd]
   repeat ((with_reducible refine And.intro ?_ ?_);focus (first|(and_intros<;>first|(with_reducible trivial)|omega|assumption|exact nfc|first|exact rfl|exact trivial|exact fitI|exact .inr rfl|exact .inl rfl|exact fun x hx=>absurd hx (by omega))|grind))
   refine condM' rfl trivial (fun hc=>?_) (fun hc=>?_)
   ·replace H:=cond_f hc H
    refine rg ctNo_ok ?_
    simp only [go_sem]
    refine ⟨_,(Option.some.inj H).symm,?_⟩
    refine SubF_of ⟨[some 0],?_,?_,by rfl,by rfl⟩
    ·simp [CvL,Cv,getM]
    ·exact ⟨(by simp [CvB,CvL,Cv,blkAt,geth]),trivial⟩
   replace H:=cond_t hc H
   refine rg ctNo_ok ?_
   simp only [go_sem]
   refine seqM ?_
   refine blkM ?_
   refine seqM ?_
   obtain ⟨f2,H⟩:=need_some.1 H
   replace f2:=inb_iff.1 f2
   refine rg ctNo_ok ?_
   simp only [go_sem,Nat.reduceLeDiff,Nat.reduceLT,Nat.reduceAdd,f2]
   repeat ((with_reducible refine And.intro ?_ ?_);focus (first|(with_reducible trivial)|omega|grind))
   refine seqM ?_
   obtain ⟨f3,H⟩:=need_some.1 H
   replace f3:=g_iff.1 f3
   replace f3:=fun g=>inb_iff.1 (f3 g)
   obtain ⟨f4,H⟩:=need_some.1 H
   replace f4:=g_iff.1 f4
   refine draw_quiet shT_ok ct50t0_ok (by kernel_rfl) (by kernel_rfl) ?_
   simp only [go_sem,Nat.reduceLeDiff,Nat.reduceLT,Nat.reduceAdd,ct50t0_69,body69]
   repeat ((with_reducible refine And.intro ?_ ?_);focus (first|(with_reducible trivial)|omega|exact f3|exact f4|(intro g;have q:=f3 (by first|exact g|(rw [g];rfl)|simpa using g);first|exact q|exact ⟨q.1,q.2.1⟩|exact q.2.2|omega|exact ⟨g,q⟩|exact ⟨trivial,q⟩|exact ⟨g,q.1,q.2.1⟩|exact ⟨g,q.2.2⟩)|(intro g;have q:=f4 (by first|exact g|(rw [g];rfl)|simpa using g);first|exact q|exact ⟨q.1,q.2.1⟩|exact q.2.2|omega|exact ⟨g,q⟩|exact ⟨trivial,q⟩|exact ⟨g,q.1,q.2.1⟩|exact ⟨g,q.2.2⟩)|(intro g;(try have q0:=f3 (by first|exact g|(rw [g];rfl)|simpa using g));(try have q1:=f4 (by first|exact g|(rw [g];rfl)|simpa using g));and_intros<;>first|(with_reducible trivial)|assumption|exact nfc|(intro g2;rw [g,g2];rfl)|(intro g2;assumption)|(simp only [g,Bool.true_and,Bool.and_true,Bool.not_false,Bool.not_true];assumption)|grind)|(and_intros<;>first|(with_reducible trivial)|omega|assumption|exact nfc|first|exact rfl|exact trivial|exact fitI|exact .inr rfl|exact .inl rfl|exact fun x hx=>absurd hx (by omega))|grind))
   refine condM rfl trivial (fun hc=>?_) (fun hc=>?_)
   ·replace H:=cond_t hc H
    refine sq ctNo_ok ?_
    simp only [go_sem]
    refine rg ctNo_ok ?_
    simp only [go_sem]
    have H:=hn2_1 _ (Option.some.inj H).symm
    obtain rfl:=Option.some.inj H
    first|rfl|simp only [Bool.and_false,Bool.false_and,Bool.and_true,Bool.true_and]
   replace H:=cond_f hc H
   refine rg ctNo_ok ?_
   simp only [go_sem]
   refine rg ctNo_ok ?_
   simp only [go_sem]
   refine ⟨_,(Option.some.inj H).symm,?_⟩
   refine SubF_of ⟨[some 0],?_,?_,by rfl,by rfl⟩
   ·simp [CvL,Cv,getM]
   ·exact ⟨(by simp [CvB,CvL,Cv,blkAt,geth]),trivial⟩
  ·try dsimp only at H ⊢
   try simp only [tp]
   try simp only [m_normal]
   refine seqM ?_
   obtain ⟨f5,H⟩:=need_some.1 H
   replace f5:=g_iff.1 f5
   refine rg ct50t1_ok ?_
   simp only [go_sem,Nat.reduceLT,Nat.reduceAdd,ct50t1_70,body70]
   repeat ((with_reducible refine And.intro ?_ ?_);focus (first|(with_reducible trivial)|omega|exact f5|(intro g;have q:=f5 (by first|exact g|(rw [g];rfl)|simpa using g);first|exact q|exact ⟨q.1,q.2.1⟩|exact q.2.2|omega|exact ⟨g,q⟩|exact ⟨trivial,q⟩|exact ⟨g,q.1,q.2.1⟩|exact ⟨g,q.2.2⟩)|(intro g;(try have q0:=f5 (by first|exact g|(rw [g];rfl)|simpa using g));and_intros<;>first|(with_reducible trivial)|assumption|exact nfc|(intro g2;rw [g,g2];rfl)|(intro g2;assumption)|(simp only [g,Bool.true_and,Bool.and_true,Bool.not_false,Bool.not_true];assumption)|grind)|(and_intros<;>first|(with_reducible trivial)|omega|assumption|exact nfc|first|exact rfl|exact trivial|exact fitI|exact .inr rfl|exact .inl rfl|exact fun x hx=>absurd hx (by omega))|grind))
   refine rg ctNo_ok ?_
   simp only [go_sem]
   obtain rfl:=Option.some.inj H
   first|rfl|simp only [Bool.and_false,Bool.false_and,Bool.and_true,Bool.true_and]
 ·cases hb
noncomputable def F21 (p0:TTriggerPlan):Option (Bool) :=
 some ((((bLt p0.Start 16) && (bLt p0.Deliver 16)) && (bLe 0 p0.Most)) && (bLe p0.Most 16))
noncomputable def body21:List AV->AR
 | [v0]=>.pure (aK 3 k_TTriggerPlan v0/\(F21 (g_TTriggerPlan (aL v0))).isSome=true) (.bool (gt (F21 (g_TTriggerPlan (aL v0)))))
 | _=>.fail
theorem ok21:FnOk Try.prog 21 (pureC body21):=by
 refine pure_fnM body21 (rs:=[.tmp 2]) Try.func21 (by kernel_rfl) rfl rfl ?_
 intro l ob v hb hob
 unfold body21 at hb
 split at hb
 ·rename_i v0
  injection hb with q1 q2;subst q1 q2
  obtain ⟨hk0_0,hob⟩:=hob
  obtain ⟨r,H⟩:=Option.isSome_iff_exists.1 hob
  rw [H,gt_some]
  have hw0:=wA_TTriggerPlan hk0_0
  generalize g_TTriggerPlan (aL v0)=p0 at H hw0
  refine ⟨[.agg [.int .u8 p0.Start,.int .u8 p0.Deliver,.int .i64 p0.Most]],_,(fun E vs F=>FR_wk1 hw0.1 F (fun vs F=>F)),rfl,rfl,?_⟩
  rw [Try.ntmps21]
  simp only [List.length_cons,List.length_nil,Nat.reduceAdd,Nat.reduceSub,List.replicate_succ,List.replicate_zero,List.cons_append,List.nil_append]
  unfold F21 at H
  try dsimp only at H
  refine sq ctNo_ok ?_
  simp only [go_sem]
  refine sq ctNo_ok ?_
  simp only [go_sem,Nat.reduceLeDiff,Nat.reduceLT,Nat.reduceAdd]
  repeat ((with_reducible refine And.intro ?_ ?_);focus (first|(with_reducible trivial)|omega|grind))
  refine rg ctNo_ok ?_
  simp only [go_sem]
  obtain rfl:=Option.some.inj H
  first|rfl|simp only [Bool.and_false,Bool.false_and,Bool.and_true,Bool.true_and]
 ·cases hb
noncomputable def F33_L1 (p0:TBuffer) (p1:Int) (v1_1:Int):Option (Lp (Int) ((Unit) ⊕ (Int))) :=
 bif (bLt v1_1 (p0.List.length:Nat)) then (need (inb v1_1 p0.List.length) <| bif (bEq ((gd p0.List v1_1.toNat).Aid) p1) then (some (.done (.inr v1_1))) else (some (.next (wr .i64 (v1_1+1))))) else (some (.done (.inl ())))
noncomputable def F33 (p0:TBuffer) (p1:Int):Option (Int) :=
 lp (loopD (fun s=>F33_L1 p0 p1 s) 0) (fun _=>some (-1)) some
noncomputable def body33:List AV->AR
 | [v0,v1]=>.pure (aK 4 k_TBuffer v0/\iK .i64 v1/\(F33 (g_TBuffer (aL v0)) (iA v1)).isSome=true) (.int .i64 (gt (F33 (g_TBuffer (aL v0)) (iA v1))))
 | _=>.fail
theorem ok33:FnOk Try.prog 33 (pureC body33):=by
 refine pure_fnM body33 (rs:=[.tmp 4]) Try.func33 (by kernel_rfl) rfl rfl ?_
 intro l ob v hb hob
 unfold body33 at hb
 split at hb
 ·rename_i v0 v1
  injection hb with q1 q2;subst q1 q2
  obtain ⟨hk0_0,hk1_0,hob⟩:=hob
  obtain ⟨r,H⟩:=Option.isSome_iff_exists.1 hob
  rw [H,gt_some]
  have hw0:=wA_TBuffer hk0_0
  have hw1:=iK_wk hk1_0
  generalize g_TBuffer (aL v0)=p0 at H hw0
  generalize iA v1=p1 at H hw1
  refine ⟨[.agg [.int .i64 p0.Limit,.int .i64 p0.Stay,.ro 3 p0.List.length false (enR c_TSleeper p0.List),.ro 43 p0.Group.length false (enR c_TStored p0.Group)],.int .i64 p1],_,(fun E vs F=>FR_wk1 hw0.1 F (fun vs F=>FR_wk1 hw1.1 F (fun vs F=>F))),rfl,rfl,?_⟩
  rw [Try.ntmps33]
  simp only [List.length_cons,List.length_nil,Nat.reduceAdd,Nat.reduceSub,List.replicate_succ,List.replicate_zero,List.cons_append,List.nil_append]
  unfold F33 at H
  try dsimp only at H
  refine sq ctNo_ok ?_
  simp only [go_sem]
  refine seqM ?_
  refine sq ctNo_ok ?_
  simp only [go_sem]
  refine blkM ?_
  refine loop_den (fun s:Int=>(.top::.int .i64 p1::.ptr 0 0 0 0::.top::.top::.int .i64 s::tp 16 [])) (fun s=>[.lit 52 [.int .i64 p0.Limit,.int .i64 p0.Stay,.ro 3 p0.List.length false (enR c_TSleeper p0.List),.ro 43 p0.Group.length false (enR c_TStored p0.Group)]]) (fun e:Unit=>(tp 22 [])) (fun e=>[.dead]) H ?_ (fun v1_1 o H hn1_1 hn2_1=>?_) (fun e H=>?_)
  ·refine SubF_of ⟨[some 0],?_,?_,by rfl,by rfl⟩
   ·simp [CvL,Cv,getM,tp]
   ·exact ⟨(by simp [CvB,CvL,Cv,blkAt,geth]),trivial⟩
  ·unfold F33_L1 at H
   try dsimp only at H ⊢
   try simp only [tp]
   refine seqM ?_
   refine sq ctNo_ok ?_
   simp only [go_sem,Nat.reduceLeDiff,Nat.reduceLT,Nat.reduceAdd]
   repeat ((with_reducible refine And.intro ?_ ?_);focus (first|(and_intros<;>first|(with_reducible trivial)|omega|assumption|exact nfc|first|exact rfl|exact trivial|exact fitI|exact .inr rfl|exact .inl rfl|exact fun x hx=>absurd hx (by omega))|grind))
   refine condM' rfl trivial (fun hc=>?_) (fun hc=>?_)
   ·replace H:=cond_f hc H
    refine rg ctNo_ok ?_
    simp only [go_sem]
    refine ⟨_,(Option.some.inj H).symm,?_⟩
    refine SubF_of ⟨[some 0],?_,?_,by rfl,by rfl⟩
    ·simp [CvL,Cv]
    ·exact ⟨CvB_dead,trivial⟩
   replace H:=cond_t hc H
   refine rg ctNo_ok ?_
   simp only [go_sem]
   refine seqM ?_
   refine blkM ?_
   refine seqM ?_
   obtain ⟨f1,H⟩:=need_some.1 H
   replace f1:=inb_iff.1 f1
   refine rg ctNo_ok ?_
   simp only [go_sem,Nat.reduceLeDiff,Nat.reduceLT,Nat.reduceAdd,f1]
   repeat ((with_reducible refine And.intro ?_ ?_);focus (first|(with_reducible trivial)|omega|grind))
   refine condM rfl trivial (fun hc=>?_) (fun hc=>?_)
   ·replace H:=cond_t hc H
    refine sq ctNo_ok ?_
    simp only [go_sem]
    refine rg ctNo_ok ?_
    simp only [go_sem]
    have H:=hn2_1 _ (Option.some.inj H).symm
    obtain rfl:=Option.some.inj H
    first|rfl|simp only [Bool.and_false,Bool.false_and,Bool.and_true,Bool.true_and]
   replace H:=cond_f hc H
   refine rg ctNo_ok ?_
   simp only [go_sem]
   refine rg ctNo_ok ?_
   simp only [go_sem]
   refine ⟨_,(Option.some.inj H).symm,?_⟩
   refine SubF_of ⟨[some 0],?_,?_,by rfl,by rfl⟩
   ·simp [CvL,Cv,getM]
   ·exact ⟨(by simp [CvB,CvL,Cv,blkAt,geth]),trivial⟩
  ·try dsimp only at H ⊢
   try simp only [tp]
   try simp only [m_normal]
   refine sq ctNo_ok ?_
   simp only [go_sem]
   refine rg ctNo_ok ?_
   simp only [go_sem]
   obtain rfl:=Option.some.inj H
   first|rfl|simp only [Bool.and_false,Bool.false_and,Bool.and_true,Bool.true_and]
 ·cases hb
noncomputable def F36_L1 (p1:Int) (v1_1:Int) (v1_2:Int):Option (Lp (Int × Int) ((Int) ⊕ (Bool))) :=
 bif (bLt v1_2 p1) then (some (.next (wr .u8 (v1_1.tdiv 2),wr .u8 (v1_2+1)))) else (some (.done (.inl v1_1)))
noncomputable def F36 (p0:Int) (p1:Int):Option (Bool) :=
 lp (loopD (fun s=>F36_L1 p1 s.1 s.2) (p0,0)) (fun w1_3=>some (bEq (w1_3.tmod 2) 1)) some
noncomputable def body36:List AV->AR
 | [v0,v1]=>.pure (iK .u8 v0/\iK .u8 v1/\(F36 (iA v0) (iA v1)).isSome=true) (.bool (gt (F36 (iA v0) (iA v1))))
 | _=>.fail
theorem ok36:FnOk Try.prog 36 (pureC body36):=by
 refine pure_fnM body36 (rs:=[.tmp 4]) Try.func36 (by kernel_rfl) rfl rfl ?_
 intro l ob v hb hob
 unfold body36 at hb
 split at hb
 ·rename_i v0 v1
  injection hb with q1 q2;subst q1 q2
  obtain ⟨hk0_0,hk1_0,hob⟩:=hob
  obtain ⟨r,H⟩:=Option.isSome_iff_exists.1 hob
  rw [H,gt_some]
  have hw0:=iK_wk hk0_0
  have hw1:=iK_wk hk1_0
  generalize iA v0=p0 at H hw0
  generalize iA v1=p1 at H hw1
  refine ⟨[.int .u8 p0,.int .u8 p1],_,(fun E vs F=>FR_wk1 hw0.1 F (fun vs F=>FR_wk1 hw1.1 F (fun vs F=>F))),rfl,rfl,?_⟩
  rw [Try.ntmps36]
  simp only [List.length_cons,List.length_nil,Nat.reduceAdd,Nat.reduceSub,List.replicate_succ,List.replicate_zero,List.cons_append,List.nil_append]
  unfold F36 at H
  try dsimp only at H
  refine sq ctNo_ok ?_
  simp only [go_sem]
  refine seqM ?_
  refine sq ctNo_ok ?_
  simp only [go_sem]
  refine blkM ?_
  refine loop_den (fun s:Int × Int=>(.int .u8 s.1::.int .u8 p1::.top::.top::.top::.int .u8 s.2::tp 10 [])) (fun s=>[]) (fun e:Int=>(.int .u8 e::tp 15 [])) (fun e=>[]) H ?_ (fun s o H hn1_1 hn2_1=>?_) (fun w1_3 H=>?_)
  ·refine SubF_of ⟨[],?_,?_,by rfl,by rfl⟩
   ·simp [CvL,Cv,tp]
   ·trivial
  ·obtain ⟨v1_1,v1_2⟩:=s
   unfold F36_L1 at H
   try dsimp only at H ⊢
   try simp only [tp]
   refine seqM ?_
   refine sq ctNo_ok ?_
   simp only [go_sem]
   refine condM' rfl trivial (fun hc=>?_) (fun hc=>?_)
   ·replace H:=cond_f hc H
    refine rg ctNo_ok ?_
    simp only [go_sem]
    refine ⟨_,(Option.some.inj H).symm,?_⟩
    refine SubF_of ⟨[],?_,?_,by rfl,by rfl⟩
    ·simp [CvL,Cv]
    ·trivial
   replace H:=cond_t hc H
   refine rg ctNo_ok ?_
   simp only [go_sem]
   refine seqM ?_
   refine blkM ?_
   refine rg ctNo_ok ?_
   simp only [go_sem]
   repeat ((with_reducible refine And.intro ?_ ?_);focus (first|(with_reducible trivial)|omega|grind))
   refine rg ctNo_ok ?_
   simp only [go_sem]
   refine ⟨_,(Option.some.inj H).symm,?_⟩
   refine SubF_of ⟨[],?_,?_,by rfl,by rfl⟩
   ·simp [CvL,Cv]
   ·trivial
  ·try dsimp only at H ⊢
   try simp only [tp]
   try simp only [m_normal]
   refine sq ctNo_ok ?_
   simp only [go_sem]
   repeat ((with_reducible refine And.intro ?_ ?_);focus (first|(with_reducible trivial)|omega|grind))
   refine rg ctNo_ok ?_
   simp only [go_sem]
   obtain rfl:=Option.some.inj H
   first|rfl|simp only [Bool.and_false,Bool.false_and,Bool.and_true,Bool.true_and]
 ·cases hb
noncomputable def ct35t0:Ct:=tab [(36,pureC body36)]
theorem ct35t0_ok:CtOk Try.prog ct35t0:=tab_cons ok36 <| tab_nil
theorem ct35t0_36 (l:List AV) (h:List ABlk):ct35t0 36 l h=pureC body36 l h:=rfl
noncomputable def F35_L1 (p0:List TStored) (p1:Int) (v1_1:Int) (v1_2:Int):Option (Lp (Int × Int) ((Int) ⊕ (Int))) :=
 bif (bLt v1_2 (p0.length:Nat)) then (need (inb v1_2 p0.length) <| (F36 p1 ((gd p0 v1_2.toNat).Cat)).bind fun r2=>bif r2 then (some (.next (wr .i64 (v1_1+1),wr .i64 (v1_2+1)))) else (some (.next (v1_1,wr .i64 (v1_2+1))))) else (some (.done (.inl v1_1)))
noncomputable def F35 (p0:List TStored) (p1:Int):Option (Int) :=
 lp (loopD (fun s=>F35_L1 p0 p1 s.1 s.2) (0,0)) (fun w1_3=>some w1_3) some
noncomputable def body35:List AV->AR
 | [v0,v1]=>.pure (lK k_TStored 43 v0/\iK .u8 v1/\(F35 (lA g_TStored v0) (iA v1)).isSome=true) (.int .i64 (gt (F35 (lA g_TStored v0) (iA v1))))
 | _=>.fail
theorem ok35:FnOk Try.prog 35 (pureC body35):=by
 refine pure_fnM body35 (rs:=[.tmp 4]) Try.func35 (by kernel_rfl) rfl rfl ?_
 intro l ob v hb hob
 unfold body35 at hb
 split at hb
 ·rename_i v0 v1
  injection hb with q1 q2;subst q1 q2
  obtain ⟨hk0_0,hk1_0,hob⟩:=hob
  obtain ⟨r,H⟩:=Option.isSome_iff_exists.1 hob
  rw [H,gt_some]
  have hw0:=lK_wk (fun r h=>w_TStored h) hk0_0
  have hw1:=iK_wk hk1_0
  generalize lA g_TStored v0=p0 at H hw0
  generalize iA v1=p1 at H hw1
  refine ⟨[.ro 43 p0.length false (enR c_TStored p0),.int .u8 p1],_,(fun E vs F=>FR_wk1 hw0.1 F (fun vs F=>FR_wk1 hw1.1 F (fun vs F=>F))),rfl,rfl,?_⟩
  rw [Try.ntmps35]
  simp only [List.length_cons,List.length_nil,Nat.reduceAdd,Nat.reduceSub,List.replicate_succ,List.replicate_zero,List.cons_append,List.nil_append]
  unfold F35 at H
  try dsimp only at H
  refine sq ctNo_ok ?_
  simp only [go_sem]
  refine sq ctNo_ok ?_
  simp only [go_sem]
  refine seqM ?_
  refine sq ctNo_ok ?_
  simp only [go_sem]
  refine blkM ?_
  refine loop_den (fun s:Int × Int=>(.ro 43 p0.length false (enR c_TStored p0)::.int .u8 p1::.top::.top::.top::.int .i64 s.1::.int .i64 s.2::tp 16 [])) (fun s=>[]) (fun e:Int=>(tp 5 (.int .i64 e::tp 17 []))) (fun e=>[]) H ?_ (fun s o H hn1_1 hn2_1=>?_) (fun w1_3 H=>?_)
  ·refine SubF_of ⟨[],?_,?_,by rfl,by rfl⟩
   ·simp [CvL,Cv,tp]
   ·trivial
  ·obtain ⟨v1_1,v1_2⟩:=s
   unfold F35_L1 at H
   try dsimp only at H ⊢
   try simp only [tp]
   refine seqM ?_
   refine sq ctNo_ok ?_
   simp only [go_sem]
   repeat ((with_reducible refine And.intro ?_ ?_);focus (first|(and_intros<;>first|(with_reducible trivial)|omega|assumption|exact nfc|first|exact rfl|exact trivial|exact fitI|exact .inr rfl|exact .inl rfl|exact fun x hx=>absurd hx (by omega))|grind))
   refine condM' rfl trivial (fun hc=>?_) (fun hc=>?_)
   ·replace H:=cond_f hc H
    refine rg ctNo_ok ?_
    simp only [go_sem]
    refine ⟨_,(Option.some.inj H).symm,?_⟩
    refine SubF_of ⟨[],?_,?_,by rfl,by rfl⟩
    ·simp [CvL,Cv]
    ·trivial
   replace H:=cond_t hc H
   refine rg ctNo_ok ?_
   simp only [go_sem]
   refine seqM ?_
   refine blkM ?_
   refine seqM ?_
   obtain ⟨f1,H⟩:=need_some.1 H
   replace f1:=inb_iff.1 f1
   obtain ⟨r2,e3,H⟩:=bsi H
   refine rg ct35t0_ok ?_
   simp only [go_sem,Nat.reduceLeDiff,Nat.reduceLT,ct35t0_36,body36,f1,e3]
   repeat ((with_reducible refine And.intro ?_ ?_);focus (first|(and_intros<;>first|(with_reducible trivial)|omega|assumption|exact nfc|first|exact rfl|exact trivial|exact fitI|exact .inr rfl|exact .inl rfl|exact fun x hx=>absurd hx (by omega))|grind))
   refine condM rfl trivial (fun hc=>?_) (fun hc=>?_)
   ·replace H:=cond_t hc H
    refine rg ctNo_ok ?_
    simp only [go_sem]
    refine rg ctNo_ok ?_
    simp only [go_sem]
    refine ⟨_,(Option.some.inj H).symm,?_⟩
    refine SubF_of ⟨[],?_,?_,by rfl,by rfl⟩
    ·simp [CvL,Cv]
    ·trivial
   replace H:=cond_f hc H
   refine rg ctNo_ok ?_
   simp only [go_sem]
   refine rg ctNo_ok ?_
   simp only [go_sem]
   refine ⟨_,(Option.some.inj H).symm,?_⟩
   refine SubF_of ⟨[],?_,?_,by rfl,by rfl⟩
   ·simp [CvL,Cv]
   ·trivial
  ·try dsimp only at H ⊢
   try simp only [tp]
   try simp only [m_normal]
   refine sq ctNo_ok ?_
   simp only [go_sem]
   refine rg ctNo_ok ?_
   simp only [go_sem]
   obtain rfl:=Option.some.inj H
   first|rfl|simp only [Bool.and_false,Bool.false_and,Bool.and_true,Bool.true_and]
 ·cases hb
noncomputable def ct58t0:Ct:=tab [(36,pureC body36)]
theorem ct58t0_ok:CtOk Try.prog ct58t0:=tab_cons ok36 <| tab_nil
theorem ct58t0_36 (l:List AV) (h:List ABlk):ct58t0 36 l h=pureC body36 l h:=rfl
noncomputable def F58_L1 (p0:List TStored) (p1:Int) (v1_1:Int):Option (Lp (Int) ((Unit) ⊕ (Int))) :=
 bif (bLt v1_1 (p0.length:Nat)) then (need (inb v1_1 p0.length) <| need (bif (bEq (wr .i64 ((gd p0 v1_1.toNat).Cat)) 3) then inb v1_1 p0.length else true) <| need (bif (bEq (wr .i64 ((gd p0 v1_1.toNat).Cat)) 3) then ((F36 p1 ((gd p0 v1_1.toNat).Cat)).isSome) else true) <| bif ((bEq (wr .i64 ((gd p0 v1_1.toNat).Cat)) 3) && (gt (F36 p1 ((gd p0 v1_1.toNat).Cat)))) then (some (.done (.inr v1_1))) else (some (.next (wr .i64 (v1_1+1))))) else (some (.done (.inl ())))
noncomputable def F58_L2 (p0:List TStored) (p1:Int) (v2_1:Int):Option (Lp (Int) ((Unit) ⊕ (Int))) :=
 bif (bLt v2_1 (p0.length:Nat)) then (need (inb v2_1 p0.length) <| need (bif (bEq (wr .i64 ((gd p0 v2_1.toNat).Cat)) 2) then inb v2_1 p0.length else true) <| need (bif (bEq (wr .i64 ((gd p0 v2_1.toNat).Cat)) 2) then ((F36 p1 ((gd p0 v2_1.toNat).Cat)).isSome) else true) <| bif ((bEq (wr .i64 ((gd p0 v2_1.toNat).Cat)) 2) && (gt (F36 p1 ((gd p0 v2_1.toNat).Cat)))) then (some (.done (.inr v2_1))) else (some (.next (wr .i64 (v2_1+1))))) else (some (.done (.inl ())))
noncomputable def F58_L3 (p0:List TStored) (p1:Int) (v3_1:Int):Option (Lp (Int) ((Unit) ⊕ (Int))) :=
 bif (bLt v3_1 (p0.length:Nat)) then (need (inb v3_1 p0.length) <| need (bif (bEq (wr .i64 ((gd p0 v3_1.toNat).Cat)) 1) then inb v3_1 p0.length else true) <| need (bif (bEq (wr .i64 ((gd p0 v3_1.toNat).Cat)) 1) then ((F36 p1 ((gd p0 v3_1.toNat).Cat)).isSome) else true) <| bif ((bEq (wr .i64 ((gd p0 v3_1.toNat).Cat)) 1) && (gt (F36 p1 ((gd p0 v3_1.toNat).Cat)))) then (some (.done (.inr v3_1))) else (some (.next (wr .i64 (v3_1+1))))) else (some (.done (.inl ())))
noncomputable def F58_L4 (p0:List TStored) (p1:Int) (v4_1:Int):Option (Lp (Int) ((Unit) ⊕ (Int))) :=
 bif (bLt v4_1 (p0.length:Nat)) then (need (inb v4_1 p0.length) <| need (bif (bEq (wr .i64 ((gd p0 v4_1.toNat).Cat)) 0) then inb v4_1 p0.length else true) <| need (bif (bEq (wr .i64 ((gd p0 v4_1.toNat).Cat)) 0) then ((F36 p1 ((gd p0 v4_1.toNat).Cat)).isSome) else true) <| bif ((bEq (wr .i64 ((gd p0 v4_1.toNat).Cat)) 0) && (gt (F36 p1 ((gd p0 v4_1.toNat).Cat)))) then (some (.done (.inr v4_1))) else (some (.next (wr .i64 (v4_1+1))))) else (some (.done (.inl ())))
noncomputable def F58 (p0:List TStored) (p1:Int):Option (Int) :=
 lp (loopD (fun s=>F58_L1 p0 p1 s) 0) (fun _=>lp (loopD (fun s=>F58_L2 p0 p1 s) 0) (fun _=>lp (loopD (fun s=>F58_L3 p0 p1 s) 0) (fun _=>lp (loopD (fun s=>F58_L4 p0 p1 s) 0) (fun _=>some (-1)) some) some) some) some
noncomputable def body58:List AV->AR
 | [v0,v1]=>.pure (lK k_TStored 43 v0/\iK .u8 v1/\(F58 (lA g_TStored v0) (iA v1)).isSome=true) (.int .i64 (gt (F58 (lA g_TStored v0) (iA v1))))
 | _=>.fail
theorem ok58:FnOk Try.prog 58 (pureC body58):=by
 refine pure_fnM body58 (rs:=[.tmp 4]) Try.func58 (by kernel_rfl) rfl rfl ?_
 intro l ob v hb hob
 unfold body58 at hb
 split at hb
 ·rename_i v0 v1
  injection hb with q1 q2;subst q1 q2
  obtain ⟨hk0_0,hk1_0,hob⟩:=hob
  obtain ⟨r,H⟩:=Option.isSome_iff_exists.1 hob
  rw [H,gt_some]
  have hw0:=lK_wk (fun r h=>w_TStored h) hk0_0
  have hw1:=iK_wk hk1_0
  generalize lA g_TStored v0=p0 at H hw0
  generalize iA v1=p1 at H hw1
  refine ⟨[.ro 43 p0.length false (enR c_TStored p0),.int .u8 p1],_,(fun E vs F=>FR_wk1 hw0.1 F (fun vs F=>FR_wk1 hw1.1 F (fun vs F=>F))),rfl,rfl,?_⟩
  rw [Try.ntmps58]
  simp only [List.length_cons,List.length_nil,Nat.reduceAdd,Nat.reduceSub,List.replicate_succ,List.replicate_zero,List.cons_append,List.nil_append]
  unfold F58 at H
  try dsimp only at H
  refine sq ctNo_ok ?_
  simp only [go_sem]
  refine seqM ?_
  refine sq ctNo_ok ?_
  simp only [go_sem]
  refine blkM ?_
  refine loop_roundsM 5 ?_
  refine rndM ?_
  refine seqM ?_
  refine sq ctNo_ok ?_
  simp only [go_sem,(by decide:bLe (0) (3)=true)]
  refine condM rfl trivial (fun hc=>?_) (fun hc=>?_)
  rotate_left
  ·cases hc
  refine rg ctNo_ok ?_
  simp only [go_sem]
  refine seqM ?_
  refine blkM ?_
  refine sq ctNo_ok ?_
  simp only [go_sem]
  refine blkM ?_
  refine loop_den (fun s:Int=>(.ro 43 p0.length false (enR c_TStored p0)::.int .u8 p1::.top::.top::.top::.int .i64 3::.int .i64 s::tp 28 [])) (fun s=>[]) (fun e:Unit=>(.ro 43 p0.length false (enR c_TStored p0)::.int .u8 p1::.top::.top::.top::.int .i64 3::tp 29 [])) (fun e=>[]) H ?_ (fun v1_1 o H hn1_1 hn2_1=>?_) (fun e H=>?_)
  ·refine SubF_of ⟨[],?_,?_,by rfl,by rfl⟩
   ·simp [CvL,Cv,tp]
   ·trivial
  ·unfold F58_L1 at H
   try dsimp only at H ⊢
   try simp only [tp]
   refine seqM ?_
   refine sq ctNo_ok ?_
   simp only [go_sem]
   repeat ((with_reducible refine And.intro ?_ ?_);focus (first|(and_intros<;>first|(with_reducible trivial)|omega|assumption|exact nfc|first|exact rfl|exact trivial|exact fitI|exact .inr rfl|exact .inl rfl|exact fun x hx=>absurd hx (by omega))|grind))
   refine condM' rfl trivial (fun hc=>?_) (fun hc=>?_)
   ·replace H:=cond_f hc H
    refine rg ctNo_ok ?_
    simp only [go_sem,Nat.reduceBEq]
    refine ⟨_,(Option.some.inj H).symm,?_⟩
    refine SubF_of ⟨[],?_,?_,by rfl,by rfl⟩
    ·simp [CvL,Cv]
    ·trivial
   replace H:=cond_t hc H
   refine rg ctNo_ok ?_
   simp only [go_sem]
   refine seqM ?_
   refine blkM ?_
   refine seqM ?_
   obtain ⟨f2,H⟩:=need_some.1 H
   replace f2:=inb_iff.1 f2
   obtain ⟨f3,H⟩:=need_some.1 H
   replace f3:=g_iff.1 f3
   replace f3:=fun g=>inb_iff.1 (f3 g)
   obtain ⟨f4,H⟩:=need_some.1 H
   replace f4:=g_iff.1 f4
   refine rg ct58t0_ok ?_
   simp only [go_sem,Nat.reduceLeDiff,Nat.reduceLT,ct58t0_36,body36,f2]
   repeat ((with_reducible refine And.intro ?_ ?_);focus (first|(with_reducible trivial)|omega|exact f3|exact f4|(intro g;have q:=f3 (by first|exact g|(rw [g];rfl)|simpa using g);first|exact q|exact ⟨q.1,q.2.1⟩|exact q.2.2|omega|exact ⟨g,q⟩|exact ⟨trivial,q⟩|exact ⟨g,q.1,q.2.1⟩|exact ⟨g,q.2.2⟩)|(intro g;have q:=f4 (by first|exact g|(rw [g];rfl)|simpa using g);first|exact q|exact ⟨q.1,q.2.1⟩|exact q.2.2|omega|exact ⟨g,q⟩|exact ⟨trivial,q⟩|exact ⟨g,q.1,q.2.1⟩|exact ⟨g,q.2.2⟩)|(intro g;(try have q0:=f3 (by first|exact g|(rw [g];rfl)|simpa using g));(try have q1:=f4 (by first|exact g|(rw [g];rfl)|simpa using g));and_intros<;>first|(with_reducible trivial)|assumption|exact nfc|(intro g2;rw [g,g2];rfl)|(intro g2;assumption)|(simp only [g,Bool.true_and,Bool.and_true,Bool.not_false,Bool.not_true];assumption)|grind)|(and_intros<;>first|(with_reducible trivial)|omega|assumption|exact nfc|first|exact rfl|exact trivial|exact fitI|exact .inr rfl|exact .inl rfl|exact fun x hx=>absurd hx (by omega))|grind))
   refine condM rfl trivial (fun hc=>?_) (fun hc=>?_)
   ·replace H:=cond_t hc H
    refine sq ctNo_ok ?_
    simp only [go_sem]
    refine rg ctNo_ok ?_
    simp only [go_sem]
    have H:=hn2_1 _ (Option.some.inj H).symm
    obtain rfl:=Option.some.inj H
    first|rfl|simp only [Bool.and_false,Bool.false_and,Bool.and_true,Bool.true_and]
   replace H:=cond_f hc H
   refine rg ctNo_ok ?_
   simp only [go_sem]
   refine rg ctNo_ok ?_
   simp only [go_sem]
   refine ⟨_,(Option.some.inj H).symm,?_⟩
   refine SubF_of ⟨[],?_,?_,by rfl,by rfl⟩
   ·simp [CvL,Cv]
   ·trivial
  ·try dsimp only at H ⊢
   try simp only [tp]
   try simp only [m_normal,b_normal]
   refine rg ctNo_ok ?_
   simp only [go_sem,(by decide:wr IntKind.i64 ((3:Int) - 1)=2)]
   refine rndM ?_
   refine seqM ?_
   refine sq ctNo_ok ?_
   simp only [go_sem,(by decide:bLe (0) (2)=true)]
   refine condM rfl trivial (fun hc=>?_) (fun hc=>?_)
   rotate_left
   ·cases hc
   refine rg ctNo_ok ?_
   simp only [go_sem]
   refine seqM ?_
   refine blkM ?_
   refine sq ctNo_ok ?_
   simp only [go_sem]
   refine blkM ?_
   refine loop_den (fun s:Int=>(.ro 43 p0.length false (enR c_TStored p0)::.int .u8 p1::.top::.top::.top::.int .i64 2::.int .i64 s::tp 28 [])) (fun s=>[]) (fun e:Unit=>(.ro 43 p0.length false (enR c_TStored p0)::.int .u8 p1::.top::.top::.top::.int .i64 2::tp 29 [])) (fun e=>[]) H ?_ (fun v2_1 o H hn1_2 hn2_2=>?_) (fun e H=>?_)
   ·refine SubF_of ⟨[],?_,?_,by rfl,by rfl⟩
    ·simp [CvL,Cv,tp]
    ·trivial
   ·unfold F58_L2 at H
    try dsimp only at H ⊢
    try simp only [tp]
    refine seqM ?_
    refine sq ctNo_ok ?_
    simp only [go_sem]
    repeat ((with_reducible refine And.intro ?_ ?_);focus (first|(and_intros<;>first|(with_reducible trivial)|omega|assumption|exact nfc|first|exact rfl|exact trivial|exact fitI|exact .inr rfl|exact .inl rfl|exact fun x hx=>absurd hx (by omega))|grind))
    refine condM' rfl trivial (fun hc=>?_) (fun hc=>?_)
    ·replace H:=cond_f hc H
     refine rg ctNo_ok ?_
     simp only [go_sem,Nat.reduceBEq]
     refine ⟨_,(Option.some.inj H).symm,?_⟩
     refine SubF_of ⟨[],?_,?_,by rfl,by rfl⟩
     ·simp [CvL,Cv]
     ·trivial
    replace H:=cond_t hc H
    refine rg ctNo_ok ?_
    simp only [go_sem]
    refine seqM ?_
    refine blkM ?_
    refine seqM ?_
    obtain ⟨f5,H⟩:=need_some.1 H
    replace f5:=inb_iff.1 f5
    obtain ⟨f6,H⟩:=need_some.1 H
    replace f6:=g_iff.1 f6
    replace f6:=fun g=>inb_iff.1 (f6 g)
    obtain ⟨f7,H⟩:=need_some.1 H
    replace f7:=g_iff.1 f7
    refine rg ct58t0_ok ?_
    simp only [go_sem,Nat.reduceLeDiff,Nat.reduceLT,ct58t0_36,body36,f5]
    repeat ((with_reducible refine And.intro ?_ ?_);focus (first|(with_reducible trivial)|omega|exact f6|exact f7|(intro g;have q:=f6 (by first|exact g|(rw [g];rfl)|simpa using g);first|exact q|exact ⟨q.1,q.2.1⟩|exact q.2.2|omega|exact ⟨g,q⟩|exact ⟨trivial,q⟩|exact ⟨g,q.1,q.2.1⟩|exact ⟨g,q.2.2⟩)|(intro g;have q:=f7 (by first|exact g|(rw [g];rfl)|simpa using g);first|exact q|exact ⟨q.1,q.2.1⟩|exact q.2.2|omega|exact ⟨g,q⟩|exact ⟨trivial,q⟩|exact ⟨g,q.1,q.2.1⟩|exact ⟨g,q.2.2⟩)|(intro g;(try have q0:=f6 (by first|exact g|(rw [g];rfl)|simpa using g));(try have q1:=f7 (by first|exact g|(rw [g];rfl)|simpa using g));and_intros<;>first|(with_reducible trivial)|assumption|exact nfc|(intro g2;rw [g,g2];rfl)|(intro g2;assumption)|(simp only [g,Bool.true_and,Bool.and_true,Bool.not_false,Bool.not_true];assumption)|grind)|(and_intros<;>first|(with_reducible trivial)|omega|assumption|exact nfc|first|exact rfl|exact trivial|exact fitI|exact .inr rfl|exact .inl rfl|exact fun x hx=>absurd hx (by omega))|grind))
    refine condM rfl trivial (fun hc=>?_) (fun hc=>?_)
    ·replace H:=cond_t hc H
     refine sq ctNo_ok ?_
     simp only [go_sem]
     refine rg ctNo_ok ?_
     simp only [go_sem]
     have H:=hn2_2 _ (Option.some.inj H).symm
     obtain rfl:=Option.some.inj H
     first|rfl|simp only [Bool.and_false,Bool.false_and,Bool.and_true,Bool.true_and]
    replace H:=cond_f hc H
    refine rg ctNo_ok ?_
    simp only [go_sem]
    refine rg ctNo_ok ?_
    simp only [go_sem]
    refine ⟨_,(Option.some.inj H).symm,?_⟩
    refine SubF_of ⟨[],?_,?_,by rfl,by rfl⟩
    ·simp [CvL,Cv]
    ·trivial
   ·try dsimp only at H ⊢
    try simp only [tp]
    try simp only [m_normal,b_normal]
    refine rg ctNo_ok ?_
    simp only [go_sem,(by decide:wr IntKind.i64 ((2:Int) - 1)=1)]
    refine rndM ?_
    refine seqM ?_
    refine sq ctNo_ok ?_
    simp only [go_sem,(by decide:bLe (0) (1)=true)]
    refine condM rfl trivial (fun hc=>?_) (fun hc=>?_)
    rotate_left
    ·cases hc
    refine rg ctNo_ok ?_
    simp only [go_sem]
    refine seqM ?_
    refine blkM ?_
    refine sq ctNo_ok ?_
    simp only [go_sem]
    refine blkM ?_
    refine loop_den (fun s:Int=>(.ro 43 p0.length false (enR c_TStored p0)::.int .u8 p1::.top::.top::.top::.int .i64 1::.int .i64 s::tp 28 [])) (fun s=>[]) (fun e:Unit=>(.ro 43 p0.length false (enR c_TStored p0)::.int .u8 p1::.top::.top::.top::.int .i64 1::tp 29 [])) (fun e=>[]) H ?_ (fun v3_1 o H hn1_3 hn2_3=>?_) (fun e H=>?_)
    ·refine SubF_of ⟨[],?_,?_,by rfl,by rfl⟩
     ·simp [CvL,Cv,tp]
     ·trivial
    ·unfold F58_L3 at H
     try dsimp only at H ⊢
     try simp only [tp]
     refine seqM ?_
     refine sq ctNo_ok ?_
     simp only [go_sem]
     repeat ((with_reducible refine And.intro ?_ ?_);focus (first|(and_intros<;>first|(with_reducible trivial)|omega|assumption|exact nfc|first|exact rfl|exact trivial|exact fitI|exact .inr rfl|exact .inl rfl|exact fun x hx=>absurd hx (by omega))|grind))
     refine condM' rfl trivial (fun hc=>?_) (fun hc=>?_)
     ·replace H:=cond_f hc H
      refine rg ctNo_ok ?_
      simp only [go_sem,Nat.reduceBEq]
      refine ⟨_,(Option.some.inj H).symm,?_⟩
      refine SubF_of ⟨[],?_,?_,by rfl,by rfl⟩
      ·simp [CvL,Cv]
      ·trivial
     replace H:=cond_t hc H
     refine rg ctNo_ok ?_
     simp only [go_sem]
     refine seqM ?_
     refine blkM ?_
     refine seqM ?_
     obtain ⟨f8,H⟩:=need_some.1 H
     replace f8:=inb_iff.1 f8
     obtain ⟨f9,H⟩:=need_some.1 H
     replace f9:=g_iff.1 f9
     replace f9:=fun g=>inb_iff.1 (f9 g)
     obtain ⟨f10,H⟩:=need_some.1 H
     replace f10:=g_iff.1 f10
     refine rg ct58t0_ok ?_
     simp only [go_sem,Nat.reduceLeDiff,Nat.reduceLT,ct58t0_36,body36,f8]
     repeat ((with_reducible refine And.intro ?_ ?_);focus (first|(with_reducible trivial)|omega|exact f9|exact f10|(intro g;have q:=f9 (by first|exact g|(rw [g];rfl)|simpa using g);first|exact q|exact ⟨q.1,q.2.1⟩|exact q.2.2|omega|exact ⟨g,q⟩|exact ⟨trivial,q⟩|exact ⟨g,q.1,q.2.1⟩|exact ⟨g,q.2.2⟩)|(intro g;have q:=f10 (by first|exact g|(rw [g];rfl)|simpa using g);first|exact q|exact ⟨q.1,q.2.1⟩|exact q.2.2|omega|exact ⟨g,q⟩|exact ⟨trivial,q⟩|exact ⟨g,q.1,q.2.1⟩|exact ⟨g,q.2.2⟩)|(intro g;(try have q0:=f9 (by first|exact g|(rw [g];rfl)|simpa using g));(try have q1:=f10 (by first|exact g|(rw [g];rfl)|simpa using g));and_intros<;>first|(with_reducible trivial)|assumption|exact nfc|(intro g2;rw [g,g2];rfl)|(intro g2;assumption)|(simp only [g,Bool.true_and,Bool.and_true,Bool.not_false,Bool.not_true];assumption)|grind)|(and_intros<;>first|(with_reducible trivial)|omega|assumption|exact nfc|first|exact rfl|exact trivial|exact fitI|exact .inr rfl|exact .inl rfl|exact fun x hx=>absurd hx (by omega))|grind))
     refine condM rfl trivial (fun hc=>?_) (fun hc=>?_)
     ·replace H:=cond_t hc H
      refine sq ctNo_ok ?_
      simp only [go_sem]
      refine rg ctNo_ok ?_
      simp only [go_sem]
      have H:=hn2_3 _ (Option.some.inj H).symm
      obtain rfl:=Option.some.inj H
      first|rfl|simp only [Bool.and_false,Bool.false_and,Bool.and_true,Bool.true_and]
     replace H:=cond_f hc H
     refine rg ctNo_ok ?_
     simp only [go_sem]
     refine rg ctNo_ok ?_
     simp only [go_sem]
     refine ⟨_,(Option.some.inj H).symm,?_⟩
     refine SubF_of ⟨[],?_,?_,by rfl,by rfl⟩
     ·simp [CvL,Cv]
     ·trivial
    ·try dsimp only at H ⊢
     try simp only [tp]
     try simp only [m_normal,b_normal]
     refine rg ctNo_ok ?_
     simp only [go_sem,(by decide:wr IntKind.i64 ((1:Int) - 1)=0)]
     refine rndM ?_
     refine seqM ?_
     refine sq ctNo_ok ?_
     simp only [go_sem,(by decide:bLe (0) (0)=true)]
     refine condM rfl trivial (fun hc=>?_) (fun hc=>?_)
     rotate_left
     ·cases hc
     refine rg ctNo_ok ?_
     simp only [go_sem]
     refine seqM ?_
     refine blkM ?_
     refine sq ctNo_ok ?_
     simp only [go_sem]
     refine blkM ?_
     refine loop_den (fun s:Int=>(.ro 43 p0.length false (enR c_TStored p0)::.int .u8 p1::.top::.top::.top::.int .i64 0::.int .i64 s::tp 28 [])) (fun s=>[]) (fun e:Unit=>(.ro 43 p0.length false (enR c_TStored p0)::.int .u8 p1::.top::.top::.top::.int .i64 0::tp 29 [])) (fun e=>[]) H ?_ (fun v4_1 o H hn1_4 hn2_4=>?_) (fun e H=>?_)
     ·refine SubF_of ⟨[],?_,?_,by rfl,by rfl⟩
      ·simp [CvL,Cv,tp]
      ·trivial
     ·unfold F58_L4 at H
      try dsimp only at H ⊢
      try simp only [tp]
      refine seqM ?_
      refine sq ctNo_ok ?_
      simp only [go_sem]
      repeat ((with_reducible refine And.intro ?_ ?_);focus (first|(and_intros<;>first|(with_reducible trivial)|omega|assumption|exact nfc|first|exact rfl|exact trivial|exact fitI|exact .inr rfl|exact .inl rfl|exact fun x hx=>absurd hx (by omega))|grind))
      refine condM' rfl trivial (fun hc=>?_) (fun hc=>?_)
      ·replace H:=cond_f hc H
       refine rg ctNo_ok ?_
       simp only [go_sem,Nat.reduceBEq]
       refine ⟨_,(Option.some.inj H).symm,?_⟩
       refine SubF_of ⟨[],?_,?_,by rfl,by rfl⟩
       ·simp [CvL,Cv]
       ·trivial
      replace H:=cond_t hc H
      refine rg ctNo_ok ?_
      simp only [go_sem]
      refine seqM ?_
      refine blkM ?_
      refine seqM ?_
      obtain ⟨f11,H⟩:=need_some.1 H
      replace f11:=inb_iff.1 f11
      obtain ⟨f12,H⟩:=need_some.1 H
      replace f12:=g_iff.1 f12
      replace f12:=fun g=>inb_iff.1 (f12 g)
      obtain ⟨f13,H⟩:=need_some.1 H
      replace f13:=g_iff.1 f13
      refine rg ct58t0_ok ?_
      simp only [go_sem,Nat.reduceLeDiff,Nat.reduceLT,ct58t0_36,body36,f11]
      repeat ((with_reducible refine And.intro ?_ ?_);focus (first|(with_reducible trivial)|omega|exact f12|exact f13|(intro g;have q:=f12 (by first|exact g|(rw [g];rfl)|simpa using g);first|exact q|exact ⟨q.1,q.2.1⟩|exact q.2.2|omega|exact ⟨g,q⟩|exact ⟨trivial,q⟩|exact ⟨g,q.1,q.2.1⟩|exact ⟨g,q.2.2⟩)|(intro g;have q:=f13 (by first|exact g|(rw [g];rfl)|simpa using g);first|exact q|exact ⟨q.1,q.2.1⟩|exact q.2.2|omega|exact ⟨g,q⟩|exact ⟨trivial,q⟩|exact ⟨g,q.1,q.2.1⟩|exact ⟨g,q.2.2⟩)|(intro g;(try have q0:=f12 (by first|exact g|(rw [g];rfl)|simpa using g));(try have q1:=f13 (by first|exact g|(rw [g];rfl)|simpa using g));and_intros<;>first|(with_reducible trivial)|assumption|exact nfc|(intro g2;rw [g,g2];rfl)|(intro g2;assumption)|(simp only [g,Bool.true_and,Bool.and_true,Bool.not_false,Bool.not_true];assumption)|grind)|(and_intros<;>first|(with_reducible trivial)|omega|assumption|exact nfc|first|exact rfl|exact trivial|exact fitI|exact .inr rfl|exact .inl rfl|exact fun x hx=>absurd hx (by omega))|grind))
      refine condM rfl trivial (fun hc=>?_) (fun hc=>?_)
      ·replace H:=cond_t hc H
       refine sq ctNo_ok ?_
       simp only [go_sem]
       refine rg ctNo_ok ?_
       simp only [go_sem]
       have H:=hn2_4 _ (Option.some.inj H).symm
       obtain rfl:=Option.some.inj H
       first|rfl|simp only [Bool.and_false,Bool.false_and,Bool.and_true,Bool.true_and]
      replace H:=cond_f hc H
      refine rg ctNo_ok ?_
      simp only [go_sem]
      refine rg ctNo_ok ?_
      simp only [go_sem]
      refine ⟨_,(Option.some.inj H).symm,?_⟩
      refine SubF_of ⟨[],?_,?_,by rfl,by rfl⟩
      ·simp [CvL,Cv]
      ·trivial
     ·try dsimp only at H ⊢
      try simp only [tp]
      try simp only [m_normal,b_normal]
      refine rg ctNo_ok ?_
      simp only [go_sem,(by decide:wr IntKind.i64 ((0:Int) - 1)=(-1))]
      refine rndM ?_
      refine seqM ?_
      refine sq ctNo_ok ?_
      simp only [go_sem,(by decide:bLe (0) ((-1))=false)]
      refine condM rfl trivial (fun hc=>?_) (fun hc=>?_)
      ·cases hc
      refine rg ctNo_ok ?_
      simp only [go_sem]
      refine sq ctNo_ok ?_
      simp only [go_sem]
      refine rg ctNo_ok ?_
      simp only [go_sem]
      obtain rfl:=Option.some.inj H
      first|rfl|simp only [Bool.and_false,Bool.false_and,Bool.and_true,Bool.true_and]
 ·cases hb
noncomputable def F43 (p0:A6u8) (p1:A6u8):Option (TFrame) :=
 some (TFrame.mk (THeader.mk 2 12 false true false false false false false 0 (A6u8.mk p0.x0 p0.x1 p0.x2 p0.x3 p0.x4 p0.x5) (A6u8.mk p1.x0 p1.x1 p1.x2 p1.x3 p1.x4 p1.x5) (A6u8.mk p1.x0 p1.x1 p1.x2 p1.x3 p1.x4 p1.x5) (A6u8.mk 0 0 0 0 0 0) 0 0 0 0 false true) [])
noncomputable def body43:List AV->List ABlk->ED
 | [v0,v1],h=>.ed [] (aK 6 k_A6u8 (roD (deadL h []) v0)/\roDOb (deadL h []) v0/\aK 6 k_A6u8 (roD (deadL h []) v1)/\roDOb (deadL h []) v1/\(F43 (g_A6u8 (aL (roD (deadL h []) v0))) (g_A6u8 (aL (roD (deadL h []) v1)))).isSome=true) (.agg (.int .u8 (((gt (F43 (g_A6u8 (aL (roD (deadL h []) v0))) (g_A6u8 (aL (roD (deadL h []) v1))))).Head).Kind)::.int .u8 (((gt (F43 (g_A6u8 (aL (roD (deadL h []) v0))) (g_A6u8 (aL (roD (deadL h []) v1))))).Head).Sub)::.bool (((gt (F43 (g_A6u8 (aL (roD (deadL h []) v0))) (g_A6u8 (aL (roD (deadL h []) v1))))).Head).ToDs)::.bool (((gt (F43 (g_A6u8 (aL (roD (deadL h []) v0))) (g_A6u8 (aL (roD (deadL h []) v1))))).Head).FromDs)::.bool (((gt (F43 (g_A6u8 (aL (roD (deadL h []) v0))) (g_A6u8 (aL (roD (deadL h []) v1))))).Head).More)::.bool (((gt (F43 (g_A6u8 (aL (roD (deadL h []) v0))) (g_A6u8 (aL (roD (deadL h []) v1))))).Head).Retry)::.bool (((gt (F43 (g_A6u8 (aL (roD (deadL h []) v0))) (g_A6u8 (aL (roD (deadL h []) v1))))).Head).Sleep)::.bool (((gt (F43 (g_A6u8 (aL (roD (deadL h []) v0))) (g_A6u8 (aL (roD (deadL h []) v1))))).Head).MoreData)::.bool (((gt (F43 (g_A6u8 (aL (roD (deadL h []) v0))) (g_A6u8 (aL (roD (deadL h []) v1))))).Head).Protected)::.int .i64 (((gt (F43 (g_A6u8 (aL (roD (deadL h []) v0))) (g_A6u8 (aL (roD (deadL h []) v1))))).Head).Duration)::.int .u8 ((((gt (F43 (g_A6u8 (aL (roD (deadL h []) v0))) (g_A6u8 (aL (roD (deadL h []) v1))))).Head).A1).x0)::.int .u8 ((((gt (F43 (g_A6u8 (aL (roD (deadL h []) v0))) (g_A6u8 (aL (roD (deadL h []) v1))))).Head).A1).x1)::.int .u8 ((((gt (F43 (g_A6u8 (aL (roD (deadL h []) v0))) (g_A6u8 (aL (roD (deadL h []) v1))))).Head).A1).x2)::.int .u8 ((((gt (F43 (g_A6u8 (aL (roD (deadL h []) v0))) (g_A6u8 (aL (roD (deadL h []) v1))))).Head).A1).x3)::.int .u8 ((((gt (F43 (g_A6u8 (aL (roD (deadL h []) v0))) (g_A6u8 (aL (roD (deadL h []) v1))))).Head).A1).x4)::.int .u8 ((((gt (F43 (g_A6u8 (aL (roD (deadL h []) v0))) (g_A6u8 (aL (roD (deadL h []) v1))))).Head).A1).x5)::.int .u8 ((((gt (F43 (g_A6u8 (aL (roD (deadL h []) v0))) (g_A6u8 (aL (roD (deadL h []) v1))))).Head).A2).x0)::.int .u8 ((((gt (F43 (g_A6u8 (aL (roD (deadL h []) v0))) (g_A6u8 (aL (roD (deadL h []) v1))))).Head).A2).x1)::.int .u8 ((((gt (F43 (g_A6u8 (aL (roD (deadL h []) v0))) (g_A6u8 (aL (roD (deadL h []) v1))))).Head).A2).x2)::.int .u8 ((((gt (F43 (g_A6u8 (aL (roD (deadL h []) v0))) (g_A6u8 (aL (roD (deadL h []) v1))))).Head).A2).x3)::.int .u8 ((((gt (F43 (g_A6u8 (aL (roD (deadL h []) v0))) (g_A6u8 (aL (roD (deadL h []) v1))))).Head).A2).x4)::.int .u8 ((((gt (F43 (g_A6u8 (aL (roD (deadL h []) v0))) (g_A6u8 (aL (roD (deadL h []) v1))))).Head).A2).x5)::.int .u8 ((((gt (F43 (g_A6u8 (aL (roD (deadL h []) v0))) (g_A6u8 (aL (roD (deadL h []) v1))))).Head).A3).x0)::.int .u8 ((((gt (F43 (g_A6u8 (aL (roD (deadL h []) v0))) (g_A6u8 (aL (roD (deadL h []) v1))))).Head).A3).x1)::.int .u8 ((((gt (F43 (g_A6u8 (aL (roD (deadL h []) v0))) (g_A6u8 (aL (roD (deadL h []) v1))))).Head).A3).x2)::.int .u8 ((((gt (F43 (g_A6u8 (aL (roD (deadL h []) v0))) (g_A6u8 (aL (roD (deadL h []) v1))))).Head).A3).x3)::.int .u8 ((((gt (F43 (g_A6u8 (aL (roD (deadL h []) v0))) (g_A6u8 (aL (roD (deadL h []) v1))))).Head).A3).x4)::.int .u8 ((((gt (F43 (g_A6u8 (aL (roD (deadL h []) v0))) (g_A6u8 (aL (roD (deadL h []) v1))))).Head).A3).x5)::.int .u8 ((((gt (F43 (g_A6u8 (aL (roD (deadL h []) v0))) (g_A6u8 (aL (roD (deadL h []) v1))))).Head).A4).x0)::.int .u8 ((((gt (F43 (g_A6u8 (aL (roD (deadL h []) v0))) (g_A6u8 (aL (roD (deadL h []) v1))))).Head).A4).x1)::.int .u8 ((((gt (F43 (g_A6u8 (aL (roD (deadL h []) v0))) (g_A6u8 (aL (roD (deadL h []) v1))))).Head).A4).x2)::.int .u8 ((((gt (F43 (g_A6u8 (aL (roD (deadL h []) v0))) (g_A6u8 (aL (roD (deadL h []) v1))))).Head).A4).x3)::.int .u8 ((((gt (F43 (g_A6u8 (aL (roD (deadL h []) v0))) (g_A6u8 (aL (roD (deadL h []) v1))))).Head).A4).x4)::.int .u8 ((((gt (F43 (g_A6u8 (aL (roD (deadL h []) v0))) (g_A6u8 (aL (roD (deadL h []) v1))))).Head).A4).x5)::.int .i64 (((gt (F43 (g_A6u8 (aL (roD (deadL h []) v0))) (g_A6u8 (aL (roD (deadL h []) v1))))).Head).Seq)::.int .i64 (((gt (F43 (g_A6u8 (aL (roD (deadL h []) v0))) (g_A6u8 (aL (roD (deadL h []) v1))))).Head).Frag)::.int .i64 (((gt (F43 (g_A6u8 (aL (roD (deadL h []) v0))) (g_A6u8 (aL (roD (deadL h []) v1))))).Head).Tid)::.int .u8 (((gt (F43 (g_A6u8 (aL (roD (deadL h []) v0))) (g_A6u8 (aL (roD (deadL h []) v1))))).Head).Ack)::.bool (((gt (F43 (g_A6u8 (aL (roD (deadL h []) v0))) (g_A6u8 (aL (roD (deadL h []) v1))))).Head).Amsdu)::.bool (((gt (F43 (g_A6u8 (aL (roD (deadL h []) v0))) (g_A6u8 (aL (roD (deadL h []) v1))))).Head).Eosp)::.sl 0 1 0 (((gt (F43 (g_A6u8 (aL (roD (deadL h []) v0))) (g_A6u8 (aL (roD (deadL h []) v1))))).Body).length) false::[])) [.row 5 1 (((gt (F43 (g_A6u8 (aL (roD (deadL h []) v0))) (g_A6u8 (aL (roD (deadL h []) v1))))).Body).length) (enR c_u8 ((gt (F43 (g_A6u8 (aL (roD (deadL h []) v0))) (g_A6u8 (aL (roD (deadL h []) v1))))).Body))]
 | _,_=>.fail
theorem ok43:FnOk Try.prog 43 (edC body43):=by
 refine edit_fnV body43 (rs:=[.cell 4 30]) Try.func43 (by kernel_rfl) rfl rfl ?_
 intro l h bs ob q0 g0 hb hob
 unfold body43 at hb
 split at hb
 ·rename_i v0 v1
  injection hb with q1 q2 q3 q4;subst q1 q2 q3 q4
  obtain ⟨hk0_0,hk0_1,hk1_0,hk1_1,hob⟩:=hob
  obtain ⟨r,H⟩:=Option.isSome_iff_exists.1 hob
  rw [H,gt_some]
  have hw0:=wA_A6u8 hk0_0
  obtain ⟨p0,hp_p0⟩:∃ p0,p0=g_A6u8 (aL (roD (deadL h []) v0)):=⟨_,rfl⟩
  rw [← hp_p0] at H hw0
  have hw1:=wA_A6u8 hk1_0
  obtain ⟨p1,hp_p1⟩:∃ p1,p1=g_A6u8 (aL (roD (deadL h []) v1)):=⟨_,rfl⟩
  rw [← hp_p1] at H hw1
  refine ⟨[.agg [.int .u8 p0.x0,.int .u8 p0.x1,.int .u8 p0.x2,.int .u8 p0.x3,.int .u8 p0.x4,.int .u8 p0.x5],.agg [.int .u8 p1.x0,.int .u8 p1.x1,.int .u8 p1.x2,.int .u8 p1.x3,.int .u8 p1.x4,.int .u8 p1.x5]],[],rfl,⟨(EW_view hk0_1 hw0),⟨(EW_view hk1_1 hw1),trivial⟩⟩,trivial,trivial,⟨(nfB_en nr_u8),trivial⟩,⟨noroB_en,trivial⟩,(by first|(simp only [noro,noroL,and_self];done)|(simp only [noro,noroL];and_intros<;>first|trivial|exact noro_bif (by simp only [noro]) (by simp only [noro])|(simp only [noro,noroL,and_self]))),?_⟩
  rw [Try.ntmps43]
  simp only [List.length_cons,List.length_nil,Nat.reduceAdd,Nat.reduceSub,List.replicate_succ,List.replicate_zero,List.cons_append,List.nil_append]
  unfold F43 at H
  try dsimp only at H
  refine sq ctNo_ok ?_
  simp only [go_sem,Nat.reduceAdd]
  refine sq ctNo_ok ?_
  simp only [go_sem,Nat.reduceAdd]
  refine sq ctNo_ok ?_
  simp only [go_sem,Nat.reduceLeDiff,Nat.reduceAdd,reduceCtorEq]
  repeat ((with_reducible refine And.intro ?_ ?_);focus (first|(with_reducible trivial)|omega|grind))
  refine sq ctNo_ok ?_
  simp only [go_sem,Nat.reduceLeDiff,Nat.reduceAdd,reduceCtorEq]
  repeat ((with_reducible refine And.intro ?_ ?_);focus (first|(with_reducible trivial)|omega|grind))
  refine sq ctNo_ok ?_
  simp only [go_sem,Nat.reduceLeDiff,Nat.reduceAdd,reduceCtorEq]
  repeat ((with_reducible refine And.intro ?_ ?_);focus (first|(with_reducible trivial)|omega|grind))
  refine sq ctNo_ok ?_
  simp only [go_sem,Nat.reduceLeDiff,Nat.reduceAdd,reduceCtorEq]
  repeat ((with_reducible refine And.intro ?_ ?_);focus (first|(with_reducible trivial)|omega|grind))
  refine sq ctNo_ok ?_
  simp only [go_sem,Nat.reduceLeDiff,Nat.reduceLT,Nat.reduceAdd,reduceCtorEq]
  repeat ((with_reducible refine And.intro ?_ ?_);focus (first|(with_reducible trivial)|omega|grind))
  refine sq ctNo_ok ?_
  simp only [go_sem,Nat.reduceLeDiff,Nat.reduceLT,Nat.reduceAdd,reduceCtorEq]
  repeat ((with_reducible refine And.intro ?_ ?_);focus (first|(with_reducible trivial)|omega|grind))
  refine sq ctNo_ok ?_
  simp only [go_sem,Nat.reduceLeDiff,Nat.reduceLT,Nat.reduceAdd,reduceCtorEq]
  repeat ((with_reducible refine And.intro ?_ ?_);focus (first|(with_reducible trivial)|omega|grind))
  refine sq ctNo_ok ?_
  simp only [go_sem,Nat.reduceLT,Nat.reduceAdd]
  repeat ((with_reducible refine And.intro ?_ ?_);focus (first|(with_reducible trivial)|omega|grind))
  refine rg ctNo_ok ?_
  simp only [go_sem,Nat.reduceLT,Nat.reduceAdd]
  obtain rfl:=Option.some.inj H
  refine RetE_mk [] [none] ?_ ?_ ?_ ?_ (by rfl) (by rfl)
  ·simp only [go_sem]
   try (and_intros<;>first|(with_reducible trivial)|omega|exact nfc|trivial)
  ·simp only [go_sem]
   try (and_intros<;>first|(with_reducible trivial)|omega|exact nfc|trivial)
  ·simp only [go_sem]
   exact (by first|(simp [Cv,CvL];done)|(simp [Cv,CvL,getM,gt_some];omega))
  ·simp only [go_sem,CvH]
   exact CvB_none
 ·cases hb
end Go.Proofs.Ytnclkplbeenmdaa
