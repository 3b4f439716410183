/-
  Contracts of functions: each computes its partial function.
-/
import Derived.Test.YtnclkplbeenmdaaFE
namespace Go.Proofs.Ytnclkplbeenmdaa
open Go.Am
set_option maxHeartbeats 4000000
set_option maxRecDepth 20000
set_option linter.unusedVariables false
set_option linter.unusedSimpArgs false
noncomputable def ct30t0:Ct:=tab [(21,pureC body21),(50,pureC body50)]
theorem ct30t0_ok:CtOk Try.prog ct30t0:=tab_cons ok21 <| tab_cons ok50 <| tab_nil
theorem ct30t0_21 (l:List AV) (h:List ABlk):ct30t0 21 l h=pureC body21 l h:=rfl
theorem ct30t0_50 (l:List AV) (h:List ABlk):ct30t0 50 l h=pureC body50 l h:=rfl
noncomputable def ct30t1:Ct:=tab [(33,pureC body33)]
theorem ct30t1_ok:CtOk Try.prog ct30t1:=tab_cons ok33 <| tab_nil
theorem ct30t1_33 (l:List AV) (h:List ABlk):ct30t1 33 l h=pureC body33 l h:=rfl
noncomputable def ct30t2:Ct:=tab [(28,genC body28)]
theorem ct30t2_ok:CtOk Try.prog ct30t2:=tab_cons ok28 <| tab_nil
theorem ct30t2_28 (l:List AV) (h:List ABlk):ct30t2 28 l h=genC body28 l h:=rfl
noncomputable def ct30t3:Ct:=tab [(35,pureC body35)]
theorem ct30t3_ok:CtOk Try.prog ct30t3:=tab_cons ok35 <| tab_nil
theorem ct30t3_35 (l:List AV) (h:List ABlk):ct30t3 35 l h=pureC body35 l h:=rfl
noncomputable def ct30t4:Ct:=tab [(58,pureC body58)]
theorem ct30t4_ok:CtOk Try.prog ct30t4:=tab_cons ok58 <| tab_nil
theorem ct30t4_58 (l:List AV) (h:List ABlk):ct30t4 58 l h=pureC body58 l h:=rfl
noncomputable def ct30t5:Ct:=tab [(43,edC body43)]
theorem ct30t5_ok:CtOk Try.prog ct30t5:=tab_cons ok43 <| tab_nil
theorem ct30t5_43 (l:List AV) (h:List ABlk):ct30t5 43 l h=edC body43 l h:=rfl
noncomputable def F30_L1 (p1:TTriggerPlan) (r10:Int) (v1_1:List TStored) (v1_2:Int) (v1_3:List TFrame):Option (Lp ((List TStored) × Int × (List TFrame)) (((List TStored) × (List TFrame)) ⊕ (TPeriod × TBuffer × Int))) :=
 bif (bLe v1_2 (minI r10 p1.Most)) then ((F58 v1_1 p1.Deliver).bind fun r12=>need (inb r12 v1_1.length) <| need (slb 0 r12 v1_1.length) <| need (capb 120 r12.toNat) <| need (slb (wr .i64 (r12+1)) (v1_1.length:Nat) v1_1.length) <| need (capb 120 (r12.toNat+v1_1.length - (wr .i64 (r12+1)).toNat)) <| (some (([] ++ (List.take r12.toNat v1_1)) ++ (v1_1.drop ((wr .i64 (r12+1)).toNat)))).bind fun w19=>(F35 w19 p1.Deliver).bind fun r21=>need (capb 104 (v1_3.length+1)) <| some (.next (w19,wr .i64 (v1_2+1),(v1_3 ++ [(TFrame.mk (THeader.mk ((((gd v1_1 r12.toNat).Frame).Head).Kind) ((((gd v1_1 r12.toNat).Frame).Head).Sub) ((((gd v1_1 r12.toNat).Frame).Head).ToDs) ((((gd v1_1 r12.toNat).Frame).Head).FromDs) ((((gd v1_1 r12.toNat).Frame).Head).More) ((((gd v1_1 r12.toNat).Frame).Head).Retry) ((((gd v1_1 r12.toNat).Frame).Head).Sleep) (bLt 0 r21) ((((gd v1_1 r12.toNat).Frame).Head).Protected) ((((gd v1_1 r12.toNat).Frame).Head).Duration) (A6u8.mk (((((gd v1_1 r12.toNat).Frame).Head).A1).x0) (((((gd v1_1 r12.toNat).Frame).Head).A1).x1) (((((gd v1_1 r12.toNat).Frame).Head).A1).x2) (((((gd v1_1 r12.toNat).Frame).Head).A1).x3) (((((gd v1_1 r12.toNat).Frame).Head).A1).x4) (((((gd v1_1 r12.toNat).Frame).Head).A1).x5)) (A6u8.mk (((((gd v1_1 r12.toNat).Frame).Head).A2).x0) (((((gd v1_1 r12.toNat).Frame).Head).A2).x1) (((((gd v1_1 r12.toNat).Frame).Head).A2).x2) (((((gd v1_1 r12.toNat).Frame).Head).A2).x3) (((((gd v1_1 r12.toNat).Frame).Head).A2).x4) (((((gd v1_1 r12.toNat).Frame).Head).A2).x5)) (A6u8.mk (((((gd v1_1 r12.toNat).Frame).Head).A3).x0) (((((gd v1_1 r12.toNat).Frame).Head).A3).x1) (((((gd v1_1 r12.toNat).Frame).Head).A3).x2) (((((gd v1_1 r12.toNat).Frame).Head).A3).x3) (((((gd v1_1 r12.toNat).Frame).Head).A3).x4) (((((gd v1_1 r12.toNat).Frame).Head).A3).x5)) (A6u8.mk (((((gd v1_1 r12.toNat).Frame).Head).A4).x0) (((((gd v1_1 r12.toNat).Frame).Head).A4).x1) (((((gd v1_1 r12.toNat).Frame).Head).A4).x2) (((((gd v1_1 r12.toNat).Frame).Head).A4).x3) (((((gd v1_1 r12.toNat).Frame).Head).A4).x4) (((((gd v1_1 r12.toNat).Frame).Head).A4).x5)) ((((gd v1_1 r12.toNat).Frame).Head).Seq) ((((gd v1_1 r12.toNat).Frame).Head).Frag) ((((gd v1_1 r12.toNat).Frame).Head).Tid) ((((gd v1_1 r12.toNat).Frame).Head).Ack) ((((gd v1_1 r12.toNat).Frame).Head).Amsdu) (bEq v1_2 (minI r10 p1.Most))) (((gd v1_1 r12.toNat).Frame).Body))])))) else (some (.done (.inl (v1_1,v1_3))))
noncomputable def F30_L2 (p1:TTriggerPlan) (r10:Int) (v2_1:List TStored) (v2_2:Int) (v2_3:List TFrame):Option (Lp ((List TStored) × Int × (List TFrame)) (((List TStored) × (List TFrame)) ⊕ (TPeriod × TBuffer × Int))) :=
 bif (bLe v2_2 r10) then ((F58 v2_1 p1.Deliver).bind fun r27=>need (inb r27 v2_1.length) <| need (slb 0 r27 v2_1.length) <| need (capb 120 r27.toNat) <| need (slb (wr .i64 (r27+1)) (v2_1.length:Nat) v2_1.length) <| need (capb 120 (r27.toNat+v2_1.length - (wr .i64 (r27+1)).toNat)) <| (some (([] ++ (List.take r27.toNat v2_1)) ++ (v2_1.drop ((wr .i64 (r27+1)).toNat)))).bind fun w34=>(F35 w34 p1.Deliver).bind fun r36=>need (capb 104 (v2_3.length+1)) <| some (.next (w34,wr .i64 (v2_2+1),(v2_3 ++ [(TFrame.mk (THeader.mk ((((gd v2_1 r27.toNat).Frame).Head).Kind) ((((gd v2_1 r27.toNat).Frame).Head).Sub) ((((gd v2_1 r27.toNat).Frame).Head).ToDs) ((((gd v2_1 r27.toNat).Frame).Head).FromDs) ((((gd v2_1 r27.toNat).Frame).Head).More) ((((gd v2_1 r27.toNat).Frame).Head).Retry) ((((gd v2_1 r27.toNat).Frame).Head).Sleep) (bLt 0 r36) ((((gd v2_1 r27.toNat).Frame).Head).Protected) ((((gd v2_1 r27.toNat).Frame).Head).Duration) (A6u8.mk (((((gd v2_1 r27.toNat).Frame).Head).A1).x0) (((((gd v2_1 r27.toNat).Frame).Head).A1).x1) (((((gd v2_1 r27.toNat).Frame).Head).A1).x2) (((((gd v2_1 r27.toNat).Frame).Head).A1).x3) (((((gd v2_1 r27.toNat).Frame).Head).A1).x4) (((((gd v2_1 r27.toNat).Frame).Head).A1).x5)) (A6u8.mk (((((gd v2_1 r27.toNat).Frame).Head).A2).x0) (((((gd v2_1 r27.toNat).Frame).Head).A2).x1) (((((gd v2_1 r27.toNat).Frame).Head).A2).x2) (((((gd v2_1 r27.toNat).Frame).Head).A2).x3) (((((gd v2_1 r27.toNat).Frame).Head).A2).x4) (((((gd v2_1 r27.toNat).Frame).Head).A2).x5)) (A6u8.mk (((((gd v2_1 r27.toNat).Frame).Head).A3).x0) (((((gd v2_1 r27.toNat).Frame).Head).A3).x1) (((((gd v2_1 r27.toNat).Frame).Head).A3).x2) (((((gd v2_1 r27.toNat).Frame).Head).A3).x3) (((((gd v2_1 r27.toNat).Frame).Head).A3).x4) (((((gd v2_1 r27.toNat).Frame).Head).A3).x5)) (A6u8.mk (((((gd v2_1 r27.toNat).Frame).Head).A4).x0) (((((gd v2_1 r27.toNat).Frame).Head).A4).x1) (((((gd v2_1 r27.toNat).Frame).Head).A4).x2) (((((gd v2_1 r27.toNat).Frame).Head).A4).x3) (((((gd v2_1 r27.toNat).Frame).Head).A4).x4) (((((gd v2_1 r27.toNat).Frame).Head).A4).x5)) ((((gd v2_1 r27.toNat).Frame).Head).Seq) ((((gd v2_1 r27.toNat).Frame).Head).Frag) ((((gd v2_1 r27.toNat).Frame).Head).Tid) ((((gd v2_1 r27.toNat).Frame).Head).Ack) ((((gd v2_1 r27.toNat).Frame).Head).Amsdu) (bEq v2_2 r10)) (((gd v2_1 r27.toNat).Frame).Body))])))) else (some (.done (.inl (v2_1,v2_3))))
noncomputable def F30 (p0:TBuffer) (p1:TTriggerPlan) (p2:Int) (p3:A6u8) (p4:A6u8):Option (TPeriod × TBuffer × Int) :=
 (F50 p0).bind fun r1=>need (bif (!(!r1)) then ((F21 p1).isSome) else true) <| bif ((!r1) || (!(gt (F21 p1)))) then (some ((TPeriod.mk 0 []),(TBuffer.mk 0 0 [] []),8)) else (bif ((bLt p2 1) || (bLt 255 p2)) then (some ((TPeriod.mk 0 []),(TBuffer.mk 0 0 [] []),2)) else ((F33 p0 p2).bind fun r4=>bif (bLt r4 0) then (some ((TPeriod.mk 0 []),(TBuffer.mk 0 0 [] []),6)) else (need (inb r4 p0.List.length) <| bif (!((gd p0.List r4.toNat).Asleep)) then (some ((TPeriod.mk 0 []),(TBuffer.mk 0 0 [] []),20)) else ((F28 p0).bind fun r7=>need (inb r4 r7.List.length) <| (F35 ((gd r7.List r4.toNat).Held) p1.Deliver).bind fun r10=>bif (bLt 0 p1.Most) then (lp (loopD (fun s=>F30_L1 p1 r10 s.1 s.2.1 s.2.2) ((gd r7.List r4.toNat).Held,1,[])) (fun e1=>need (inb r4 r7.List.length) <| bif (bEq (minI r10 p1.Most) 0) then ((F43 p3 p4).bind fun r25=>some ((TPeriod.mk p2 [r25]),(TBuffer.mk r7.Limit r7.Stay (r7.List.set r4.toNat (TSleeper.mk ((gd r7.List r4.toNat).Aid) ((gd r7.List r4.toNat).Asleep) e1.1)) r7.Group),0)) else (some ((TPeriod.mk p2 e1.2),(TBuffer.mk r7.Limit r7.Stay (r7.List.set r4.toNat (TSleeper.mk ((gd r7.List r4.toNat).Aid) ((gd r7.List r4.toNat).Asleep) e1.1)) r7.Group),0))) some) else (lp (loopD (fun s=>F30_L2 p1 r10 s.1 s.2.1 s.2.2) ((gd r7.List r4.toNat).Held,1,[])) (fun e2=>need (inb r4 r7.List.length) <| bif (bEq r10 0) then ((F43 p3 p4).bind fun r40=>some ((TPeriod.mk p2 [r40]),(TBuffer.mk r7.Limit r7.Stay (r7.List.set r4.toNat (TSleeper.mk ((gd r7.List r4.toNat).Aid) ((gd r7.List r4.toNat).Asleep) e2.1)) r7.Group),0)) else (some ((TPeriod.mk p2 e2.2),(TBuffer.mk r7.Limit r7.Stay (r7.List.set r4.toNat (TSleeper.mk ((gd r7.List r4.toNat).Aid) ((gd r7.List r4.toNat).Asleep) e2.1)) r7.Group),0))) some)))))
noncomputable def body30:List AV->Nat->AR
 | [v0,v1,v2,v3,v4],_=>.pure (aK 4 k_TBuffer v0/\aK 3 k_TTriggerPlan v1/\iK .i64 v2/\aK 6 k_A6u8 v3/\aK 6 k_A6u8 v4/\(F30 (g_TBuffer (aL v0)) (g_TTriggerPlan (aL v1)) (iA v2) (g_A6u8 (aL v3)) (g_A6u8 (aL v4))).isSome=true) (.tup [.agg [.int .i64 (((gt (F30 (g_TBuffer (aL v0)) (g_TTriggerPlan (aL v1)) (iA v2) (g_A6u8 (aL v3)) (g_A6u8 (aL v4)))).1).Aid),.ro 41 ((((gt (F30 (g_TBuffer (aL v0)) (g_TTriggerPlan (aL v1)) (iA v2) (g_A6u8 (aL v3)) (g_A6u8 (aL v4)))).1).Left).length) false (enR c_TFrame (((gt (F30 (g_TBuffer (aL v0)) (g_TTriggerPlan (aL v1)) (iA v2) (g_A6u8 (aL v3)) (g_A6u8 (aL v4)))).1).Left))],.agg [.int .i64 (((gt (F30 (g_TBuffer (aL v0)) (g_TTriggerPlan (aL v1)) (iA v2) (g_A6u8 (aL v3)) (g_A6u8 (aL v4)))).2.1).Limit),.int .i64 (((gt (F30 (g_TBuffer (aL v0)) (g_TTriggerPlan (aL v1)) (iA v2) (g_A6u8 (aL v3)) (g_A6u8 (aL v4)))).2.1).Stay),.ro 3 ((((gt (F30 (g_TBuffer (aL v0)) (g_TTriggerPlan (aL v1)) (iA v2) (g_A6u8 (aL v3)) (g_A6u8 (aL v4)))).2.1).List).length) false (enR c_TSleeper (((gt (F30 (g_TBuffer (aL v0)) (g_TTriggerPlan (aL v1)) (iA v2) (g_A6u8 (aL v3)) (g_A6u8 (aL v4)))).2.1).List)),.ro 43 ((((gt (F30 (g_TBuffer (aL v0)) (g_TTriggerPlan (aL v1)) (iA v2) (g_A6u8 (aL v3)) (g_A6u8 (aL v4)))).2.1).Group).length) false (enR c_TStored (((gt (F30 (g_TBuffer (aL v0)) (g_TTriggerPlan (aL v1)) (iA v2) (g_A6u8 (aL v3)) (g_A6u8 (aL v4)))).2.1).Group))],.int .i64 ((gt (F30 (g_TBuffer (aL v0)) (g_TTriggerPlan (aL v1)) (iA v2) (g_A6u8 (aL v3)) (g_A6u8 (aL v4)))).2.2)])
 | _,_=>.fail
theorem ok30:FnOk Try.prog 30 (genC body30):=by
 refine gen_fn body30 (rs:=[.cell 10 33,.cell 11 52,.tmp 12]) Try.func30 (by kernel_rfl) rfl rfl ?_
 intro l s ob v ns hb hob
 rcases hb with ⟨hb,rfl⟩|hb
 ·unfold body30 at hb
  split at hb
  ·rename_i v0 v1 v2 v3 v4
   injection hb with q1 q2;subst q1 q2
   obtain ⟨hk0_0,hk1_0,hk2_0,hk3_0,hk4_0,hob⟩:=hob
   obtain ⟨r,H⟩:=Option.isSome_iff_exists.1 hob
   rw [H,gt_some]
   have hw0:=wA_TBuffer hk0_0
   have hw1:=wA_TTriggerPlan hk1_0
   have hw2:=iK_wk hk2_0
   have hw3:=wA_A6u8 hk3_0
   have hw4:=wA_A6u8 hk4_0
   generalize g_TBuffer (aL v0)=p0 at H hw0
   generalize g_TTriggerPlan (aL v1)=p1 at H hw1
   generalize iA v2=p2 at H hw2
   generalize g_A6u8 (aL v3)=p3 at H hw3
   generalize g_A6u8 (aL v4)=p4 at H hw4
   refine ⟨[.agg [.int .i64 p0.Limit,.int .i64 p0.Stay,.ro 3 p0.List.length false (enR c_TSleeper p0.List),.ro 43 p0.Group.length false (enR c_TStored p0.Group)],.agg [.int .u8 p1.Start,.int .u8 p1.Deliver,.int .i64 p1.Most],.int .i64 p2,.agg [.int .u8 p3.x0,.int .u8 p3.x1,.int .u8 p3.x2,.int .u8 p3.x3,.int .u8 p3.x4,.int .u8 p3.x5],.agg [.int .u8 p4.x0,.int .u8 p4.x1,.int .u8 p4.x2,.int .u8 p4.x3,.int .u8 p4.x4,.int .u8 p4.x5]],.tup [.agg [.int .i64 r.1.Aid,.ro 41 r.1.Left.length false (enR c_TFrame r.1.Left)],.agg [.int .i64 r.2.1.Limit,.int .i64 r.2.1.Stay,.ro 3 r.2.1.List.length false (enR c_TSleeper r.2.1.List),.ro 43 r.2.1.Group.length false (enR c_TStored r.2.1.Group)],.int .i64 r.2.2],[],(fun E vs F=>FR_wk1 hw0.1 F (fun vs F=>FR_wk1 hw1.1 F (fun vs F=>FR_wk1 hw2.1 F (fun vs F=>FR_wk1 hw3.1 F (fun vs F=>FR_wk1 hw4.1 F (fun vs F=>F)))))),by simp only [ren,renL],trivial,?_⟩
   rw [Try.ntmps30]
   simp only [List.length_cons,List.length_nil,Nat.reduceAdd,Nat.reduceSub,List.replicate_succ,List.replicate_zero,List.cons_append,List.nil_append]
   unfold F30 at H
   try dsimp only at H
   refine sq ctNo_ok ?_
   simp only [go_sem,Nat.reduceAdd]
   refine seqM ?_
   refine seqM ?_
   obtain ⟨r1,e2,H⟩:=bsi H
   obtain ⟨f3,H⟩:=need_some.1 H
   replace f3:=g_iff.1 f3
   refine rg ct30t0_ok ?_
   simp only [go_sem,Nat.reduceLT,Nat.reduceAdd,ct30t0_21,body21,ct30t0_50,body50,e2]
   repeat ((with_reducible refine And.intro ?_ ?_);focus (first|(with_reducible trivial)|omega|exact f3|(intro g;have q:=f3 (by first|exact g|(rw [g];rfl)|simpa using g);first|exact q|exact ⟨q.1,q.2.1⟩|exact q.2.2|omega|exact ⟨g,q⟩|exact ⟨trivial,q⟩|exact ⟨g,q.1,q.2.1⟩|exact ⟨g,q.2.2⟩)|(intro g;(try have q0:=f3 (by first|exact g|(rw [g];rfl)|simpa using g));and_intros<;>first|(with_reducible trivial)|assumption|exact nfc|(intro g2;rw [g,g2];rfl)|(intro g2;assumption)|(simp only [g,Bool.true_and,Bool.and_true,Bool.not_false,Bool.not_true];assumption)|grind)|(and_intros<;>first|(with_reducible trivial)|omega|assumption|exact nfc|first|exact rfl|exact trivial|exact fitI|exact .inr rfl|exact .inl rfl|exact fun x hx=>absurd hx (by omega))|grind))
   refine condM rfl trivial (fun hc=>?_) (fun hc=>?_)
   ·replace H:=cond_t hc H
    refine sq ctNo_ok ?_
    simp only [go_sem,Nat.reduceAdd]
    repeat ((with_reducible refine And.intro ?_ ?_);focus (first|(with_reducible trivial)|omega|grind))
    refine rg ctNo_ok ?_
    simp only [go_sem,Nat.reduceLT,Nat.reduceAdd]
    obtain rfl:=Option.some.inj H
    refine ⟨[0,1,2,3,4,5],?_,?_,[],?_,?_,rfl⟩
    ·simp only [go_sem]
     try (and_intros<;>first|(with_reducible trivial)|omega|exact nfc|trivial)
    ·simp only [go_sem]
     try (and_intros<;>first|(with_reducible trivial)|omega|exact nfc|trivial)
    ·simp only [go_sem]
     exact Cv_tup (CvL_cons (Cv_agg (CvL_cons Cv_int (CvL_cons (Cv_ronil (α:=TFrame)) CvL_nil))) (CvL_cons (Cv_agg (CvL_cons Cv_int (CvL_cons Cv_int (CvL_cons (Cv_ronil (α:=TSleeper)) (CvL_cons (Cv_ronil (α:=TStored)) CvL_nil))))) (CvL_cons Cv_int CvL_nil)))
    ·simp only [go_sem,CvH]
   replace H:=cond_f hc H
   refine rg ctNo_ok ?_
   simp only [go_sem]
   refine seqM ?_
   refine sq ctNo_ok ?_
   simp only [go_sem]
   repeat ((with_reducible refine And.intro ?_ ?_);focus (first|(with_reducible trivial)|omega|grind))
   refine condM rfl trivial (fun hc=>?_) (fun hc=>?_)
   ·replace H:=cond_t hc H
    refine sq ctNo_ok ?_
    simp only [go_sem,Nat.reduceAdd]
    repeat ((with_reducible refine And.intro ?_ ?_);focus (first|(with_reducible trivial)|omega|grind))
    refine rg ctNo_ok ?_
    simp only [go_sem,Nat.reduceLT,Nat.reduceAdd]
    obtain rfl:=Option.some.inj H
    refine ⟨[0,1,2,3,4,5],?_,?_,[],?_,?_,rfl⟩
    ·simp only [go_sem]
     try (and_intros<;>first|(with_reducible trivial)|omega|exact nfc|trivial)
    ·simp only [go_sem]
     try (and_intros<;>first|(with_reducible trivial)|omega|exact nfc|trivial)
    ·simp only [go_sem]
     exact Cv_tup (CvL_cons (Cv_agg (CvL_cons Cv_int (CvL_cons (Cv_ronil (α:=TFrame)) CvL_nil))) (CvL_cons (Cv_agg (CvL_cons Cv_int (CvL_cons Cv_int (CvL_cons (Cv_ronil (α:=TSleeper)) (CvL_cons (Cv_ronil (α:=TStored)) CvL_nil))))) (CvL_cons Cv_int CvL_nil)))
    ·simp only [go_sem,CvH]
   replace H:=cond_f hc H
   refine rg ctNo_ok ?_
   simp only [go_sem]
   refine seqM ?_
   obtain ⟨r4,e5,H⟩:=bsi H
   refine rg ct30t1_ok ?_
   simp only [go_sem,Nat.reduceLT,Nat.reduceAdd,ct30t1_33,body33,e5]
   repeat ((with_reducible refine And.intro ?_ ?_);focus (first|(and_intros<;>first|(with_reducible trivial)|omega|assumption|exact nfc|first|exact rfl|exact trivial|exact fitI|exact .inr rfl|exact .inl rfl|exact fun x hx=>absurd hx (by omega))|grind))
   refine seqM ?_
   refine sq ctNo_ok ?_
   simp only [go_sem]
   refine condM rfl trivial (fun hc=>?_) (fun hc=>?_)
   ·replace H:=cond_t hc H
    refine sq ctNo_ok ?_
    simp only [go_sem,Nat.reduceAdd]
    repeat ((with_reducible refine And.intro ?_ ?_);focus (first|(with_reducible trivial)|omega|grind))
    refine rg ctNo_ok ?_
    simp only [go_sem,Nat.reduceLT,Nat.reduceAdd]
    obtain rfl:=Option.some.inj H
    refine ⟨[0,1,2,3,4,5],?_,?_,[],?_,?_,rfl⟩
    ·simp only [go_sem]
     try (and_intros<;>first|(with_reducible trivial)|omega|exact nfc|trivial)
    ·simp only [go_sem]
     try (and_intros<;>first|(with_reducible trivial)|omega|exact nfc|trivial)
    ·simp only [go_sem]
     exact Cv_tup (CvL_cons (Cv_agg (CvL_cons Cv_int (CvL_cons (Cv_ronil (α:=TFrame)) CvL_nil))) (CvL_cons (Cv_agg (CvL_cons Cv_int (CvL_cons Cv_int (CvL_cons (Cv_ronil (α:=TSleeper)) (CvL_cons (Cv_ronil (α:=TStored)) CvL_nil))))) (CvL_cons Cv_int CvL_nil)))
    ·simp only [go_sem,CvH]
   replace H:=cond_f hc H
   refine rg ctNo_ok ?_
   simp only [go_sem]
   refine seqM ?_
   refine seqM ?_
   obtain ⟨f6,H⟩:=need_some.1 H
   replace f6:=inb_iff.1 f6
   refine rg ctNo_ok ?_
   simp only [go_sem,Nat.reduceLeDiff,Nat.reduceLT,Nat.reduceAdd,f6]
   repeat ((with_reducible refine And.intro ?_ ?_);focus (first|(with_reducible trivial)|omega|grind))
   refine condM rfl trivial (fun hc=>?_) (fun hc=>?_)
   ·replace H:=cond_t hc H
    refine sq ctNo_ok ?_
    simp only [go_sem,Nat.reduceAdd]
    repeat ((with_reducible refine And.intro ?_ ?_);focus (first|(with_reducible trivial)|omega|grind))
    refine rg ctNo_ok ?_
    simp only [go_sem,Nat.reduceLT,Nat.reduceAdd]
    obtain rfl:=Option.some.inj H
    refine ⟨[0,1,2,3,4,5],?_,?_,[],?_,?_,rfl⟩
    ·simp only [go_sem]
     try (and_intros<;>first|(with_reducible trivial)|omega|exact nfc|trivial)
    ·simp only [go_sem]
     try (and_intros<;>first|(with_reducible trivial)|omega|exact nfc|trivial)
    ·simp only [go_sem]
     exact Cv_tup (CvL_cons (Cv_agg (CvL_cons Cv_int (CvL_cons (Cv_ronil (α:=TFrame)) CvL_nil))) (CvL_cons (Cv_agg (CvL_cons Cv_int (CvL_cons Cv_int (CvL_cons (Cv_ronil (α:=TSleeper)) (CvL_cons (Cv_ronil (α:=TStored)) CvL_nil))))) (CvL_cons Cv_int CvL_nil)))
    ·simp only [go_sem,CvH]
   replace H:=cond_f hc H
   refine rg ctNo_ok ?_
   simp only [go_sem]
   refine seqM ?_
   obtain ⟨r7,e8,H⟩:=bsi H
   refine rg ct30t2_ok ?_
   simp only [go_sem,Nat.reduceLT,Nat.reduceAdd,ct30t2_28,body28,e8]
   repeat ((with_reducible refine And.intro ?_ ?_);focus (first|(and_intros<;>first|(with_reducible trivial)|omega|assumption|exact nfc|first|exact rfl|exact trivial|exact fitI|exact .inr rfl|exact .inl rfl|exact fun x hx=>absurd hx (by omega))|grind))
   refine seqM ?_
   obtain ⟨f9,H⟩:=need_some.1 H
   replace f9:=inb_iff.1 f9
   refine rg ctNo_ok ?_
   simp only [go_sem,Nat.reduceLeDiff,Nat.reduceLT,Nat.reduceAdd,f9]
   repeat ((with_reducible refine And.intro ?_ ?_);focus (first|(with_reducible trivial)|omega|grind))
   refine seqM ?_
   obtain ⟨r10,e11,H⟩:=bsi H
   refine rg ct30t3_ok ?_
   simp only [go_sem,Nat.reduceLeDiff,Nat.reduceLT,Nat.reduceAdd,ct30t3_35,body35,e11]
   repeat ((with_reducible refine And.intro ?_ ?_);focus (first|(and_intros<;>first|(with_reducible trivial)|omega|assumption|exact nfc|first|exact rfl|exact trivial|exact fitI|exact .inr rfl|exact .inl rfl|exact fun x hx=>absurd hx (by omega))|grind))
   refine seqM ?_
   refine sq ctNo_ok ?_
   simp only [go_sem,Nat.reduceLT,Nat.reduceAdd]
   repeat ((with_reducible refine And.intro ?_ ?_);focus (first|(with_reducible trivial)|omega|grind))
   refine condM' rfl trivial (fun hc=>?_) (fun hc=>?_)
   ·replace H:=cond_f hc H
    refine rg ctNo_ok ?_
    simp only [go_sem]
    refine sq ctNo_ok ?_
    simp only [go_sem,Nat.reduceLeDiff,Nat.reduceAdd]
    repeat ((with_reducible refine And.intro ?_ ?_);focus (first|(with_reducible trivial)|omega|grind))
    refine seqM ?_
    refine sq ctNo_ok ?_
    simp only [go_sem]
    refine blkM ?_
    refine loop_den (fun s:(List TStored) × Int × (List TFrame)=>(tp 6 (.ptr 1 0 0 0::.top::.ptr 2 0 0 0::.ptr 3 0 0 0::.ptr 4 0 0 0::.ptr 5 0 0 0::.top::.int .i64 r4::.ptr 8 0 0 0::.ro 43 s.1.length false (enR c_TStored s.1)::.int .i64 r10::.ptr 9 0 0 0::.int .i64 s.2.1::tp 114 []))) (fun s=>[.dead,.lit 23 [.int .u8 p1.Start,.int .u8 p1.Deliver,.int .i64 p1.Most],.lit 25 [.int .u8 p3.x0,.int .u8 p3.x1,.int .u8 p3.x2,.int .u8 p3.x3,.int .u8 p3.x4,.int .u8 p3.x5],.lit 25 [.int .u8 p4.x0,.int .u8 p4.x1,.int .u8 p4.x2,.int .u8 p4.x3,.int .u8 p4.x4,.int .u8 p4.x5],.lit 33 [.int .i64 0,.ro 0 0 true (fun _ _=>.top)],.lit 52 [.int .i64 0,.int .i64 0,.ro 0 0 true (fun _ _=>.top),.ro 0 0 true (fun _ _=>.top)],.row 71 3 r7.List.length (enR c_TSleeper r7.List),.row 73 43 r7.Group.length (enR c_TStored r7.Group),.lit 52 [.int .i64 r7.Limit,.int .i64 r7.Stay,.sl 6 3 0 r7.List.length false,.sl 7 43 0 r7.Group.length false],.lit 33 [.int .i64 p2,.sl 10 41 0 s.2.2.length false],.row 30 41 s.2.2.length (enR c_TFrame s.2.2)]) (fun e:(List TStored) × (List TFrame)=>(tp 8 (.ptr 2 0 0 0::.ptr 3 0 0 0::.ptr 4 0 0 0::.ptr 5 0 0 0::.top::.int .i64 r4::.ptr 8 0 0 0::.ro 43 e.1.length false (enR c_TStored e.1)::.int .i64 r10::.ptr 9 0 0 0::tp 115 []))) (fun e=>[.dead,.dead,.lit 25 [.int .u8 p3.x0,.int .u8 p3.x1,.int .u8 p3.x2,.int .u8 p3.x3,.int .u8 p3.x4,.int .u8 p3.x5],.lit 25 [.int .u8 p4.x0,.int .u8 p4.x1,.int .u8 p4.x2,.int .u8 p4.x3,.int .u8 p4.x4,.int .u8 p4.x5],.lit 33 [.int .i64 0,.ro 0 0 true (fun _ _=>.top)],.lit 52 [.int .i64 0,.int .i64 0,.ro 0 0 true (fun _ _=>.top),.ro 0 0 true (fun _ _=>.top)],.row 71 3 r7.List.length (enR c_TSleeper r7.List),.row 73 43 r7.Group.length (enR c_TStored r7.Group),.lit 52 [.int .i64 r7.Limit,.int .i64 r7.Stay,.sl 6 3 0 r7.List.length false,.sl 7 43 0 r7.Group.length false],.lit 33 [.int .i64 p2,.sl 10 41 0 e.2.length false],.row 30 41 e.2.length (enR c_TFrame e.2)]) H ?_ (fun s o H hn1_2 hn2_2=>?_) (fun e H=>?_)
    ·refine SubF_of ⟨[some 0,some 1,some 2,some 3,some 4,some 5,some 6,some 7,some 8,some 9,none],?_,?_,by rfl,by rfl⟩
     ·simp [CvL,Cv,getM,tp]
     ·exact ⟨CvB_dead,(by simp [CvB,CvL,Cv,blkAt,geth]),(by simp [CvB,CvL,Cv,blkAt,geth]),(by simp [CvB,CvL,Cv,blkAt,geth]),(by simp [CvB,CvL,Cv,blkAt,geth]),(by simp [CvB,CvL,Cv,blkAt,geth]),(CvB_same nfA),(CvB_same nfA),(by simp [CvB,CvL,Cv,blkAt,geth,getM]),(by simp [CvB,CvL,Cv,blkAt,geth]),CvB_none,trivial⟩
    ·obtain ⟨v2_1,v2_2,v2_3⟩:=s
     unfold F30_L2 at H
     try dsimp only at H ⊢
     try simp only [tp]
     refine seqM ?_
     refine sq ctNo_ok ?_
     simp only [go_sem,Nat.reduceAdd]
     refine condM' rfl trivial (fun hc=>?_) (fun hc=>?_)
     ·replace H:=cond_f hc H
      refine rg ctNo_ok ?_
      simp only [go_sem]
      refine ⟨_,(Option.some.inj H).symm,?_⟩
      refine SubF_of ⟨[some 0,some 1,some 2,some 3,some 4,some 5,some 6,some 7,some 8,some 9,some 10],?_,?_,by rfl,by rfl⟩
      ·simp [CvL,Cv,getM]
      ·exact ⟨CvB_dead,CvB_dead,(by simp [CvB,CvL,Cv,blkAt,geth]),(by simp [CvB,CvL,Cv,blkAt,geth]),(by simp [CvB,CvL,Cv,blkAt,geth]),(by simp [CvB,CvL,Cv,blkAt,geth]),(CvB_same nfA),(CvB_same nfA),(by simp [CvB,CvL,Cv,blkAt,geth,getM]),(by simp [CvB,CvL,Cv,blkAt,geth,getM]),CvB_row nr_TFrame (by first|rfl|(simp;done)|(simp;omega)) (fun _ _ _ _=>rfl),trivial⟩
     replace H:=cond_t hc H
     refine rg ctNo_ok ?_
     simp only [go_sem]
     refine seqM ?_
     refine blkM ?_
     refine seqM ?_
     obtain ⟨r27,e28,H⟩:=bsi H
     refine rg ct30t4_ok ?_
     simp only [go_sem,Nat.reduceLeDiff,Nat.reduceLT,Nat.reduceAdd,ct30t4_58,body58,e28]
     repeat ((with_reducible refine And.intro ?_ ?_);focus (first|(and_intros<;>first|(with_reducible trivial)|omega|assumption|exact nfc|first|exact rfl|exact trivial|exact fitI|exact .inr rfl|exact .inl rfl|exact fun x hx=>absurd hx (by omega))|grind))
     refine seqM ?_
     obtain ⟨f29,H⟩:=need_some.1 H
     replace f29:=inb_iff.1 f29
     refine rg ctNo_ok ?_
     simp only [go_sem,Nat.reduceLT,Nat.reduceAdd,reduceCtorEq,f29]
     repeat ((with_reducible refine And.intro ?_ ?_);focus (first|(with_reducible trivial)|omega|grind))
     refine seqM ?_
     obtain ⟨f30,H⟩:=need_some.1 H
     replace f30:=slb_iff.1 f30
     obtain ⟨f31,H⟩:=need_some.1 H
     replace f31:=capb_iff.1 f31
     obtain ⟨f32,H⟩:=need_some.1 H
     replace f32:=slb_iff.1 f32
     obtain ⟨f33,H⟩:=need_some.1 H
     replace f33:=capb_iff.1 f33
     refine draw_rule shT_ok ctNo_ok 3 (by kernel_rfl) (by kernel_rfl) ?_
     intro an han
     simp only [d_nil,d_cons,nxtD,xrD,xoD,roEq,minL,List.append_nil,refsOp,refs,refsL,mask,maskF,place,placeF,okLog,pairOk,hit,inL,slotsF,ren,rnN,nrH,nrB,List.replicate_zero,List.replicate_succ,Nat.sub_self,Nat.add_zero,Nat.zero_add,Nat.reduceSub,Nat.not_lt_zero,Nat.zero_le,Nat.lt_add_one,go_sem,Nat.reduceLeDiff,Nat.reduceLT,Nat.reduceAdd,Nat.reduceSub,Nat.reduceBEq,f30,f32]
     repeat ((with_reducible refine And.intro ?_ ?_);focus (and_intros<;>first|(with_reducible trivial)|(show anB _ _ _=true;subst han;kernel_rfl)|(show (anB _ _ _ && _)=true;subst han;kernel_rfl)|omega|assumption|exact nrc|exact nfc|first|exact rfl|exact trivial|exact fitI|exact .inr rfl|exact .inl rfl|exact fun x hx=>absurd hx (by omega)|(intro x hx;(repeat (first|(and_intros<;>(first|exact rfl|exact trivial|exact fitI|exact .inr rfl|exact .inl rfl|exact fun x hx=>absurd hx (by omega)))|(exfalso;omega)|(rcases x with _|x)));done)|(refine Fit_app ?_ ?_<;>first|exact fitI|(intro x hx;(repeat (first|(and_intros<;>(first|exact rfl|exact trivial|exact fitI|exact .inr rfl|exact .inl rfl|exact fun x hx=>absurd hx (by omega)))|(exfalso;omega)|(rcases x with _|x)));done)|(refine Fit_app ?_ ?_<;>first|exact fitI|(intro x hx;(repeat (first|(and_intros<;>(first|exact rfl|exact trivial|exact fitI|exact .inr rfl|exact .inl rfl|exact fun x hx=>absurd hx (by omega)))|(exfalso;omega)|(rcases x with _|x)));done)))))
     obtain ⟨w34,hw35,H⟩:=bsi H
     replace hw35:=Option.some.inj hw35
     have lhw35:w34.length=r27.toNat - 0+(v2_1.length - (wr .i64 (r27+1)).toNat):=by rw [← hw35];simp only [List.length_append,List.length_take,List.length_drop,List.length_nil];omega
     refine subF_mean (t2:=(tp 6 (.ptr 1 0 0 0::.top::.ptr 2 0 0 0::.ptr 3 0 0 0::.ptr 4 0 0 0::.ptr 5 0 0 0::.top::.int .i64 r4::.ptr 8 0 0 0::.sl 14 43 0 w34.length false::.int .i64 r10::.ptr 9 0 0 0::.int .i64 v2_2::.top::.ptr 11 0 0 0::tp 112 []))) (h2:=[.dead,.lit 23 [.int .u8 p1.Start,.int .u8 p1.Deliver,.int .i64 p1.Most],.lit 25 [.int .u8 p3.x0,.int .u8 p3.x1,.int .u8 p3.x2,.int .u8 p3.x3,.int .u8 p3.x4,.int .u8 p3.x5],.lit 25 [.int .u8 p4.x0,.int .u8 p4.x1,.int .u8 p4.x2,.int .u8 p4.x3,.int .u8 p4.x4,.int .u8 p4.x5],.lit 33 [.int .i64 0,.ro 0 0 true (fun _ _=>.top)],.lit 52 [.int .i64 0,.int .i64 0,.ro 0 0 true (fun _ _=>.top),.ro 0 0 true (fun _ _=>.top)],.row 71 3 r7.List.length (enR c_TSleeper r7.List),.row 73 43 r7.Group.length (enR c_TStored r7.Group),.lit 52 [.int .i64 r7.Limit,.int .i64 r7.Stay,.sl 6 3 0 r7.List.length false,.sl 7 43 0 r7.Group.length false],.lit 33 [.int .i64 p2,.sl 10 41 0 v2_3.length false],.row 30 41 v2_3.length (enR c_TFrame v2_3),.lit 30 (.int .u8 ((((gd v2_1 r27.toNat).Frame).Head).Kind)::.int .u8 ((((gd v2_1 r27.toNat).Frame).Head).Sub)::.bool ((((gd v2_1 r27.toNat).Frame).Head).ToDs)::.bool ((((gd v2_1 r27.toNat).Frame).Head).FromDs)::.bool ((((gd v2_1 r27.toNat).Frame).Head).More)::.bool ((((gd v2_1 r27.toNat).Frame).Head).Retry)::.bool ((((gd v2_1 r27.toNat).Frame).Head).Sleep)::.bool ((((gd v2_1 r27.toNat).Frame).Head).MoreData)::.bool ((((gd v2_1 r27.toNat).Frame).Head).Protected)::.int .i64 ((((gd v2_1 r27.toNat).Frame).Head).Duration)::.int .u8 (((((gd v2_1 r27.toNat).Frame).Head).A1).x0)::.int .u8 (((((gd v2_1 r27.toNat).Frame).Head).A1).x1)::.int .u8 (((((gd v2_1 r27.toNat).Frame).Head).A1).x2)::.int .u8 (((((gd v2_1 r27.toNat).Frame).Head).A1).x3)::.int .u8 (((((gd v2_1 r27.toNat).Frame).Head).A1).x4)::.int .u8 (((((gd v2_1 r27.toNat).Frame).Head).A1).x5)::.int .u8 (((((gd v2_1 r27.toNat).Frame).Head).A2).x0)::.int .u8 (((((gd v2_1 r27.toNat).Frame).Head).A2).x1)::.int .u8 (((((gd v2_1 r27.toNat).Frame).Head).A2).x2)::.int .u8 (((((gd v2_1 r27.toNat).Frame).Head).A2).x3)::.int .u8 (((((gd v2_1 r27.toNat).Frame).Head).A2).x4)::.int .u8 (((((gd v2_1 r27.toNat).Frame).Head).A2).x5)::.int .u8 (((((gd v2_1 r27.toNat).Frame).Head).A3).x0)::.int .u8 (((((gd v2_1 r27.toNat).Frame).Head).A3).x1)::.int .u8 (((((gd v2_1 r27.toNat).Frame).Head).A3).x2)::.int .u8 (((((gd v2_1 r27.toNat).Frame).Head).A3).x3)::.int .u8 (((((gd v2_1 r27.toNat).Frame).Head).A3).x4)::.int .u8 (((((gd v2_1 r27.toNat).Frame).Head).A3).x5)::.int .u8 (((((gd v2_1 r27.toNat).Frame).Head).A4).x0)::.int .u8 (((((gd v2_1 r27.toNat).Frame).Head).A4).x1)::.int .u8 (((((gd v2_1 r27.toNat).Frame).Head).A4).x2)::.int .u8 (((((gd v2_1 r27.toNat).Frame).Head).A4).x3)::.int .u8 (((((gd v2_1 r27.toNat).Frame).Head).A4).x4)::.int .u8 (((((gd v2_1 r27.toNat).Frame).Head).A4).x5)::.int .i64 ((((gd v2_1 r27.toNat).Frame).Head).Seq)::.int .i64 ((((gd v2_1 r27.toNat).Frame).Head).Frag)::.int .i64 ((((gd v2_1 r27.toNat).Frame).Head).Tid)::.int .u8 ((((gd v2_1 r27.toNat).Frame).Head).Ack)::.bool ((((gd v2_1 r27.toNat).Frame).Head).Amsdu)::.bool ((((gd v2_1 r27.toNat).Frame).Head).Eosp)::.ro 1 ((((gd v2_1 r27.toNat).Frame).Body).length) false (enR c_u8 (((gd v2_1 r27.toNat).Frame).Body))::[]),.dead,.dead,.row 73 43 w34.length (enR c_TStored w34)]) ?_ ?_
     ·refine SubF_of ⟨[some 0,some 1,some 2,some 3,some 4,some 5,some 6,some 7,some 8,some 9,some 10,some 11,some 12,some 13,some 14],?_,?_,by rfl,by rfl⟩
      ·simp [CvL,Cv,getM,tp,lhw35]
      ·exact ⟨CvB_dead,(by simp [CvB,CvL,Cv,blkAt,geth]),(by simp [CvB,CvL,Cv,blkAt,geth]),(by simp [CvB,CvL,Cv,blkAt,geth]),(by simp [CvB,CvL,Cv,blkAt,geth]),(by simp [CvB,CvL,Cv,blkAt,geth]),CvB_row nr_TSleeper rfl (fun _ _ _ _=>rfl),CvB_row nr_TStored rfl (fun _ _ _ _=>rfl),(by simp [CvB,CvL,Cv,blkAt,geth,getM]),(by simp [CvB,CvL,Cv,blkAt,geth,getM]),CvB_row nr_TFrame rfl (fun _ _ _ _=>rfl),(by simp [CvB,CvL,Cv,blkAt,geth]),CvB_dead,CvB_dead,CvB_row nr_TStored lhw35 (hw35 ▸ (app_row2 (show (List.take r27.toNat v2_1).length=r27.toNat from (by rw [List.length_take];omega)) (f:=c_TStored) ([] ++ (List.take r27.toNat v2_1)) (v2_1.drop ((wr .i64 (r27+1)).toNat)) (app_row (f:=c_TStored) [] (List.take r27.toNat v2_1) (lit_row (f:=c_TStored) [] (fun _ _=>rfl) rfl) take_row) (fun _ _ _ _=>rfl))),trivial⟩
     simp only [tp]
     refine fz_mean [14] ?_ ?_
     ·simp only [go_sem,Nat.reduceBEq]
      try (and_intros<;>first|(with_reducible trivial)|omega|exact nfc|trivial)
     simp only [go_sem,Nat.reduceBEq,Nat.reduceAdd]
     refine sq ctNo_ok ?_
     simp only [go_sem,Nat.reduceLeDiff,Nat.reduceAdd,reduceCtorEq]
     repeat ((with_reducible refine And.intro ?_ ?_);focus (first|(with_reducible trivial)|omega|grind))
     refine seqM ?_
     obtain ⟨r36,e37,H⟩:=bsi H
     refine rg ct30t3_ok ?_
     simp only [go_sem,Nat.reduceLeDiff,Nat.reduceLT,Nat.reduceAdd,reduceCtorEq,ct30t3_35,body35,e37]
     repeat ((with_reducible refine And.intro ?_ ?_);focus (first|(and_intros<;>first|(with_reducible trivial)|omega|assumption|exact nfc|first|exact rfl|exact trivial|exact fitI|exact .inr rfl|exact .inl rfl|exact fun x hx=>absurd hx (by omega))|grind))
     obtain ⟨f38,H⟩:=need_some.1 H
     replace f38:=capb_iff.1 f38
     refine rg ctNo_ok ?_
     simp only [go_sem,Nat.reduceLeDiff,Nat.reduceLT,Nat.reduceAdd,Nat.reduceBEq,f38]
     repeat ((with_reducible refine And.intro ?_ ?_);focus (first|(and_intros<;>first|(with_reducible trivial)|omega|assumption|exact nfc|first|exact rfl|exact trivial|exact fitI|exact .inr rfl|exact .inl rfl|exact fun x hx=>absurd hx (by omega)|(intro x hx;(repeat (first|(and_intros<;>(first|exact rfl|exact trivial|exact fitI|exact .inr rfl|exact .inl rfl|exact fun x hx=>absurd hx (by omega)))|(exfalso;omega)|(rcases x with _|x)));done)|(refine Fit_app ?_ ?_<;>first|exact fitI|(intro x hx;(repeat (first|(and_intros<;>(first|exact rfl|exact trivial|exact fitI|exact .inr rfl|exact .inl rfl|exact fun x hx=>absurd hx (by omega)))|(exfalso;omega)|(rcases x with _|x)));done)|(refine Fit_app ?_ ?_<;>first|exact fitI|(intro x hx;(repeat (first|(and_intros<;>(first|exact rfl|exact trivial|exact fitI|exact .inr rfl|exact .inl rfl|exact fun x hx=>absurd hx (by omega)))|(exfalso;omega)|(rcases x with _|x)));done))))|grind))
     refine rg ctNo_ok ?_
     simp only [go_sem]
     refine ⟨_,(Option.some.inj H).symm,?_⟩
     refine SubF_of ⟨[some 0,some 1,some 2,some 3,some 4,some 5,some 6,some 7,some 8,some 9,some 16],?_,?_,by rfl,by rfl⟩
     ·simp [CvL,Cv,getM]
     ·exact ⟨CvB_dead,(by simp [CvB,CvL,Cv,blkAt,geth]),(by simp [CvB,CvL,Cv,blkAt,geth]),(by simp [CvB,CvL,Cv,blkAt,geth]),(by simp [CvB,CvL,Cv,blkAt,geth]),(by simp [CvB,CvL,Cv,blkAt,geth]),(CvB_same nfA),(CvB_same nfA),(by simp [CvB,CvL,Cv,blkAt,geth,getM]),(by simp [CvB,CvL,Cv,blkAt,geth,getM]),CvB_row nr_TFrame (by first|rfl|(simp;done)|(simp;omega)) (app_row (f:=c_TFrame) v2_3 [(TFrame.mk (THeader.mk ((((gd v2_1 r27.toNat).Frame).Head).Kind) ((((gd v2_1 r27.toNat).Frame).Head).Sub) ((((gd v2_1 r27.toNat).Frame).Head).ToDs) ((((gd v2_1 r27.toNat).Frame).Head).FromDs) ((((gd v2_1 r27.toNat).Frame).Head).More) ((((gd v2_1 r27.toNat).Frame).Head).Retry) ((((gd v2_1 r27.toNat).Frame).Head).Sleep) (bLt 0 r36) ((((gd v2_1 r27.toNat).Frame).Head).Protected) ((((gd v2_1 r27.toNat).Frame).Head).Duration) (A6u8.mk (((((gd v2_1 r27.toNat).Frame).Head).A1).x0) (((((gd v2_1 r27.toNat).Frame).Head).A1).x1) (((((gd v2_1 r27.toNat).Frame).Head).A1).x2) (((((gd v2_1 r27.toNat).Frame).Head).A1).x3) (((((gd v2_1 r27.toNat).Frame).Head).A1).x4) (((((gd v2_1 r27.toNat).Frame).Head).A1).x5)) (A6u8.mk (((((gd v2_1 r27.toNat).Frame).Head).A2).x0) (((((gd v2_1 r27.toNat).Frame).Head).A2).x1) (((((gd v2_1 r27.toNat).Frame).Head).A2).x2) (((((gd v2_1 r27.toNat).Frame).Head).A2).x3) (((((gd v2_1 r27.toNat).Frame).Head).A2).x4) (((((gd v2_1 r27.toNat).Frame).Head).A2).x5)) (A6u8.mk (((((gd v2_1 r27.toNat).Frame).Head).A3).x0) (((((gd v2_1 r27.toNat).Frame).Head).A3).x1) (((((gd v2_1 r27.toNat).Frame).Head).A3).x2) (((((gd v2_1 r27.toNat).Frame).Head).A3).x3) (((((gd v2_1 r27.toNat).Frame).Head).A3).x4) (((((gd v2_1 r27.toNat).Frame).Head).A3).x5)) (A6u8.mk (((((gd v2_1 r27.toNat).Frame).Head).A4).x0) (((((gd v2_1 r27.toNat).Frame).Head).A4).x1) (((((gd v2_1 r27.toNat).Frame).Head).A4).x2) (((((gd v2_1 r27.toNat).Frame).Head).A4).x3) (((((gd v2_1 r27.toNat).Frame).Head).A4).x4) (((((gd v2_1 r27.toNat).Frame).Head).A4).x5)) ((((gd v2_1 r27.toNat).Frame).Head).Seq) ((((gd v2_1 r27.toNat).Frame).Head).Frag) ((((gd v2_1 r27.toNat).Frame).Head).Tid) ((((gd v2_1 r27.toNat).Frame).Head).Ack) ((((gd v2_1 r27.toNat).Frame).Head).Amsdu) (bEq v2_2 r10)) (((gd v2_1 r27.toNat).Frame).Body))] (fun _ _ _ _=>rfl) (lit_row (f:=c_TFrame) [(TFrame.mk (THeader.mk ((((gd v2_1 r27.toNat).Frame).Head).Kind) ((((gd v2_1 r27.toNat).Frame).Head).Sub) ((((gd v2_1 r27.toNat).Frame).Head).ToDs) ((((gd v2_1 r27.toNat).Frame).Head).FromDs) ((((gd v2_1 r27.toNat).Frame).Head).More) ((((gd v2_1 r27.toNat).Frame).Head).Retry) ((((gd v2_1 r27.toNat).Frame).Head).Sleep) (bLt 0 r36) ((((gd v2_1 r27.toNat).Frame).Head).Protected) ((((gd v2_1 r27.toNat).Frame).Head).Duration) (A6u8.mk (((((gd v2_1 r27.toNat).Frame).Head).A1).x0) (((((gd v2_1 r27.toNat).Frame).Head).A1).x1) (((((gd v2_1 r27.toNat).Frame).Head).A1).x2) (((((gd v2_1 r27.toNat).Frame).Head).A1).x3) (((((gd v2_1 r27.toNat).Frame).Head).A1).x4) (((((gd v2_1 r27.toNat).Frame).Head).A1).x5)) (A6u8.mk (((((gd v2_1 r27.toNat).Frame).Head).A2).x0) (((((gd v2_1 r27.toNat).Frame).Head).A2).x1) (((((gd v2_1 r27.toNat).Frame).Head).A2).x2) (((((gd v2_1 r27.toNat).Frame).Head).A2).x3) (((((gd v2_1 r27.toNat).Frame).Head).A2).x4) (((((gd v2_1 r27.toNat).Frame).Head).A2).x5)) (A6u8.mk (((((gd v2_1 r27.toNat).Frame).Head).A3).x0) (((((gd v2_1 r27.toNat).Frame).Head).A3).x1) (((((gd v2_1 r27.toNat).Frame).Head).A3).x2) (((((gd v2_1 r27.toNat).Frame).Head).A3).x3) (((((gd v2_1 r27.toNat).Frame).Head).A3).x4) (((((gd v2_1 r27.toNat).Frame).Head).A3).x5)) (A6u8.mk (((((gd v2_1 r27.toNat).Frame).Head).A4).x0) (((((gd v2_1 r27.toNat).Frame).Head).A4).x1) (((((gd v2_1 r27.toNat).Frame).Head).A4).x2) (((((gd v2_1 r27.toNat).Frame).Head).A4).x3) (((((gd v2_1 r27.toNat).Frame).Head).A4).x4) (((((gd v2_1 r27.toNat).Frame).Head).A4).x5)) ((((gd v2_1 r27.toNat).Frame).Head).Seq) ((((gd v2_1 r27.toNat).Frame).Head).Frag) ((((gd v2_1 r27.toNat).Frame).Head).Tid) ((((gd v2_1 r27.toNat).Frame).Head).Ack) ((((gd v2_1 r27.toNat).Frame).Head).Amsdu) (bEq v2_2 r10)) (((gd v2_1 r27.toNat).Frame).Body))] (fun _ _=>rfl) rfl)),trivial⟩
    ·obtain ⟨w2_4,w2_7⟩:=e
     try dsimp only at H ⊢
     try simp only [tp]
     try simp only [m_normal]
     refine seqM ?_
     obtain ⟨f39,H⟩:=need_some.1 H
     replace f39:=inb_iff.1 f39
     refine rg ctNo_ok ?_
     simp only [go_sem,Nat.reduceLeDiff,Nat.reduceLT,Nat.reduceAdd,f39]
     repeat ((with_reducible refine And.intro ?_ ?_);focus (first|(with_reducible trivial)|omega|grind))
     refine seqM ?_
     refine sq ctNo_ok ?_
     simp only [go_sem]
     refine condM' rfl trivial (fun hc=>?_) (fun hc=>?_)
     ·replace H:=cond_f hc H
      refine rg ctNo_ok ?_
      simp only [go_sem]
      refine seqM ?_
      refine draw_rule shT_ok ctNo_ok 0 (by kernel_rfl) (by kernel_rfl) ?_
      intro an han
      simp only [d_nil,d_cons,nxtD,xrD,xoD,roEq,minL,List.append_nil,refsOp,refs,mask,maskF,place,placeF,okLog,pairOk,hit,inL,slotsF,nrH,nrB,nrL,nr,List.replicate_zero,Nat.sub_self,Nat.add_zero,Nat.zero_add,Nat.reduceSub,Nat.lt_add_one,go_sem,Nat.reduceLeDiff,Nat.reduceLT,Nat.reduceAdd,Nat.reduceSub,Nat.reduceBEq]
      repeat ((with_reducible refine And.intro ?_ ?_);focus (and_intros<;>first|(with_reducible trivial)|(show anB _ _ _=true;subst han;kernel_rfl)|(show (anB _ _ _ && _)=true;subst han;kernel_rfl)|omega|assumption|exact nrc|exact nfc|first|exact rfl|exact trivial|exact fitI|exact .inr rfl|exact .inl rfl|exact fun x hx=>absurd hx (by omega)))
      refine rg ctNo_ok ?_
      simp only [go_sem,Nat.reduceLT,Nat.reduceAdd]
      obtain rfl:=Option.some.inj H
      refine ⟨[10,6,7,2,3,4,5,8,9],?_,?_,[],?_,?_,rfl⟩
      ·simp only [go_sem,Nat.reduceBEq]
       try (and_intros<;>first|(with_reducible trivial)|omega|exact nfc|trivial)
      ·simp only [go_sem,Nat.reduceBEq]
       try (and_intros<;>first|(with_reducible trivial)|omega|exact nfc|trivial)
      ·simp only [go_sem,Nat.reduceBEq]
       exact Cv_tup (CvL_cons (Cv_agg (CvL_cons Cv_int (CvL_cons (ro_row (by first|rfl|simp) (fun _ _ _ _=>rfl)) CvL_nil))) (CvL_cons (Cv_agg (CvL_cons Cv_int (CvL_cons Cv_int (CvL_cons (ro_row (by first|rfl|simp) (upc_row (f:=c_TSleeper) r7.List r4.toNat 2 (TSleeper.mk ((gd r7.List r4.toNat).Aid) ((gd r7.List r4.toNat).Asleep) w2_4) (fun _ _ _ _=>rfl) (fun y hy=>match y,hy with|0,_=>rfl|1,_=>rfl|2,_=>rfl|(y+3),h=>absurd h nlt))) (CvL_cons (ro_row (by first|rfl|simp) (fun _ _ _ _=>rfl)) CvL_nil))))) (CvL_cons Cv_int CvL_nil)))
      ·simp only [go_sem,CvH]
     replace H:=cond_t hc H
     refine regO ?_
     obtain ⟨r40,e41,H⟩:=bsi H
     refine cutO shT_ok ct30t5_ok 3 ?_
     simp only [kO_normal,List.take_succ_cons,List.take_zero,List.drop_succ_cons,List.drop_zero,go_sem,Nat.reduceLT,Nat.reduceAdd,ct30t5_43,body43,e41]
     repeat ((with_reducible refine And.intro ?_ ?_);focus (first|(and_intros<;>first|(with_reducible trivial)|omega|assumption|exact nfc|first|exact rfl|exact trivial|exact fitI|exact .inr rfl|exact .inl rfl|exact fun x hx=>absurd hx (by omega)|(intro x hx;(repeat (first|(and_intros<;>(first|exact rfl|exact trivial|exact fitI|exact .inr rfl|exact .inl rfl|exact fun x hx=>absurd hx (by omega)))|(exfalso;omega)|(rcases x with _|x)));done))|grind))
     refine fzO [11] ?_ ?_
     ·simp only [go_sem,Nat.reduceBEq]
      try (and_intros<;>first|(with_reducible trivial)|omega|exact nfc|trivial)
     simp only [go_sem,Nat.reduceBEq,Nat.reduceAdd]
     refine cutO shT_ok ctNo_ok 3 ?_
     simp only [kO_normal,List.take_succ_cons,List.take_zero,List.drop_succ_cons,List.drop_zero,go_sem,Nat.reduceLeDiff,Nat.reduceAdd]
     repeat ((with_reducible refine And.intro ?_ ?_);focus (first|(and_intros<;>first|(with_reducible trivial)|omega|assumption|exact nfc|first|exact rfl|exact trivial|exact fitI|exact .inr rfl|exact .inl rfl|exact fun x hx=>absurd hx (by omega)|(intro x hx;(repeat (first|(and_intros<;>(first|exact rfl|exact trivial|exact fitI|exact .inr rfl|exact .inl rfl|exact fun x hx=>absurd hx (by omega)))|(exfalso;omega)|(rcases x with _|x)));done))|grind))
     refine endO ?_
     refine seqM ?_
     refine draw_rule shT_ok ctNo_ok 0 (by kernel_rfl) (by kernel_rfl) ?_
     intro an han
     simp only [d_nil,d_cons,nxtD,xrD,xoD,roEq,minL,List.append_nil,refsOp,refs,mask,maskF,place,placeF,okLog,pairOk,hit,inL,slotsF,nrH,nrB,nrL,nr,List.replicate_zero,Nat.sub_self,Nat.add_zero,Nat.zero_add,Nat.reduceSub,Nat.lt_add_one,go_sem,Nat.reduceLeDiff,Nat.reduceLT,Nat.reduceAdd,Nat.reduceSub,Nat.reduceBEq]
     repeat ((with_reducible refine And.intro ?_ ?_);focus (and_intros<;>first|(with_reducible trivial)|(show anB _ _ _=true;subst han;kernel_rfl)|(show (anB _ _ _ && _)=true;subst han;kernel_rfl)|omega|assumption|exact nrc|exact nfc|first|exact rfl|exact trivial|exact fitI|exact .inr rfl|exact .inl rfl|exact fun x hx=>absurd hx (by omega)|(intro x hx;(repeat (first|(and_intros<;>(first|exact rfl|exact trivial|exact fitI|exact .inr rfl|exact .inl rfl|exact fun x hx=>absurd hx (by omega)))|(exfalso;omega)|(rcases x with _|x)));done)))
     refine rg ctNo_ok ?_
     simp only [go_sem,Nat.reduceLT,Nat.reduceAdd]
     obtain rfl:=Option.some.inj H
     refine ⟨[12,6,7,2,3,4,5,8,9],?_,?_,[],?_,?_,rfl⟩
     ·simp only [go_sem,Nat.reduceBEq]
      try (and_intros<;>first|(with_reducible trivial)|omega|exact nfc|trivial)
     ·simp only [go_sem,Nat.reduceBEq]
      try (and_intros<;>first|(with_reducible trivial)|omega|exact nfc|trivial)
     ·simp only [go_sem,Nat.reduceBEq]
      exact Cv_tup (CvL_cons (Cv_agg (CvL_cons Cv_int (CvL_cons (ro_row (by first|rfl|simp) (lit_row (f:=c_TFrame) [r40] (fun _ _=>rfl) rfl)) CvL_nil))) (CvL_cons (Cv_agg (CvL_cons Cv_int (CvL_cons Cv_int (CvL_cons (ro_row (by first|rfl|simp) (upc_row (f:=c_TSleeper) r7.List r4.toNat 2 (TSleeper.mk ((gd r7.List r4.toNat).Aid) ((gd r7.List r4.toNat).Asleep) w2_4) (fun _ _ _ _=>rfl) (fun y hy=>match y,hy with|0,_=>rfl|1,_=>rfl|2,_=>rfl|(y+3),h=>absurd h nlt))) (CvL_cons (ro_row (by first|rfl|simp) (fun _ _ _ _=>rfl)) CvL_nil))))) (CvL_cons Cv_int CvL_nil)))
     ·simp only [go_sem,CvH]
   replace H:=cond_t hc H
   refine rg ctNo_ok ?_
   simp only [go_sem,Nat.reduceLT,Nat.reduceAdd]
   repeat ((with_reducible refine And.intro ?_ ?_);focus (first|(and_intros<;>first|(with_reducible trivial)|omega|assumption|exact nfc|first|exact rfl|exact trivial|exact fitI|exact .inr rfl|exact .inl rfl|exact fun x hx=>absurd hx (by omega))|grind))
   refine sq ctNo_ok ?_
   simp only [go_sem,Nat.reduceLeDiff,Nat.reduceAdd]
   repeat ((with_reducible refine And.intro ?_ ?_);focus (first|(with_reducible trivial)|omega|grind))
   refine seqM ?_
   refine sq ctNo_ok ?_
   simp only [go_sem]
   refine blkM ?_
   refine loop_den (fun s:(List TStored) × Int × (List TFrame)=>(tp 6 (.ptr 1 0 0 0::.top::.ptr 2 0 0 0::.ptr 3 0 0 0::.ptr 4 0 0 0::.ptr 5 0 0 0::.top::.int .i64 r4::.ptr 8 0 0 0::.ro 43 s.1.length false (enR c_TStored s.1)::.int .i64 (minI r10 p1.Most)::.ptr 9 0 0 0::.int .i64 s.2.1::tp 114 []))) (fun s=>[.dead,.lit 23 [.int .u8 p1.Start,.int .u8 p1.Deliver,.int .i64 p1.Most],.lit 25 [.int .u8 p3.x0,.int .u8 p3.x1,.int .u8 p3.x2,.int .u8 p3.x3,.int .u8 p3.x4,.int .u8 p3.x5],.lit 25 [.int .u8 p4.x0,.int .u8 p4.x1,.int .u8 p4.x2,.int .u8 p4.x3,.int .u8 p4.x4,.int .u8 p4.x5],.lit 33 [.int .i64 0,.ro 0 0 true (fun _ _=>.top)],.lit 52 [.int .i64 0,.int .i64 0,.ro 0 0 true (fun _ _=>.top),.ro 0 0 true (fun _ _=>.top)],.row 71 3 r7.List.length (enR c_TSleeper r7.List),.row 73 43 r7.Group.length (enR c_TStored r7.Group),.lit 52 [.int .i64 r7.Limit,.int .i64 r7.Stay,.sl 6 3 0 r7.List.length false,.sl 7 43 0 r7.Group.length false],.lit 33 [.int .i64 p2,.sl 10 41 0 s.2.2.length false],.row 30 41 s.2.2.length (enR c_TFrame s.2.2)]) (fun e:(List TStored) × (List TFrame)=>(tp 8 (.ptr 2 0 0 0::.ptr 3 0 0 0::.ptr 4 0 0 0::.ptr 5 0 0 0::.top::.int .i64 r4::.ptr 8 0 0 0::.ro 43 e.1.length false (enR c_TStored e.1)::.int .i64 (minI r10 p1.Most)::.ptr 9 0 0 0::tp 115 []))) (fun e=>[.dead,.dead,.lit 25 [.int .u8 p3.x0,.int .u8 p3.x1,.int .u8 p3.x2,.int .u8 p3.x3,.int .u8 p3.x4,.int .u8 p3.x5],.lit 25 [.int .u8 p4.x0,.int .u8 p4.x1,.int .u8 p4.x2,.int .u8 p4.x3,.int .u8 p4.x4,.int .u8 p4.x5],.lit 33 [.int .i64 0,.ro 0 0 true (fun _ _=>.top)],.lit 52 [.int .i64 0,.int .i64 0,.ro 0 0 true (fun _ _=>.top),.ro 0 0 true (fun _ _=>.top)],.row 71 3 r7.List.length (enR c_TSleeper r7.List),.row 73 43 r7.Group.length (enR c_TStored r7.Group),.lit 52 [.int .i64 r7.Limit,.int .i64 r7.Stay,.sl 6 3 0 r7.List.length false,.sl 7 43 0 r7.Group.length false],.lit 33 [.int .i64 p2,.sl 10 41 0 e.2.length false],.row 30 41 e.2.length (enR c_TFrame e.2)]) H ?_ (fun s o H hn1_1 hn2_1=>?_) (fun e H=>?_)
   ·refine SubF_of ⟨[some 0,some 1,some 2,some 3,some 4,some 5,some 6,some 7,some 8,some 9,none],?_,?_,by rfl,by rfl⟩
    ·simp [CvL,Cv,getM,tp]
    ·exact ⟨CvB_dead,(by simp [CvB,CvL,Cv,blkAt,geth]),(by simp [CvB,CvL,Cv,blkAt,geth]),(by simp [CvB,CvL,Cv,blkAt,geth]),(by simp [CvB,CvL,Cv,blkAt,geth]),(by simp [CvB,CvL,Cv,blkAt,geth]),(CvB_same nfA),(CvB_same nfA),(by simp [CvB,CvL,Cv,blkAt,geth,getM]),(by simp [CvB,CvL,Cv,blkAt,geth]),CvB_none,trivial⟩
   ·obtain ⟨v1_1,v1_2,v1_3⟩:=s
    unfold F30_L1 at H
    try dsimp only at H ⊢
    try simp only [tp]
    refine seqM ?_
    refine sq ctNo_ok ?_
    simp only [go_sem,Nat.reduceAdd]
    refine condM' rfl trivial (fun hc=>?_) (fun hc=>?_)
    ·replace H:=cond_f hc H
     refine rg ctNo_ok ?_
     simp only [go_sem]
     refine ⟨_,(Option.some.inj H).symm,?_⟩
     refine SubF_of ⟨[some 0,some 1,some 2,some 3,some 4,some 5,some 6,some 7,some 8,some 9,some 10],?_,?_,by rfl,by rfl⟩
     ·simp [CvL,Cv,getM]
     ·exact ⟨CvB_dead,CvB_dead,(by simp [CvB,CvL,Cv,blkAt,geth]),(by simp [CvB,CvL,Cv,blkAt,geth]),(by simp [CvB,CvL,Cv,blkAt,geth]),(by simp [CvB,CvL,Cv,blkAt,geth]),(CvB_same nfA),(CvB_same nfA),(by simp [CvB,CvL,Cv,blkAt,geth,getM]),(by simp [CvB,CvL,Cv,blkAt,geth,getM]),CvB_row nr_TFrame (by first|rfl|(simp;done)|(simp;omega)) (fun _ _ _ _=>rfl),trivial⟩
    replace H:=cond_t hc H
    refine rg ctNo_ok ?_
    simp only [go_sem]
    refine seqM ?_
    refine blkM ?_
    refine seqM ?_
    obtain ⟨r12,e13,H⟩:=bsi H
    refine rg ct30t4_ok ?_
    simp only [go_sem,Nat.reduceLeDiff,Nat.reduceLT,Nat.reduceAdd,ct30t4_58,body58,e13]
    repeat ((with_reducible refine And.intro ?_ ?_);focus (first|(and_intros<;>first|(with_reducible trivial)|omega|assumption|exact nfc|first|exact rfl|exact trivial|exact fitI|exact .inr rfl|exact .inl rfl|exact fun x hx=>absurd hx (by omega))|grind))
    refine seqM ?_
    obtain ⟨f14,H⟩:=need_some.1 H
    replace f14:=inb_iff.1 f14
    refine rg ctNo_ok ?_
    simp only [go_sem,Nat.reduceLT,Nat.reduceAdd,reduceCtorEq,f14]
    repeat ((with_reducible refine And.intro ?_ ?_);focus (first|(with_reducible trivial)|omega|grind))
    refine seqM ?_
    obtain ⟨f15,H⟩:=need_some.1 H
    replace f15:=slb_iff.1 f15
    obtain ⟨f16,H⟩:=need_some.1 H
    replace f16:=capb_iff.1 f16
    obtain ⟨f17,H⟩:=need_some.1 H
    replace f17:=slb_iff.1 f17
    obtain ⟨f18,H⟩:=need_some.1 H
    replace f18:=capb_iff.1 f18
    refine draw_rule shT_ok ctNo_ok 3 (by kernel_rfl) (by kernel_rfl) ?_
    intro an han
    simp only [d_nil,d_cons,nxtD,xrD,xoD,roEq,minL,List.append_nil,refsOp,refs,refsL,mask,maskF,place,placeF,okLog,pairOk,hit,inL,slotsF,ren,rnN,nrH,nrB,List.replicate_zero,List.replicate_succ,Nat.sub_self,Nat.add_zero,Nat.zero_add,Nat.reduceSub,Nat.not_lt_zero,Nat.zero_le,Nat.lt_add_one,go_sem,Nat.reduceLeDiff,Nat.reduceLT,Nat.reduceAdd,Nat.reduceSub,Nat.reduceBEq,f15,f17]
    repeat ((with_reducible refine And.intro ?_ ?_);focus (and_intros<;>first|(with_reducible trivial)|(show anB _ _ _=true;subst han;kernel_rfl)|(show (anB _ _ _ && _)=true;subst han;kernel_rfl)|omega|assumption|exact nrc|exact nfc|first|exact rfl|exact trivial|exact fitI|exact .inr rfl|exact .inl rfl|exact fun x hx=>absurd hx (by omega)|(intro x hx;(repeat (first|(and_intros<;>(first|exact rfl|exact trivial|exact fitI|exact .inr rfl|exact .inl rfl|exact fun x hx=>absurd hx (by omega)))|(exfalso;omega)|(rcases x with _|x)));done)|(refine Fit_app ?_ ?_<;>first|exact fitI|(intro x hx;(repeat (first|(and_intros<;>(first|exact rfl|exact trivial|exact fitI|exact .inr rfl|exact .inl rfl|exact fun x hx=>absurd hx (by omega)))|(exfalso;omega)|(rcases x with _|x)));done)|(refine Fit_app ?_ ?_<;>first|exact fitI|(intro x hx;(repeat (first|(and_intros<;>(first|exact rfl|exact trivial|exact fitI|exact .inr rfl|exact .inl rfl|exact fun x hx=>absurd hx (by omega)))|(exfalso;omega)|(rcases x with _|x)));done)))))
    obtain ⟨w19,hw20,H⟩:=bsi H
    replace hw20:=Option.some.inj hw20
    have lhw20:w19.length=r12.toNat - 0+(v1_1.length - (wr .i64 (r12+1)).toNat):=by rw [← hw20];simp only [List.length_append,List.length_take,List.length_drop,List.length_nil];omega
    refine subF_mean (t2:=(tp 6 (.ptr 1 0 0 0::.top::.ptr 2 0 0 0::.ptr 3 0 0 0::.ptr 4 0 0 0::.ptr 5 0 0 0::.top::.int .i64 r4::.ptr 8 0 0 0::.sl 14 43 0 w19.length false::.int .i64 (minI r10 p1.Most)::.ptr 9 0 0 0::.int .i64 v1_2::.top::.ptr 11 0 0 0::tp 112 []))) (h2:=[.dead,.lit 23 [.int .u8 p1.Start,.int .u8 p1.Deliver,.int .i64 p1.Most],.lit 25 [.int .u8 p3.x0,.int .u8 p3.x1,.int .u8 p3.x2,.int .u8 p3.x3,.int .u8 p3.x4,.int .u8 p3.x5],.lit 25 [.int .u8 p4.x0,.int .u8 p4.x1,.int .u8 p4.x2,.int .u8 p4.x3,.int .u8 p4.x4,.int .u8 p4.x5],.lit 33 [.int .i64 0,.ro 0 0 true (fun _ _=>.top)],.lit 52 [.int .i64 0,.int .i64 0,.ro 0 0 true (fun _ _=>.top),.ro 0 0 true (fun _ _=>.top)],.row 71 3 r7.List.length (enR c_TSleeper r7.List),.row 73 43 r7.Group.length (enR c_TStored r7.Group),.lit 52 [.int .i64 r7.Limit,.int .i64 r7.Stay,.sl 6 3 0 r7.List.length false,.sl 7 43 0 r7.Group.length false],.lit 33 [.int .i64 p2,.sl 10 41 0 v1_3.length false],.row 30 41 v1_3.length (enR c_TFrame v1_3),.lit 30 (.int .u8 ((((gd v1_1 r12.toNat).Frame).Head).Kind)::.int .u8 ((((gd v1_1 r12.toNat).Frame).Head).Sub)::.bool ((((gd v1_1 r12.toNat).Frame).Head).ToDs)::.bool ((((gd v1_1 r12.toNat).Frame).Head).FromDs)::.bool ((((gd v1_1 r12.toNat).Frame).Head).More)::.bool ((((gd v1_1 r12.toNat).Frame).Head).Retry)::.bool ((((gd v1_1 r12.toNat).Frame).Head).Sleep)::.bool ((((gd v1_1 r12.toNat).Frame).Head).MoreData)::.bool ((((gd v1_1 r12.toNat).Frame).Head).Protected)::.int .i64 ((((gd v1_1 r12.toNat).Frame).Head).Duration)::.int .u8 (((((gd v1_1 r12.toNat).Frame).Head).A1).x0)::.int .u8 (((((gd v1_1 r12.toNat).Frame).Head).A1).x1)::.int .u8 (((((gd v1_1 r12.toNat).Frame).Head).A1).x2)::.int .u8 (((((gd v1_1 r12.toNat).Frame).Head).A1).x3)::.int .u8 (((((gd v1_1 r12.toNat).Frame).Head).A1).x4)::.int .u8 (((((gd v1_1 r12.toNat).Frame).Head).A1).x5)::.int .u8 (((((gd v1_1 r12.toNat).Frame).Head).A2).x0)::.int .u8 (((((gd v1_1 r12.toNat).Frame).Head).A2).x1)::.int .u8 (((((gd v1_1 r12.toNat).Frame).Head).A2).x2)::.int .u8 (((((gd v1_1 r12.toNat).Frame).Head).A2).x3)::.int .u8 (((((gd v1_1 r12.toNat).Frame).Head).A2).x4)::.int .u8 (((((gd v1_1 r12.toNat).Frame).Head).A2).x5)::.int .u8 (((((gd v1_1 r12.toNat).Frame).Head).A3).x0)::.int .u8 (((((gd v1_1 r12.toNat).Frame).Head).A3).x1)::.int .u8 (((((gd v1_1 r12.toNat).Frame).Head).A3).x2)::.int .u8 (((((gd v1_1 r12.toNat).Frame).Head).A3).x3)::.int .u8 (((((gd v1_1 r12.toNat).Frame).Head).A3).x4)::.int .u8 (((((gd v1_1 r12.toNat).Frame).Head).A3).x5)::.int .u8 (((((gd v1_1 r12.toNat).Frame).Head).A4).x0)::.int .u8 (((((gd v1_1 r12.toNat).Frame).Head).A4).x1)::.int .u8 (((((gd v1_1 r12.toNat).Frame).Head).A4).x2)::.int .u8 (((((gd v1_1 r12.toNat).Frame).Head).A4).x3)::.int .u8 (((((gd v1_1 r12.toNat).Frame).Head).A4).x4)::.int .u8 (((((gd v1_1 r12.toNat).Frame).Head).A4).x5)::.int .i64 ((((gd v1_1 r12.toNat).Frame).Head).Seq)::.int .i64 ((((gd v1_1 r12.toNat).Frame).Head).Frag)::.int .i64 ((((gd v1_1 r12.toNat).Frame).Head).Tid)::.int .u8 ((((gd v1_1 r12.toNat).Frame).Head).Ack)::.bool ((((gd v1_1 r12.toNat).Frame).Head).Amsdu)::.bool ((((gd v1_1 r12.toNat).Frame).Head).Eosp)::.ro 1 ((((gd v1_1 r12.toNat).Frame).Body).length) false (enR c_u8 (((gd v1_1 r12.toNat).Frame).Body))::[]),.dead,.dead,.row 73 43 w19.length (enR c_TStored w19)]) ?_ ?_
    ·refine SubF_of ⟨[some 0,some 1,some 2,some 3,some 4,some 5,some 6,some 7,some 8,some 9,some 10,some 11,some 12,some 13,some 14],?_,?_,by rfl,by rfl⟩
     ·simp [CvL,Cv,getM,tp,lhw20]
     ·exact ⟨CvB_dead,(by simp [CvB,CvL,Cv,blkAt,geth]),(by simp [CvB,CvL,Cv,blkAt,geth]),(by simp [CvB,CvL,Cv,blkAt,geth]),(by simp [CvB,CvL,Cv,blkAt,geth]),(by simp [CvB,CvL,Cv,blkAt,geth]),CvB_row nr_TSleeper rfl (fun _ _ _ _=>rfl),CvB_row nr_TStored rfl (fun _ _ _ _=>rfl),(by simp [CvB,CvL,Cv,blkAt,geth,getM]),(by simp [CvB,CvL,Cv,blkAt,geth,getM]),CvB_row nr_TFrame rfl (fun _ _ _ _=>rfl),(by simp [CvB,CvL,Cv,blkAt,geth]),CvB_dead,CvB_dead,CvB_row nr_TStored lhw20 (hw20 ▸ (app_row2 (show (List.take r12.toNat v1_1).length=r12.toNat from (by rw [List.length_take];omega)) (f:=c_TStored) ([] ++ (List.take r12.toNat v1_1)) (v1_1.drop ((wr .i64 (r12+1)).toNat)) (app_row (f:=c_TStored) [] (List.take r12.toNat v1_1) (lit_row (f:=c_TStored) [] (fun _ _=>rfl) rfl) take_row) (fun _ _ _ _=>rfl))),trivial⟩
    simp only [tp]
    refine fz_mean [14] ?_ ?_
    ·simp only [go_sem,Nat.reduceBEq]
     try (and_intros<;>first|(with_reducible trivial)|omega|exact nfc|trivial)
    simp only [go_sem,Nat.reduceBEq,Nat.reduceAdd]
    refine sq ctNo_ok ?_
    simp only [go_sem,Nat.reduceLeDiff,Nat.reduceAdd,reduceCtorEq]
    repeat ((with_reducible refine And.intro ?_ ?_);focus (first|(with_reducible trivial)|omega|grind))
    refine seqM ?_
    obtain ⟨r21,e22,H⟩:=bsi H
    refine rg ct30t3_ok ?_
    simp only [go_sem,Nat.reduceLeDiff,Nat.reduceLT,Nat.reduceAdd,reduceCtorEq,ct30t3_35,body35,e22]
    repeat ((with_reducible refine And.intro ?_ ?_);focus (first|(and_intros<;>first|(with_reducible trivial)|omega|assumption|exact nfc|first|exact rfl|exact trivial|exact fitI|exact .inr rfl|exact .inl rfl|exact fun x hx=>absurd hx (by omega))|grind))
    obtain ⟨f23,H⟩:=need_some.1 H
    replace f23:=capb_iff.1 f23
    refine rg ctNo_ok ?_
    simp only [go_sem,Nat.reduceLeDiff,Nat.reduceLT,Nat.reduceAdd,Nat.reduceBEq,f23]
    repeat ((with_reducible refine And.intro ?_ ?_);focus (first|(and_intros<;>first|(with_reducible trivial)|omega|assumption|exact nfc|first|exact rfl|exact trivial|exact fitI|exact .inr rfl|exact .inl rfl|exact fun x hx=>absurd hx (by omega)|(intro x hx;(repeat (first|(and_intros<;>(first|exact rfl|exact trivial|exact fitI|exact .inr rfl|exact .inl rfl|exact fun x hx=>absurd hx (by omega)))|(exfalso;omega)|(rcases x with _|x)));done)|(refine Fit_app ?_ ?_<;>first|exact fitI|(intro x hx;(repeat (first|(and_intros<;>(first|exact rfl|exact trivial|exact fitI|exact .inr rfl|exact .inl rfl|exact fun x hx=>absurd hx (by omega)))|(exfalso;omega)|(rcases x with _|x)));done)|(refine Fit_app ?_ ?_<;>first|exact fitI|(intro x hx;(repeat (first|(and_intros<;>(first|exact rfl|exact trivial|exact fitI|exact .inr rfl|exact .inl rfl|exact fun x hx=>absurd hx (by omega)))|(exfalso;omega)|(rcases x with _|x)));done))))|grind))
    refine rg ctNo_ok ?_
    simp only [go_sem]
    refine ⟨_,(Option.some.inj H).symm,?_⟩
    refine SubF_of ⟨[some 0,some 1,some 2,some 3,some 4,some 5,some 6,some 7,some 8,some 9,some 16],?_,?_,by rfl,by rfl⟩
    ·simp [CvL,Cv,getM]
    ·exact ⟨CvB_dead,(by simp [CvB,CvL,Cv,blkAt,geth]),(by simp [CvB,CvL,Cv,blkAt,geth]),(by simp [CvB,CvL,Cv,blkAt,geth]),(by simp [CvB,CvL,Cv,blkAt,geth]),(by simp [CvB,CvL,Cv,blkAt,geth]),(CvB_same nfA),(CvB_same nfA),(by simp [CvB,CvL,Cv,blkAt,geth,getM]),(by simp [CvB,CvL,Cv,blkAt,geth,getM]),CvB_row nr_TFrame (by first|rfl|(simp;done)|(simp;omega)) (app_row (f:=c_TFrame) v1_3 [(TFrame.mk (THeader.mk ((((gd v1_1 r12.toNat).Frame).Head).Kind) ((((gd v1_1 r12.toNat).Frame).Head).Sub) ((((gd v1_1 r12.toNat).Frame).Head).ToDs) ((((gd v1_1 r12.toNat).Frame).Head).FromDs) ((((gd v1_1 r12.toNat).Frame).Head).More) ((((gd v1_1 r12.toNat).Frame).Head).Retry) ((((gd v1_1 r12.toNat).Frame).Head).Sleep) (bLt 0 r21) ((((gd v1_1 r12.toNat).Frame).Head).Protected) ((((gd v1_1 r12.toNat).Frame).Head).Duration) (A6u8.mk (((((gd v1_1 r12.toNat).Frame).Head).A1).x0) (((((gd v1_1 r12.toNat).Frame).Head).A1).x1) (((((gd v1_1 r12.toNat).Frame).Head).A1).x2) (((((gd v1_1 r12.toNat).Frame).Head).A1).x3) (((((gd v1_1 r12.toNat).Frame).Head).A1).x4) (((((gd v1_1 r12.toNat).Frame).Head).A1).x5)) (A6u8.mk (((((gd v1_1 r12.toNat).Frame).Head).A2).x0) (((((gd v1_1 r12.toNat).Frame).Head).A2).x1) (((((gd v1_1 r12.toNat).Frame).Head).A2).x2) (((((gd v1_1 r12.toNat).Frame).Head).A2).x3) (((((gd v1_1 r12.toNat).Frame).Head).A2).x4) (((((gd v1_1 r12.toNat).Frame).Head).A2).x5)) (A6u8.mk (((((gd v1_1 r12.toNat).Frame).Head).A3).x0) (((((gd v1_1 r12.toNat).Frame).Head).A3).x1) (((((gd v1_1 r12.toNat).Frame).Head).A3).x2) (((((gd v1_1 r12.toNat).Frame).Head).A3).x3) (((((gd v1_1 r12.toNat).Frame).Head).A3).x4) (((((gd v1_1 r12.toNat).Frame).Head).A3).x5)) (A6u8.mk (((((gd v1_1 r12.toNat).Frame).Head).A4).x0) (((((gd v1_1 r12.toNat).Frame).Head).A4).x1) (((((gd v1_1 r12.toNat).Frame).Head).A4).x2) (((((gd v1_1 r12.toNat).Frame).Head).A4).x3) (((((gd v1_1 r12.toNat).Frame).Head).A4).x4) (((((gd v1_1 r12.toNat).Frame).Head).A4).x5)) ((((gd v1_1 r12.toNat).Frame).Head).Seq) ((((gd v1_1 r12.toNat).Frame).Head).Frag) ((((gd v1_1 r12.toNat).Frame).Head).Tid) ((((gd v1_1 r12.toNat).Frame).Head).Ack) ((((gd v1_1 r12.toNat).Frame).Head).Amsdu) (bEq v1_2 (minI r10 p1.Most))) (((gd v1_1 r12.toNat).Frame).Body))] (fun _ _ _ _=>rfl) (lit_row (f:=c_TFrame) [(TFrame.mk (THeader.mk ((((gd v1_1 r12.toNat).Frame).Head).Kind) ((((gd v1_1 r12.toNat).Frame).Head).Sub) ((((gd v1_1 r12.toNat).Frame).Head).ToDs) ((((gd v1_1 r12.toNat).Frame).Head).FromDs) ((((gd v1_1 r12.toNat).Frame).Head).More) ((((gd v1_1 r12.toNat).Frame).Head).Retry) ((((gd v1_1 r12.toNat).Frame).Head).Sleep) (bLt 0 r21) ((((gd v1_1 r12.toNat).Frame).Head).Protected) ((((gd v1_1 r12.toNat).Frame).Head).Duration) (A6u8.mk (((((gd v1_1 r12.toNat).Frame).Head).A1).x0) (((((gd v1_1 r12.toNat).Frame).Head).A1).x1) (((((gd v1_1 r12.toNat).Frame).Head).A1).x2) (((((gd v1_1 r12.toNat).Frame).Head).A1).x3) (((((gd v1_1 r12.toNat).Frame).Head).A1).x4) (((((gd v1_1 r12.toNat).Frame).Head).A1).x5)) (A6u8.mk (((((gd v1_1 r12.toNat).Frame).Head).A2).x0) (((((gd v1_1 r12.toNat).Frame).Head).A2).x1) (((((gd v1_1 r12.toNat).Frame).Head).A2).x2) (((((gd v1_1 r12.toNat).Frame).Head).A2).x3) (((((gd v1_1 r12.toNat).Frame).Head).A2).x4) (((((gd v1_1 r12.toNat).Frame).Head).A2).x5)) (A6u8.mk (((((gd v1_1 r12.toNat).Frame).Head).A3).x0) (((((gd v1_1 r12.toNat).Frame).Head).A3).x1) (((((gd v1_1 r12.toNat).Frame).Head).A3).x2) (((((gd v1_1 r12.toNat).Frame).Head).A3).x3) (((((gd v1_1 r12.toNat).Frame).Head).A3).x4) (((((gd v1_1 r12.toNat).Frame).Head).A3).x5)) (A6u8.mk (((((gd v1_1 r12.toNat).Frame).Head).A4).x0) (((((gd v1_1 r12.toNat).Frame).Head).A4).x1) (((((gd v1_1 r12.toNat).Frame).Head).A4).x2) (((((gd v1_1 r12.toNat).Frame).Head).A4).x3) (((((gd v1_1 r12.toNat).Frame).Head).A4).x4) (((((gd v1_1 r12.toNat).Frame).Head).A4).x5)) ((((gd v1_1 r12.toNat).Frame).Head).Seq) ((((gd v1_1 r12.toNat).Frame).Head).Frag) ((((gd v1_1 r12.toNat).Frame).Head).Tid) ((((gd v1_1 r12.toNat).Frame).Head).Ack) ((((gd v1_1 r12.toNat).Frame).Head).Amsdu) (bEq v1_2 (minI r10 p1.Most))) (((gd v1_1 r12.toNat).Frame).Body))] (fun _ _=>rfl) rfl)),trivial⟩
   ·obtain ⟨w1_4,w1_7⟩:=e
    try dsimp only at H ⊢
    try simp only [tp]
    try simp only [m_normal]
    refine seqM ?_
    obtain ⟨f24,H⟩:=need_some.1 H
    replace f24:=inb_iff.1 f24
    refine rg ctNo_ok ?_
    simp only [go_sem,Nat.reduceLeDiff,Nat.reduceLT,Nat.reduceAdd,f24]
    repeat ((with_reducible refine And.intro ?_ ?_);focus (first|(with_reducible trivial)|omega|grind))
    refine seqM ?_
    refine sq ctNo_ok ?_
    simp only [go_sem]
    refine condM' rfl trivial (fun hc=>?_) (fun hc=>?_)
    ·replace H:=cond_f hc H
     refine rg ctNo_ok ?_
     simp only [go_sem]
     refine seqM ?_
     refine draw_rule shT_ok ctNo_ok 0 (by kernel_rfl) (by kernel_rfl) ?_
     intro an han
     simp only [d_nil,d_cons,nxtD,xrD,xoD,roEq,minL,List.append_nil,refsOp,refs,mask,maskF,place,placeF,okLog,pairOk,hit,inL,slotsF,nrH,nrB,nrL,nr,List.replicate_zero,Nat.sub_self,Nat.add_zero,Nat.zero_add,Nat.reduceSub,Nat.lt_add_one,go_sem,Nat.reduceLeDiff,Nat.reduceLT,Nat.reduceAdd,Nat.reduceSub,Nat.reduceBEq]
     repeat ((with_reducible refine And.intro ?_ ?_);focus (and_intros<;>first|(with_reducible trivial)|(show anB _ _ _=true;subst han;kernel_rfl)|(show (anB _ _ _ && _)=true;subst han;kernel_rfl)|omega|assumption|exact nrc|exact nfc|first|exact rfl|exact trivial|exact fitI|exact .inr rfl|exact .inl rfl|exact fun x hx=>absurd hx (by omega)))
     refine rg ctNo_ok ?_
     simp only [go_sem,Nat.reduceLT,Nat.reduceAdd]
     obtain rfl:=Option.some.inj H
     refine ⟨[10,6,7,2,3,4,5,8,9],?_,?_,[],?_,?_,rfl⟩
     ·simp only [go_sem,Nat.reduceBEq]
      try (and_intros<;>first|(with_reducible trivial)|omega|exact nfc|trivial)
     ·simp only [go_sem,Nat.reduceBEq]
      try (and_intros<;>first|(with_reducible trivial)|omega|exact nfc|trivial)
     ·simp only [go_sem,Nat.reduceBEq]
      exact Cv_tup (CvL_cons (Cv_agg (CvL_cons Cv_int (CvL_cons (ro_row (by first|rfl|simp) (fun _ _ _ _=>rfl)) CvL_nil))) (CvL_cons (Cv_agg (CvL_cons Cv_int (CvL_cons Cv_int (CvL_cons (ro_row (by first|rfl|simp) (upc_row (f:=c_TSleeper) r7.List r4.toNat 2 (TSleeper.mk ((gd r7.List r4.toNat).Aid) ((gd r7.List r4.toNat).Asleep) w1_4) (fun _ _ _ _=>rfl) (fun y hy=>match y,hy with|0,_=>rfl|1,_=>rfl|2,_=>rfl|(y+3),h=>absurd h nlt))) (CvL_cons (ro_row (by first|rfl|simp) (fun _ _ _ _=>rfl)) CvL_nil))))) (CvL_cons Cv_int CvL_nil)))
     ·simp only [go_sem,CvH]
    replace H:=cond_t hc H
    refine regO ?_
    obtain ⟨r25,e26,H⟩:=bsi H
    refine cutO shT_ok ct30t5_ok 3 ?_
    simp only [kO_normal,List.take_succ_cons,List.take_zero,List.drop_succ_cons,List.drop_zero,go_sem,Nat.reduceLT,Nat.reduceAdd,ct30t5_43,body43,e26]
    repeat ((with_reducible refine And.intro ?_ ?_);focus (first|(and_intros<;>first|(with_reducible trivial)|omega|assumption|exact nfc|first|exact rfl|exact trivial|exact fitI|exact .inr rfl|exact .inl rfl|exact fun x hx=>absurd hx (by omega)|(intro x hx;(repeat (first|(and_intros<;>(first|exact rfl|exact trivial|exact fitI|exact .inr rfl|exact .inl rfl|exact fun x hx=>absurd hx (by omega)))|(exfalso;omega)|(rcases x with _|x)));done))|grind))
    refine fzO [11] ?_ ?_
    ·simp only [go_sem,Nat.reduceBEq]
     try (and_intros<;>first|(with_reducible trivial)|omega|exact nfc|trivial)
    simp only [go_sem,Nat.reduceBEq,Nat.reduceAdd]
    refine cutO shT_ok ctNo_ok 3 ?_
    simp only [kO_normal,List.take_succ_cons,List.take_zero,List.drop_succ_cons,List.drop_zero,go_sem,Nat.reduceLeDiff,Nat.reduceAdd]
    repeat ((with_reducible refine And.intro ?_ ?_);focus (first|(and_intros<;>first|(with_reducible trivial)|omega|assumption|exact nfc|first|exact rfl|exact trivial|exact fitI|exact .inr rfl|exact .inl rfl|exact fun x hx=>absurd hx (by omega)|(intro x hx;(repeat (first|(and_intros<;>(first|exact rfl|exact trivial|exact fitI|exact .inr rfl|exact .inl rfl|exact fun x hx=>absurd hx (by omega)))|(exfalso;omega)|(rcases x with _|x)));done))|grind))
    refine endO ?_
    refine seqM ?_
    refine draw_rule shT_ok ctNo_ok 0 (by kernel_rfl) (by kernel_rfl) ?_
    intro an han
    simp only [d_nil,d_cons,nxtD,xrD,xoD,roEq,minL,List.append_nil,refsOp,refs,mask,maskF,place,placeF,okLog,pairOk,hit,inL,slotsF,nrH,nrB,nrL,nr,List.replicate_zero,Nat.sub_self,Nat.add_zero,Nat.zero_add,Nat.reduceSub,Nat.lt_add_one,go_sem,Nat.reduceLeDiff,Nat.reduceLT,Nat.reduceAdd,Nat.reduceSub,Nat.reduceBEq]
    repeat ((with_reducible refine And.intro ?_ ?_);focus (and_intros<;>first|(with_reducible trivial)|(show anB _ _ _=true;subst han;kernel_rfl)|(show (anB _ _ _ && _)=true;subst han;kernel_rfl)|omega|assumption|exact nrc|exact nfc|first|exact rfl|exact trivial|exact fitI|exact .inr rfl|exact .inl rfl|exact fun x hx=>absurd hx (by omega)|(intro x hx;(repeat (first|(and_intros<;>(first|exact rfl|exact trivial|exact fitI|exact .inr rfl|exact .inl rfl|exact fun x hx=>absurd hx (by omega)))|(exfalso;omega)|(rcases x with _|x)));done)))
    refine rg ctNo_ok ?_
    simp only [go_sem,Nat.reduceLT,Nat.reduceAdd]
    obtain rfl:=Option.some.inj H
    refine ⟨[12,6,7,2,3,4,5,8,9],?_,?_,[],?_,?_,rfl⟩
    ·simp only [go_sem,Nat.reduceBEq]
     try (and_intros<;>first|(with_reducible trivial)|omega|exact nfc|trivial)
    ·simp only [go_sem,Nat.reduceBEq]
     try (and_intros<;>first|(with_reducible trivial)|omega|exact nfc|trivial)
    ·simp only [go_sem,Nat.reduceBEq]
     exact Cv_tup (CvL_cons (Cv_agg (CvL_cons Cv_int (CvL_cons (ro_row (by first|rfl|simp) (lit_row (f:=c_TFrame) [r25] (fun _ _=>rfl) rfl)) CvL_nil))) (CvL_cons (Cv_agg (CvL_cons Cv_int (CvL_cons Cv_int (CvL_cons (ro_row (by first|rfl|simp) (upc_row (f:=c_TSleeper) r7.List r4.toNat 2 (TSleeper.mk ((gd r7.List r4.toNat).Aid) ((gd r7.List r4.toNat).Asleep) w1_4) (fun _ _ _ _=>rfl) (fun y hy=>match y,hy with|0,_=>rfl|1,_=>rfl|2,_=>rfl|(y+3),h=>absurd h nlt))) (CvL_cons (ro_row (by first|rfl|simp) (fun _ _ _ _=>rfl)) CvL_nil))))) (CvL_cons Cv_int CvL_nil)))
    ·simp only [go_sem,CvH]
  ·cases hb
 ·unfold body30 at hb
  split at hb<;>cases hb
noncomputable def F15 (p0:TFrame) (p1:TFrame):Option (Bool) :=
 need (bif (bEq p0.Head.Kind p1.Head.Kind && (bEq p0.Head.Sub p1.Head.Sub && (bB p0.Head.ToDs p1.Head.ToDs && (bB p0.Head.FromDs p1.Head.FromDs && (bB p0.Head.More p1.Head.More && (bB p0.Head.Retry p1.Head.Retry && (bB p0.Head.Sleep p1.Head.Sleep && (bB p0.Head.MoreData p1.Head.MoreData && (bB p0.Head.Protected p1.Head.Protected && (bEq p0.Head.Duration p1.Head.Duration && (bEq p0.Head.A1.x0 p1.Head.A1.x0 && (bEq p0.Head.A1.x1 p1.Head.A1.x1 && (bEq p0.Head.A1.x2 p1.Head.A1.x2 && (bEq p0.Head.A1.x3 p1.Head.A1.x3 && (bEq p0.Head.A1.x4 p1.Head.A1.x4 && (bEq p0.Head.A1.x5 p1.Head.A1.x5 && (bEq p0.Head.A2.x0 p1.Head.A2.x0 && (bEq p0.Head.A2.x1 p1.Head.A2.x1 && (bEq p0.Head.A2.x2 p1.Head.A2.x2 && (bEq p0.Head.A2.x3 p1.Head.A2.x3 && (bEq p0.Head.A2.x4 p1.Head.A2.x4 && (bEq p0.Head.A2.x5 p1.Head.A2.x5 && (bEq p0.Head.A3.x0 p1.Head.A3.x0 && (bEq p0.Head.A3.x1 p1.Head.A3.x1 && (bEq p0.Head.A3.x2 p1.Head.A3.x2 && (bEq p0.Head.A3.x3 p1.Head.A3.x3 && (bEq p0.Head.A3.x4 p1.Head.A3.x4 && (bEq p0.Head.A3.x5 p1.Head.A3.x5 && (bEq p0.Head.A4.x0 p1.Head.A4.x0 && (bEq p0.Head.A4.x1 p1.Head.A4.x1 && (bEq p0.Head.A4.x2 p1.Head.A4.x2 && (bEq p0.Head.A4.x3 p1.Head.A4.x3 && (bEq p0.Head.A4.x4 p1.Head.A4.x4 && (bEq p0.Head.A4.x5 p1.Head.A4.x5 && (bEq p0.Head.Seq p1.Head.Seq && (bEq p0.Head.Frag p1.Head.Frag && (bEq p0.Head.Tid p1.Head.Tid && (bEq p0.Head.Ack p1.Head.Ack && (bB p0.Head.Amsdu p1.Head.Amsdu && (bB p0.Head.Eosp p1.Head.Eosp)))))))))))))))))))))))))))))))))))))))) then u8b p0.Body.length (enR c_u8 p0.Body) else true) <| need (bif (bEq p0.Head.Kind p1.Head.Kind && (bEq p0.Head.Sub p1.Head.Sub && (bB p0.Head.ToDs p1.Head.ToDs && (bB p0.Head.FromDs p1.Head.FromDs && (bB p0.Head.More p1.Head.More && (bB p0.Head.Retry p1.Head.Retry && (bB p0.Head.Sleep p1.Head.Sleep && (bB p0.Head.MoreData p1.Head.MoreData && (bB p0.Head.Protected p1.Head.Protected && (bEq p0.Head.Duration p1.Head.Duration && (bEq p0.Head.A1.x0 p1.Head.A1.x0 && (bEq p0.Head.A1.x1 p1.Head.A1.x1 && (bEq p0.Head.A1.x2 p1.Head.A1.x2 && (bEq p0.Head.A1.x3 p1.Head.A1.x3 && (bEq p0.Head.A1.x4 p1.Head.A1.x4 && (bEq p0.Head.A1.x5 p1.Head.A1.x5 && (bEq p0.Head.A2.x0 p1.Head.A2.x0 && (bEq p0.Head.A2.x1 p1.Head.A2.x1 && (bEq p0.Head.A2.x2 p1.Head.A2.x2 && (bEq p0.Head.A2.x3 p1.Head.A2.x3 && (bEq p0.Head.A2.x4 p1.Head.A2.x4 && (bEq p0.Head.A2.x5 p1.Head.A2.x5 && (bEq p0.Head.A3.x0 p1.Head.A3.x0 && (bEq p0.Head.A3.x1 p1.Head.A3.x1 && (bEq p0.Head.A3.x2 p1.Head.A3.x2 && (bEq p0.Head.A3.x3 p1.Head.A3.x3 && (bEq p0.Head.A3.x4 p1.Head.A3.x4 && (bEq p0.Head.A3.x5 p1.Head.A3.x5 && (bEq p0.Head.A4.x0 p1.Head.A4.x0 && (bEq p0.Head.A4.x1 p1.Head.A4.x1 && (bEq p0.Head.A4.x2 p1.Head.A4.x2 && (bEq p0.Head.A4.x3 p1.Head.A4.x3 && (bEq p0.Head.A4.x4 p1.Head.A4.x4 && (bEq p0.Head.A4.x5 p1.Head.A4.x5 && (bEq p0.Head.Seq p1.Head.Seq && (bEq p0.Head.Frag p1.Head.Frag && (bEq p0.Head.Tid p1.Head.Tid && (bEq p0.Head.Ack p1.Head.Ack && (bB p0.Head.Amsdu p1.Head.Amsdu && (bB p0.Head.Eosp p1.Head.Eosp)))))))))))))))))))))))))))))))))))))))) then u8b p1.Body.length (enR c_u8 p1.Body) else true) <| some ((bEq p0.Head.Kind p1.Head.Kind && (bEq p0.Head.Sub p1.Head.Sub && (bB p0.Head.ToDs p1.Head.ToDs && (bB p0.Head.FromDs p1.Head.FromDs && (bB p0.Head.More p1.Head.More && (bB p0.Head.Retry p1.Head.Retry && (bB p0.Head.Sleep p1.Head.Sleep && (bB p0.Head.MoreData p1.Head.MoreData && (bB p0.Head.Protected p1.Head.Protected && (bEq p0.Head.Duration p1.Head.Duration && (bEq p0.Head.A1.x0 p1.Head.A1.x0 && (bEq p0.Head.A1.x1 p1.Head.A1.x1 && (bEq p0.Head.A1.x2 p1.Head.A1.x2 && (bEq p0.Head.A1.x3 p1.Head.A1.x3 && (bEq p0.Head.A1.x4 p1.Head.A1.x4 && (bEq p0.Head.A1.x5 p1.Head.A1.x5 && (bEq p0.Head.A2.x0 p1.Head.A2.x0 && (bEq p0.Head.A2.x1 p1.Head.A2.x1 && (bEq p0.Head.A2.x2 p1.Head.A2.x2 && (bEq p0.Head.A2.x3 p1.Head.A2.x3 && (bEq p0.Head.A2.x4 p1.Head.A2.x4 && (bEq p0.Head.A2.x5 p1.Head.A2.x5 && (bEq p0.Head.A3.x0 p1.Head.A3.x0 && (bEq p0.Head.A3.x1 p1.Head.A3.x1 && (bEq p0.Head.A3.x2 p1.Head.A3.x2 && (bEq p0.Head.A3.x3 p1.Head.A3.x3 && (bEq p0.Head.A3.x4 p1.Head.A3.x4 && (bEq p0.Head.A3.x5 p1.Head.A3.x5 && (bEq p0.Head.A4.x0 p1.Head.A4.x0 && (bEq p0.Head.A4.x1 p1.Head.A4.x1 && (bEq p0.Head.A4.x2 p1.Head.A4.x2 && (bEq p0.Head.A4.x3 p1.Head.A4.x3 && (bEq p0.Head.A4.x4 p1.Head.A4.x4 && (bEq p0.Head.A4.x5 p1.Head.A4.x5 && (bEq p0.Head.Seq p1.Head.Seq && (bEq p0.Head.Frag p1.Head.Frag && (bEq p0.Head.Tid p1.Head.Tid && (bEq p0.Head.Ack p1.Head.Ack && (bB p0.Head.Amsdu p1.Head.Amsdu && (bB p0.Head.Eosp p1.Head.Eosp)))))))))))))))))))))))))))))))))))))))) && (sEq (bytesC p0.Body.length (enR c_u8 p0.Body)) (bytesC p1.Body.length (enR c_u8 p1.Body))))
noncomputable def body15:List AV->AR
 | [v0,v1]=>.pure (aK 41 k_TFrame v0/\aK 41 k_TFrame v1/\(F15 (g_TFrame (aL v0)) (g_TFrame (aL v1))).isSome=true) (.bool (gt (F15 (g_TFrame (aL v0)) (g_TFrame (aL v1)))))
 | _=>.fail
theorem ok15:FnOk Try.prog 15 (pureC body15):=by
 refine pure_fnM body15 (rs:=[.tmp 4]) Try.func15 (by kernel_rfl) rfl rfl ?_
 intro l ob v hb hob
 unfold body15 at hb
 split at hb
 ·rename_i v0 v1
  injection hb with q1 q2;subst q1 q2
  obtain ⟨hk0_0,hk1_0,hob⟩:=hob
  obtain ⟨r,H⟩:=Option.isSome_iff_exists.1 hob
  rw [H,gt_some]
  have hw0:=wA_TFrame hk0_0
  have hw1:=wA_TFrame hk1_0
  generalize g_TFrame (aL v0)=p0 at H hw0
  generalize g_TFrame (aL v1)=p1 at H hw1
  refine ⟨[.agg (.int .u8 p0.Head.Kind::.int .u8 p0.Head.Sub::.bool p0.Head.ToDs::.bool p0.Head.FromDs::.bool p0.Head.More::.bool p0.Head.Retry::.bool p0.Head.Sleep::.bool p0.Head.MoreData::.bool p0.Head.Protected::.int .i64 p0.Head.Duration::.int .u8 p0.Head.A1.x0::.int .u8 p0.Head.A1.x1::.int .u8 p0.Head.A1.x2::.int .u8 p0.Head.A1.x3::.int .u8 p0.Head.A1.x4::.int .u8 p0.Head.A1.x5::.int .u8 p0.Head.A2.x0::.int .u8 p0.Head.A2.x1::.int .u8 p0.Head.A2.x2::.int .u8 p0.Head.A2.x3::.int .u8 p0.Head.A2.x4::.int .u8 p0.Head.A2.x5::.int .u8 p0.Head.A3.x0::.int .u8 p0.Head.A3.x1::.int .u8 p0.Head.A3.x2::.int .u8 p0.Head.A3.x3::.int .u8 p0.Head.A3.x4::.int .u8 p0.Head.A3.x5::.int .u8 p0.Head.A4.x0::.int .u8 p0.Head.A4.x1::.int .u8 p0.Head.A4.x2::.int .u8 p0.Head.A4.x3::.int .u8 p0.Head.A4.x4::.int .u8 p0.Head.A4.x5::.int .i64 p0.Head.Seq::.int .i64 p0.Head.Frag::.int .i64 p0.Head.Tid::.int .u8 p0.Head.Ack::.bool p0.Head.Amsdu::.bool p0.Head.Eosp::.ro 1 p0.Body.length false (enR c_u8 p0.Body)::[]),.agg (.int .u8 p1.Head.Kind::.int .u8 p1.Head.Sub::.bool p1.Head.ToDs::.bool p1.Head.FromDs::.bool p1.Head.More::.bool p1.Head.Retry::.bool p1.Head.Sleep::.bool p1.Head.MoreData::.bool p1.Head.Protected::.int .i64 p1.Head.Duration::.int .u8 p1.Head.A1.x0::.int .u8 p1.Head.A1.x1::.int .u8 p1.Head.A1.x2::.int .u8 p1.Head.A1.x3::.int .u8 p1.Head.A1.x4::.int .u8 p1.Head.A1.x5::.int .u8 p1.Head.A2.x0::.int .u8 p1.Head.A2.x1::.int .u8 p1.Head.A2.x2::.int .u8 p1.Head.A2.x3::.int .u8 p1.Head.A2.x4::.int .u8 p1.Head.A2.x5::.int .u8 p1.Head.A3.x0::.int .u8 p1.Head.A3.x1::.int .u8 p1.Head.A3.x2::.int .u8 p1.Head.A3.x3::.int .u8 p1.Head.A3.x4::.int .u8 p1.Head.A3.x5::.int .u8 p1.Head.A4.x0::.int .u8 p1.Head.A4.x1::.int .u8 p1.Head.A4.x2::.int .u8 p1.Head.A4.x3::.int .u8 p1.Head.A4.x4::.int .u8 p1.Head.A4.x5::.int .i64 p1.Head.Seq::.int .i64 p1.Head.Frag::.int .i64 p1.Head.Tid::.int .u8 p1.Head.Ack::.bool p1.Head.Amsdu::.bool p1.Head.Eosp::.ro 1 p1.Body.length false (enR c_u8 p1.Body)::[])],_,(fun E vs F=>FR_wk1 hw0.1 F (fun vs F=>FR_wk1 hw1.1 F (fun vs F=>F))),rfl,rfl,?_⟩
  rw [Try.ntmps15]
  simp only [List.length_cons,List.length_nil,Nat.reduceAdd,Nat.reduceSub,List.replicate_succ,List.replicate_zero,List.cons_append,List.nil_append]
  unfold F15 at H
  try dsimp only at H
  refine sq ctNo_ok ?_
  simp only [go_sem]
  refine seqM ?_
  obtain ⟨f1,H⟩:=need_some.1 H
  replace f1:=g_iff.1 f1
  replace f1:=fun g=>u8b_iff.1 (f1 g)
  obtain ⟨f2,H⟩:=need_some.1 H
  replace f2:=g_iff.1 f2
  replace f2:=fun g=>u8b_iff.1 (f2 g)
  refine rg ctNo_ok ?_
  simp only [go_sem,Nat.reduceLeDiff,Nat.reduceLT,Nat.reduceAdd,reduceCtorEq]
  repeat ((with_reducible refine And.intro ?_ ?_);focus (first|(with_reducible trivial)|omega|exact f1|exact f2|(intro g;have q:=f1 (by first|exact g|(rw [g];rfl)|simpa using g);first|exact q|exact ⟨q.1,q.2.1⟩|exact q.2.2|omega|exact ⟨g,q⟩|exact ⟨trivial,q⟩|exact ⟨g,q.1,q.2.1⟩|exact ⟨g,q.2.2⟩)|(intro g;have q:=f2 (by first|exact g|(rw [g];rfl)|simpa using g);first|exact q|exact ⟨q.1,q.2.1⟩|exact q.2.2|omega|exact ⟨g,q⟩|exact ⟨trivial,q⟩|exact ⟨g,q.1,q.2.1⟩|exact ⟨g,q.2.2⟩)|grind))
  refine rg ctNo_ok ?_
  simp only [go_sem]
  obtain rfl:=Option.some.inj H
  first|rfl|simp only [Bool.and_false,Bool.false_and,Bool.and_true,Bool.true_and]
 ·cases hb
noncomputable def ct45t0:Ct:=tab [(15,pureC body15)]
theorem ct45t0_ok:CtOk Try.prog ct45t0:=tab_cons ok15 <| tab_nil
theorem ct45t0_15 (l:List AV) (h:List ABlk):ct45t0 15 l h=pureC body15 l h:=rfl
noncomputable def F45_L1 (p0:List TFrame) (p1:List TFrame) (v1_1:Int):Option (Lp (Int) ((Unit) ⊕ (Bool))) :=
 bif (bLt v1_1 (p0.length:Nat)) then (need (inb v1_1 p0.length) <| need (inb v1_1 p1.length) <| (F15 (TFrame.mk (THeader.mk (((gd p0 v1_1.toNat).Head).Kind) (((gd p0 v1_1.toNat).Head).Sub) (((gd p0 v1_1.toNat).Head).ToDs) (((gd p0 v1_1.toNat).Head).FromDs) (((gd p0 v1_1.toNat).Head).More) (((gd p0 v1_1.toNat).Head).Retry) (((gd p0 v1_1.toNat).Head).Sleep) (((gd p0 v1_1.toNat).Head).MoreData) (((gd p0 v1_1.toNat).Head).Protected) (((gd p0 v1_1.toNat).Head).Duration) (A6u8.mk ((((gd p0 v1_1.toNat).Head).A1).x0) ((((gd p0 v1_1.toNat).Head).A1).x1) ((((gd p0 v1_1.toNat).Head).A1).x2) ((((gd p0 v1_1.toNat).Head).A1).x3) ((((gd p0 v1_1.toNat).Head).A1).x4) ((((gd p0 v1_1.toNat).Head).A1).x5)) (A6u8.mk ((((gd p0 v1_1.toNat).Head).A2).x0) ((((gd p0 v1_1.toNat).Head).A2).x1) ((((gd p0 v1_1.toNat).Head).A2).x2) ((((gd p0 v1_1.toNat).Head).A2).x3) ((((gd p0 v1_1.toNat).Head).A2).x4) ((((gd p0 v1_1.toNat).Head).A2).x5)) (A6u8.mk ((((gd p0 v1_1.toNat).Head).A3).x0) ((((gd p0 v1_1.toNat).Head).A3).x1) ((((gd p0 v1_1.toNat).Head).A3).x2) ((((gd p0 v1_1.toNat).Head).A3).x3) ((((gd p0 v1_1.toNat).Head).A3).x4) ((((gd p0 v1_1.toNat).Head).A3).x5)) (A6u8.mk ((((gd p0 v1_1.toNat).Head).A4).x0) ((((gd p0 v1_1.toNat).Head).A4).x1) ((((gd p0 v1_1.toNat).Head).A4).x2) ((((gd p0 v1_1.toNat).Head).A4).x3) ((((gd p0 v1_1.toNat).Head).A4).x4) ((((gd p0 v1_1.toNat).Head).A4).x5)) (((gd p0 v1_1.toNat).Head).Seq) (((gd p0 v1_1.toNat).Head).Frag) (((gd p0 v1_1.toNat).Head).Tid) (((gd p0 v1_1.toNat).Head).Ack) (((gd p0 v1_1.toNat).Head).Amsdu) (((gd p0 v1_1.toNat).Head).Eosp)) ((gd p0 v1_1.toNat).Body)) (TFrame.mk (THeader.mk (((gd p1 v1_1.toNat).Head).Kind) (((gd p1 v1_1.toNat).Head).Sub) (((gd p1 v1_1.toNat).Head).ToDs) (((gd p1 v1_1.toNat).Head).FromDs) (((gd p1 v1_1.toNat).Head).More) (((gd p1 v1_1.toNat).Head).Retry) (((gd p1 v1_1.toNat).Head).Sleep) (((gd p1 v1_1.toNat).Head).MoreData) (((gd p1 v1_1.toNat).Head).Protected) (((gd p1 v1_1.toNat).Head).Duration) (A6u8.mk ((((gd p1 v1_1.toNat).Head).A1).x0) ((((gd p1 v1_1.toNat).Head).A1).x1) ((((gd p1 v1_1.toNat).Head).A1).x2) ((((gd p1 v1_1.toNat).Head).A1).x3) ((((gd p1 v1_1.toNat).Head).A1).x4) ((((gd p1 v1_1.toNat).Head).A1).x5)) (A6u8.mk ((((gd p1 v1_1.toNat).Head).A2).x0) ((((gd p1 v1_1.toNat).Head).A2).x1) ((((gd p1 v1_1.toNat).Head).A2).x2) ((((gd p1 v1_1.toNat).Head).A2).x3) ((((gd p1 v1_1.toNat).Head).A2).x4) ((((gd p1 v1_1.toNat).Head).A2).x5)) (A6u8.mk ((((gd p1 v1_1.toNat).Head).A3).x0) ((((gd p1 v1_1.toNat).Head).A3).x1) ((((gd p1 v1_1.toNat).Head).A3).x2) ((((gd p1 v1_1.toNat).Head).A3).x3) ((((gd p1 v1_1.toNat).Head).A3).x4) ((((gd p1 v1_1.toNat).Head).A3).x5)) (A6u8.mk ((((gd p1 v1_1.toNat).Head).A4).x0) ((((gd p1 v1_1.toNat).Head).A4).x1) ((((gd p1 v1_1.toNat).Head).A4).x2) ((((gd p1 v1_1.toNat).Head).A4).x3) ((((gd p1 v1_1.toNat).Head).A4).x4) ((((gd p1 v1_1.toNat).Head).A4).x5)) (((gd p1 v1_1.toNat).Head).Seq) (((gd p1 v1_1.toNat).Head).Frag) (((gd p1 v1_1.toNat).Head).Tid) (((gd p1 v1_1.toNat).Head).Ack) (((gd p1 v1_1.toNat).Head).Amsdu) (((gd p1 v1_1.toNat).Head).Eosp)) ((gd p1 v1_1.toNat).Body))).bind fun r3=>bif (!r3) then (some (.done (.inr false))) else (some (.next (wr .i64 (v1_1+1))))) else (some (.done (.inl ())))
noncomputable def F45 (p0:List TFrame) (p1:List TFrame):Option (Bool) :=
 bif (!bEq (p0.length:Nat) (p1.length:Nat)) then (some false) else (lp (loopD (fun s=>F45_L1 p0 p1 s) 0) (fun _=>some true) some)
noncomputable def body45:List AV->AR
 | [v0,v1]=>.pure (lK k_TFrame 41 v0/\lK k_TFrame 41 v1/\(F45 (lA g_TFrame v0) (lA g_TFrame v1)).isSome=true) (.bool (gt (F45 (lA g_TFrame v0) (lA g_TFrame v1))))
 | _=>.fail
theorem ok45:FnOk Try.prog 45 (pureC body45):=by
 refine pure_fnM body45 (rs:=[.tmp 4]) Try.func45 (by kernel_rfl) rfl rfl ?_
 intro l ob v hb hob
 unfold body45 at hb
 split at hb
 ·rename_i v0 v1
  injection hb with q1 q2;subst q1 q2
  obtain ⟨hk0_0,hk1_0,hob⟩:=hob
  obtain ⟨r,H⟩:=Option.isSome_iff_exists.1 hob
  rw [H,gt_some]
  have hw0:=lK_wk (fun r h=>w_TFrame h) hk0_0
  have hw1:=lK_wk (fun r h=>w_TFrame h) hk1_0
  generalize lA g_TFrame v0=p0 at H hw0
  generalize lA g_TFrame v1=p1 at H hw1
  refine ⟨[.ro 41 p0.length false (enR c_TFrame p0),.ro 41 p1.length false (enR c_TFrame p1)],_,(fun E vs F=>FR_wk1 hw0.1 F (fun vs F=>FR_wk1 hw1.1 F (fun vs F=>F))),rfl,rfl,?_⟩
  rw [Try.ntmps45]
  simp only [List.length_cons,List.length_nil,Nat.reduceAdd,Nat.reduceSub,List.replicate_succ,List.replicate_zero,List.cons_append,List.nil_append]
  unfold F45 at H
  try dsimp only at H
  refine sq ctNo_ok ?_
  simp only [go_sem]
  refine seqM ?_
  refine sq ctNo_ok ?_
  simp only [go_sem]
  repeat ((with_reducible refine And.intro ?_ ?_);focus (first|(and_intros<;>first|(with_reducible trivial)|omega|assumption|exact nfc|first|exact rfl|exact trivial|exact fitI|exact .inr rfl|exact .inl rfl|exact fun x hx=>absurd hx (by omega))|grind))
  refine condM rfl trivial (fun hc=>?_) (fun hc=>?_)
  ·replace H:=cond_t hc H
   refine sq ctNo_ok ?_
   simp only [go_sem]
   refine rg ctNo_ok ?_
   simp only [go_sem]
   obtain rfl:=Option.some.inj H
   first|rfl|simp only [Bool.and_false,Bool.false_and,Bool.and_true,Bool.true_and]
  replace H:=cond_f hc H
  refine rg ctNo_ok ?_
  simp only [go_sem]
  refine seqM ?_
  refine sq ctNo_ok ?_
  simp only [go_sem]
  refine blkM ?_
  refine loop_den (fun s:Int=>(.ro 41 p0.length false (enR c_TFrame p0)::.ro 41 p1.length false (enR c_TFrame p1)::.top::.top::.top::.int .i64 s::tp 21 [])) (fun s=>[]) (fun e:Unit=>(tp 27 [])) (fun e=>[]) H ?_ (fun v1_1 o H hn1_1 hn2_1=>?_) (fun e H=>?_)
  ·refine SubF_of ⟨[],?_,?_,by rfl,by rfl⟩
   ·simp [CvL,Cv,tp]
   ·trivial
  ·unfold F45_L1 at H
   try dsimp only at H ⊢
   try simp only [tp]
   refine seqM ?_
   refine sq ctNo_ok ?_
   simp only [go_sem]
   repeat ((with_reducible refine And.intro ?_ ?_);focus (first|(and_intros<;>first|(with_reducible trivial)|omega|assumption|exact nfc|first|exact rfl|exact trivial|exact fitI|exact .inr rfl|exact .inl rfl|exact fun x hx=>absurd hx (by omega))|grind))
   refine condM' rfl trivial (fun hc=>?_) (fun hc=>?_)
   ·replace H:=cond_f hc H
    refine rg ctNo_ok ?_
    simp only [go_sem]
    refine ⟨_,(Option.some.inj H).symm,?_⟩
    refine SubF_of ⟨[],?_,?_,by rfl,by rfl⟩
    ·simp [CvL,Cv]
    ·trivial
   replace H:=cond_t hc H
   refine rg ctNo_ok ?_
   simp only [go_sem]
   refine seqM ?_
   refine blkM ?_
   refine seqM ?_
   obtain ⟨f1,H⟩:=need_some.1 H
   replace f1:=inb_iff.1 f1
   obtain ⟨f2,H⟩:=need_some.1 H
   replace f2:=inb_iff.1 f2
   obtain ⟨r3,e4,H⟩:=bsi H
   refine draw_quiet shT_ok ct45t0_ok (by kernel_rfl) (by kernel_rfl) ?_
   simp only [go_sem,Nat.reduceLT,Nat.reduceAdd,ct45t0_15,body15,f1,f2,e4]
   repeat ((with_reducible refine And.intro ?_ ?_);focus (first|(and_intros<;>first|(with_reducible trivial)|omega|assumption|exact nfc|first|exact rfl|exact trivial|exact fitI|exact .inr rfl|exact .inl rfl|exact fun x hx=>absurd hx (by omega))|grind))
   refine condM rfl trivial (fun hc=>?_) (fun hc=>?_)
   ·replace H:=cond_t hc H
    refine sq ctNo_ok ?_
    simp only [go_sem]
    refine rg ctNo_ok ?_
    simp only [go_sem]
    have H:=hn2_1 _ (Option.some.inj H).symm
    obtain rfl:=Option.some.inj H
    first|rfl|simp only [Bool.and_false,Bool.false_and,Bool.and_true,Bool.true_and]
   replace H:=cond_f hc H
   refine rg ctNo_ok ?_
   simp only [go_sem]
   refine rg ctNo_ok ?_
   simp only [go_sem]
   refine ⟨_,(Option.some.inj H).symm,?_⟩
   refine SubF_of ⟨[],?_,?_,by rfl,by rfl⟩
   ·simp [CvL,Cv]
   ·trivial
  ·try dsimp only at H ⊢
   try simp only [tp]
   try simp only [m_normal]
   refine sq ctNo_ok ?_
   simp only [go_sem]
   refine rg ctNo_ok ?_
   simp only [go_sem]
   obtain rfl:=Option.some.inj H
   first|rfl|simp only [Bool.and_false,Bool.false_and,Bool.and_true,Bool.true_and]
 ·cases hb
noncomputable def ct16t0:Ct:=tab [(45,pureC body45)]
theorem ct16t0_ok:CtOk Try.prog ct16t0:=tab_cons ok45 <| tab_nil
theorem ct16t0_45 (l:List AV) (h:List ABlk):ct16t0 45 l h=pureC body45 l h:=rfl
noncomputable def F16 (p0:TPeriod) (p1:TPeriod):Option (Bool) :=
 need (bif (bEq p0.Aid p1.Aid) then ((F45 p0.Left p1.Left).isSome) else true) <| some ((bEq p0.Aid p1.Aid) && (gt (F45 p0.Left p1.Left)))
noncomputable def body16:List AV->AR
 | [v0,v1]=>.pure (aK 2 k_TPeriod v0/\aK 2 k_TPeriod v1/\(F16 (g_TPeriod (aL v0)) (g_TPeriod (aL v1))).isSome=true) (.bool (gt (F16 (g_TPeriod (aL v0)) (g_TPeriod (aL v1)))))
 | _=>.fail
theorem ok16:FnOk Try.prog 16 (pureC body16):=by
 refine pure_fnM body16 (rs:=[.tmp 4]) Try.func16 (by kernel_rfl) rfl rfl ?_
 intro l ob v hb hob
 unfold body16 at hb
 split at hb
 ·rename_i v0 v1
  injection hb with q1 q2;subst q1 q2
  obtain ⟨hk0_0,hk1_0,hob⟩:=hob
  obtain ⟨r,H⟩:=Option.isSome_iff_exists.1 hob
  rw [H,gt_some]
  have hw0:=wA_TPeriod hk0_0
  have hw1:=wA_TPeriod hk1_0
  generalize g_TPeriod (aL v0)=p0 at H hw0
  generalize g_TPeriod (aL v1)=p1 at H hw1
  refine ⟨[.agg [.int .i64 p0.Aid,.ro 41 p0.Left.length false (enR c_TFrame p0.Left)],.agg [.int .i64 p1.Aid,.ro 41 p1.Left.length false (enR c_TFrame p1.Left)]],_,(fun E vs F=>FR_wk1 hw0.1 F (fun vs F=>FR_wk1 hw1.1 F (fun vs F=>F))),rfl,rfl,?_⟩
  rw [Try.ntmps16]
  simp only [List.length_cons,List.length_nil,Nat.reduceAdd,Nat.reduceSub,List.replicate_succ,List.replicate_zero,List.cons_append,List.nil_append]
  unfold F16 at H
  try dsimp only at H
  refine sq ctNo_ok ?_
  simp only [go_sem]
  refine seqM ?_
  obtain ⟨f1,H⟩:=need_some.1 H
  replace f1:=g_iff.1 f1
  refine rg ct16t0_ok ?_
  simp only [go_sem,Nat.reduceLeDiff,Nat.reduceLT,Nat.reduceAdd,ct16t0_45,body45]
  repeat ((with_reducible refine And.intro ?_ ?_);focus (first|(with_reducible trivial)|omega|exact f1|(intro g;have q:=f1 (by first|exact g|(rw [g];rfl)|simpa using g);first|exact q|exact ⟨q.1,q.2.1⟩|exact q.2.2|omega|exact ⟨g,q⟩|exact ⟨trivial,q⟩|exact ⟨g,q.1,q.2.1⟩|exact ⟨g,q.2.2⟩)|(intro g;(try have q0:=f1 (by first|exact g|(rw [g];rfl)|simpa using g));and_intros<;>first|(with_reducible trivial)|assumption|exact nfc|(intro g2;rw [g,g2];rfl)|(intro g2;assumption)|(simp only [g,Bool.true_and,Bool.and_true,Bool.not_false,Bool.not_true];assumption)|grind)|(and_intros<;>first|(with_reducible trivial)|omega|assumption|exact nfc|first|exact rfl|exact trivial|exact fitI|exact .inr rfl|exact .inl rfl|exact fun x hx=>absurd hx (by omega))|grind))
  refine rg ctNo_ok ?_
  simp only [go_sem]
  obtain rfl:=Option.some.inj H
  first|rfl|simp only [Bool.and_false,Bool.false_and,Bool.and_true,Bool.true_and]
 ·cases hb
noncomputable def ct59t0:Ct:=tab [(15,pureC body15)]
theorem ct59t0_ok:CtOk Try.prog ct59t0:=tab_cons ok15 <| tab_nil
theorem ct59t0_15 (l:List AV) (h:List ABlk):ct59t0 15 l h=pureC body15 l h:=rfl
noncomputable def F59_L1 (p0:List TStored) (p1:List TStored) (v1_1:Int):Option (Lp (Int) ((Unit) ⊕ (Bool))) :=
 bif (bLt v1_1 (p0.length:Nat)) then (need (inb v1_1 p0.length) <| need (inb v1_1 p1.length) <| need (bif (!(!bEq ((gd p0 v1_1.toNat).Cat) ((gd p1 v1_1.toNat).Cat))) then inb v1_1 p0.length else true) <| need (bif (!(!bEq ((gd p0 v1_1.toNat).Cat) ((gd p1 v1_1.toNat).Cat))) then inb v1_1 p1.length else true) <| need (bif (!((!bEq ((gd p0 v1_1.toNat).Cat) ((gd p1 v1_1.toNat).Cat)) || (!bEq ((gd p0 v1_1.toNat).At) ((gd p1 v1_1.toNat).At)))) then inb v1_1 p0.length else true) <| need (bif (!((!bEq ((gd p0 v1_1.toNat).Cat) ((gd p1 v1_1.toNat).Cat)) || (!bEq ((gd p0 v1_1.toNat).At) ((gd p1 v1_1.toNat).At)))) then inb v1_1 p1.length else true) <| need (bif (!((!bEq ((gd p0 v1_1.toNat).Cat) ((gd p1 v1_1.toNat).Cat)) || (!bEq ((gd p0 v1_1.toNat).At) ((gd p1 v1_1.toNat).At)))) then ((F15 (TFrame.mk (THeader.mk ((((gd p0 v1_1.toNat).Frame).Head).Kind) ((((gd p0 v1_1.toNat).Frame).Head).Sub) ((((gd p0 v1_1.toNat).Frame).Head).ToDs) ((((gd p0 v1_1.toNat).Frame).Head).FromDs) ((((gd p0 v1_1.toNat).Frame).Head).More) ((((gd p0 v1_1.toNat).Frame).Head).Retry) ((((gd p0 v1_1.toNat).Frame).Head).Sleep) ((((gd p0 v1_1.toNat).Frame).Head).MoreData) ((((gd p0 v1_1.toNat).Frame).Head).Protected) ((((gd p0 v1_1.toNat).Frame).Head).Duration) (A6u8.mk (((((gd p0 v1_1.toNat).Frame).Head).A1).x0) (((((gd p0 v1_1.toNat).Frame).Head).A1).x1) (((((gd p0 v1_1.toNat).Frame).Head).A1).x2) (((((gd p0 v1_1.toNat).Frame).Head).A1).x3) (((((gd p0 v1_1.toNat).Frame).Head).A1).x4) (((((gd p0 v1_1.toNat).Frame).Head).A1).x5)) (A6u8.mk (((((gd p0 v1_1.toNat).Frame).Head).A2).x0) (((((gd p0 v1_1.toNat).Frame).Head).A2).x1) (((((gd p0 v1_1.toNat).Frame).Head).A2).x2) (((((gd p0 v1_1.toNat).Frame).Head).A2).x3) (((((gd p0 v1_1.toNat).Frame).Head).A2).x4) (((((gd p0 v1_1.toNat).Frame).Head).A2).x5)) (A6u8.mk (((((gd p0 v1_1.toNat).Frame).Head).A3).x0) (((((gd p0 v1_1.toNat).Frame).Head).A3).x1) (((((gd p0 v1_1.toNat).Frame).Head).A3).x2) (((((gd p0 v1_1.toNat).Frame).Head).A3).x3) (((((gd p0 v1_1.toNat).Frame).Head).A3).x4) (((((gd p0 v1_1.toNat).Frame).Head).A3).x5)) (A6u8.mk (((((gd p0 v1_1.toNat).Frame).Head).A4).x0) (((((gd p0 v1_1.toNat).Frame).Head).A4).x1) (((((gd p0 v1_1.toNat).Frame).Head).A4).x2) (((((gd p0 v1_1.toNat).Frame).Head).A4).x3) (((((gd p0 v1_1.toNat).Frame).Head).A4).x4) (((((gd p0 v1_1.toNat).Frame).Head).A4).x5)) ((((gd p0 v1_1.toNat).Frame).Head).Seq) ((((gd p0 v1_1.toNat).Frame).Head).Frag) ((((gd p0 v1_1.toNat).Frame).Head).Tid) ((((gd p0 v1_1.toNat).Frame).Head).Ack) ((((gd p0 v1_1.toNat).Frame).Head).Amsdu) ((((gd p0 v1_1.toNat).Frame).Head).Eosp)) (((gd p0 v1_1.toNat).Frame).Body)) (TFrame.mk (THeader.mk ((((gd p1 v1_1.toNat).Frame).Head).Kind) ((((gd p1 v1_1.toNat).Frame).Head).Sub) ((((gd p1 v1_1.toNat).Frame).Head).ToDs) ((((gd p1 v1_1.toNat).Frame).Head).FromDs) ((((gd p1 v1_1.toNat).Frame).Head).More) ((((gd p1 v1_1.toNat).Frame).Head).Retry) ((((gd p1 v1_1.toNat).Frame).Head).Sleep) ((((gd p1 v1_1.toNat).Frame).Head).MoreData) ((((gd p1 v1_1.toNat).Frame).Head).Protected) ((((gd p1 v1_1.toNat).Frame).Head).Duration) (A6u8.mk (((((gd p1 v1_1.toNat).Frame).Head).A1).x0) (((((gd p1 v1_1.toNat).Frame).Head).A1).x1) (((((gd p1 v1_1.toNat).Frame).Head).A1).x2) (((((gd p1 v1_1.toNat).Frame).Head).A1).x3) (((((gd p1 v1_1.toNat).Frame).Head).A1).x4) (((((gd p1 v1_1.toNat).Frame).Head).A1).x5)) (A6u8.mk (((((gd p1 v1_1.toNat).Frame).Head).A2).x0) (((((gd p1 v1_1.toNat).Frame).Head).A2).x1) (((((gd p1 v1_1.toNat).Frame).Head).A2).x2) (((((gd p1 v1_1.toNat).Frame).Head).A2).x3) (((((gd p1 v1_1.toNat).Frame).Head).A2).x4) (((((gd p1 v1_1.toNat).Frame).Head).A2).x5)) (A6u8.mk (((((gd p1 v1_1.toNat).Frame).Head).A3).x0) (((((gd p1 v1_1.toNat).Frame).Head).A3).x1) (((((gd p1 v1_1.toNat).Frame).Head).A3).x2) (((((gd p1 v1_1.toNat).Frame).Head).A3).x3) (((((gd p1 v1_1.toNat).Frame).Head).A3).x4) (((((gd p1 v1_1.toNat).Frame).Head).A3).x5)) (A6u8.mk (((((gd p1 v1_1.toNat).Frame).Head).A4).x0) (((((gd p1 v1_1.toNat).Frame).Head).A4).x1) (((((gd p1 v1_1.toNat).Frame).Head).A4).x2) (((((gd p1 v1_1.toNat).Frame).Head).A4).x3) (((((gd p1 v1_1.toNat).Frame).Head).A4).x4) (((((gd p1 v1_1.toNat).Frame).Head).A4).x5)) ((((gd p1 v1_1.toNat).Frame).Head).Seq) ((((gd p1 v1_1.toNat).Frame).Head).Frag) ((((gd p1 v1_1.toNat).Frame).Head).Tid) ((((gd p1 v1_1.toNat).Frame).Head).Ack) ((((gd p1 v1_1.toNat).Frame).Head).Amsdu) ((((gd p1 v1_1.toNat).Frame).Head).Eosp)) (((gd p1 v1_1.toNat).Frame).Body))).isSome) else true) <| bif (((!bEq ((gd p0 v1_1.toNat).Cat) ((gd p1 v1_1.toNat).Cat)) || (!bEq ((gd p0 v1_1.toNat).At) ((gd p1 v1_1.toNat).At))) || (!(gt (F15 (TFrame.mk (THeader.mk ((((gd p0 v1_1.toNat).Frame).Head).Kind) ((((gd p0 v1_1.toNat).Frame).Head).Sub) ((((gd p0 v1_1.toNat).Frame).Head).ToDs) ((((gd p0 v1_1.toNat).Frame).Head).FromDs) ((((gd p0 v1_1.toNat).Frame).Head).More) ((((gd p0 v1_1.toNat).Frame).Head).Retry) ((((gd p0 v1_1.toNat).Frame).Head).Sleep) ((((gd p0 v1_1.toNat).Frame).Head).MoreData) ((((gd p0 v1_1.toNat).Frame).Head).Protected) ((((gd p0 v1_1.toNat).Frame).Head).Duration) (A6u8.mk (((((gd p0 v1_1.toNat).Frame).Head).A1).x0) (((((gd p0 v1_1.toNat).Frame).Head).A1).x1) (((((gd p0 v1_1.toNat).Frame).Head).A1).x2) (((((gd p0 v1_1.toNat).Frame).Head).A1).x3) (((((gd p0 v1_1.toNat).Frame).Head).A1).x4) (((((gd p0 v1_1.toNat).Frame).Head).A1).x5)) (A6u8.mk (((((gd p0 v1_1.toNat).Frame).Head).A2).x0) (((((gd p0 v1_1.toNat).Frame).Head).A2).x1) (((((gd p0 v1_1.toNat).Frame).Head).A2).x2) (((((gd p0 v1_1.toNat).Frame).Head).A2).x3) (((((gd p0 v1_1.toNat).Frame).Head).A2).x4) (((((gd p0 v1_1.toNat).Frame).Head).A2).x5)) (A6u8.mk (((((gd p0 v1_1.toNat).Frame).Head).A3).x0) (((((gd p0 v1_1.toNat).Frame).Head).A3).x1) (((((gd p0 v1_1.toNat).Frame).Head).A3).x2) (((((gd p0 v1_1.toNat).Frame).Head).A3).x3) (((((gd p0 v1_1.toNat).Frame).Head).A3).x4) (((((gd p0 v1_1.toNat).Frame).Head).A3).x5)) (A6u8.mk (((((gd p0 v1_1.toNat).Frame).Head).A4).x0) (((((gd p0 v1_1.toNat).Frame).Head).A4).x1) (((((gd p0 v1_1.toNat).Frame).Head).A4).x2) (((((gd p0 v1_1.toNat).Frame).Head).A4).x3) (((((gd p0 v1_1.toNat).Frame).Head).A4).x4) (((((gd p0 v1_1.toNat).Frame).Head).A4).x5)) ((((gd p0 v1_1.toNat).Frame).Head).Seq) ((((gd p0 v1_1.toNat).Frame).Head).Frag) ((((gd p0 v1_1.toNat).Frame).Head).Tid) ((((gd p0 v1_1.toNat).Frame).Head).Ack) ((((gd p0 v1_1.toNat).Frame).Head).Amsdu) ((((gd p0 v1_1.toNat).Frame).Head).Eosp)) (((gd p0 v1_1.toNat).Frame).Body)) (TFrame.mk (THeader.mk ((((gd p1 v1_1.toNat).Frame).Head).Kind) ((((gd p1 v1_1.toNat).Frame).Head).Sub) ((((gd p1 v1_1.toNat).Frame).Head).ToDs) ((((gd p1 v1_1.toNat).Frame).Head).FromDs) ((((gd p1 v1_1.toNat).Frame).Head).More) ((((gd p1 v1_1.toNat).Frame).Head).Retry) ((((gd p1 v1_1.toNat).Frame).Head).Sleep) ((((gd p1 v1_1.toNat).Frame).Head).MoreData) ((((gd p1 v1_1.toNat).Frame).Head).Protected) ((((gd p1 v1_1.toNat).Frame).Head).Duration) (A6u8.mk (((((gd p1 v1_1.toNat).Frame).Head).A1).x0) (((((gd p1 v1_1.toNat).Frame).Head).A1).x1) (((((gd p1 v1_1.toNat).Frame).Head).A1).x2) (((((gd p1 v1_1.toNat).Frame).Head).A1).x3) (((((gd p1 v1_1.toNat).Frame).Head).A1).x4) (((((gd p1 v1_1.toNat).Frame).Head).A1).x5)) (A6u8.mk (((((gd p1 v1_1.toNat).Frame).Head).A2).x0) (((((gd p1 v1_1.toNat).Frame).Head).A2).x1) (((((gd p1 v1_1.toNat).Frame).Head).A2).x2) (((((gd p1 v1_1.toNat).Frame).Head).A2).x3) (((((gd p1 v1_1.toNat).Frame).Head).A2).x4) (((((gd p1 v1_1.toNat).Frame).Head).A2).x5)) (A6u8.mk (((((gd p1 v1_1.toNat).Frame).Head).A3).x0) (((((gd p1 v1_1.toNat).Frame).Head).A3).x1) (((((gd p1 v1_1.toNat).Frame).Head).A3).x2) (((((gd p1 v1_1.toNat).Frame).Head).A3).x3) (((((gd p1 v1_1.toNat).Frame).Head).A3).x4) (((((gd p1 v1_1.toNat).Frame).Head).A3).x5)) (A6u8.mk (((((gd p1 v1_1.toNat).Frame).Head).A4).x0) (((((gd p1 v1_1.toNat).Frame).Head).A4).x1) (((((gd p1 v1_1.toNat).Frame).Head).A4).x2) (((((gd p1 v1_1.toNat).Frame).Head).A4).x3) (((((gd p1 v1_1.toNat).Frame).Head).A4).x4) (((((gd p1 v1_1.toNat).Frame).Head).A4).x5)) ((((gd p1 v1_1.toNat).Frame).Head).Seq) ((((gd p1 v1_1.toNat).Frame).Head).Frag) ((((gd p1 v1_1.toNat).Frame).Head).Tid) ((((gd p1 v1_1.toNat).Frame).Head).Ack) ((((gd p1 v1_1.toNat).Frame).Head).Amsdu) ((((gd p1 v1_1.toNat).Frame).Head).Eosp)) (((gd p1 v1_1.toNat).Frame).Body)))))) then (some (.done (.inr false))) else (some (.next (wr .i64 (v1_1+1))))) else (some (.done (.inl ())))
noncomputable def F59 (p0:List TStored) (p1:List TStored):Option (Bool) :=
 bif (!bEq (p0.length:Nat) (p1.length:Nat)) then (some false) else (lp (loopD (fun s=>F59_L1 p0 p1 s) 0) (fun _=>some true) some)
noncomputable def body59:List AV->AR
 | [v0,v1]=>.pure (lK k_TStored 43 v0/\lK k_TStored 43 v1/\(F59 (lA g_TStored v0) (lA g_TStored v1)).isSome=true) (.bool (gt (F59 (lA g_TStored v0) (lA g_TStored v1))))
 | _=>.fail
theorem ok59:FnOk Try.prog 59 (pureC body59):=by
 refine pure_fnM body59 (rs:=[.tmp 4]) Try.func59 (by kernel_rfl) rfl rfl ?_
 intro l ob v hb hob
 unfold body59 at hb
 split at hb
 ·rename_i v0 v1
  injection hb with q1 q2;subst q1 q2
  obtain ⟨hk0_0,hk1_0,hob⟩:=hob
  obtain ⟨r,H⟩:=Option.isSome_iff_exists.1 hob
  rw [H,gt_some]
  have hw0:=lK_wk (fun r h=>w_TStored h) hk0_0
  have hw1:=lK_wk (fun r h=>w_TStored h) hk1_0
  generalize lA g_TStored v0=p0 at H hw0
  generalize lA g_TStored v1=p1 at H hw1
  refine ⟨[.ro 43 p0.length false (enR c_TStored p0),.ro 43 p1.length false (enR c_TStored p1)],_,(fun E vs F=>FR_wk1 hw0.1 F (fun vs F=>FR_wk1 hw1.1 F (fun vs F=>F))),rfl,rfl,?_⟩
  rw [Try.ntmps59]
  simp only [List.length_cons,List.length_nil,Nat.reduceAdd,Nat.reduceSub,List.replicate_succ,List.replicate_zero,List.cons_append,List.nil_append]
  unfold F59 at H
  try dsimp only at H
  refine sq ctNo_ok ?_
  simp only [go_sem]
  refine seqM ?_
  refine sq ctNo_ok ?_
  simp only [go_sem]
  repeat ((with_reducible refine And.intro ?_ ?_);focus (first|(and_intros<;>first|(with_reducible trivial)|omega|assumption|exact nfc|first|exact rfl|exact trivial|exact fitI|exact .inr rfl|exact .inl rfl|exact fun x hx=>absurd hx (by omega))|grind))
  refine condM rfl trivial (fun hc=>?_) (fun hc=>?_)
  ·replace H:=cond_t hc H
   refine sq ctNo_ok ?_
   simp only [go_sem]
   refine rg ctNo_ok ?_
   simp only [go_sem]
   obtain rfl:=Option.some.inj H
   first|rfl|simp only [Bool.and_false,Bool.false_and,Bool.and_true,Bool.true_and]
  replace H:=cond_f hc H
  refine rg ctNo_ok ?_
  simp only [go_sem]
  refine seqM ?_
  refine sq ctNo_ok ?_
  simp only [go_sem]
  refine blkM ?_
  refine loop_den (fun s:Int=>(.ro 43 p0.length false (enR c_TStored p0)::.ro 43 p1.length false (enR c_TStored p1)::.top::.top::.top::.int .i64 s::tp 49 [])) (fun s=>[]) (fun e:Unit=>(tp 55 [])) (fun e=>[]) H ?_ (fun v1_1 o H hn1_1 hn2_1=>?_) (fun e H=>?_)
  ·refine SubF_of ⟨[],?_,?_,by rfl,by rfl⟩
   ·simp [CvL,Cv,tp]
   ·trivial
  ·unfold F59_L1 at H
   try dsimp only at H ⊢
   try simp only [tp]
   refine seqM ?_
   refine sq ctNo_ok ?_
   simp only [go_sem]
   repeat ((with_reducible refine And.intro ?_ ?_);focus (first|(and_intros<;>first|(with_reducible trivial)|omega|assumption|exact nfc|first|exact rfl|exact trivial|exact fitI|exact .inr rfl|exact .inl rfl|exact fun x hx=>absurd hx (by omega))|grind))
   refine condM' rfl trivial (fun hc=>?_) (fun hc=>?_)
   ·replace H:=cond_f hc H
    refine rg ctNo_ok ?_
    simp only [go_sem]
    refine ⟨_,(Option.some.inj H).symm,?_⟩
    refine SubF_of ⟨[],?_,?_,by rfl,by rfl⟩
    ·simp [CvL,Cv]
    ·trivial
   replace H:=cond_t hc H
   refine rg ctNo_ok ?_
   simp only [go_sem]
   refine seqM ?_
   refine blkM ?_
   refine seqM ?_
   obtain ⟨f1,H⟩:=need_some.1 H
   replace f1:=inb_iff.1 f1
   obtain ⟨f2,H⟩:=need_some.1 H
   replace f2:=inb_iff.1 f2
   obtain ⟨f3,H⟩:=need_some.1 H
   replace f3:=g_iff.1 f3
   replace f3:=fun g=>inb_iff.1 (f3 g)
   obtain ⟨f4,H⟩:=need_some.1 H
   replace f4:=g_iff.1 f4
   replace f4:=fun g=>inb_iff.1 (f4 g)
   obtain ⟨f5,H⟩:=need_some.1 H
   replace f5:=g_iff.1 f5
   replace f5:=fun g=>inb_iff.1 (f5 g)
   obtain ⟨f6,H⟩:=need_some.1 H
   replace f6:=g_iff.1 f6
   replace f6:=fun g=>inb_iff.1 (f6 g)
   obtain ⟨f7,H⟩:=need_some.1 H
   replace f7:=g_iff.1 f7
   refine draw_quiet shT_ok ct59t0_ok (by kernel_rfl) (by kernel_rfl) ?_
   simp only [go_sem,Nat.reduceLeDiff,Nat.reduceLT,Nat.reduceAdd,reduceCtorEq,ct59t0_15,body15,f1,f2]
   repeat ((with_reducible refine And.intro ?_ ?_);focus (first|(with_reducible trivial)|omega|exact f3|exact f4|exact f5|exact f6|exact f7|(intro g;have q:=f3 (by first|exact g|(rw [g];rfl)|simpa using g);first|exact q|exact ⟨q.1,q.2.1⟩|exact q.2.2|omega|exact ⟨g,q⟩|exact ⟨trivial,q⟩|exact ⟨g,q.1,q.2.1⟩|exact ⟨g,q.2.2⟩)|(intro g;have q:=f4 (by first|exact g|(rw [g];rfl)|simpa using g);first|exact q|exact ⟨q.1,q.2.1⟩|exact q.2.2|omega|exact ⟨g,q⟩|exact ⟨trivial,q⟩|exact ⟨g,q.1,q.2.1⟩|exact ⟨g,q.2.2⟩)|(intro g;have q:=f5 (by first|exact g|(rw [g];rfl)|simpa using g);first|exact q|exact ⟨q.1,q.2.1⟩|exact q.2.2|omega|exact ⟨g,q⟩|exact ⟨trivial,q⟩|exact ⟨g,q.1,q.2.1⟩|exact ⟨g,q.2.2⟩)|(intro g;have q:=f6 (by first|exact g|(rw [g];rfl)|simpa using g);first|exact q|exact ⟨q.1,q.2.1⟩|exact q.2.2|omega|exact ⟨g,q⟩|exact ⟨trivial,q⟩|exact ⟨g,q.1,q.2.1⟩|exact ⟨g,q.2.2⟩)|(intro g;have q:=f7 (by first|exact g|(rw [g];rfl)|simpa using g);first|exact q|exact ⟨q.1,q.2.1⟩|exact q.2.2|omega|exact ⟨g,q⟩|exact ⟨trivial,q⟩|exact ⟨g,q.1,q.2.1⟩|exact ⟨g,q.2.2⟩)|(intro g;(try have q0:=f3 (by first|exact g|(rw [g];rfl)|simpa using g));(try have q1:=f4 (by first|exact g|(rw [g];rfl)|simpa using g));(try have q2:=f5 (by first|exact g|(rw [g];rfl)|simpa using g));(try have q3:=f6 (by first|exact g|(rw [g];rfl)|simpa using g));(try have q4:=f7 (by first|exact g|(rw [g];rfl)|simpa using g));and_intros<;>first|(with_reducible trivial)|assumption|exact nfc|(intro g2;rw [g,g2];rfl)|(intro g2;assumption)|(simp only [g,Bool.true_and,Bool.and_true,Bool.not_false,Bool.not_true];assumption)|grind)|(and_intros<;>first|(with_reducible trivial)|omega|assumption|exact nfc|first|exact rfl|exact trivial|exact fitI|exact .inr rfl|exact .inl rfl|exact fun x hx=>absurd hx (by omega))|grind))
   refine condM rfl trivial (fun hc=>?_) (fun hc=>?_)
   ·replace H:=cond_t hc H
    refine sq ctNo_ok ?_
    simp only [go_sem]
    refine rg ctNo_ok ?_
    simp only [go_sem]
    have H:=hn2_1 _ (Option.some.inj H).symm
    obtain rfl:=Option.some.inj H
    first|rfl|simp only [Bool.and_false,Bool.false_and,Bool.and_true,Bool.true_and]
   replace H:=cond_f hc H
   refine rg ctNo_ok ?_
   simp only [go_sem]
   refine rg ctNo_ok ?_
   simp only [go_sem]
   refine ⟨_,(Option.some.inj H).symm,?_⟩
   refine SubF_of ⟨[],?_,?_,by rfl,by rfl⟩
   ·simp [CvL,Cv]
   ·trivial
  ·try dsimp only at H ⊢
   try simp only [tp]
   try simp only [m_normal]
   refine sq ctNo_ok ?_
   simp only [go_sem]
   refine rg ctNo_ok ?_
   simp only [go_sem]
   obtain rfl:=Option.some.inj H
   first|rfl|simp only [Bool.and_false,Bool.false_and,Bool.and_true,Bool.true_and]
 ·cases hb
noncomputable def ct31t0:Ct:=tab [(59,pureC body59)]
theorem ct31t0_ok:CtOk Try.prog ct31t0:=tab_cons ok59 <| tab_nil
theorem ct31t0_59 (l:List AV) (h:List ABlk):ct31t0 59 l h=pureC body59 l h:=rfl
noncomputable def F31_L1 (p0:TBuffer) (p1:TBuffer) (v1_1:Int):Option (Lp (Int) ((Unit) ⊕ (Bool))) :=
 bif (bLt v1_1 (p0.List.length:Nat)) then (need (inb v1_1 p0.List.length) <| need (inb v1_1 p1.List.length) <| need (bif (!(!bEq ((gd p0.List v1_1.toNat).Aid) ((gd p1.List v1_1.toNat).Aid))) then inb v1_1 p0.List.length else true) <| need (bif (!(!bEq ((gd p0.List v1_1.toNat).Aid) ((gd p1.List v1_1.toNat).Aid))) then inb v1_1 p1.List.length else true) <| need (bif (!((!bEq ((gd p0.List v1_1.toNat).Aid) ((gd p1.List v1_1.toNat).Aid)) || (!bB ((gd p0.List v1_1.toNat).Asleep) ((gd p1.List v1_1.toNat).Asleep)))) then inb v1_1 p0.List.length else true) <| need (bif (!((!bEq ((gd p0.List v1_1.toNat).Aid) ((gd p1.List v1_1.toNat).Aid)) || (!bB ((gd p0.List v1_1.toNat).Asleep) ((gd p1.List v1_1.toNat).Asleep)))) then inb v1_1 p1.List.length else true) <| need (bif (!((!bEq ((gd p0.List v1_1.toNat).Aid) ((gd p1.List v1_1.toNat).Aid)) || (!bB ((gd p0.List v1_1.toNat).Asleep) ((gd p1.List v1_1.toNat).Asleep)))) then ((F59 ((gd p0.List v1_1.toNat).Held) ((gd p1.List v1_1.toNat).Held)).isSome) else true) <| bif (((!bEq ((gd p0.List v1_1.toNat).Aid) ((gd p1.List v1_1.toNat).Aid)) || (!bB ((gd p0.List v1_1.toNat).Asleep) ((gd p1.List v1_1.toNat).Asleep))) || (!(gt (F59 ((gd p0.List v1_1.toNat).Held) ((gd p1.List v1_1.toNat).Held))))) then (some (.done (.inr false))) else (some (.next (wr .i64 (v1_1+1))))) else (some (.done (.inl ())))
noncomputable def F31 (p0:TBuffer) (p1:TBuffer):Option (Bool) :=
 need (bif (!(((!bEq p0.Limit p1.Limit) || (!bEq p0.Stay p1.Stay)) || (!bEq (p0.List.length:Nat) (p1.List.length:Nat)))) then ((F59 p0.Group p1.Group).isSome) else true) <| bif ((((!bEq p0.Limit p1.Limit) || (!bEq p0.Stay p1.Stay)) || (!bEq (p0.List.length:Nat) (p1.List.length:Nat))) || (!(gt (F59 p0.Group p1.Group)))) then (some false) else (lp (loopD (fun s=>F31_L1 p0 p1 s) 0) (fun _=>some true) some)
noncomputable def body31:List AV->AR
 | [v0,v1]=>.pure (aK 4 k_TBuffer v0/\aK 4 k_TBuffer v1/\(F31 (g_TBuffer (aL v0)) (g_TBuffer (aL v1))).isSome=true) (.bool (gt (F31 (g_TBuffer (aL v0)) (g_TBuffer (aL v1)))))
 | _=>.fail
theorem ok31:FnOk Try.prog 31 (pureC body31):=by
 refine pure_fnM body31 (rs:=[.tmp 4]) Try.func31 (by kernel_rfl) rfl rfl ?_
 intro l ob v hb hob
 unfold body31 at hb
 split at hb
 ·rename_i v0 v1
  injection hb with q1 q2;subst q1 q2
  obtain ⟨hk0_0,hk1_0,hob⟩:=hob
  obtain ⟨r,H⟩:=Option.isSome_iff_exists.1 hob
  rw [H,gt_some]
  have hw0:=wA_TBuffer hk0_0
  have hw1:=wA_TBuffer hk1_0
  generalize g_TBuffer (aL v0)=p0 at H hw0
  generalize g_TBuffer (aL v1)=p1 at H hw1
  refine ⟨[.agg [.int .i64 p0.Limit,.int .i64 p0.Stay,.ro 3 p0.List.length false (enR c_TSleeper p0.List),.ro 43 p0.Group.length false (enR c_TStored p0.Group)],.agg [.int .i64 p1.Limit,.int .i64 p1.Stay,.ro 3 p1.List.length false (enR c_TSleeper p1.List),.ro 43 p1.Group.length false (enR c_TStored p1.Group)]],_,(fun E vs F=>FR_wk1 hw0.1 F (fun vs F=>FR_wk1 hw1.1 F (fun vs F=>F))),rfl,rfl,?_⟩
  rw [Try.ntmps31]
  simp only [List.length_cons,List.length_nil,Nat.reduceAdd,Nat.reduceSub,List.replicate_succ,List.replicate_zero,List.cons_append,List.nil_append]
  unfold F31 at H
  try dsimp only at H
  refine sq ctNo_ok ?_
  simp only [go_sem]
  refine seqM ?_
  refine seqM ?_
  obtain ⟨f1,H⟩:=need_some.1 H
  replace f1:=g_iff.1 f1
  refine rg ct31t0_ok ?_
  simp only [go_sem,Nat.reduceLeDiff,Nat.reduceLT,Nat.reduceAdd,ct31t0_59,body59]
  repeat ((with_reducible refine And.intro ?_ ?_);focus (first|(with_reducible trivial)|omega|exact f1|(intro g;have q:=f1 (by first|exact g|(rw [g];rfl)|simpa using g);first|exact q|exact ⟨q.1,q.2.1⟩|exact q.2.2|omega|exact ⟨g,q⟩|exact ⟨trivial,q⟩|exact ⟨g,q.1,q.2.1⟩|exact ⟨g,q.2.2⟩)|(intro g;(try have q0:=f1 (by first|exact g|(rw [g];rfl)|simpa using g));and_intros<;>first|(with_reducible trivial)|assumption|exact nfc|(intro g2;rw [g,g2];rfl)|(intro g2;assumption)|(simp only [g,Bool.true_and,Bool.and_true,Bool.not_false,Bool.not_true];assumption)|grind)|(and_intros<;>first|(with_reducible trivial)|omega|assumption|exact nfc|first|exact rfl|exact trivial|exact fitI|exact .inr rfl|exact .inl rfl|exact fun x hx=>absurd hx (by omega))|grind))
  refine condM rfl trivial (fun hc=>?_) (fun hc=>?_)
  ·replace H:=cond_t hc H
   refine sq ctNo_ok ?_
   simp only [go_sem]
   refine rg ctNo_ok ?_
   simp only [go_sem]
   obtain rfl:=Option.some.inj H
   first|rfl|simp only [Bool.and_false,Bool.false_and,Bool.and_true,Bool.true_and]
  replace H:=cond_f hc H
  refine rg ctNo_ok ?_
  simp only [go_sem]
  refine seqM ?_
  refine sq ctNo_ok ?_
  simp only [go_sem]
  refine blkM ?_
  refine loop_den (fun s:Int=>(.top::.top::.ptr 0 0 0 0::.ptr 1 0 0 0::.top::.int .i64 s::tp 80 [])) (fun s=>[.lit 52 [.int .i64 p0.Limit,.int .i64 p0.Stay,.ro 3 p0.List.length false (enR c_TSleeper p0.List),.ro 43 p0.Group.length false (enR c_TStored p0.Group)],.lit 52 [.int .i64 p1.Limit,.int .i64 p1.Stay,.ro 3 p1.List.length false (enR c_TSleeper p1.List),.ro 43 p1.Group.length false (enR c_TStored p1.Group)]]) (fun e:Unit=>(tp 86 [])) (fun e=>[.dead,.dead]) H ?_ (fun v1_1 o H hn1_1 hn2_1=>?_) (fun e H=>?_)
  ·refine SubF_of ⟨[some 0,some 1],?_,?_,by rfl,by rfl⟩
   ·simp [CvL,Cv,getM,tp]
   ·exact ⟨(by simp [CvB,CvL,Cv,blkAt,geth]),(by simp [CvB,CvL,Cv,blkAt,geth]),trivial⟩
  ·unfold F31_L1 at H
   try dsimp only at H ⊢
   try simp only [tp]
   refine seqM ?_
   refine sq ctNo_ok ?_
   simp only [go_sem,Nat.reduceLeDiff,Nat.reduceLT,Nat.reduceAdd]
   repeat ((with_reducible refine And.intro ?_ ?_);focus (first|(and_intros<;>first|(with_reducible trivial)|omega|assumption|exact nfc|first|exact rfl|exact trivial|exact fitI|exact .inr rfl|exact .inl rfl|exact fun x hx=>absurd hx (by omega))|grind))
   refine condM' rfl trivial (fun hc=>?_) (fun hc=>?_)
   ·replace H:=cond_f hc H
    refine rg ctNo_ok ?_
    simp only [go_sem]
    refine ⟨_,(Option.some.inj H).symm,?_⟩
    refine SubF_of ⟨[some 0,some 1],?_,?_,by rfl,by rfl⟩
    ·simp [CvL,Cv]
    ·exact ⟨CvB_dead,CvB_dead,trivial⟩
   replace H:=cond_t hc H
   refine rg ctNo_ok ?_
   simp only [go_sem]
   refine seqM ?_
   refine blkM ?_
   refine seqM ?_
   obtain ⟨f2,H⟩:=need_some.1 H
   replace f2:=inb_iff.1 f2
   obtain ⟨f3,H⟩:=need_some.1 H
   replace f3:=inb_iff.1 f3
   obtain ⟨f4,H⟩:=need_some.1 H
   replace f4:=g_iff.1 f4
   replace f4:=fun g=>inb_iff.1 (f4 g)
   obtain ⟨f5,H⟩:=need_some.1 H
   replace f5:=g_iff.1 f5
   replace f5:=fun g=>inb_iff.1 (f5 g)
   obtain ⟨f6,H⟩:=need_some.1 H
   replace f6:=g_iff.1 f6
   replace f6:=fun g=>inb_iff.1 (f6 g)
   obtain ⟨f7,H⟩:=need_some.1 H
   replace f7:=g_iff.1 f7
   replace f7:=fun g=>inb_iff.1 (f7 g)
   obtain ⟨f8,H⟩:=need_some.1 H
   replace f8:=g_iff.1 f8
   refine draw_quiet shT_ok ct31t0_ok (by kernel_rfl) (by kernel_rfl) ?_
   simp only [go_sem,Nat.reduceLeDiff,Nat.reduceLT,Nat.reduceAdd,ct31t0_59,body59,f2,f3]
   repeat ((with_reducible refine And.intro ?_ ?_);focus (first|(with_reducible trivial)|omega|exact f4|exact f5|exact f6|exact f7|exact f8|(intro g;have q:=f4 (by first|exact g|(rw [g];rfl)|simpa using g);first|exact q|exact ⟨q.1,q.2.1⟩|exact q.2.2|omega|exact ⟨g,q⟩|exact ⟨trivial,q⟩|exact ⟨g,q.1,q.2.1⟩|exact ⟨g,q.2.2⟩)|(intro g;have q:=f5 (by first|exact g|(rw [g];rfl)|simpa using g);first|exact q|exact ⟨q.1,q.2.1⟩|exact q.2.2|omega|exact ⟨g,q⟩|exact ⟨trivial,q⟩|exact ⟨g,q.1,q.2.1⟩|exact ⟨g,q.2.2⟩)|(intro g;have q:=f6 (by first|exact g|(rw [g];rfl)|simpa using g);first|exact q|exact ⟨q.1,q.2.1⟩|exact q.2.2|omega|exact ⟨g,q⟩|exact ⟨trivial,q⟩|exact ⟨g,q.1,q.2.1⟩|exact ⟨g,q.2.2⟩)|(intro g;have q:=f7 (by first|exact g|(rw [g];rfl)|simpa using g);first|exact q|exact ⟨q.1,q.2.1⟩|exact q.2.2|omega|exact ⟨g,q⟩|exact ⟨trivial,q⟩|exact ⟨g,q.1,q.2.1⟩|exact ⟨g,q.2.2⟩)|(intro g;have q:=f8 (by first|exact g|(rw [g];rfl)|simpa using g);first|exact q|exact ⟨q.1,q.2.1⟩|exact q.2.2|omega|exact ⟨g,q⟩|exact ⟨trivial,q⟩|exact ⟨g,q.1,q.2.1⟩|exact ⟨g,q.2.2⟩)|(intro g;(try have q0:=f4 (by first|exact g|(rw [g];rfl)|simpa using g));(try have q1:=f5 (by first|exact g|(rw [g];rfl)|simpa using g));(try have q2:=f6 (by first|exact g|(rw [g];rfl)|simpa using g));(try have q3:=f7 (by first|exact g|(rw [g];rfl)|simpa using g));(try have q4:=f8 (by first|exact g|(rw [g];rfl)|simpa using g));and_intros<;>first|(with_reducible trivial)|assumption|exact nfc|(intro g2;rw [g,g2];rfl)|(intro g2;assumption)|(simp only [g,Bool.true_and,Bool.and_true,Bool.not_false,Bool.not_true];assumption)|grind)|(and_intros<;>first|(with_reducible trivial)|omega|assumption|exact nfc|first|exact rfl|exact trivial|exact fitI|exact .inr rfl|exact .inl rfl|exact fun x hx=>absurd hx (by omega))|grind))
   refine condM rfl trivial (fun hc=>?_) (fun hc=>?_)
   ·replace H:=cond_t hc H
    refine sq ctNo_ok ?_
    simp only [go_sem]
    refine rg ctNo_ok ?_
    simp only [go_sem]
    have H:=hn2_1 _ (Option.some.inj H).symm
    obtain rfl:=Option.some.inj H
    first|rfl|simp only [Bool.and_false,Bool.false_and,Bool.and_true,Bool.true_and]
   replace H:=cond_f hc H
   refine rg ctNo_ok ?_
   simp only [go_sem]
   refine rg ctNo_ok ?_
   simp only [go_sem]
   refine ⟨_,(Option.some.inj H).symm,?_⟩
   refine SubF_of ⟨[some 0,some 1],?_,?_,by rfl,by rfl⟩
   ·simp [CvL,Cv,getM]
   ·exact ⟨(by simp [CvB,CvL,Cv,blkAt,geth]),(by simp [CvB,CvL,Cv,blkAt,geth]),trivial⟩
  ·try dsimp only at H ⊢
   try simp only [tp]
   try simp only [m_normal]
   refine sq ctNo_ok ?_
   simp only [go_sem]
   refine rg ctNo_ok ?_
   simp only [go_sem]
   obtain rfl:=Option.some.inj H
   first|rfl|simp only [Bool.and_false,Bool.false_and,Bool.and_true,Bool.true_and]
 ·cases hb
end Go.Proofs.Ytnclkplbeenmdaa
