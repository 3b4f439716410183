/-
  What BufferNames reaches.
-/
import Derived.Test.YtefiemaoacmdkaaY10p1
namespace Go.Proofs.Ytefiemaoacmdkaa
open Go.Am
set_option maxHeartbeats 4000000
set_option maxRecDepth 20000
set_option linter.unusedVariables false
set_option linter.unusedSimpArgs false
noncomputable def ct21t0:Ct:=tab [(18,pureC body18)]
theorem ct21t0_ok:CtOk Try.prog ct21t0:=tab_cons ok18 <| tab_nil
theorem ct21t0_18 (l:List AV) (h:List ABlk):ct21t0 18 l h=pureC body18 l h:=rfl
noncomputable def ct21t1:Ct:=tab [(81,pureC body81)]
theorem ct21t1_ok:CtOk Try.prog ct21t1:=tab_cons ok81 <| tab_nil
theorem ct21t1_81 (l:List AV) (h:List ABlk):ct21t1 81 l h=pureC body81 l h:=rfl
noncomputable def ct21t2:Ct:=tab [(65,genC body65)]
theorem ct21t2_ok:CtOk Try.prog ct21t2:=tab_cons ok65 <| tab_nil
theorem ct21t2_65 (l:List AV) (h:List ABlk):ct21t2 65 l h=genC body65 l h:=rfl
noncomputable def ct21t3:Ct:=tab [(52,edC body52_0),(53,genC body53)]
theorem ct21t3_ok:CtOk Try.prog ct21t3:=tab_cons ok52_0 <| tab_cons ok53 <| tab_nil
theorem ct21t3_52 (l:List AV) (h:List ABlk):ct21t3 52 l h=edC body52_0 l h:=rfl
theorem ct21t3_53 (l:List AV) (h:List ABlk):ct21t3 53 l h=genC body53 l h:=rfl
noncomputable def ct21t4:Ct:=tab [(47,pureC body47)]
theorem ct21t4_ok:CtOk Try.prog ct21t4:=tab_cons ok47 <| tab_nil
theorem ct21t4_47 (l:List AV) (h:List ABlk):ct21t4 47 l h=pureC body47 l h:=rfl
noncomputable def ct21t5:Ct:=tab [(53,genC body53)]
theorem ct21t5_ok:CtOk Try.prog ct21t5:=tab_cons ok53 <| tab_nil
theorem ct21t5_53 (l:List AV) (h:List ABlk):ct21t5 53 l h=genC body53 l h:=rfl
noncomputable def ct21t6:Ct:=tab [(52,edC body52_0)]
theorem ct21t6_ok:CtOk Try.prog ct21t6:=tab_cons ok52_0 <| tab_nil
theorem ct21t6_52 (l:List AV) (h:List ABlk):ct21t6 52 l h=edC body52_0 l h:=rfl
noncomputable def ct21t7:Ct:=tab [(52,genC body52_1)]
theorem ct21t7_ok:CtOk Try.prog ct21t7:=tab_cons ok52_1 <| tab_nil
theorem ct21t7_52 (l:List AV) (h:List ABlk):ct21t7 52 l h=genC body52_1 l h:=rfl
noncomputable def F21 (p0:TBuffer) (p1:Int):Option ((List TFrame) × TBuffer × Int) :=
 (F18 p0).bind fun r1=>bif (!bEq r1 0) then (some ([],(TBuffer.mk 0 0 [] []),r1)) else (bif ((bLt p1 1) || (bLt 255 p1)) then (some ([],(TBuffer.mk 0 0 [] []),2)) else ((F81 p0 p1).bind fun r5=>bif (!r5.2) then (some ([],(TBuffer.mk 0 0 [] []),6)) else ((F65 p0).bind fun r8=>need (inb r5.1 r8.List.length) <| (F53 ((gd r8.List r5.1.toNat).Held)).bind fun r11=>(F52_0 r11).bind fun r13=>(some ((r8.List.set r5.1.toNat (TSleeper.mk ((gd r8.List r5.1.toNat).Aid) false ((gd r8.List r5.1.toNat).Held))).set r5.1.toNat (TSleeper.mk ((gd (r8.List.set r5.1.toNat (TSleeper.mk ((gd r8.List r5.1.toNat).Aid) false ((gd r8.List r5.1.toNat).Held))) r5.1.toNat).Aid) ((gd (r8.List.set r5.1.toNat (TSleeper.mk ((gd r8.List r5.1.toNat).Aid) false ((gd r8.List r5.1.toNat).Held))) r5.1.toNat).Asleep) []))).bind fun w15=>(F47 (TBuffer.mk r8.Limit r8.Stay w15 r8.Group)).bind fun r17=>bif (!r17) then ((F53 r8.Group).bind fun r20=>(F52_0 r20).bind fun r22=>need (capb 104 (r13.length+r22.length)) <| some ((r13 ++ r22),(TBuffer.mk r8.Limit r8.Stay w15 []),0)) else ((F52_1).bind fun r25=>need (capb 104 (r13.length+r25.length)) <| some ((r13 ++ r25),(TBuffer.mk r8.Limit r8.Stay w15 r8.Group),0)))))
noncomputable def body21:List AV->Nat->AR
 | [v0,v1],_=>.pure (aK 4 k_TBuffer v0/\iK .i64 v1/\(F21 (g_TBuffer (aL v0)) (iA v1)).isSome=true) (.tup [.ro 41 (((gt (F21 (g_TBuffer (aL v0)) (iA v1))).1).length) false (enR c_TFrame ((gt (F21 (g_TBuffer (aL v0)) (iA v1))).1)),.agg [.int .i64 (((gt (F21 (g_TBuffer (aL v0)) (iA v1))).2.1).Limit),.int .i64 (((gt (F21 (g_TBuffer (aL v0)) (iA v1))).2.1).Stay),.ro 3 ((((gt (F21 (g_TBuffer (aL v0)) (iA v1))).2.1).List).length) false (enR c_TSleeper (((gt (F21 (g_TBuffer (aL v0)) (iA v1))).2.1).List)),.ro 43 ((((gt (F21 (g_TBuffer (aL v0)) (iA v1))).2.1).Group).length) false (enR c_TStored (((gt (F21 (g_TBuffer (aL v0)) (iA v1))).2.1).Group))],.int .i64 ((gt (F21 (g_TBuffer (aL v0)) (iA v1))).2.2)])
 | _,_=>.fail
theorem ok21:FnOk Try.prog 21 (genC body21):=by
 refine gen_fn body21 (rs:=[.tmp 4,.cell 5 25,.tmp 6]) Try.func21 (by kernel_rfl) rfl rfl ?_
 intro l s ob v ns hb hob
 rcases hb with ⟨hb,rfl⟩|hb
 ·unfold body21 at hb
  split at hb
  ·rename_i v0 v1
   injection hb with q1 q2;subst q1 q2
   obtain ⟨hk0_0,hk1_0,hob⟩:=hob
   obtain ⟨r,H⟩:=Option.isSome_iff_exists.1 hob
   rw [H,gt_some]
   have hw0:=wA_TBuffer hk0_0
   have hw1:=iK_wk hk1_0
   generalize g_TBuffer (aL v0)=p0 at H hw0
   generalize iA v1=p1 at H hw1
   refine ⟨[.agg [.int .i64 p0.Limit,.int .i64 p0.Stay,.ro 3 p0.List.length false (enR c_TSleeper p0.List),.ro 43 p0.Group.length false (enR c_TStored p0.Group)],.int .i64 p1],.tup [.ro 41 r.1.length false (enR c_TFrame r.1),.agg [.int .i64 r.2.1.Limit,.int .i64 r.2.1.Stay,.ro 3 r.2.1.List.length false (enR c_TSleeper r.2.1.List),.ro 43 r.2.1.Group.length false (enR c_TStored r.2.1.Group)],.int .i64 r.2.2],[],(fun E vs F=>FR_wk1 hw0.1 F (fun vs F=>FR_wk1 hw1.1 F (fun vs F=>F))),by simp only [ren,renL],trivial,?_⟩
   rw [Try.ntmps21]
   simp only [List.length_cons,List.length_nil,Nat.reduceAdd,Nat.reduceSub,List.replicate_succ,List.replicate_zero,List.cons_append,List.nil_append]
   unfold F21 at H
   try dsimp only at H
   refine sq ctNo_ok ?_
   simp only [go_sem]
   refine seqM ?_
   refine regO ?_
   refine cutO shT_ok ctNo_ok 2 ?_
   simp only [kO_normal,List.take_succ_cons,List.take_zero,List.drop_succ_cons,List.drop_zero,go_sem,Nat.reduceLT,Nat.reduceAdd]
   repeat ((with_reducible refine And.intro ?_ ?_);focus exact an0)
   refine inlO (rs:=[.tmp 4,.tmp 5,.tmp 6]) Try.func51 (by kernel_rfl) rfl rfl Try.ntmps51 (caps:=[]) (tc:=[.agg [.int .i64 p0.Limit,.int .i64 p0.Stay,.ro 3 p0.List.length false (enR c_TSleeper p0.List),.ro 43 p0.Group.length false (enR c_TStored p0.Group)],.int .i64 p1]) rfl (by simp only [go_sem]) rfl ?_
   simp only [List.length_cons,List.length_nil,Nat.reduceAdd,Nat.reduceSub,List.replicate_succ,List.replicate_zero,List.cons_append,List.nil_append]
   refine sq ctNo_ok ?_
   simp only [go_sem,Nat.reduceAdd]
   refine seqM ?_
   refine seqM ?_
   obtain ⟨r1,e2,H⟩:=bsi H
   refine rg ct21t0_ok ?_
   simp only [go_sem,Nat.reduceLT,Nat.reduceAdd,ct21t0_18,body18,e2]
   repeat ((with_reducible refine And.intro ?_ ?_);focus exact an0)
   refine sq ctNo_ok ?_
   simp only [go_sem]
   refine condM rfl trivial (fun hc=>?_) (fun hc=>?_)
   ·have hk3:(bEq r1 0)=false:=by simpa using hc
    replace H:=cond_t hc H
    refine sq ctNo_ok ?_
    simp only [go_sem]
    refine rg ctNo_ok ?_
    simp only [go_sem]
    refine cutO shT_ok ctNo_ok 7 ?_
    simp only [kO_normal,List.take_succ_cons,List.take_zero,List.drop_succ_cons,List.drop_zero,go_sem,Nat.reduceLT,Nat.reduceAdd]
    repeat ((with_reducible refine And.intro ?_ ?_);focus exact an0)
    refine endO ?_
    refine seqM ?_
    refine sq ctNo_ok ?_
    simp only [go_sem]
    refine condM rfl trivial (fun hc=>?_) (fun hc=>?_)
    rotate_left
    ·simp [hk3] at hc
    refine sq ctNo_ok ?_
    simp only [go_sem,Nat.reduceAdd]
    repeat ((with_reducible refine And.intro ?_ ?_);focus exact an6)
    refine rg ctNo_ok ?_
    simp only [go_sem,Nat.reduceLT,Nat.reduceAdd]
    obtain rfl:=Option.some.inj H
    refine ⟨[0,1,2],?_,?_,[],?_,?_,rfl⟩
    ·simp only [go_sem]
     try exact at0
    ·simp only [go_sem]
     try exact at0
    ·simp only [go_sem]
     exact Cv_tup (CvL_cons (Cv_ronil (α:=TFrame)) (CvL_cons (Cv_agg (CvL_cons Cv_int (CvL_cons Cv_int (CvL_cons (Cv_ronil (α:=TSleeper)) (CvL_cons (Cv_ronil (α:=TStored)) CvL_nil))))) (CvL_cons Cv_int CvL_nil)))
    ·simp only [go_sem,CvH]
   have hk3:(bEq r1 0)=true:=by simpa using hc
   replace H:=cond_f hc H
   refine rg ctNo_ok ?_
   simp only [go_sem]
   refine seqM ?_
   refine sq ctNo_ok ?_
   simp only [go_sem]
   repeat ((with_reducible refine And.intro ?_ ?_);focus exact an6)
   refine condM rfl trivial (fun hc=>?_) (fun hc=>?_)
   ·have hk4:((bLt p1 1) || (bLt 255 p1))=true:=by simpa using hc
    replace H:=cond_t hc H
    refine sq ctNo_ok ?_
    simp only [go_sem]
    refine rg ctNo_ok ?_
    simp only [go_sem]
    refine cutO shT_ok ctNo_ok 7 ?_
    simp only [kO_normal,List.take_succ_cons,List.take_zero,List.drop_succ_cons,List.drop_zero,go_sem,Nat.reduceLT,Nat.reduceAdd]
    repeat ((with_reducible refine And.intro ?_ ?_);focus exact an0)
    refine endO ?_
    refine seqM ?_
    refine sq ctNo_ok ?_
    simp only [go_sem,(by decide:bEq (2) (0)=false)]
    refine condM rfl trivial (fun hc=>?_) (fun hc=>?_)
    rotate_left
    ·cases hc
    refine sq ctNo_ok ?_
    simp only [go_sem,Nat.reduceAdd]
    repeat ((with_reducible refine And.intro ?_ ?_);focus exact an6)
    refine rg ctNo_ok ?_
    simp only [go_sem,Nat.reduceLT,Nat.reduceAdd]
    obtain rfl:=Option.some.inj H
    refine ⟨[0,1,2],?_,?_,[],?_,?_,rfl⟩
    ·simp only [go_sem]
     try exact at0
    ·simp only [go_sem]
     try exact at0
    ·simp only [go_sem]
     exact Cv_tup (CvL_cons (Cv_ronil (α:=TFrame)) (CvL_cons (Cv_agg (CvL_cons Cv_int (CvL_cons Cv_int (CvL_cons (Cv_ronil (α:=TSleeper)) (CvL_cons (Cv_ronil (α:=TStored)) CvL_nil))))) (CvL_cons Cv_int CvL_nil)))
    ·simp only [go_sem,CvH]
   have hk4:((bLt p1 1) || (bLt 255 p1))=false:=by simpa using hc
   replace H:=cond_f hc H
   refine rg ctNo_ok ?_
   simp only [go_sem]
   refine seqM ?_
   obtain ⟨r5,e6,H⟩:=bsi H
   refine rg ct21t1_ok ?_
   simp only [go_sem,Nat.reduceLT,Nat.reduceAdd,ct21t1_81,body81,e6]
   repeat ((with_reducible refine And.intro ?_ ?_);focus exact an0)
   refine seqM ?_
   refine sq ctNo_ok ?_
   simp only [go_sem]
   refine condM rfl trivial (fun hc=>?_) (fun hc=>?_)
   ·have hk7:(r5.2)=false:=by simpa using hc
    replace H:=cond_t hc H
    refine sq ctNo_ok ?_
    simp only [go_sem]
    refine rg ctNo_ok ?_
    simp only [go_sem]
    refine cutO shT_ok ctNo_ok 7 ?_
    simp only [kO_normal,List.take_succ_cons,List.take_zero,List.drop_succ_cons,List.drop_zero,go_sem,Nat.reduceLT,Nat.reduceAdd]
    repeat ((with_reducible refine And.intro ?_ ?_);focus exact an0)
    refine endO ?_
    refine seqM ?_
    refine sq ctNo_ok ?_
    simp only [go_sem,(by decide:bEq (6) (0)=false)]
    refine condM rfl trivial (fun hc=>?_) (fun hc=>?_)
    rotate_left
    ·cases hc
    refine sq ctNo_ok ?_
    simp only [go_sem,Nat.reduceAdd]
    repeat ((with_reducible refine And.intro ?_ ?_);focus exact an6)
    refine rg ctNo_ok ?_
    simp only [go_sem,Nat.reduceLT,Nat.reduceAdd]
    obtain rfl:=Option.some.inj H
    refine ⟨[0,1,2],?_,?_,[],?_,?_,rfl⟩
    ·simp only [go_sem]
     try exact at0
    ·simp only [go_sem]
     try exact at0
    ·simp only [go_sem]
     exact Cv_tup (CvL_cons (Cv_ronil (α:=TFrame)) (CvL_cons (Cv_agg (CvL_cons Cv_int (CvL_cons Cv_int (CvL_cons (Cv_ronil (α:=TSleeper)) (CvL_cons (Cv_ronil (α:=TStored)) CvL_nil))))) (CvL_cons Cv_int CvL_nil)))
    ·simp only [go_sem,CvH]
   have hk7:(r5.2)=true:=by simpa using hc
   replace H:=cond_f hc H
   refine rg ctNo_ok ?_
   simp only [go_sem]
   refine seqM ?_
   obtain ⟨r8,e9,H⟩:=bsi H
   refine rg ct21t2_ok ?_
   simp only [go_sem,Nat.reduceLT,Nat.reduceAdd,ct21t2_65,body65,e9]
   repeat ((with_reducible refine And.intro ?_ ?_);focus exact an0)
   refine seqM ?_
   obtain ⟨f10,H⟩:=need_some.1 H
   replace f10:=inb_iff.1 f10
   refine draw_quiet shT_ok ctNo_ok (by kernel_rfl) (by kernel_rfl) ?_
   simp only [go_sem,Nat.reduceLeDiff,Nat.reduceLT,Nat.reduceAdd,f10]
   repeat ((with_reducible refine And.intro ?_ ?_);focus exact an6)
   refine rg ctNo_ok ?_
   simp only [go_sem]
   refine cutO shT_ok ctNo_ok 7 ?_
   simp only [kO_normal,List.take_succ_cons,List.take_zero,List.drop_succ_cons,List.drop_zero,go_sem,Nat.reduceLT,Nat.reduceAdd]
   repeat ((with_reducible refine And.intro ?_ ?_);focus exact an0)
   refine endO ?_
   refine seqM ?_
   refine sq ctNo_ok ?_
   simp only [go_sem,(by decide:bEq (0) (0)=true)]
   refine condM rfl trivial (fun hc=>?_) (fun hc=>?_)
   ·cases hc
   refine rg ctNo_ok ?_
   simp only [go_sem]
   refine seqM ?_
   obtain ⟨r11,e12,H⟩:=bsi H
   obtain ⟨r13,e14,H⟩:=bsi H
   refine rg ct21t3_ok ?_
   simp only [go_sem,Nat.reduceLT,Nat.reduceAdd,ct21t3_52,body52_0,ct21t3_53,body53,e12,e14]
   repeat ((with_reducible refine And.intro ?_ ?_);focus exact an0)
   refine sq ctNo_ok ?_
   simp only [go_sem,Nat.reduceLeDiff,Nat.reduceAdd]
   repeat ((with_reducible refine And.intro ?_ ?_);focus exact an6)
   refine seqM ?_
   obtain ⟨w15,hw16,H⟩:=bsi H
   replace hw16:=Option.some.inj hw16
   have lhw16:w15.length=r8.List.length:=by rw [← hw16];exact (by simp only [List.length_set])
   refine subF_mean (t2:=(tp 4 (.sl 6 41 0 r13.length false::.ptr 1 0 0 0::.top::.ptr 2 0 0 0::tp 33 []))) (h2:=[.lit 25 [.int .i64 p0.Limit,.int .i64 p0.Stay,.ro 3 p0.List.length false (enR c_TSleeper p0.List),.ro 43 p0.Group.length false (enR c_TStored p0.Group)],.lit 25 [.int .i64 0,.int .i64 0,.ro 0 0 true (fun _ _=>.top),.ro 0 0 true (fun _ _=>.top)],.lit 25 [.int .i64 r8.Limit,.int .i64 r8.Stay,.sl 3 3 0 w15.length false,.sl 4 43 0 r8.Group.length false],.row 57 3 w15.length (enR c_TSleeper w15),.row 61 43 r8.Group.length (enR c_TStored r8.Group),.dead,.row 33 41 r13.length (enR c_TFrame r13)]) ?_ ?_
   ·refine SubF_of ⟨[some 0,some 1,some 2,some 3,some 4,some 5,some 6],?_,?_,by rfl,by rfl⟩
    ·simp [CvL,Cv,getM,tp,tp]
    ·exact ⟨(by simp [CvB,CvL,Cv,blkAt,geth]),(by simp [CvB,CvL,Cv,blkAt,geth]),(by simp [CvB,CvL,Cv,blkAt,geth,getM,lhw16]),CvB_rowW lhw16 (hw16 ▸ (upc_rowW (f:=c_TSleeper) (r8.List.set r5.1.toNat (TSleeper.mk ((gd r8.List r5.1.toNat).Aid) false ((gd r8.List r5.1.toNat).Held))) r5.1.toNat 2 (TSleeper.mk ((gd (r8.List.set r5.1.toNat (TSleeper.mk ((gd r8.List r5.1.toNat).Aid) false ((gd r8.List r5.1.toNat).Held))) r5.1.toNat).Aid) ((gd (r8.List.set r5.1.toNat (TSleeper.mk ((gd r8.List r5.1.toNat).Aid) false ((gd r8.List r5.1.toNat).Held))) r5.1.toNat).Asleep) []) (wk_eq nr_TSleeper (upc_row (f:=c_TSleeper) r8.List r5.1.toNat 1 (TSleeper.mk ((gd r8.List r5.1.toNat).Aid) false ((gd r8.List r5.1.toNat).Held)) (fun _ _ _ _=>rfl) (fun y hy=>match y,hy with|0,_=>rfl|1,_=>rfl|2,_=>rfl|(y+3),h=>absurd h (by omega)))) (fun y hy μ=>match y,hy with|0,_=>by simp [c_TSleeper,getL]|1,_=>by simp [c_TSleeper,getL]|2,_=>by simp [c_TSleeper,getL,Cv]|(y+3),h=>absurd h (by omega)))),CvB_row nr_TStored rfl (fun _ _ _ _=>rfl),CvB_dead,CvB_row nr_TFrame rfl (fun _ _ _ _=>rfl),trivial⟩
   simp only [tp]
   refine regO ?_
   refine cutO shT_ok ctNo_ok 2 ?_
   simp only [kO_normal,List.take_succ_cons,List.take_zero,List.drop_succ_cons,List.drop_zero,go_sem]
   repeat ((with_reducible refine And.intro ?_ ?_);focus exact an0)
   refine inlO (rs:=[.tmp 2]) Try.func54 (by kernel_rfl) rfl rfl Try.ntmps54 (caps:=[]) (tc:=[.ptr 2 0 0 0]) rfl (by simp only [go_sem]) rfl ?_
   simp only [List.length_cons,List.length_nil,Nat.reduceAdd,Nat.reduceSub,List.replicate_succ,List.replicate_zero,List.cons_append,List.nil_append]
   refine sq ctNo_ok ?_
   simp only [go_sem]
   refine seqM ?_
   refine seqM ?_
   obtain ⟨r17,e18,H⟩:=bsi H
   refine rg ct21t4_ok ?_
   simp only [go_sem,Nat.reduceLT,Nat.reduceAdd,ct21t4_47,body47,e18]
   repeat ((with_reducible refine And.intro ?_ ?_);focus exact an0)
   refine condM' rfl trivial (fun hc=>?_) (fun hc=>?_)
   ·have hk19:(r17)=true:=by simpa using hc
    replace H:=cond_f hc H
    refine rg ctNo_ok ?_
    simp only [go_sem]
    refine sq ctNo_ok ?_
    simp only [go_sem]
    refine rg ctNo_ok ?_
    simp only [go_sem]
    obtain ⟨r25,e26,H⟩:=bsi H
    obtain ⟨f27,H⟩:=need_some.1 H
    replace f27:=capb_iff.1 f27
    refine cutO shT_ok ct21t7_ok 3 ?_
    simp only [kO_normal,List.take_succ_cons,List.take_zero,List.drop_succ_cons,List.drop_zero,go_sem,Nat.reduceLeDiff,Nat.reduceAdd,ct21t7_52,body52_1,e26,f27]
    repeat ((with_reducible refine And.intro ?_ ?_);focus exact an1)
    refine endO ?_
    refine seqM ?_
    refine draw_rule shT_ok ctNo_ok 0 (by kernel_rfl) (by kernel_rfl) ?_
    intro an han
    simp only [d_nil,d_cons,nxtD,xrD,xoD,roEq,minL,List.append_nil,refsOp,refs,mask,maskF,place,placeF,okLog,pairOk,hit,inL,slotsF,nrH,nrB,nrL,nr,List.replicate_zero,Nat.sub_self,Nat.add_zero,Nat.zero_add,Nat.reduceSub,Nat.lt_add_one,go_sem,Nat.reduceLeDiff,Nat.reduceLT,Nat.reduceAdd,Nat.reduceSub,Nat.reduceBEq]
    repeat ((with_reducible refine And.intro ?_ ?_);focus exact an2)
    refine rg ctNo_ok ?_
    simp only [go_sem,Nat.reduceLT,Nat.reduceAdd]
    obtain rfl:=Option.some.inj H
    refine ⟨[8,3,4,0,1,2],?_,?_,[],?_,?_,rfl⟩
    ·simp only [go_sem,Nat.reduceBEq]
     try exact at0
    ·simp only [go_sem,Nat.reduceBEq]
     try exact at0
    ·simp only [go_sem,Nat.reduceBEq]
     exact Cv_tup (CvL_cons (ro_row (by first|rfl|simp) (app_row (f:=c_TFrame) r13 r25 (fun _ _ _ _=>rfl) (fun _ _ _ _=>rfl))) (CvL_cons (Cv_agg (CvL_cons Cv_int (CvL_cons Cv_int (CvL_cons (ro_row (by first|rfl|simp) (fun _ _ _ _=>rfl)) (CvL_cons (ro_row (by first|rfl|simp) (fun _ _ _ _=>rfl)) CvL_nil))))) (CvL_cons Cv_int CvL_nil)))
    ·simp only [go_sem,CvH]
   have hk19:(r17)=false:=by simpa using hc
   replace H:=cond_t hc H
   refine fz_mean [4] ?_ ?_
   ·simp only [go_sem,Nat.reduceBEq]
    try exact at0
   simp only [go_sem,Nat.reduceBEq,Nat.reduceAdd]
   obtain ⟨r20,e21,H⟩:=bsi H
   refine rg ct21t5_ok ?_
   simp only [go_sem,Nat.reduceLT,Nat.reduceAdd,ct21t5_53,body53,e21]
   repeat ((with_reducible refine And.intro ?_ ?_);focus exact an0)
   refine sq ctNo_ok ?_
   simp only [go_sem]
   refine rg ctNo_ok ?_
   simp only [go_sem]
   obtain ⟨r22,e23,H⟩:=bsi H
   obtain ⟨f24,H⟩:=need_some.1 H
   replace f24:=capb_iff.1 f24
   refine cutO shT_ok ct21t6_ok 3 ?_
   simp only [kO_normal,List.take_succ_cons,List.take_zero,List.drop_succ_cons,List.drop_zero,go_sem,Nat.reduceLeDiff,Nat.reduceAdd,ct21t6_52,body52_0,e23,f24]
   repeat ((with_reducible refine And.intro ?_ ?_);focus exact an1)
   refine endO ?_
   refine seqM ?_
   refine draw_rule shT_ok ctNo_ok 0 (by kernel_rfl) (by kernel_rfl) ?_
   intro an han
   simp only [d_nil,d_cons,nxtD,xrD,xoD,roEq,minL,List.append_nil,refsOp,refs,mask,maskF,place,placeF,okLog,pairOk,hit,inL,slotsF,nrH,nrB,nrL,nr,List.replicate_zero,Nat.sub_self,Nat.add_zero,Nat.zero_add,Nat.reduceSub,Nat.lt_add_one,go_sem,Nat.reduceLeDiff,Nat.reduceLT,Nat.reduceAdd,Nat.reduceSub,Nat.reduceBEq]
   repeat ((with_reducible refine And.intro ?_ ?_);focus exact an2)
   refine rg ctNo_ok ?_
   simp only [go_sem,Nat.reduceLT,Nat.reduceAdd]
   obtain rfl:=Option.some.inj H
   refine ⟨[9,3,0,1,2],?_,?_,[],?_,?_,rfl⟩
   ·simp only [go_sem,Nat.reduceBEq]
    try exact at0
   ·simp only [go_sem,Nat.reduceBEq]
    try exact at0
   ·simp only [go_sem,Nat.reduceBEq]
    exact Cv_tup (CvL_cons (ro_row (by first|rfl|simp) (app_row (f:=c_TFrame) r13 r22 (fun _ _ _ _=>rfl) (fun _ _ _ _=>rfl))) (CvL_cons (Cv_agg (CvL_cons Cv_int (CvL_cons Cv_int (CvL_cons (ro_row (by first|rfl|simp) (fun _ _ _ _=>rfl)) (CvL_cons (Cv_ronil (α:=TStored)) CvL_nil))))) (CvL_cons Cv_int CvL_nil)))
   ·simp only [go_sem,CvH]
  ·cases hb
 ·unfold body21 at hb
  split at hb<;>cases hb
noncomputable def F65f_L1 (r1:List TSleeper) (v1_1:Int) (v1_2:List TSleeper):Option (Lp (Int × (List TSleeper)) ((Int × (List TSleeper)) ⊕ (TBuffer))) :=
 bif (bLt v1_1 (r1.length:Nat)) then (need (bLt v1_1 1000000) <| need (inb v1_1 v1_2.length) <| (F93_0 ((gd v1_2 v1_1.toNat).Held)).bind fun r5=>need (inb v1_1 v1_2.length) <| some (.next (wr .i64 (v1_1+1),(v1_2.set v1_1.toNat (TSleeper.mk ((gd v1_2 v1_1.toNat).Aid) ((gd v1_2 v1_1.toNat).Asleep) r5))))) else (some (.done (.inl (v1_1,v1_2))))
noncomputable def F65f (gi:Nat) (p0:TBuffer):Option (TBuffer) :=
 (F92 p0.List).bind fun r1=>lp (loopD (fun s=>F65f_L1 r1 s.1 s.2) (0,r1)) (fun e=>need (bLt (gi:Int) e.1) <| (F93 p0.Group).bind fun r8=>some (TBuffer.mk p0.Limit p0.Stay e.2 r8)) some
noncomputable def body65f (gi:Nat):List AV->Nat->AR
 | [v0],s=>.heap (aK 4 k_TBuffer v0/\(F65f gi (g_TBuffer (aL v0))).isSome=true) (.agg [.int .i64 ((gt (F65f gi (g_TBuffer (aL v0)))).Limit),.int .i64 ((gt (F65f gi (g_TBuffer (aL v0)))).Stay),.sl (s) 3 0 ((gt (F65f gi (g_TBuffer (aL v0)))).List).length false,.sl (s+2) 43 0 ((gt (F65f gi (g_TBuffer (aL v0)))).Group).length false]) [.row 57 3 ((gt (F65f gi (g_TBuffer (aL v0)))).List).length (upc (enR c_TSleeper ((gt (F65f gi (g_TBuffer (aL v0)))).List)) gi 2 [.sl (s+1) 43 0 ((gd ((gt (F65f gi (g_TBuffer (aL v0)))).List) gi).Held).length false]),.row 61 43 ((gd ((gt (F65f gi (g_TBuffer (aL v0)))).List) gi).Held).length (enR c_TStored ((gd ((gt (F65f gi (g_TBuffer (aL v0)))).List) gi).Held)),.row 61 43 ((gt (F65f gi (g_TBuffer (aL v0)))).Group).length (enR c_TStored ((gt (F65f gi (g_TBuffer (aL v0)))).Group))]
 | _,_=>.fail
theorem ok65f (gi:Nat):FnOk Try.prog 65 (genC (body65f gi)):=by
 refine gen_fn (body65f gi) (rs:=[.cell 2 25]) Try.func65 (by kernel_rfl) rfl rfl ?_
 intro l s ob v ns hb hob
 rcases hb with ⟨hb,rfl⟩|hb
 ·unfold body65f at hb
  split at hb<;>cases hb
 ·unfold body65f at hb
  split at hb
  ·rename_i v0
   injection hb with q1 q2 q3;subst q1 q2 q3
   obtain ⟨hk0_0,hob⟩:=hob
   obtain ⟨r,H⟩:=Option.isSome_iff_exists.1 hob
   rw [H,gt_some]
   have hw0:=wA_TBuffer hk0_0
   generalize g_TBuffer (aL v0)=p0 at H hw0
   refine ⟨[.agg [.int .i64 p0.Limit,.int .i64 p0.Stay,.ro 3 p0.List.length false (enR c_TSleeper p0.List),.ro 43 p0.Group.length false (enR c_TStored p0.Group)]],.agg [.int .i64 (r.Limit),.int .i64 (r.Stay),.sl (0) 3 0 (r.List).length false,.sl (2) 43 0 (r.Group).length false],[.row 57 3 (r.List).length (upc (enR c_TSleeper (r.List)) gi 2 [.sl (1) 43 0 ((gd (r.List) gi).Held).length false]),.row 61 43 ((gd (r.List) gi).Held).length (enR c_TStored ((gd (r.List) gi).Held)),.row 61 43 (r.Group).length (enR c_TStored (r.Group))],(fun E vs F=>FR_wk1 hw0.1 F (fun vs F=>F)),by simp only [ren,renL,rnN_0,rnN_s,Nat.reduceAdd],⟨RenB_foc nr_TSleeper (by simp only [rnN_s]),RenB_row nr_TStored,RenB_row nr_TStored,trivial⟩,?_⟩
   rw [Try.ntmps65]
   simp only [List.length_cons,List.length_nil,Nat.reduceAdd,Nat.reduceSub,List.replicate_succ,List.replicate_zero,List.cons_append,List.nil_append]
   unfold F65f at H
   try dsimp only at H
   refine sq ctNo_ok ?_
   simp only [go_sem]
   refine seqM ?_
   obtain ⟨r1,e2,H⟩:=bsi H
   refine rg ct65t0_ok ?_
   simp only [go_sem,Nat.reduceLeDiff,Nat.reduceLT,Nat.reduceAdd,ct65t0_92,body92,e2]
   repeat ((with_reducible refine And.intro ?_ ?_);focus exact an0)
   refine seqM ?_
   refine sq ctNo_ok ?_
   simp only [go_sem,Nat.reduceLeDiff,Nat.reduceLT,Nat.reduceAdd]
   repeat ((with_reducible refine And.intro ?_ ?_);focus exact an0)
   refine blkM ?_
   refine loop_den (fun s:Int × (List TSleeper)=>(.top::.ptr 0 0 0 0::.ptr 1 0 0 0::tp 7 (.int .i64 (r1.length:Nat)::.int .i64 s.1::tp 20 []))) (fun s=>[.lit 25 [.int .i64 p0.Limit,.int .i64 p0.Stay,.sl 3 3 0 s.2.length false,.ro 43 p0.Group.length false (enR c_TStored p0.Group)],.lit 25 [.int .i64 0,.int .i64 0,.ro 0 0 true (fun _ _=>.top),.ro 0 0 true (fun _ _=>.top)],.dead,.row 57 3 s.2.length (bif bLt (gi:Int) s.1 then upc (enR c_TSleeper s.2) gi 2 [.sl 4 43 0 (gd s.2 gi).Held.length false] else enR c_TSleeper s.2),.row 61 43 (bif bLt (gi:Int) s.1 then (gd s.2 gi).Held.length else 0) (enR c_TStored (gd s.2 gi).Held)]) (fun e:Int × (List TSleeper)=>(.top::.ptr 0 0 0 0::.ptr 1 0 0 0::tp 29 [])) (fun e=>[.lit 25 [.int .i64 p0.Limit,.int .i64 p0.Stay,.sl 3 3 0 e.2.length false,.ro 43 p0.Group.length false (enR c_TStored p0.Group)],.lit 25 [.int .i64 0,.int .i64 0,.ro 0 0 true (fun _ _=>.top),.ro 0 0 true (fun _ _=>.top)],.dead,.row 57 3 e.2.length (bif bLt (gi:Int) e.1 then upc (enR c_TSleeper e.2) gi 2 [.sl 4 43 0 (gd e.2 gi).Held.length false] else enR c_TSleeper e.2),.row 61 43 (bif bLt (gi:Int) e.1 then (gd e.2 gi).Held.length else 0) (enR c_TStored (gd e.2 gi).Held)]) H ?_ (fun s o H hn1_1 hn2_1=>?_) (fun e H=>?_)
   ·have h0:bLt (gi:Int) 0=false:=by simp [bLt]
    try dsimp only
    simp only [h0,cond_false]
    refine SubF_of ⟨[some 0,some 1,some 2,some 2,none],?_,?_,by rfl,by rfl⟩
    ·simp [CvL,Cv,getM,tp,tp]
    ·exact ⟨cv,cv,CvB_dead,CvB_row nr_TSleeper cl (fun _ _ _ _=>rfl),(by simp only [CvB]),trivial⟩
   ·obtain ⟨v1_1,v1_2⟩:=s
    unfold F65f_L1 at H
    try dsimp only at H ⊢
    try simp only [tp]
    refine sq ctNo_ok ?_
    simp only [go_sem,Nat.reduceAdd]
    refine seqM ?_
    refine condM' rfl trivial (fun hc=>?_) (fun hc=>?_)
    ·have hk3:(bLt v1_1 (r1.length:Nat))=false:=by simpa using hc
     replace H:=cond_f hc H
     refine rg ctNo_ok ?_
     simp only [go_sem]
     refine ⟨_,(Option.some.inj H).symm,?_⟩
     cases hgi:bLt (gi:Int) v1_1
     ·try dsimp only
      simp only [cond_false]
      refine SubF_of ⟨[some 0,some 1,some 2,some 3,some 4],?_,?_,by rfl,by rfl⟩
      ·simp [CvL,Cv,getM]
      ·exact ⟨cv,cv,CvB_dead,CvB_row nr_TSleeper cl (fun _ _ _ _=>rfl),CvB_z,trivial⟩
     ·try dsimp only
      simp only [cond_true]
      refine SubF_of ⟨[some 0,some 1,some 2,some 3,some 4],?_,?_,by rfl,by rfl⟩
      ·simp [CvL,Cv,getM]
      ·exact ⟨cv,cv,CvB_dead,CvB_focI nr_TSleeper (by simp [getM]) rfl rfl,CvB_row nr_TStored rfl (fun _ _ _ _=>rfl),trivial⟩
    have hk3:(bLt v1_1 (r1.length:Nat))=true:=by simpa using hc
    replace H:=cond_t hc H
    refine rg ctNo_ok ?_
    simp only [go_sem]
    refine seqM ?_
    refine blkM ?_
    refine sq ctNo_ok ?_
    simp only [go_sem]
    obtain ⟨fz0,H⟩:=need_some.1 H
    have fz0:v1_1 < 1000000:=by simpa [bLt] using fz0
    obtain ⟨f4,H⟩:=need_some.1 H
    replace f4:=inb_iff.1 f4
    obtain ⟨r5,e6,H⟩:=bsi H
    obtain ⟨f7,H⟩:=need_some.1 H
    replace f7:=inb_iff.1 f7
    have hwr:wr .i64 (v1_1+1)=v1_1+1:=wr_in (by omega)
    rcases Nat.lt_trichotomy v1_1.toNat gi with hgi|hgi|hgi
    ·have hb:bLt (gi:Int) v1_1=false:=by simp only [bLt,decide_eq_false_iff_not];omega
     have hb2:bLt (gi:Int) (wr .i64 (v1_1+1))=false:=by rw [hwr];simp only [bLt,decide_eq_false_iff_not];omega
     simp only [hb,cond_false]
     refine draw_rule shT_ok ct65t1_ok 0 (by kernel_rfl) (by kernel_rfl) ?_
     intro an han
     simp only [d_nil,d_cons,nxtD,xrD,xoD,roEq,minL,List.append_nil,refsOp,refs,refsL,mask,maskF,place,placeF,okLog,pairOk,hit,inL,slotsF,ren,nrH,nrB,List.replicate_zero,Nat.sub_self,Nat.add_zero,Nat.zero_add,Nat.reduceSub,Nat.lt_add_one,go_sem,Nat.reduceLeDiff,Nat.reduceLT,Nat.reduceAdd,Nat.reduceSub,Nat.reduceBEq,ct65t1_93,body93_0,f4,e6]
     repeat ((with_reducible refine And.intro ?_ ?_);focus exact an5)
     refine rg ctNo_ok ?_
     simp only [go_sem]
     refine ⟨_,(Option.some.inj H).symm,?_⟩
     try dsimp only
     simp only [hb2,cond_false]
     refine SubF_of ⟨[some 0,some 1,some 2,some 3,some 4],?_,?_,by rfl,by rfl⟩
     ·simp [CvL,Cv,getM]
     ·exact ⟨cv,cv,CvB_dead,CvB_row nr_TSleeper cl (upc_row (f:=c_TSleeper) v1_2 v1_1.toNat 2 (TSleeper.mk ((gd v1_2 v1_1.toNat).Aid) ((gd v1_2 v1_1.toNat).Asleep) r5) (fun _ _ _ _=>rfl) (fun y hy=>match y,hy with|0,_=>rfl|1,_=>rfl|2,_=>rfl|(y+3),h=>absurd h (by omega))),CvB_z,trivial⟩
    ·have hb:bLt (gi:Int) v1_1=false:=by simp only [bLt,decide_eq_false_iff_not];omega
     have hb2:bLt (gi:Int) (wr .i64 (v1_1+1))=true:=by rw [hwr];simp only [bLt,decide_eq_true_eq];omega
     have Hk:=H
     obtain rfl:=hgi
     have H:=Hk
     have e6b:F93 (gd v1_2 v1_1.toNat).Held=some r5:=by have h:=e6;unfold F93_0 at h;unfold F93;exact h
     have hgs:gd (v1_2.set v1_1.toNat (TSleeper.mk ((gd v1_2 v1_1.toNat).Aid) ((gd v1_2 v1_1.toNat).Asleep) r5)) v1_1.toNat=(TSleeper.mk ((gd v1_2 v1_1.toNat).Aid) ((gd v1_2 v1_1.toNat).Asleep) r5):=gd_set_eq (by omega)
     simp only [hb,cond_false]
     refine draw_rule shT_ok ct65t2_ok 1 (by kernel_rfl) (by kernel_rfl) ?_
     intro an han
     simp only [d_nil,d_cons,nxtD,xrD,xoD,roEq,minL,List.append_nil,refsOp,refs,refsL,mask,maskF,place,placeF,okLog,pairOk,hit,inL,slotsF,ren,rnN,nrH,nrB,List.replicate_zero,List.replicate_succ,Nat.sub_self,Nat.add_zero,Nat.zero_add,Nat.reduceSub,Nat.lt_add_one,go_sem,Nat.reduceLeDiff,Nat.reduceLT,Nat.reduceAdd,Nat.reduceSub,Nat.reduceBEq,ct65t2_93,body93,f4,e6b]
     repeat ((with_reducible refine And.intro ?_ ?_);focus exact an5)
     refine rg ctNo_ok ?_
     simp only [go_sem]
     refine ⟨_,(Option.some.inj H).symm,?_⟩
     try dsimp only
     simp only [hb2,cond_true,hgs]
     refine SubF_of ⟨[some 0,some 1,some 2,some 3,some 5],?_,?_,by rfl,by rfl⟩
     ·simp [CvL,Cv,getM]
     ·exact ⟨cv,cv,CvB_dead,CvB_focS nr_TSleeper (by omega) (by simp [getM]) (fun y hy hne=>match y,hy with|0,_=>rfl|1,_=>rfl|2,_=>absurd rfl hne|(y+3),h=>absurd h (by omega)) rfl,CvB_row nr_TStored rfl (fun _ _ _ _=>rfl),trivial⟩
    ·have hb:bLt (gi:Int) v1_1=true:=by simp only [bLt,decide_eq_true_eq];omega
     have hb2:bLt (gi:Int) (wr .i64 (v1_1+1))=true:=by rw [hwr];simp only [bLt,decide_eq_true_eq];omega
     have hne:v1_1.toNat ≠ gi:=by omega
     have hgs:gd (v1_2.set v1_1.toNat (TSleeper.mk ((gd v1_2 v1_1.toNat).Aid) ((gd v1_2 v1_1.toNat).Asleep) r5)) gi=gd v1_2 gi:=gd_set_ne hne
     simp only [hb,cond_true]
     refine draw_rule shT_ok ct65t1_ok 0 (by kernel_rfl) (by kernel_rfl) ?_
     intro an han
     simp only [d_nil,d_cons,nxtD,xrD,xoD,roEq,minL,List.append_nil,refsOp,refs,refsL,mask,maskF,place,placeF,okLog,pairOk,hit,inL,slotsF,ren,nrH,nrB,List.replicate_zero,Nat.sub_self,Nat.add_zero,Nat.zero_add,Nat.reduceSub,Nat.lt_add_one,go_sem,Nat.reduceLeDiff,Nat.reduceLT,Nat.reduceAdd,Nat.reduceSub,Nat.reduceBEq,upc_ne hne,ct65t1_93,body93_0,f4,e6]
     repeat ((with_reducible refine And.intro ?_ ?_);focus exact an5)
     refine rg ctNo_ok ?_
     simp only [go_sem]
     refine ⟨_,(Option.some.inj H).symm,?_⟩
     try dsimp only
     simp only [hb2,cond_true,hgs]
     refine SubF_of ⟨[some 0,some 1,some 2,some 3,some 4],?_,?_,by rfl,by rfl⟩
     ·simp [CvL,Cv,getM]
     ·exact ⟨cv,cv,CvB_dead,CvB_focC nr_TSleeper (by omega) hne (by simp [getM]) rfl (fun y hy=>match y,hy with|0,_=>rfl|1,_=>rfl|2,_=>rfl|(y+3),h=>absurd h (by omega)),CvB_row nr_TStored rfl (fun _ _ _ _=>rfl),trivial⟩
   ·obtain ⟨e1,e2⟩:=e
    try dsimp only at H ⊢
    try simp only [tp]
    try simp only [m_normal]
    refine seqM ?_
    obtain ⟨fgi,H⟩:=need_some.1 H
    try simp only [fgi,cond_true]
    obtain ⟨r8,e9,H⟩:=bsi H
    refine rg ct65t2_ok ?_
    simp only [go_sem,Nat.reduceLT,Nat.reduceAdd,ct65t2_93,body93,e9]
    repeat ((with_reducible refine And.intro ?_ ?_);focus exact an0)
    refine sq ctNo_ok ?_
    simp only [go_sem,Nat.reduceLT,Nat.reduceAdd]
    repeat ((with_reducible refine And.intro ?_ ?_);focus exact an6)
    refine rg ctNo_ok ?_
    simp only [go_sem,Nat.reduceLT,Nat.reduceAdd]
    obtain rfl:=Option.some.inj H
    refine ⟨[],?_,?_,[some 3,some 4,some 5],?_,?_,by rfl⟩
    ·simp only [go_sem]
    ·simp only [go_sem]
    ·simp [fzV,fzL,inL,Cv,CvL,getM]
     all_goals first|exact cl|exact cl
    ·simp only [go_sem,CvH]
     exact ⟨CvB_focI nr_TSleeper (by simp [getM]) rfl rfl,CvB_row nr_TStored rfl (fun _ _ _ _=>rfl),CvB_row nr_TStored cl (fun _ _ _ _=>rfl)⟩
  ·cases hb
noncomputable def F88 (p0:Int):Option (Bool) :=
 some (!bEq p0 p0)
noncomputable def body88:List AV->AR
 | [v0]=>.pure (iK .u8 v0/\(F88 (iA v0)).isSome=true) (.bool (gt (F88 (iA v0))))
 | _=>.fail
theorem ok88:FnOk Try.prog 88 (pureC body88):=by
 refine pure_fnM body88 (rs:=[.tmp 2]) Try.func88 (by kernel_rfl) rfl rfl ?_
 intro l ob v hb hob
 unfold body88 at hb
 split at hb
 ·rename_i v0
  injection hb with q1 q2;subst q1 q2
  obtain ⟨hk0_0,hob⟩:=hob
  obtain ⟨r,H⟩:=Option.isSome_iff_exists.1 hob
  rw [H,gt_some]
  have hw0:=iK_wk hk0_0
  generalize iA v0=p0 at H hw0
  refine ⟨[.int .u8 p0],_,(fun E vs F=>FR_wk1 hw0.1 F (fun vs F=>F)),rfl,rfl,?_⟩
  rw [Try.ntmps88]
  simp only [List.length_cons,List.length_nil,Nat.reduceAdd,Nat.reduceSub,List.replicate_succ,List.replicate_zero,List.cons_append,List.nil_append]
  unfold F88 at H
  try dsimp only at H
  refine sq ctNo_ok ?_
  simp only [go_sem]
  refine sq ctNo_ok ?_
  simp only [go_sem]
  refine rg ctNo_ok ?_
  simp only [go_sem]
  obtain rfl:=Option.some.inj H
  first|rfl|simp only [Bool.and_false,Bool.false_and,Bool.and_true,Bool.true_and]
 ·cases hb
noncomputable def ct57t0:Ct:=tab [(88,pureC body88)]
theorem ct57t0_ok:CtOk Try.prog ct57t0:=tab_cons ok88 <| tab_nil
theorem ct57t0_88 (l:List AV) (h:List ABlk):ct57t0 88 l h=pureC body88 l h:=rfl
noncomputable def F57 (p0:Int) (p1:Int):Option (Int) :=
 (F88 p0).bind fun r1=>(F88 p1).bind fun r3=>bif r1 then (bif r3 then (some 0) else (some (-1))) else (bif r3 then (some 1) else (bif (bLt p0 p1) then (some (-1)) else (bif (bLt p1 p0) then (some 1) else (some 0))))
noncomputable def body57:List AV->AR
 | [v0,v1]=>.pure (iK .u8 v0/\iK .u8 v1/\(F57 (iA v0) (iA v1)).isSome=true) (.int .i64 (gt (F57 (iA v0) (iA v1))))
 | _=>.fail
theorem ok57:FnOk Try.prog 57 (pureC body57):=by
 refine pure_fnM body57 (rs:=[.tmp 4]) Try.func57 (by kernel_rfl) rfl rfl ?_
 intro l ob v hb hob
 unfold body57 at hb
 split at hb
 ·rename_i v0 v1
  injection hb with q1 q2;subst q1 q2
  obtain ⟨hk0_0,hk1_0,hob⟩:=hob
  obtain ⟨r,H⟩:=Option.isSome_iff_exists.1 hob
  rw [H,gt_some]
  have hw0:=iK_wk hk0_0
  have hw1:=iK_wk hk1_0
  generalize iA v0=p0 at H hw0
  generalize iA v1=p1 at H hw1
  refine ⟨[.int .u8 p0,.int .u8 p1],_,(fun E vs F=>FR_wk1 hw0.1 F (fun vs F=>FR_wk1 hw1.1 F (fun vs F=>F))),rfl,rfl,?_⟩
  rw [Try.ntmps57]
  simp only [List.length_cons,List.length_nil,Nat.reduceAdd,Nat.reduceSub,List.replicate_succ,List.replicate_zero,List.cons_append,List.nil_append]
  unfold F57 at H
  try dsimp only at H
  refine sq ctNo_ok ?_
  simp only [go_sem]
  refine seqM ?_
  obtain ⟨r1,e2,H⟩:=bsi H
  refine rg ct57t0_ok ?_
  simp only [go_sem,ct57t0_88,body88,e2]
  repeat ((with_reducible refine And.intro ?_ ?_);focus exact an0)
  refine seqM ?_
  obtain ⟨r3,e4,H⟩:=bsi H
  refine rg ct57t0_ok ?_
  simp only [go_sem,ct57t0_88,body88,e4]
  repeat ((with_reducible refine And.intro ?_ ?_);focus exact an0)
  refine seqM ?_
  refine sq ctNo_ok ?_
  simp only [go_sem]
  refine condM rfl trivial (fun hc=>?_) (fun hc=>?_)
  ·have hk5:(r1)=true:=by simpa using hc
   replace H:=cond_t hc H
   refine seqM ?_
   refine sq ctNo_ok ?_
   simp only [go_sem]
   refine condM rfl trivial (fun hc=>?_) (fun hc=>?_)
   ·have hk6:(r3)=true:=by simpa using hc
    replace H:=cond_t hc H
    refine sq ctNo_ok ?_
    simp only [go_sem]
    refine rg ctNo_ok ?_
    simp only [go_sem]
    obtain rfl:=Option.some.inj H
    first|rfl|simp only [Bool.and_false,Bool.false_and,Bool.and_true,Bool.true_and]
   have hk6:(r3)=false:=by simpa using hc
   replace H:=cond_f hc H
   refine rg ctNo_ok ?_
   simp only [go_sem]
   refine sq ctNo_ok ?_
   simp only [go_sem]
   refine rg ctNo_ok ?_
   simp only [go_sem]
   obtain rfl:=Option.some.inj H
   first|rfl|simp only [Bool.and_false,Bool.false_and,Bool.and_true,Bool.true_and]
  have hk5:(r1)=false:=by simpa using hc
  replace H:=cond_f hc H
  refine rg ctNo_ok ?_
  simp only [go_sem]
  refine seqM ?_
  refine sq ctNo_ok ?_
  simp only [go_sem]
  refine condM rfl trivial (fun hc=>?_) (fun hc=>?_)
  ·have hk7:(r3)=true:=by simpa using hc
   replace H:=cond_t hc H
   refine sq ctNo_ok ?_
   simp only [go_sem]
   refine rg ctNo_ok ?_
   simp only [go_sem]
   obtain rfl:=Option.some.inj H
   first|rfl|simp only [Bool.and_false,Bool.false_and,Bool.and_true,Bool.true_and]
  have hk7:(r3)=false:=by simpa using hc
  replace H:=cond_f hc H
  refine rg ctNo_ok ?_
  simp only [go_sem]
  refine seqM ?_
  refine sq ctNo_ok ?_
  simp only [go_sem]
  refine condM rfl trivial (fun hc=>?_) (fun hc=>?_)
  ·have hk8:(bLt p0 p1)=true:=by simpa using hc
   replace H:=cond_t hc H
   refine sq ctNo_ok ?_
   simp only [go_sem]
   refine rg ctNo_ok ?_
   simp only [go_sem]
   obtain rfl:=Option.some.inj H
   first|rfl|simp only [Bool.and_false,Bool.false_and,Bool.and_true,Bool.true_and]
  have hk8:(bLt p0 p1)=false:=by simpa using hc
  replace H:=cond_f hc H
  refine rg ctNo_ok ?_
  simp only [go_sem]
  refine seqM ?_
  refine sq ctNo_ok ?_
  simp only [go_sem]
  refine condM rfl trivial (fun hc=>?_) (fun hc=>?_)
  ·have hk9:(bLt p1 p0)=true:=by simpa using hc
   replace H:=cond_t hc H
   refine sq ctNo_ok ?_
   simp only [go_sem]
   refine rg ctNo_ok ?_
   simp only [go_sem]
   obtain rfl:=Option.some.inj H
   first|rfl|simp only [Bool.and_false,Bool.false_and,Bool.and_true,Bool.true_and]
  have hk9:(bLt p1 p0)=false:=by simpa using hc
  replace H:=cond_f hc H
  refine rg ctNo_ok ?_
  simp only [go_sem]
  refine sq ctNo_ok ?_
  simp only [go_sem]
  refine rg ctNo_ok ?_
  simp only [go_sem]
  obtain rfl:=Option.some.inj H
  first|rfl|simp only [Bool.and_false,Bool.false_and,Bool.and_true,Bool.true_and]
 ·cases hb
noncomputable def ct56t0:Ct:=tab [(57,pureC body57)]
theorem ct56t0_ok:CtOk Try.prog ct56t0:=tab_cons ok57 <| tab_nil
theorem ct56t0_57 (l:List AV) (h:List ABlk):ct56t0 57 l h=pureC body57 l h:=rfl
noncomputable def F56 (p0:TStored) (p1:TStored):Option (Int) :=
 (F57 p0.Cat p1.Cat).bind fun r1=>some r1
noncomputable def body56:List AV->AR
 | [v0,v1]=>.pure (aK 43 k_TStored v0/\aK 43 k_TStored v1/\(F56 (g_TStored (aL v0)) (g_TStored (aL v1))).isSome=true) (.int .i64 (gt (F56 (g_TStored (aL v0)) (g_TStored (aL v1)))))
 | _=>.fail
theorem ok56:FnOk Try.prog 56 (pureC body56):=by
 refine pure_fnM body56 (rs:=[.tmp 4]) Try.func56 (by kernel_rfl) rfl rfl ?_
 intro l ob v hb hob
 unfold body56 at hb
 split at hb
 ·rename_i v0 v1
  injection hb with q1 q2;subst q1 q2
  obtain ⟨hk0_0,hk1_0,hob⟩:=hob
  obtain ⟨r,H⟩:=Option.isSome_iff_exists.1 hob
  rw [H,gt_some]
  have hw0:=wA_TStored hk0_0
  have hw1:=wA_TStored hk1_0
  generalize g_TStored (aL v0)=p0 at H hw0
  generalize g_TStored (aL v1)=p1 at H hw1
  refine ⟨[.agg (.int .u8 p0.Cat::.int .i64 p0.At::.int .u8 p0.Frame.Head.Kind::.int .u8 p0.Frame.Head.Sub::.bool p0.Frame.Head.ToDs::.bool p0.Frame.Head.FromDs::.bool p0.Frame.Head.More::.bool p0.Frame.Head.Retry::.bool p0.Frame.Head.Sleep::.bool p0.Frame.Head.MoreData::.bool p0.Frame.Head.Protected::.int .i64 p0.Frame.Head.Duration::.int .u8 p0.Frame.Head.A1.x0::.int .u8 p0.Frame.Head.A1.x1::.int .u8 p0.Frame.Head.A1.x2::.int .u8 p0.Frame.Head.A1.x3::.int .u8 p0.Frame.Head.A1.x4::.int .u8 p0.Frame.Head.A1.x5::.int .u8 p0.Frame.Head.A2.x0::.int .u8 p0.Frame.Head.A2.x1::.int .u8 p0.Frame.Head.A2.x2::.int .u8 p0.Frame.Head.A2.x3::.int .u8 p0.Frame.Head.A2.x4::.int .u8 p0.Frame.Head.A2.x5::.int .u8 p0.Frame.Head.A3.x0::.int .u8 p0.Frame.Head.A3.x1::.int .u8 p0.Frame.Head.A3.x2::.int .u8 p0.Frame.Head.A3.x3::.int .u8 p0.Frame.Head.A3.x4::.int .u8 p0.Frame.Head.A3.x5::.int .u8 p0.Frame.Head.A4.x0::.int .u8 p0.Frame.Head.A4.x1::.int .u8 p0.Frame.Head.A4.x2::.int .u8 p0.Frame.Head.A4.x3::.int .u8 p0.Frame.Head.A4.x4::.int .u8 p0.Frame.Head.A4.x5::.int .i64 p0.Frame.Head.Seq::.int .i64 p0.Frame.Head.Frag::.int .i64 p0.Frame.Head.Tid::.int .u8 p0.Frame.Head.Ack::.bool p0.Frame.Head.Amsdu::.bool p0.Frame.Head.Eosp::.ro 1 p0.Frame.Body.length false (enR c_u8 p0.Frame.Body)::[]),.agg (.int .u8 p1.Cat::.int .i64 p1.At::.int .u8 p1.Frame.Head.Kind::.int .u8 p1.Frame.Head.Sub::.bool p1.Frame.Head.ToDs::.bool p1.Frame.Head.FromDs::.bool p1.Frame.Head.More::.bool p1.Frame.Head.Retry::.bool p1.Frame.Head.Sleep::.bool p1.Frame.Head.MoreData::.bool p1.Frame.Head.Protected::.int .i64 p1.Frame.Head.Duration::.int .u8 p1.Frame.Head.A1.x0::.int .u8 p1.Frame.Head.A1.x1::.int .u8 p1.Frame.Head.A1.x2::.int .u8 p1.Frame.Head.A1.x3::.int .u8 p1.Frame.Head.A1.x4::.int .u8 p1.Frame.Head.A1.x5::.int .u8 p1.Frame.Head.A2.x0::.int .u8 p1.Frame.Head.A2.x1::.int .u8 p1.Frame.Head.A2.x2::.int .u8 p1.Frame.Head.A2.x3::.int .u8 p1.Frame.Head.A2.x4::.int .u8 p1.Frame.Head.A2.x5::.int .u8 p1.Frame.Head.A3.x0::.int .u8 p1.Frame.Head.A3.x1::.int .u8 p1.Frame.Head.A3.x2::.int .u8 p1.Frame.Head.A3.x3::.int .u8 p1.Frame.Head.A3.x4::.int .u8 p1.Frame.Head.A3.x5::.int .u8 p1.Frame.Head.A4.x0::.int .u8 p1.Frame.Head.A4.x1::.int .u8 p1.Frame.Head.A4.x2::.int .u8 p1.Frame.Head.A4.x3::.int .u8 p1.Frame.Head.A4.x4::.int .u8 p1.Frame.Head.A4.x5::.int .i64 p1.Frame.Head.Seq::.int .i64 p1.Frame.Head.Frag::.int .i64 p1.Frame.Head.Tid::.int .u8 p1.Frame.Head.Ack::.bool p1.Frame.Head.Amsdu::.bool p1.Frame.Head.Eosp::.ro 1 p1.Frame.Body.length false (enR c_u8 p1.Frame.Body)::[])],_,(fun E vs F=>FR_wk1 hw0.1 F (fun vs F=>FR_wk1 hw1.1 F (fun vs F=>F))),rfl,rfl,?_⟩
  rw [Try.ntmps56]
  simp only [List.length_cons,List.length_nil,Nat.reduceAdd,Nat.reduceSub,List.replicate_succ,List.replicate_zero,List.cons_append,List.nil_append]
  unfold F56 at H
  try dsimp only at H
  refine sq ctNo_ok ?_
  simp only [go_sem]
  refine seqM ?_
  obtain ⟨r1,e2,H⟩:=bsi H
  refine rg ct56t0_ok ?_
  simp only [go_sem,Nat.reduceLeDiff,Nat.reduceLT,Nat.reduceAdd,ct56t0_57,body57,e2]
  repeat ((with_reducible refine And.intro ?_ ?_);focus exact an0)
  refine rg ctNo_ok ?_
  simp only [go_sem]
  obtain rfl:=Option.some.inj H
  first|rfl|simp only [Bool.and_false,Bool.false_and,Bool.and_true,Bool.true_and]
 ·cases hb
noncomputable def F59_0 (p0:TStored) (p1:Int):Option (Bool) :=
 some (bEq p0.Cat p1)
noncomputable def body59_0:List AV->AR
 | [v0,v1]=>.pure (aK 43 k_TStored v0/\rK 1 k_u8 v1/\(F59_0 (g_TStored (aL v0)) (g_u8 (rG v1))).isSome=true) (.bool (gt (F59_0 (g_TStored (aL v0)) (g_u8 (rG v1)))))
 | _=>.fail
theorem ok59_0:FnOk Try.prog 59 (pureC body59_0):=by
 refine pure_fnM body59_0 (rs:=[.tmp 3]) Try.func59 (by kernel_rfl) rfl rfl ?_
 intro l ob v hb hob
 unfold body59_0 at hb
 split at hb
 ·rename_i v0 v1
  injection hb with q1 q2;subst q1 q2
  obtain ⟨hk0_0,hk1_0,hob⟩:=hob
  obtain ⟨r,H⟩:=Option.isSome_iff_exists.1 hob
  rw [H,gt_some]
  have hw0:=wA_TStored hk0_0
  have hw1:=rK_wk (f:=c_u8) (g:=g_u8) (fun r h=>w_u8 h) hk1_0
  generalize g_TStored (aL v0)=p0 at H hw0
  generalize g_u8 (rG v1)=p1 at H hw1
  refine ⟨[.agg (.int .u8 p0.Cat::.int .i64 p0.At::.int .u8 p0.Frame.Head.Kind::.int .u8 p0.Frame.Head.Sub::.bool p0.Frame.Head.ToDs::.bool p0.Frame.Head.FromDs::.bool p0.Frame.Head.More::.bool p0.Frame.Head.Retry::.bool p0.Frame.Head.Sleep::.bool p0.Frame.Head.MoreData::.bool p0.Frame.Head.Protected::.int .i64 p0.Frame.Head.Duration::.int .u8 p0.Frame.Head.A1.x0::.int .u8 p0.Frame.Head.A1.x1::.int .u8 p0.Frame.Head.A1.x2::.int .u8 p0.Frame.Head.A1.x3::.int .u8 p0.Frame.Head.A1.x4::.int .u8 p0.Frame.Head.A1.x5::.int .u8 p0.Frame.Head.A2.x0::.int .u8 p0.Frame.Head.A2.x1::.int .u8 p0.Frame.Head.A2.x2::.int .u8 p0.Frame.Head.A2.x3::.int .u8 p0.Frame.Head.A2.x4::.int .u8 p0.Frame.Head.A2.x5::.int .u8 p0.Frame.Head.A3.x0::.int .u8 p0.Frame.Head.A3.x1::.int .u8 p0.Frame.Head.A3.x2::.int .u8 p0.Frame.Head.A3.x3::.int .u8 p0.Frame.Head.A3.x4::.int .u8 p0.Frame.Head.A3.x5::.int .u8 p0.Frame.Head.A4.x0::.int .u8 p0.Frame.Head.A4.x1::.int .u8 p0.Frame.Head.A4.x2::.int .u8 p0.Frame.Head.A4.x3::.int .u8 p0.Frame.Head.A4.x4::.int .u8 p0.Frame.Head.A4.x5::.int .i64 p0.Frame.Head.Seq::.int .i64 p0.Frame.Head.Frag::.int .i64 p0.Frame.Head.Tid::.int .u8 p0.Frame.Head.Ack::.bool p0.Frame.Head.Amsdu::.bool p0.Frame.Head.Eosp::.ro 1 p0.Frame.Body.length false (enR c_u8 p0.Frame.Body)::[]),.rptr 1 1 0 0 (enR c_u8 [p1])],_,(fun E vs F=>FR_wk1 hw0.1 F (fun vs F=>FR_wk1 hw1.1 F (fun vs F=>F))),rfl,rfl,?_⟩
  rw [Try.ntmps59]
  simp only [List.length_cons,List.length_nil,Nat.reduceAdd,Nat.reduceSub,List.replicate_succ,List.replicate_zero,List.cons_append,List.nil_append]
  unfold F59_0 at H
  try dsimp only at H
  refine sq ctNo_ok ?_
  simp only [go_sem]
  refine sq ctNo_ok ?_
  simp only [go_sem,Nat.reduceLeDiff,Nat.reduceLT,Nat.reduceAdd]
  repeat ((with_reducible refine And.intro ?_ ?_);focus exact an6)
  refine rg ctNo_ok ?_
  simp only [go_sem]
  obtain rfl:=Option.some.inj H
  first|rfl|simp only [Bool.and_false,Bool.false_and,Bool.and_true,Bool.true_and]
 ·cases hb
noncomputable def ct58_0t0:Ct:=tab [(59,pureC body59_0)]
theorem ct58_0t0_ok:CtOk Try.prog ct58_0t0:=tab_cons ok59_0 <| tab_nil
theorem ct58_0t0_59 (l:List AV) (h:List ABlk):ct58_0t0 59 l h=pureC body59_0 l h:=rfl
noncomputable def F58_0_L1 (p0:List TStored) (p1:Int) (v1_1:Int):Option (Lp (Int) ((Unit) ⊕ (Int))) :=
 bif (bLt v1_1 (p0.length:Nat)) then (need (inb v1_1 p0.length) <| (F59_0 (TStored.mk ((gd p0 v1_1.toNat).Cat) ((gd p0 v1_1.toNat).At) (eF ((gd p0 v1_1.toNat).Frame))) p1).bind fun r3=>bif r3 then (some (.done (.inr v1_1))) else (some (.next (wr .i64 (v1_1+1))))) else (some (.done (.inl ())))
noncomputable def F58_0 (p0:List TStored) (p1:Int):Option (Int) :=
 lp (loopD (fun s=>F58_0_L1 p0 p1 s) 0) (fun _=>some (-1)) some
noncomputable def body58_0:List AV->AR
 | [v0,.fn 59 [v1]]=>.pure (lK k_TStored 43 v0/\rK 1 k_u8 v1/\(F58_0 (lA g_TStored v0) (g_u8 (rG v1))).isSome=true) (.int .i64 (gt (F58_0 (lA g_TStored v0) (g_u8 (rG v1)))))
 | _=>.fail
theorem ok58_0:FnOk Try.prog 58 (pureC body58_0):=by
 refine pure_fnM body58_0 (rs:=[.tmp 4]) Try.func58 (by kernel_rfl) rfl rfl ?_
 intro l ob v hb hob
 unfold body58_0 at hb
 split at hb
 ·rename_i v0 v1
  injection hb with q1 q2;subst q1 q2
  obtain ⟨hk0_0,hk1_0,hob⟩:=hob
  obtain ⟨r,H⟩:=Option.isSome_iff_exists.1 hob
  rw [H,gt_some]
  have hw0:=lK_wk (fun r h=>w_TStored h) hk0_0
  have hw1:=rK_wk (f:=c_u8) (g:=g_u8) (fun r h=>w_u8 h) hk1_0
  generalize lA g_TStored v0=p0 at H hw0
  generalize g_u8 (rG v1)=p1 at H hw1
  refine ⟨[.ro 43 p0.length false (enR c_TStored p0),.fn 59 [.rptr 1 1 0 0 (enR c_u8 [p1])]],_,(fun E vs F=>FR_wk1 hw0.1 F (fun vs F=>FR_wk1 (fn_wk (LW_cons hw1.1 LW_nil)) F (fun vs F=>F))),rfl,rfl,?_⟩
  rw [Try.ntmps58]
  simp only [List.length_cons,List.length_nil,Nat.reduceAdd,Nat.reduceSub,List.replicate_succ,List.replicate_zero,List.cons_append,List.nil_append]
  unfold F58_0 at H
  try dsimp only at H
  refine sq ctNo_ok ?_
  simp only [go_sem]
  refine seqM ?_
  refine sq ctNo_ok ?_
  simp only [go_sem]
  repeat ((with_reducible refine And.intro ?_ ?_);focus exact an0)
  refine blkM ?_
  refine loop_den (fun s:Int=>(.ro 43 p0.length false (enR c_TStored p0)::.fn 59 [.rptr 1 1 0 0 (enR c_u8 [p1])]::tp 5 (.int .i64 (p0.length:Nat)::.int .i64 s::tp 10 []))) (fun s=>[]) (fun e:Unit=>(tp 19 [])) (fun e=>[]) H ?_ (fun v1_1 o H hn1_1 hn2_1=>?_) (fun e H=>?_)
  ·refine SubF_of ⟨[],?_,?_,by rfl,by rfl⟩
   ·simp [CvL,Cv,tp,tp]
   ·trivial
  ·unfold F58_0_L1 at H
   try dsimp only at H ⊢
   try simp only [tp]
   refine sq ctNo_ok ?_
   simp only [go_sem]
   refine seqM ?_
   refine condM' rfl trivial (fun hc=>?_) (fun hc=>?_)
   ·have hk1:(bLt v1_1 (p0.length:Nat))=false:=by simpa using hc
    replace H:=cond_f hc H
    refine rg ctNo_ok ?_
    simp only [go_sem]
    refine ⟨_,(Option.some.inj H).symm,?_⟩
    refine SubF_of ⟨[],?_,?_,by rfl,by rfl⟩
    ·simp [CvL,Cv]
    ·trivial
   have hk1:(bLt v1_1 (p0.length:Nat))=true:=by simpa using hc
   replace H:=cond_t hc H
   refine rg ctNo_ok ?_
   simp only [go_sem]
   refine seqM ?_
   refine blkM ?_
   refine sq ctNo_ok ?_
   simp only [go_sem]
   refine seqM ?_
   obtain ⟨f2,H⟩:=need_some.1 H
   replace f2:=inb_iff.1 f2
   obtain ⟨r3,e4,H⟩:=bsi H
   refine rg ct58_0t0_ok ?_
   simp only [go_sem,Nat.reduceLT,Nat.reduceAdd,ct58_0t0_59,body59_0,f2,e4]
   repeat ((with_reducible refine And.intro ?_ ?_);focus exact an0)
   refine condM rfl trivial (fun hc=>?_) (fun hc=>?_)
   ·have hk5:(r3)=true:=by simpa using hc
    replace H:=cond_t hc H
    refine sq ctNo_ok ?_
    simp only [go_sem]
    refine rg ctNo_ok ?_
    simp only [go_sem]
    have H:=hn2_1 _ (Option.some.inj H).symm
    obtain rfl:=Option.some.inj H
    first|rfl|simp only [Bool.and_false,Bool.false_and,Bool.and_true,Bool.true_and]
   have hk5:(r3)=false:=by simpa using hc
   replace H:=cond_f hc H
   refine rg ctNo_ok ?_
   simp only [go_sem]
   refine rg ctNo_ok ?_
   simp only [go_sem]
   refine ⟨_,(Option.some.inj H).symm,?_⟩
   refine SubF_of ⟨[],?_,?_,by rfl,by rfl⟩
   ·simp [CvL,Cv]
   ·trivial
  ·try dsimp only at H ⊢
   try simp only [tp]
   try simp only [m_normal]
   refine sq ctNo_ok ?_
   simp only [go_sem]
   refine rg ctNo_ok ?_
   simp only [go_sem]
   obtain rfl:=Option.some.inj H
   first|rfl|simp only [Bool.and_false,Bool.false_and,Bool.and_true,Bool.true_and]
 ·cases hb
theorem tik60_0:tintk Try.prog 2=true:=by kernel_rfl
theorem tik60_1:tintk Try.prog 23=false:=by kernel_rfl
theorem okF60:FnOk Try.prog 60 (delF 61 43):=by
 refine edit1_fn (sh:=fun _=>none) (fun _ _ h=>by cases h) ctNo_ok (delF 61 43) (rs:=[.tmp 6]) Try.func60 (by kernel_rfl) rfl rfl delF_np ?_
 intro E h l vs ob v h' H F hc hob
 unfold delF at hc
 split at hc
 ·rename_i b es' i n nl p q
  split at hc
  ·rename_i e' es2 NN c hb
   injection hc with q1 q2 q3
   subst q1 q2 q3
   obtain ⟨rfl,rfl,rfl,hN,hpq,hqn,hfl⟩:=hob
   have hx:=F
   obtain ⟨vs⟩:=vs
   match vs,F.1 with
   | [u1,u2,u3],_ =>
    obtain ⟨cap,hcap,hV⟩:=csl_of_sl (only_sl (F.2 0 _ u1 rfl rfl))
    have g2:=F.2 1 _ u2 rfl rfl
    have g3:=F.2 2 _ u3 rfl rfl
    obtain rfl:=VR_int g2
    obtain rfl:=VR_int g3
    refine ⟨b,61,43,NN,c,n - (q - p),delA i p (q - p) c,[.csl 0 43 i n cap,.int .i64 p,.int .i64 q],hb,fun x y hx hy=>(hfl x y hx hy).1,fun x y hx hy=>?_,rfl,rfl,?_,?_⟩
    ·unfold delA
     split<;>exact hfl _ _ (by omega) hy
    ·refine ⟨rfl,fun j a w ha hw=>?_⟩
     match j with
     | 0=>simp at ha hw;subst ha hw;exact hV
     | 1=>simp at ha hw;subst ha hw;exact .int _ _
     | 2=>simp at ha hw;subst ha hw;exact .int _ _
     | j+3=>simp at ha
    ·rw [Try.ntmps60]
     show wpC _ _ _ _ _ (.csl 0 43 i n cap::.int .i64 p::.int .i64 q::.top::.top::.top::.top::.top::.top::.top::.top::.top::.top::.top::.top::.top::.top::.top::.top::.top::.top::.top::.top::.top::.top::.top::.top::.top::.top::.top::.top::.top::.top::[]) _
     have hpq':((p:Int) == (q:Int))=false:=by simp;omega
     simp only [go_sem,bEq,Option.isSome_some,Option.isNone_some,Int.toNat_natCast,hpq']
     refine ⟨by omega,?_⟩
     refine draw_rule (sh:=fun _=>none) (fun _ _ h=>by cases h) ctNo_ok 0 (by kernel_rfl) (by kernel_rfl) ?_
     intro an han
     have hdc:decide (p+(n - q) <= cap)=true:=by simp;omega
     simp only [go_sem,Nat.reduceLeDiff,Nat.reduceAdd,Nat.reduceSub,evClear,evClearR,evAppZ,tik60_1,Option.isNone_some,Option.isSome_none,Option.isNone_none,Int.toNat_natCast,hdc,Nat.sub_zero,d_nil,d_cons,nxtD,refsOp,refs,refsL,mask,maskF,place,placeF,okLog,pairOk,hit,inL,slotsF,ren,rnN,nrH,nrB,List.replicate_zero,Bool.or_false,Bool.or_true,Bool.true_or,Bool.and_false,Bool.false_and,Nat.sub_self,Nat.add_zero,Nat.zero_add,Nat.reduceSub,Nat.lt_add_one]
     have hm:p+(n - q)=n - (q - p):=by omega
     refine ⟨by omega,by omega,by omega,by omega,by omega,?_⟩
     rw [hm]
     refine conv_move (b:=0) rfl (by omega) (by omega) fun x y hx hy=>?_
     unfold ovwC delA subC
     rw [if_neg (by omega)]
     by_cases hxp:x < p
     ·rw [if_neg (by omega),if_pos hxp]
     ·rw [if_pos (by omega),if_neg hxp]
      congr 1
      omega
  ·cases hc
 ·cases hc
theorem ok60:FnOk Try.prog 60 (delN 61 43):=delN_ok okF60
noncomputable def ct23t0:Ct:=tab [(18,pureC body18)]
theorem ct23t0_ok:CtOk Try.prog ct23t0:=tab_cons ok18 <| tab_nil
theorem ct23t0_18 (l:List AV) (h:List ABlk):ct23t0 18 l h=pureC body18 l h:=rfl
noncomputable def ct23t1:Ct:=tab [(81,pureC body81)]
theorem ct23t1_ok:CtOk Try.prog ct23t1:=tab_cons ok81 <| tab_nil
theorem ct23t1_81 (l:List AV) (h:List ABlk):ct23t1 81 l h=pureC body81 l h:=rfl
noncomputable def ct23t2 (gi:Nat):Ct:=tab [(65,genC (body65f gi))]
theorem ct23t2_ok (gi:Nat):CtOk Try.prog (ct23t2 gi):=tab_cons (ok65f gi) <| tab_nil
theorem ct23t2_65 (gi:Nat) (l:List AV) (h:List ABlk):(ct23t2 gi) 65 l h=genC (body65f gi) l h:=rfl
noncomputable def ct23t3:Ct:=tab [(56,pureC body56)]
theorem ct23t3_ok:CtOk Try.prog ct23t3:=tab_cons ok56 <| tab_nil
theorem ct23t3_56 (l:List AV) (h:List ABlk):ct23t3 56 l h=pureC body56 l h:=rfl
noncomputable def ct23t4:Ct:=tab [(58,pureC body58_0)]
theorem ct23t4_ok:CtOk Try.prog ct23t4:=tab_cons ok58_0 <| tab_nil
theorem ct23t4_58 (l:List AV) (h:List ABlk):ct23t4 58 l h=pureC body58_0 l h:=rfl
noncomputable def ct23t5:Ct:=tab [(60,delN 61 43)]
theorem ct23t5_ok:CtOk Try.prog ct23t5:=tab_cons ok60 <| tab_nil
theorem ct23t5_60 (l:List AV) (h:List ABlk):ct23t5 60 l h=delN 61 43 l h:=rfl
noncomputable def F23_L1 (r5:Int × Bool) (r8:TBuffer) (v1_1:Int) (v1_2:TStored):Option (Lp (Int × TStored) ((TStored) ⊕ (TFrame × TBuffer × Int))) :=
 bif (bLt v1_1 (((gd r8.List r5.1.toNat).Held).length:Nat)) then (need (inb v1_1 (((gd r8.List r5.1.toNat).Held).length)) <| (F56 (TStored.mk ((gd ((gd r8.List r5.1.toNat).Held) v1_1.toNat).Cat) ((gd ((gd r8.List r5.1.toNat).Held) v1_1.toNat).At) (eF ((gd ((gd r8.List r5.1.toNat).Held) v1_1.toNat).Frame))) v1_2).bind fun r17=>bif (bLt 0 r17) then (need (inb v1_1 (((gd r8.List r5.1.toNat).Held).length)) <| some (.next (wr .i64 (v1_1+1),(TStored.mk ((gd ((gd r8.List r5.1.toNat).Held) v1_1.toNat).Cat) ((gd ((gd r8.List r5.1.toNat).Held) v1_1.toNat).At) (eF ((gd ((gd r8.List r5.1.toNat).Held) v1_1.toNat).Frame)))))) else (some (.next (wr .i64 (v1_1+1),v1_2)))) else (some (.done (.inl v1_2)))
noncomputable def F23 (p0:TBuffer) (p1:Int):Option (TFrame × TBuffer × Int) :=
 (F18 p0).bind fun r1=>bif (!bEq r1 0) then (some ((TFrame.mk (THeader.mk 0 0 false false false false false false false 0 (A6u8.mk 0 0 0 0 0 0) (A6u8.mk 0 0 0 0 0 0) (A6u8.mk 0 0 0 0 0 0) (A6u8.mk 0 0 0 0 0 0) 0 0 0 0 false false) []),(TBuffer.mk 0 0 [] []),r1)) else (bif ((bLt p1 1) || (bLt 255 p1)) then (some ((TFrame.mk (THeader.mk 0 0 false false false false false false false 0 (A6u8.mk 0 0 0 0 0 0) (A6u8.mk 0 0 0 0 0 0) (A6u8.mk 0 0 0 0 0 0) (A6u8.mk 0 0 0 0 0 0) 0 0 0 0 false false) []),(TBuffer.mk 0 0 [] []),2)) else ((F81 p0 p1).bind fun r5=>bif (!r5.2) then (some ((TFrame.mk (THeader.mk 0 0 false false false false false false false 0 (A6u8.mk 0 0 0 0 0 0) (A6u8.mk 0 0 0 0 0 0) (A6u8.mk 0 0 0 0 0 0) (A6u8.mk 0 0 0 0 0 0) 0 0 0 0 false false) []),(TBuffer.mk 0 0 [] []),6)) else ((F65f r5.1.toNat p0).bind fun r8=>need (inb r5.1 r8.List.length) <| bif (!((gd r8.List r5.1.toNat).Asleep)) then (some ((TFrame.mk (THeader.mk 0 0 false false false false false false false 0 (A6u8.mk 0 0 0 0 0 0) (A6u8.mk 0 0 0 0 0 0) (A6u8.mk 0 0 0 0 0 0) (A6u8.mk 0 0 0 0 0 0) 0 0 0 0 false false) []),(TBuffer.mk 0 0 [] []),20)) else (bif (bEq (((gd r8.List r5.1.toNat).Held).length:Nat) 0) then (some ((TFrame.mk (THeader.mk 0 0 false false false false false false false 0 (A6u8.mk 0 0 0 0 0 0) (A6u8.mk 0 0 0 0 0 0) (A6u8.mk 0 0 0 0 0 0) (A6u8.mk 0 0 0 0 0 0) 0 0 0 0 false false) []),(TBuffer.mk 0 0 [] []),6)) else (bif (bLt (((gd r8.List r5.1.toNat).Held).length:Nat) 1) then (none) else (need (inb 0 (((gd r8.List r5.1.toNat).Held).length)) <| lp (loopD (fun s=>F23_L1 r5 r8 s.1 s.2) (1,(TStored.mk ((gd ((gd r8.List r5.1.toNat).Held) 0).Cat) ((gd ((gd r8.List r5.1.toNat).Held) 0).At) (eF ((gd ((gd r8.List r5.1.toNat).Held) 0).Frame))))) (fun w1_5=>(F58_0 ((gd r8.List r5.1.toNat).Held) w1_5.Cat).bind fun r21=>need (inb r21 (((gd r8.List r5.1.toNat).Held).length)) <| need (delb r21 (wr .i64 (r21+1)) (((gd r8.List r5.1.toNat).Held).length)) <| (some (delL ((gd r8.List r5.1.toNat).Held) r21 (wr .i64 (r21+1)))).bind fun w25=>(some (r8.List.set r5.1.toNat (TSleeper.mk ((gd r8.List r5.1.toNat).Aid) ((gd r8.List r5.1.toNat).Asleep) w25))).bind fun w27=>some ((TFrame.mk (THeader.mk ((((gd ((gd r8.List r5.1.toNat).Held) r21.toNat).Frame).Head).Kind) ((((gd ((gd r8.List r5.1.toNat).Held) r21.toNat).Frame).Head).Sub) ((((gd ((gd r8.List r5.1.toNat).Held) r21.toNat).Frame).Head).ToDs) ((((gd ((gd r8.List r5.1.toNat).Held) r21.toNat).Frame).Head).FromDs) ((((gd ((gd r8.List r5.1.toNat).Held) r21.toNat).Frame).Head).More) ((((gd ((gd r8.List r5.1.toNat).Held) r21.toNat).Frame).Head).Retry) ((((gd ((gd r8.List r5.1.toNat).Held) r21.toNat).Frame).Head).Sleep) (bLt 0 (w25.length:Nat)) ((((gd ((gd r8.List r5.1.toNat).Held) r21.toNat).Frame).Head).Protected) ((((gd ((gd r8.List r5.1.toNat).Held) r21.toNat).Frame).Head).Duration) (A6u8.mk (((((gd ((gd r8.List r5.1.toNat).Held) r21.toNat).Frame).Head).A1).x0) (((((gd ((gd r8.List r5.1.toNat).Held) r21.toNat).Frame).Head).A1).x1) (((((gd ((gd r8.List r5.1.toNat).Held) r21.toNat).Frame).Head).A1).x2) (((((gd ((gd r8.List r5.1.toNat).Held) r21.toNat).Frame).Head).A1).x3) (((((gd ((gd r8.List r5.1.toNat).Held) r21.toNat).Frame).Head).A1).x4) (((((gd ((gd r8.List r5.1.toNat).Held) r21.toNat).Frame).Head).A1).x5)) (A6u8.mk (((((gd ((gd r8.List r5.1.toNat).Held) r21.toNat).Frame).Head).A2).x0) (((((gd ((gd r8.List r5.1.toNat).Held) r21.toNat).Frame).Head).A2).x1) (((((gd ((gd r8.List r5.1.toNat).Held) r21.toNat).Frame).Head).A2).x2) (((((gd ((gd r8.List r5.1.toNat).Held) r21.toNat).Frame).Head).A2).x3) (((((gd ((gd r8.List r5.1.toNat).Held) r21.toNat).Frame).Head).A2).x4) (((((gd ((gd r8.List r5.1.toNat).Held) r21.toNat).Frame).Head).A2).x5)) (A6u8.mk (((((gd ((gd r8.List r5.1.toNat).Held) r21.toNat).Frame).Head).A3).x0) (((((gd ((gd r8.List r5.1.toNat).Held) r21.toNat).Frame).Head).A3).x1) (((((gd ((gd r8.List r5.1.toNat).Held) r21.toNat).Frame).Head).A3).x2) (((((gd ((gd r8.List r5.1.toNat).Held) r21.toNat).Frame).Head).A3).x3) (((((gd ((gd r8.List r5.1.toNat).Held) r21.toNat).Frame).Head).A3).x4) (((((gd ((gd r8.List r5.1.toNat).Held) r21.toNat).Frame).Head).A3).x5)) (A6u8.mk (((((gd ((gd r8.List r5.1.toNat).Held) r21.toNat).Frame).Head).A4).x0) (((((gd ((gd r8.List r5.1.toNat).Held) r21.toNat).Frame).Head).A4).x1) (((((gd ((gd r8.List r5.1.toNat).Held) r21.toNat).Frame).Head).A4).x2) (((((gd ((gd r8.List r5.1.toNat).Held) r21.toNat).Frame).Head).A4).x3) (((((gd ((gd r8.List r5.1.toNat).Held) r21.toNat).Frame).Head).A4).x4) (((((gd ((gd r8.List r5.1.toNat).Held) r21.toNat).Frame).Head).A4).x5)) ((((gd ((gd r8.List r5.1.toNat).Held) r21.toNat).Frame).Head).Seq) ((((gd ((gd r8.List r5.1.toNat).Held) r21.toNat).Frame).Head).Frag) ((((gd ((gd r8.List r5.1.toNat).Held) r21.toNat).Frame).Head).Tid) ((((gd ((gd r8.List r5.1.toNat).Held) r21.toNat).Frame).Head).Ack) ((((gd ((gd r8.List r5.1.toNat).Held) r21.toNat).Frame).Head).Amsdu) ((((gd ((gd r8.List r5.1.toNat).Held) r21.toNat).Frame).Head).Eosp)) (((gd ((gd r8.List r5.1.toNat).Held) r21.toNat).Frame).Body)),(TBuffer.mk r8.Limit r8.Stay w27 r8.Group),0)) some))))))
noncomputable def body23:List AV->Nat->AR
 | [v0,v1],_=>.pure (aK 4 k_TBuffer v0/\iK .i64 v1/\(F23 (g_TBuffer (aL v0)) (iA v1)).isSome=true) (.tup [.agg (.int .u8 ((((gt (F23 (g_TBuffer (aL v0)) (iA v1))).1).Head).Kind)::.int .u8 ((((gt (F23 (g_TBuffer (aL v0)) (iA v1))).1).Head).Sub)::.bool ((((gt (F23 (g_TBuffer (aL v0)) (iA v1))).1).Head).ToDs)::.bool ((((gt (F23 (g_TBuffer (aL v0)) (iA v1))).1).Head).FromDs)::.bool ((((gt (F23 (g_TBuffer (aL v0)) (iA v1))).1).Head).More)::.bool ((((gt (F23 (g_TBuffer (aL v0)) (iA v1))).1).Head).Retry)::.bool ((((gt (F23 (g_TBuffer (aL v0)) (iA v1))).1).Head).Sleep)::.bool ((((gt (F23 (g_TBuffer (aL v0)) (iA v1))).1).Head).MoreData)::.bool ((((gt (F23 (g_TBuffer (aL v0)) (iA v1))).1).Head).Protected)::.int .i64 ((((gt (F23 (g_TBuffer (aL v0)) (iA v1))).1).Head).Duration)::.int .u8 (((((gt (F23 (g_TBuffer (aL v0)) (iA v1))).1).Head).A1).x0)::.int .u8 (((((gt (F23 (g_TBuffer (aL v0)) (iA v1))).1).Head).A1).x1)::.int .u8 (((((gt (F23 (g_TBuffer (aL v0)) (iA v1))).1).Head).A1).x2)::.int .u8 (((((gt (F23 (g_TBuffer (aL v0)) (iA v1))).1).Head).A1).x3)::.int .u8 (((((gt (F23 (g_TBuffer (aL v0)) (iA v1))).1).Head).A1).x4)::.int .u8 (((((gt (F23 (g_TBuffer (aL v0)) (iA v1))).1).Head).A1).x5)::.int .u8 (((((gt (F23 (g_TBuffer (aL v0)) (iA v1))).1).Head).A2).x0)::.int .u8 (((((gt (F23 (g_TBuffer (aL v0)) (iA v1))).1).Head).A2).x1)::.int .u8 (((((gt (F23 (g_TBuffer (aL v0)) (iA v1))).1).Head).A2).x2)::.int .u8 (((((gt (F23 (g_TBuffer (aL v0)) (iA v1))).1).Head).A2).x3)::.int .u8 (((((gt (F23 (g_TBuffer (aL v0)) (iA v1))).1).Head).A2).x4)::.int .u8 (((((gt (F23 (g_TBuffer (aL v0)) (iA v1))).1).Head).A2).x5)::.int .u8 (((((gt (F23 (g_TBuffer (aL v0)) (iA v1))).1).Head).A3).x0)::.int .u8 (((((gt (F23 (g_TBuffer (aL v0)) (iA v1))).1).Head).A3).x1)::.int .u8 (((((gt (F23 (g_TBuffer (aL v0)) (iA v1))).1).Head).A3).x2)::.int .u8 (((((gt (F23 (g_TBuffer (aL v0)) (iA v1))).1).Head).A3).x3)::.int .u8 (((((gt (F23 (g_TBuffer (aL v0)) (iA v1))).1).Head).A3).x4)::.int .u8 (((((gt (F23 (g_TBuffer (aL v0)) (iA v1))).1).Head).A3).x5)::.int .u8 (((((gt (F23 (g_TBuffer (aL v0)) (iA v1))).1).Head).A4).x0)::.int .u8 (((((gt (F23 (g_TBuffer (aL v0)) (iA v1))).1).Head).A4).x1)::.int .u8 (((((gt (F23 (g_TBuffer (aL v0)) (iA v1))).1).Head).A4).x2)::.int .u8 (((((gt (F23 (g_TBuffer (aL v0)) (iA v1))).1).Head).A4).x3)::.int .u8 (((((gt (F23 (g_TBuffer (aL v0)) (iA v1))).1).Head).A4).x4)::.int .u8 (((((gt (F23 (g_TBuffer (aL v0)) (iA v1))).1).Head).A4).x5)::.int .i64 ((((gt (F23 (g_TBuffer (aL v0)) (iA v1))).1).Head).Seq)::.int .i64 ((((gt (F23 (g_TBuffer (aL v0)) (iA v1))).1).Head).Frag)::.int .i64 ((((gt (F23 (g_TBuffer (aL v0)) (iA v1))).1).Head).Tid)::.int .u8 ((((gt (F23 (g_TBuffer (aL v0)) (iA v1))).1).Head).Ack)::.bool ((((gt (F23 (g_TBuffer (aL v0)) (iA v1))).1).Head).Amsdu)::.bool ((((gt (F23 (g_TBuffer (aL v0)) (iA v1))).1).Head).Eosp)::.ro 1 ((((gt (F23 (g_TBuffer (aL v0)) (iA v1))).1).Body).length) false (enR c_u8 (((gt (F23 (g_TBuffer (aL v0)) (iA v1))).1).Body))::[]),.agg [.int .i64 (((gt (F23 (g_TBuffer (aL v0)) (iA v1))).2.1).Limit),.int .i64 (((gt (F23 (g_TBuffer (aL v0)) (iA v1))).2.1).Stay),.ro 3 ((((gt (F23 (g_TBuffer (aL v0)) (iA v1))).2.1).List).length) false (enR c_TSleeper (((gt (F23 (g_TBuffer (aL v0)) (iA v1))).2.1).List)),.ro 43 ((((gt (F23 (g_TBuffer (aL v0)) (iA v1))).2.1).Group).length) false (enR c_TStored (((gt (F23 (g_TBuffer (aL v0)) (iA v1))).2.1).Group))],.int .i64 ((gt (F23 (g_TBuffer (aL v0)) (iA v1))).2.2)])
 | _,_=>.fail
theorem ok23:FnOk Try.prog 23 (genC body23):=by
 refine gen_fn body23 (rs:=[.cell 4 33,.cell 5 25,.tmp 6]) Try.func23 (by kernel_rfl) rfl rfl ?_
 intro l s ob v ns hb hob
 rcases hb with ⟨hb,rfl⟩|hb
 ·unfold body23 at hb
  split at hb
  ·rename_i v0 v1
   injection hb with q1 q2;subst q1 q2
   obtain ⟨hk0_0,hk1_0,hob⟩:=hob
   obtain ⟨r,H⟩:=Option.isSome_iff_exists.1 hob
   rw [H,gt_some]
   have hw0:=wA_TBuffer hk0_0
   have hw1:=iK_wk hk1_0
   generalize g_TBuffer (aL v0)=p0 at H hw0
   generalize iA v1=p1 at H hw1
   refine ⟨[.agg [.int .i64 p0.Limit,.int .i64 p0.Stay,.ro 3 p0.List.length false (enR c_TSleeper p0.List),.ro 43 p0.Group.length false (enR c_TStored p0.Group)],.int .i64 p1],.tup [.agg (.int .u8 r.1.Head.Kind::.int .u8 r.1.Head.Sub::.bool r.1.Head.ToDs::.bool r.1.Head.FromDs::.bool r.1.Head.More::.bool r.1.Head.Retry::.bool r.1.Head.Sleep::.bool r.1.Head.MoreData::.bool r.1.Head.Protected::.int .i64 r.1.Head.Duration::.int .u8 r.1.Head.A1.x0::.int .u8 r.1.Head.A1.x1::.int .u8 r.1.Head.A1.x2::.int .u8 r.1.Head.A1.x3::.int .u8 r.1.Head.A1.x4::.int .u8 r.1.Head.A1.x5::.int .u8 r.1.Head.A2.x0::.int .u8 r.1.Head.A2.x1::.int .u8 r.1.Head.A2.x2::.int .u8 r.1.Head.A2.x3::.int .u8 r.1.Head.A2.x4::.int .u8 r.1.Head.A2.x5::.int .u8 r.1.Head.A3.x0::.int .u8 r.1.Head.A3.x1::.int .u8 r.1.Head.A3.x2::.int .u8 r.1.Head.A3.x3::.int .u8 r.1.Head.A3.x4::.int .u8 r.1.Head.A3.x5::.int .u8 r.1.Head.A4.x0::.int .u8 r.1.Head.A4.x1::.int .u8 r.1.Head.A4.x2::.int .u8 r.1.Head.A4.x3::.int .u8 r.1.Head.A4.x4::.int .u8 r.1.Head.A4.x5::.int .i64 r.1.Head.Seq::.int .i64 r.1.Head.Frag::.int .i64 r.1.Head.Tid::.int .u8 r.1.Head.Ack::.bool r.1.Head.Amsdu::.bool r.1.Head.Eosp::.ro 1 r.1.Body.length false (enR c_u8 r.1.Body)::[]),.agg [.int .i64 r.2.1.Limit,.int .i64 r.2.1.Stay,.ro 3 r.2.1.List.length false (enR c_TSleeper r.2.1.List),.ro 43 r.2.1.Group.length false (enR c_TStored r.2.1.Group)],.int .i64 r.2.2],[],(fun E vs F=>FR_wk1 hw0.1 F (fun vs F=>FR_wk1 hw1.1 F (fun vs F=>F))),by simp only [ren,renL],trivial,?_⟩
   rw [Try.ntmps23]
   simp only [List.length_cons,List.length_nil,Nat.reduceAdd,Nat.reduceSub,List.replicate_succ,List.replicate_zero,List.cons_append,List.nil_append]
   unfold F23 at H
   delta eF at H
   try dsimp only at H
   refine sq ctNo_ok ?_
   simp only [go_sem,Nat.reduceAdd]
   refine seqM ?_
   refine regO ?_
   refine cutO shT_ok ctNo_ok 2 ?_
   simp only [kO_normal,List.take_succ_cons,List.take_zero,List.drop_succ_cons,List.drop_zero,go_sem,Nat.reduceLT,Nat.reduceAdd]
   repeat ((with_reducible refine And.intro ?_ ?_);focus exact an0)
   refine inlO (rs:=[.tmp 4,.tmp 5,.tmp 6]) Try.func51 (by kernel_rfl) rfl rfl Try.ntmps51 (caps:=[]) (tc:=[.agg [.int .i64 p0.Limit,.int .i64 p0.Stay,.ro 3 p0.List.length false (enR c_TSleeper p0.List),.ro 43 p0.Group.length false (enR c_TStored p0.Group)],.int .i64 p1]) rfl (by simp only [go_sem]) rfl ?_
   simp only [List.length_cons,List.length_nil,Nat.reduceAdd,Nat.reduceSub,List.replicate_succ,List.replicate_zero,List.cons_append,List.nil_append]
   refine sq ctNo_ok ?_
   simp only [go_sem,Nat.reduceAdd]
   refine seqM ?_
   refine seqM ?_
   obtain ⟨r1,e2,H⟩:=bsi H
   refine rg ct23t0_ok ?_
   simp only [go_sem,Nat.reduceLT,Nat.reduceAdd,ct23t0_18,body18,e2]
   repeat ((with_reducible refine And.intro ?_ ?_);focus exact an0)
   refine sq ctNo_ok ?_
   simp only [go_sem]
   refine condM rfl trivial (fun hc=>?_) (fun hc=>?_)
   ·have hk3:(bEq r1 0)=false:=by simpa using hc
    replace H:=cond_t hc H
    refine sq ctNo_ok ?_
    simp only [go_sem]
    refine rg ctNo_ok ?_
    simp only [go_sem]
    refine cutO shT_ok ctNo_ok 7 ?_
    simp only [kO_normal,List.take_succ_cons,List.take_zero,List.drop_succ_cons,List.drop_zero,go_sem,Nat.reduceLT,Nat.reduceAdd]
    repeat ((with_reducible refine And.intro ?_ ?_);focus exact an0)
    refine endO ?_
    refine seqM ?_
    refine blkM ?_
    refine sq ctNo_ok ?_
    simp only [go_sem]
    refine condM rfl trivial (fun hc=>?_) (fun hc=>?_)
    rotate_left
    ·simp [hk3] at hc
    refine sq ctNo_ok ?_
    simp only [go_sem,Nat.reduceAdd]
    repeat ((with_reducible refine And.intro ?_ ?_);focus exact an6)
    refine rg ctNo_ok ?_
    simp only [go_sem,Nat.reduceLT,Nat.reduceAdd]
    obtain rfl:=Option.some.inj H
    refine ⟨[0,1,2,3],?_,?_,[],?_,?_,rfl⟩
    ·simp only [go_sem]
     try exact at0
    ·simp only [go_sem]
     try exact at0
    ·simp only [go_sem]
     exact Cv_tup (CvL_cons (Cv_agg (CvL_cons Cv_int (CvL_cons Cv_int (CvL_cons Cv_bool (CvL_cons Cv_bool (CvL_cons Cv_bool (CvL_cons Cv_bool (CvL_cons Cv_bool (CvL_cons Cv_bool (CvL_cons Cv_bool (CvL_cons Cv_int (CvL_cons Cv_int (CvL_cons Cv_int (CvL_cons Cv_int (CvL_cons Cv_int (CvL_cons Cv_int (CvL_cons Cv_int (CvL_cons Cv_int (CvL_cons Cv_int (CvL_cons Cv_int (CvL_cons Cv_int (CvL_cons Cv_int (CvL_cons Cv_int (CvL_cons Cv_int (CvL_cons Cv_int (CvL_cons Cv_int (CvL_cons Cv_int (CvL_cons Cv_int (CvL_cons Cv_int (CvL_cons Cv_int (CvL_cons Cv_int (CvL_cons Cv_int (CvL_cons Cv_int (CvL_cons Cv_int (CvL_cons Cv_int (CvL_cons Cv_int (CvL_cons Cv_int (CvL_cons Cv_int (CvL_cons Cv_int (CvL_cons Cv_bool (CvL_cons Cv_bool (CvL_cons (Cv_ronil (α:=Int)) CvL_nil)))))))))))))))))))))))))))))))))))))))))) (CvL_cons (Cv_agg (CvL_cons Cv_int (CvL_cons Cv_int (CvL_cons (Cv_ronil (α:=TSleeper)) (CvL_cons (Cv_ronil (α:=TStored)) CvL_nil))))) (CvL_cons Cv_int CvL_nil)))
    ·simp only [go_sem,CvH]
   have hk3:(bEq r1 0)=true:=by simpa using hc
   replace H:=cond_f hc H
   refine rg ctNo_ok ?_
   simp only [go_sem]
   refine seqM ?_
   refine sq ctNo_ok ?_
   simp only [go_sem]
   repeat ((with_reducible refine And.intro ?_ ?_);focus exact an6)
   refine condM rfl trivial (fun hc=>?_) (fun hc=>?_)
   ·have hk4:((bLt p1 1) || (bLt 255 p1))=true:=by simpa using hc
    replace H:=cond_t hc H
    refine sq ctNo_ok ?_
    simp only [go_sem]
    refine rg ctNo_ok ?_
    simp only [go_sem]
    refine cutO shT_ok ctNo_ok 7 ?_
    simp only [kO_normal,List.take_succ_cons,List.take_zero,List.drop_succ_cons,List.drop_zero,go_sem,Nat.reduceLT,Nat.reduceAdd]
    repeat ((with_reducible refine And.intro ?_ ?_);focus exact an0)
    refine endO ?_
    refine seqM ?_
    refine blkM ?_
    refine sq ctNo_ok ?_
    simp only [go_sem,(by decide:bEq (2) (0)=false)]
    refine condM rfl trivial (fun hc=>?_) (fun hc=>?_)
    rotate_left
    ·cases hc
    refine sq ctNo_ok ?_
    simp only [go_sem,Nat.reduceAdd]
    repeat ((with_reducible refine And.intro ?_ ?_);focus exact an6)
    refine rg ctNo_ok ?_
    simp only [go_sem,Nat.reduceLT,Nat.reduceAdd]
    obtain rfl:=Option.some.inj H
    refine ⟨[0,1,2,3],?_,?_,[],?_,?_,rfl⟩
    ·simp only [go_sem]
     try exact at0
    ·simp only [go_sem]
     try exact at0
    ·simp only [go_sem]
     exact Cv_tup (CvL_cons (Cv_agg (CvL_cons Cv_int (CvL_cons Cv_int (CvL_cons Cv_bool (CvL_cons Cv_bool (CvL_cons Cv_bool (CvL_cons Cv_bool (CvL_cons Cv_bool (CvL_cons Cv_bool (CvL_cons Cv_bool (CvL_cons Cv_int (CvL_cons Cv_int (CvL_cons Cv_int (CvL_cons Cv_int (CvL_cons Cv_int (CvL_cons Cv_int (CvL_cons Cv_int (CvL_cons Cv_int (CvL_cons Cv_int (CvL_cons Cv_int (CvL_cons Cv_int (CvL_cons Cv_int (CvL_cons Cv_int (CvL_cons Cv_int (CvL_cons Cv_int (CvL_cons Cv_int (CvL_cons Cv_int (CvL_cons Cv_int (CvL_cons Cv_int (CvL_cons Cv_int (CvL_cons Cv_int (CvL_cons Cv_int (CvL_cons Cv_int (CvL_cons Cv_int (CvL_cons Cv_int (CvL_cons Cv_int (CvL_cons Cv_int (CvL_cons Cv_int (CvL_cons Cv_int (CvL_cons Cv_bool (CvL_cons Cv_bool (CvL_cons (Cv_ronil (α:=Int)) CvL_nil)))))))))))))))))))))))))))))))))))))))))) (CvL_cons (Cv_agg (CvL_cons Cv_int (CvL_cons Cv_int (CvL_cons (Cv_ronil (α:=TSleeper)) (CvL_cons (Cv_ronil (α:=TStored)) CvL_nil))))) (CvL_cons Cv_int CvL_nil)))
    ·simp only [go_sem,CvH]
   have hk4:((bLt p1 1) || (bLt 255 p1))=false:=by simpa using hc
   replace H:=cond_f hc H
   refine rg ctNo_ok ?_
   simp only [go_sem]
   refine seqM ?_
   obtain ⟨r5,e6,H⟩:=bsi H
   refine rg ct23t1_ok ?_
   simp only [go_sem,Nat.reduceLT,Nat.reduceAdd,ct23t1_81,body81,e6]
   repeat ((with_reducible refine And.intro ?_ ?_);focus exact an0)
   refine seqM ?_
   refine sq ctNo_ok ?_
   simp only [go_sem]
   refine condM rfl trivial (fun hc=>?_) (fun hc=>?_)
   ·have hk7:(r5.2)=false:=by simpa using hc
    replace H:=cond_t hc H
    refine sq ctNo_ok ?_
    simp only [go_sem]
    refine rg ctNo_ok ?_
    simp only [go_sem]
    refine cutO shT_ok ctNo_ok 7 ?_
    simp only [kO_normal,List.take_succ_cons,List.take_zero,List.drop_succ_cons,List.drop_zero,go_sem,Nat.reduceLT,Nat.reduceAdd]
    repeat ((with_reducible refine And.intro ?_ ?_);focus exact an0)
    refine endO ?_
    refine seqM ?_
    refine blkM ?_
    refine sq ctNo_ok ?_
    simp only [go_sem,(by decide:bEq (6) (0)=false)]
    refine condM rfl trivial (fun hc=>?_) (fun hc=>?_)
    rotate_left
    ·cases hc
    refine sq ctNo_ok ?_
    simp only [go_sem,Nat.reduceAdd]
    repeat ((with_reducible refine And.intro ?_ ?_);focus exact an6)
    refine rg ctNo_ok ?_
    simp only [go_sem,Nat.reduceLT,Nat.reduceAdd]
    obtain rfl:=Option.some.inj H
    refine ⟨[0,1,2,3],?_,?_,[],?_,?_,rfl⟩
    ·simp only [go_sem]
     try exact at0
    ·simp only [go_sem]
     try exact at0
    ·simp only [go_sem]
     exact Cv_tup (CvL_cons (Cv_agg (CvL_cons Cv_int (CvL_cons Cv_int (CvL_cons Cv_bool (CvL_cons Cv_bool (CvL_cons Cv_bool (CvL_cons Cv_bool (CvL_cons Cv_bool (CvL_cons Cv_bool (CvL_cons Cv_bool (CvL_cons Cv_int (CvL_cons Cv_int (CvL_cons Cv_int (CvL_cons Cv_int (CvL_cons Cv_int (CvL_cons Cv_int (CvL_cons Cv_int (CvL_cons Cv_int (CvL_cons Cv_int (CvL_cons Cv_int (CvL_cons Cv_int (CvL_cons Cv_int (CvL_cons Cv_int (CvL_cons Cv_int (CvL_cons Cv_int (CvL_cons Cv_int (CvL_cons Cv_int (CvL_cons Cv_int (CvL_cons Cv_int (CvL_cons Cv_int (CvL_cons Cv_int (CvL_cons Cv_int (CvL_cons Cv_int (CvL_cons Cv_int (CvL_cons Cv_int (CvL_cons Cv_int (CvL_cons Cv_int (CvL_cons Cv_int (CvL_cons Cv_int (CvL_cons Cv_bool (CvL_cons Cv_bool (CvL_cons (Cv_ronil (α:=Int)) CvL_nil)))))))))))))))))))))))))))))))))))))))))) (CvL_cons (Cv_agg (CvL_cons Cv_int (CvL_cons Cv_int (CvL_cons (Cv_ronil (α:=TSleeper)) (CvL_cons (Cv_ronil (α:=TStored)) CvL_nil))))) (CvL_cons Cv_int CvL_nil)))
    ·simp only [go_sem,CvH]
   have hk7:(r5.2)=true:=by simpa using hc
   replace H:=cond_f hc H
   refine rg ctNo_ok ?_
   simp only [go_sem]
   refine seqM ?_
   obtain ⟨r8,e9,H⟩:=bsi H
   refine rg (ct23t2_ok r5.1.toNat) ?_
   simp only [go_sem,Nat.reduceLT,Nat.reduceAdd,ct23t2_65,body65f,e9]
   repeat ((with_reducible refine And.intro ?_ ?_);focus exact an0)
   refine seqM ?_
   obtain ⟨f10,H⟩:=need_some.1 H
   replace f10:=inb_iff.1 f10
   refine draw_quiet shT_ok ctNo_ok (by kernel_rfl) (by kernel_rfl) ?_
   simp only [go_sem,Nat.reduceLeDiff,Nat.reduceLT,Nat.reduceAdd,f10]
   repeat ((with_reducible refine And.intro ?_ ?_);focus exact an6)
   refine rg ctNo_ok ?_
   simp only [go_sem]
   refine cutO shT_ok ctNo_ok 7 ?_
   simp only [kO_normal,List.take_succ_cons,List.take_zero,List.drop_succ_cons,List.drop_zero,go_sem,Nat.reduceLT,Nat.reduceAdd]
   repeat ((with_reducible refine And.intro ?_ ?_);focus exact an0)
   refine endO ?_
   refine seqM ?_
   refine blkM ?_
   refine sq ctNo_ok ?_
   simp only [go_sem,(by decide:bEq (0) (0)=true)]
   refine condM rfl trivial (fun hc=>?_) (fun hc=>?_)
   ·cases hc
   refine sq ctNo_ok ?_
   simp only [go_sem,Nat.reduceLeDiff,Nat.reduceLT,Nat.reduceAdd,Nat.reduceSub,upc_ii]
   repeat ((with_reducible refine And.intro ?_ ?_);focus exact an6)
   refine condM rfl trivial (fun hc=>?_) (fun hc=>?_)
   ·have hk11:((gd r8.List r5.1.toNat).Asleep)=false:=by simpa using hc
    replace H:=cond_t hc H
    refine sq ctNo_ok ?_
    simp only [go_sem,Nat.reduceAdd]
    repeat ((with_reducible refine And.intro ?_ ?_);focus exact an6)
    refine rg ctNo_ok ?_
    simp only [go_sem,Nat.reduceLT,Nat.reduceAdd]
    obtain rfl:=Option.some.inj H
    refine ⟨[0,1,2,3],?_,?_,[],?_,?_,rfl⟩
    ·simp only [go_sem]
     try exact at0
    ·simp only [go_sem,Nat.reduceBEq]
     try exact at0
    ·simp only [go_sem]
     exact Cv_tup (CvL_cons (Cv_agg (CvL_cons Cv_int (CvL_cons Cv_int (CvL_cons Cv_bool (CvL_cons Cv_bool (CvL_cons Cv_bool (CvL_cons Cv_bool (CvL_cons Cv_bool (CvL_cons Cv_bool (CvL_cons Cv_bool (CvL_cons Cv_int (CvL_cons Cv_int (CvL_cons Cv_int (CvL_cons Cv_int (CvL_cons Cv_int (CvL_cons Cv_int (CvL_cons Cv_int (CvL_cons Cv_int (CvL_cons Cv_int (CvL_cons Cv_int (CvL_cons Cv_int (CvL_cons Cv_int (CvL_cons Cv_int (CvL_cons Cv_int (CvL_cons Cv_int (CvL_cons Cv_int (CvL_cons Cv_int (CvL_cons Cv_int (CvL_cons Cv_int (CvL_cons Cv_int (CvL_cons Cv_int (CvL_cons Cv_int (CvL_cons Cv_int (CvL_cons Cv_int (CvL_cons Cv_int (CvL_cons Cv_int (CvL_cons Cv_int (CvL_cons Cv_int (CvL_cons Cv_int (CvL_cons Cv_bool (CvL_cons Cv_bool (CvL_cons (Cv_ronil (α:=Int)) CvL_nil)))))))))))))))))))))))))))))))))))))))))) (CvL_cons (Cv_agg (CvL_cons Cv_int (CvL_cons Cv_int (CvL_cons (Cv_ronil (α:=TSleeper)) (CvL_cons (Cv_ronil (α:=TStored)) CvL_nil))))) (CvL_cons Cv_int CvL_nil)))
    ·simp only [go_sem,CvH]
   have hk11:((gd r8.List r5.1.toNat).Asleep)=true:=by simpa using hc
   replace H:=cond_f hc H
   refine sq ctNo_ok ?_
   simp only [go_sem,Nat.reduceLT,Nat.reduceAdd,Nat.reduceSub,upc_ii]
   repeat ((with_reducible refine And.intro ?_ ?_);focus exact an0)
   refine condM rfl trivial (fun hc=>?_) (fun hc=>?_)
   ·have hk12:(bEq (((gd r8.List r5.1.toNat).Held).length:Nat) 0)=true:=by simpa using hc
    replace H:=cond_t hc H
    refine sq ctNo_ok ?_
    simp only [go_sem,Nat.reduceAdd]
    repeat ((with_reducible refine And.intro ?_ ?_);focus exact an6)
    refine rg ctNo_ok ?_
    simp only [go_sem,Nat.reduceLT,Nat.reduceAdd]
    obtain rfl:=Option.some.inj H
    refine ⟨[0,1,2,3],?_,?_,[],?_,?_,rfl⟩
    ·simp only [go_sem]
     try exact at0
    ·simp only [go_sem,Nat.reduceBEq]
     try exact at0
    ·simp only [go_sem]
     exact Cv_tup (CvL_cons (Cv_agg (CvL_cons Cv_int (CvL_cons Cv_int (CvL_cons Cv_bool (CvL_cons Cv_bool (CvL_cons Cv_bool (CvL_cons Cv_bool (CvL_cons Cv_bool (CvL_cons Cv_bool (CvL_cons Cv_bool (CvL_cons Cv_int (CvL_cons Cv_int (CvL_cons Cv_int (CvL_cons Cv_int (CvL_cons Cv_int (CvL_cons Cv_int (CvL_cons Cv_int (CvL_cons Cv_int (CvL_cons Cv_int (CvL_cons Cv_int (CvL_cons Cv_int (CvL_cons Cv_int (CvL_cons Cv_int (CvL_cons Cv_int (CvL_cons Cv_int (CvL_cons Cv_int (CvL_cons Cv_int (CvL_cons Cv_int (CvL_cons Cv_int (CvL_cons Cv_int (CvL_cons Cv_int (CvL_cons Cv_int (CvL_cons Cv_int (CvL_cons Cv_int (CvL_cons Cv_int (CvL_cons Cv_int (CvL_cons Cv_int (CvL_cons Cv_int (CvL_cons Cv_int (CvL_cons Cv_bool (CvL_cons Cv_bool (CvL_cons (Cv_ronil (α:=Int)) CvL_nil)))))))))))))))))))))))))))))))))))))))))) (CvL_cons (Cv_agg (CvL_cons Cv_int (CvL_cons Cv_int (CvL_cons (Cv_ronil (α:=TSleeper)) (CvL_cons (Cv_ronil (α:=TStored)) CvL_nil))))) (CvL_cons Cv_int CvL_nil)))
    ·simp only [go_sem,CvH]
   have hk12:(bEq (((gd r8.List r5.1.toNat).Held).length:Nat) 0)=false:=by simpa using hc
   replace H:=cond_f hc H
   refine rg ctNo_ok ?_
   simp only [go_sem]
   refine seqM ?_
   refine regO ?_
   refine cutO shT_ok ctNo_ok 4 ?_
   simp only [kO_normal,List.take_succ_cons,List.take_zero,List.drop_succ_cons,List.drop_zero,go_sem,Nat.reduceLT,Nat.reduceAdd,Nat.reduceSub,upc_ii]
   repeat ((with_reducible refine And.intro ?_ ?_);focus exact an0)
   refine inlO (rs:=[.cell 4 61]) Try.func55 (by kernel_rfl) rfl rfl Try.ntmps55 (caps:=[]) (tc:=[.sl 5 43 0 (((gd r8.List r5.1.toNat).Held).length) false,.fn 56 []]) rfl (by simp only [go_sem]) rfl ?_
   simp only [List.length_cons,List.length_nil,Nat.reduceAdd,Nat.reduceSub,List.replicate_succ,List.replicate_zero,List.cons_append,List.nil_append]
   refine sq ctNo_ok ?_
   simp only [go_sem,Nat.reduceAdd]
   refine seqM ?_
   refine sq ctNo_ok ?_
   simp only [go_sem]
   repeat ((with_reducible refine And.intro ?_ ?_);focus exact an0)
   refine condM rfl trivial (fun hc=>?_) (fun hc=>?_)
   ·have hk13:(bLt (((gd r8.List r5.1.toNat).Held).length:Nat) 1)=true:=by simpa using hc
    replace H:=cond_t hc H
    cases H
   have hk13:(bLt (((gd r8.List r5.1.toNat).Held).length:Nat) 1)=false:=by simpa using hc
   replace H:=cond_f hc H
   refine rg ctNo_ok ?_
   simp only [go_sem]
   refine seqM ?_
   obtain ⟨f14,H⟩:=need_some.1 H
   replace f14:=inb_iff.1 f14
   refine rg ctNo_ok ?_
   simp only [go_sem,Nat.reduceLT,Nat.reduceAdd,f14]
   repeat ((with_reducible refine And.intro ?_ ?_);focus exact an6)
   refine seqM ?_
   refine sq ctNo_ok ?_
   simp only [go_sem]
   refine blkM ?_
   refine loop_den (fun s:Int × TStored=>(.sl 5 43 0 (((gd r8.List r5.1.toNat).Held).length) false::.fn 56 []::.top::.top::.ptr 7 0 0 0::.ptr 8 0 0 0::.int .i64 s.1::tp 26 [])) (fun s=>[.dead,.lit 33 (.int .u8 0::.int .u8 0::.bool false::.bool false::.bool false::.bool false::.bool false::.bool false::.bool false::.int .i64 0::.int .u8 0::.int .u8 0::.int .u8 0::.int .u8 0::.int .u8 0::.int .u8 0::.int .u8 0::.int .u8 0::.int .u8 0::.int .u8 0::.int .u8 0::.int .u8 0::.int .u8 0::.int .u8 0::.int .u8 0::.int .u8 0::.int .u8 0::.int .u8 0::.int .u8 0::.int .u8 0::.int .u8 0::.int .u8 0::.int .u8 0::.int .u8 0::.int .i64 0::.int .i64 0::.int .i64 0::.int .u8 0::.bool false::.bool false::.ro 0 0 true (fun _ _=>.top)::[]),.lit 25 [.int .i64 0,.int .i64 0,.ro 0 0 true (fun _ _=>.top),.ro 0 0 true (fun _ _=>.top)],.lit 25 [.int .i64 r8.Limit,.int .i64 r8.Stay,.sl 4 3 0 r8.List.length false,.sl 6 43 0 r8.Group.length false],.row 57 3 r8.List.length (upc (enR c_TSleeper r8.List) r5.1.toNat 2 [.sl 5 43 0 (((gd r8.List r5.1.toNat).Held).length) false]),.row 61 43 (((gd r8.List r5.1.toNat).Held).length) (enR c_TStored ((gd r8.List r5.1.toNat).Held)),.row 61 43 r8.Group.length (enR c_TStored r8.Group),.lit 61 (.int .u8 0::.int .i64 0::.int .u8 0::.int .u8 0::.bool false::.bool false::.bool false::.bool false::.bool false::.bool false::.bool false::.int .i64 0::.int .u8 0::.int .u8 0::.int .u8 0::.int .u8 0::.int .u8 0::.int .u8 0::.int .u8 0::.int .u8 0::.int .u8 0::.int .u8 0::.int .u8 0::.int .u8 0::.int .u8 0::.int .u8 0::.int .u8 0::.int .u8 0::.int .u8 0::.int .u8 0::.int .u8 0::.int .u8 0::.int .u8 0::.int .u8 0::.int .u8 0::.int .u8 0::.int .i64 0::.int .i64 0::.int .i64 0::.int .u8 0::.bool false::.bool false::.ro 0 0 true (fun _ _=>.top)::[]),.lit 61 (.int .u8 s.2.Cat::.int .i64 s.2.At::.int .u8 s.2.Frame.Head.Kind::.int .u8 s.2.Frame.Head.Sub::.bool s.2.Frame.Head.ToDs::.bool s.2.Frame.Head.FromDs::.bool s.2.Frame.Head.More::.bool s.2.Frame.Head.Retry::.bool s.2.Frame.Head.Sleep::.bool s.2.Frame.Head.MoreData::.bool s.2.Frame.Head.Protected::.int .i64 s.2.Frame.Head.Duration::.int .u8 s.2.Frame.Head.A1.x0::.int .u8 s.2.Frame.Head.A1.x1::.int .u8 s.2.Frame.Head.A1.x2::.int .u8 s.2.Frame.Head.A1.x3::.int .u8 s.2.Frame.Head.A1.x4::.int .u8 s.2.Frame.Head.A1.x5::.int .u8 s.2.Frame.Head.A2.x0::.int .u8 s.2.Frame.Head.A2.x1::.int .u8 s.2.Frame.Head.A2.x2::.int .u8 s.2.Frame.Head.A2.x3::.int .u8 s.2.Frame.Head.A2.x4::.int .u8 s.2.Frame.Head.A2.x5::.int .u8 s.2.Frame.Head.A3.x0::.int .u8 s.2.Frame.Head.A3.x1::.int .u8 s.2.Frame.Head.A3.x2::.int .u8 s.2.Frame.Head.A3.x3::.int .u8 s.2.Frame.Head.A3.x4::.int .u8 s.2.Frame.Head.A3.x5::.int .u8 s.2.Frame.Head.A4.x0::.int .u8 s.2.Frame.Head.A4.x1::.int .u8 s.2.Frame.Head.A4.x2::.int .u8 s.2.Frame.Head.A4.x3::.int .u8 s.2.Frame.Head.A4.x4::.int .u8 s.2.Frame.Head.A4.x5::.int .i64 s.2.Frame.Head.Seq::.int .i64 s.2.Frame.Head.Frag::.int .i64 s.2.Frame.Head.Tid::.int .u8 s.2.Frame.Head.Ack::.bool s.2.Frame.Head.Amsdu::.bool s.2.Frame.Head.Eosp::.ro 1 s.2.Frame.Body.length false (enR c_u8 s.2.Frame.Body)::[])]) (fun e:TStored=>(tp 4 (.ptr 7 0 0 0::.ptr 8 0 0 0::tp 27 []))) (fun e=>[.dead,.lit 33 (.int .u8 0::.int .u8 0::.bool false::.bool false::.bool false::.bool false::.bool false::.bool false::.bool false::.int .i64 0::.int .u8 0::.int .u8 0::.int .u8 0::.int .u8 0::.int .u8 0::.int .u8 0::.int .u8 0::.int .u8 0::.int .u8 0::.int .u8 0::.int .u8 0::.int .u8 0::.int .u8 0::.int .u8 0::.int .u8 0::.int .u8 0::.int .u8 0::.int .u8 0::.int .u8 0::.int .u8 0::.int .u8 0::.int .u8 0::.int .u8 0::.int .u8 0::.int .i64 0::.int .i64 0::.int .i64 0::.int .u8 0::.bool false::.bool false::.ro 0 0 true (fun _ _=>.top)::[]),.lit 25 [.int .i64 0,.int .i64 0,.ro 0 0 true (fun _ _=>.top),.ro 0 0 true (fun _ _=>.top)],.lit 25 [.int .i64 r8.Limit,.int .i64 r8.Stay,.sl 4 3 0 r8.List.length false,.sl 6 43 0 r8.Group.length false],.row 57 3 r8.List.length (upc (enR c_TSleeper r8.List) r5.1.toNat 2 [.sl 5 43 0 (((gd r8.List r5.1.toNat).Held).length) false]),.row 61 43 (((gd r8.List r5.1.toNat).Held).length) (enR c_TStored ((gd r8.List r5.1.toNat).Held)),.row 61 43 r8.Group.length (enR c_TStored r8.Group),.lit 61 (.int .u8 0::.int .i64 0::.int .u8 0::.int .u8 0::.bool false::.bool false::.bool false::.bool false::.bool false::.bool false::.bool false::.int .i64 0::.int .u8 0::.int .u8 0::.int .u8 0::.int .u8 0::.int .u8 0::.int .u8 0::.int .u8 0::.int .u8 0::.int .u8 0::.int .u8 0::.int .u8 0::.int .u8 0::.int .u8 0::.int .u8 0::.int .u8 0::.int .u8 0::.int .u8 0::.int .u8 0::.int .u8 0::.int .u8 0::.int .u8 0::.int .u8 0::.int .u8 0::.int .u8 0::.int .i64 0::.int .i64 0::.int .i64 0::.int .u8 0::.bool false::.bool false::.ro 0 0 true (fun _ _=>.top)::[]),.lit 61 (.int .u8 e.Cat::.int .i64 e.At::.int .u8 e.Frame.Head.Kind::.int .u8 e.Frame.Head.Sub::.bool e.Frame.Head.ToDs::.bool e.Frame.Head.FromDs::.bool e.Frame.Head.More::.bool e.Frame.Head.Retry::.bool e.Frame.Head.Sleep::.bool e.Frame.Head.MoreData::.bool e.Frame.Head.Protected::.int .i64 e.Frame.Head.Duration::.int .u8 e.Frame.Head.A1.x0::.int .u8 e.Frame.Head.A1.x1::.int .u8 e.Frame.Head.A1.x2::.int .u8 e.Frame.Head.A1.x3::.int .u8 e.Frame.Head.A1.x4::.int .u8 e.Frame.Head.A1.x5::.int .u8 e.Frame.Head.A2.x0::.int .u8 e.Frame.Head.A2.x1::.int .u8 e.Frame.Head.A2.x2::.int .u8 e.Frame.Head.A2.x3::.int .u8 e.Frame.Head.A2.x4::.int .u8 e.Frame.Head.A2.x5::.int .u8 e.Frame.Head.A3.x0::.int .u8 e.Frame.Head.A3.x1::.int .u8 e.Frame.Head.A3.x2::.int .u8 e.Frame.Head.A3.x3::.int .u8 e.Frame.Head.A3.x4::.int .u8 e.Frame.Head.A3.x5::.int .u8 e.Frame.Head.A4.x0::.int .u8 e.Frame.Head.A4.x1::.int .u8 e.Frame.Head.A4.x2::.int .u8 e.Frame.Head.A4.x3::.int .u8 e.Frame.Head.A4.x4::.int .u8 e.Frame.Head.A4.x5::.int .i64 e.Frame.Head.Seq::.int .i64 e.Frame.Head.Frag::.int .i64 e.Frame.Head.Tid::.int .u8 e.Frame.Head.Ack::.bool e.Frame.Head.Amsdu::.bool e.Frame.Head.Eosp::.ro 1 e.Frame.Body.length false (enR c_u8 e.Frame.Body)::[])]) H ?_ (fun s o H hn1_1 hn2_1=>?_) (fun w1_5 H=>?_)
   ·refine SubF_of ⟨[some 0,some 1,some 2,some 3,some 4,some 5,some 6,some 7,some 8],?_,?_,by rfl,by rfl⟩
    ·simp [CvL,Cv,getM,tp,tp]
    ·exact ⟨CvB_dead,cv,cv,cv,(CvB_focG (i:=r5.1.toNat) (L:=r8.List) nr_TSleeper (fun x y hx=>by simp only [upc_ne hx]) (fun y hy=>match y,hy with|0,_=>by simp [upc_ii,getL,Cv,enR,c_TSleeper]|1,_=>by simp [upc_ii,getL,Cv,enR,c_TSleeper]|2,_=>by simp [upc_ii,getL,Cv,getM,enR,c_TSleeper]|(y+3),h=>absurd h (by omega))),(CvB_same nfA),(CvB_same nfA),cv,cv,trivial⟩
   ·obtain ⟨v1_1,v1_2⟩:=s
    unfold F23_L1 at H
    delta eF at H
    try dsimp only at H ⊢
    try simp only [tp]
    refine seqM ?_
    refine sq ctNo_ok ?_
    simp only [go_sem,Nat.reduceAdd]
    repeat ((with_reducible refine And.intro ?_ ?_);focus exact an0)
    refine condM' rfl trivial (fun hc=>?_) (fun hc=>?_)
    ·have hk15:(bLt v1_1 (((gd r8.List r5.1.toNat).Held).length:Nat))=false:=by simpa using hc
     replace H:=cond_f hc H
     refine rg ctNo_ok ?_
     simp only [go_sem]
     refine ⟨_,(Option.some.inj H).symm,?_⟩
     refine SubF_of ⟨[some 0,some 1,some 2,some 3,some 4,some 5,some 6,some 7,some 8],?_,?_,by rfl,by rfl⟩
     ·simp [CvL,Cv,getM]
     ·exact ⟨CvB_dead,cv,cv,cv,(CvB_focG (i:=r5.1.toNat) (L:=r8.List) nr_TSleeper (fun x y hx=>by simp only [upc_ne hx]) (fun y hy=>match y,hy with|0,_=>by simp [upc_ii,getL,Cv,enR,c_TSleeper]|1,_=>by simp [upc_ii,getL,Cv,enR,c_TSleeper]|2,_=>by simp [upc_ii,getL,Cv,getM,enR,c_TSleeper]|(y+3),h=>absurd h (by omega))),(CvB_same nfA),(CvB_same nfA),cv,cv,trivial⟩
    have hk15:(bLt v1_1 (((gd r8.List r5.1.toNat).Held).length:Nat))=true:=by simpa using hc
    replace H:=cond_t hc H
    refine rg ctNo_ok ?_
    simp only [go_sem]
    refine seqM ?_
    refine blkM ?_
    refine seqM ?_
    obtain ⟨f16,H⟩:=need_some.1 H
    replace f16:=inb_iff.1 f16
    obtain ⟨r17,e18,H⟩:=bsi H
    refine draw_quiet shT_ok ct23t3_ok (by kernel_rfl) (by kernel_rfl) ?_
    simp only [go_sem,Nat.reduceLT,Nat.reduceAdd,ct23t3_56,body56,f16,e18]
    repeat ((with_reducible refine And.intro ?_ ?_);focus exact an0)
    refine condM' rfl trivial (fun hc=>?_) (fun hc=>?_)
    ·have hk19:(bLt 0 r17)=false:=by simpa using hc
     replace H:=cond_f hc H
     refine rg ctNo_ok ?_
     simp only [go_sem]
     refine rg ctNo_ok ?_
     simp only [go_sem]
     refine ⟨_,(Option.some.inj H).symm,?_⟩
     refine SubF_of ⟨[some 0,some 1,some 2,some 3,some 4,some 5,some 6,some 7,some 8],?_,?_,by rfl,by rfl⟩
     ·simp [CvL,Cv,getM]
     ·exact ⟨CvB_dead,cv,cv,cv,(CvB_focG (i:=r5.1.toNat) (L:=r8.List) nr_TSleeper (fun x y hx=>by simp only [upc_ne hx]) (fun y hy=>match y,hy with|0,_=>by simp [upc_ii,getL,Cv,enR,c_TSleeper]|1,_=>by simp [upc_ii,getL,Cv,enR,c_TSleeper]|2,_=>by simp [upc_ii,getL,Cv,getM,enR,c_TSleeper]|(y+3),h=>absurd h (by omega))),(CvB_same nfA),(CvB_same nfA),cv,cv,trivial⟩
    have hk19:(bLt 0 r17)=true:=by simpa using hc
    replace H:=cond_t hc H
    obtain ⟨f20,H⟩:=need_some.1 H
    replace f20:=inb_iff.1 f20
    refine rg ctNo_ok ?_
    simp only [go_sem,Nat.reduceLT,Nat.reduceAdd,f20]
    repeat ((with_reducible refine And.intro ?_ ?_);focus exact an6)
    refine rg ctNo_ok ?_
    simp only [go_sem]
    refine ⟨_,(Option.some.inj H).symm,?_⟩
    refine SubF_of ⟨[some 0,some 1,some 2,some 3,some 4,some 5,some 6,some 7,some 8],?_,?_,by rfl,by rfl⟩
    ·simp [CvL,Cv,getM]
    ·exact ⟨CvB_dead,cv,cv,cv,(CvB_focG (i:=r5.1.toNat) (L:=r8.List) nr_TSleeper (fun x y hx=>by simp only [upc_ne hx]) (fun y hy=>match y,hy with|0,_=>by simp [upc_ii,getL,Cv,enR,c_TSleeper]|1,_=>by simp [upc_ii,getL,Cv,enR,c_TSleeper]|2,_=>by simp [upc_ii,getL,Cv,getM,enR,c_TSleeper]|(y+3),h=>absurd h (by omega))),(CvB_same nfA),(CvB_same nfA),cv,cv,trivial⟩
   ·try dsimp only at H ⊢
    try simp only [tp]
    try simp only [m_normal]
    refine sq ctNo_ok ?_
    simp only [go_sem,Nat.reduceLT,Nat.reduceAdd]
    repeat ((with_reducible refine And.intro ?_ ?_);focus exact an6)
    refine rg ctNo_ok ?_
    simp only [go_sem,Nat.reduceLT,Nat.reduceAdd]
    refine cutO shT_ok ctNo_ok 3 ?_
    simp only [kO_normal,List.take_succ_cons,List.take_zero,List.drop_succ_cons,List.drop_zero,go_sem,Nat.reduceLeDiff,Nat.reduceLT,Nat.reduceAdd]
    repeat ((with_reducible refine And.intro ?_ ?_);focus exact an0)
    refine endO ?_
    refine seqM ?_
    obtain ⟨r21,e22,H⟩:=bsi H
    refine rg ct23t4_ok ?_
    simp only [go_sem,Nat.reduceLT,Nat.reduceAdd,Nat.reduceSub,upc_ii,ct23t4_58,body58_0,e22]
    repeat ((with_reducible refine And.intro ?_ ?_);focus exact an0)
    refine seqM ?_
    obtain ⟨f23,H⟩:=need_some.1 H
    replace f23:=inb_iff.1 f23
    refine rg ctNo_ok ?_
    simp only [go_sem,Nat.reduceLT,Nat.reduceAdd,Nat.reduceSub,reduceCtorEq,upc_ii,f23]
    repeat ((with_reducible refine And.intro ?_ ?_);focus exact an6)
    refine seqM ?_
    obtain ⟨f24,H⟩:=need_some.1 H
    replace f24:=delb_iff.1 f24
    refine rg ct23t5_ok ?_
    simp only [go_sem,Nat.reduceLT,Nat.reduceAdd,Nat.reduceSub,upc_ii,ct23t5_60,delN,f24]
    repeat ((with_reducible refine And.intro ?_ ?_);focus exact an0)
    refine seqM ?_
    obtain ⟨w25,hw26,H⟩:=bsi H
    replace hw26:=Option.some.inj hw26
    have lhw26:w25.length=((gd r8.List r5.1.toNat).Held).length - ((wr .i64 (r21+1)).toNat - r21.toNat):=by rw [← hw26];exact (del_len f24 cl)
    refine subF_mean (t2:=(tp 4 (.ptr 1 0 0 0::.ptr 2 0 0 0::.top::.ptr 3 0 0 0::.ptr 4 3 r5.1.toNat 0::tp 75 []))) (h2:=[.dead,.lit 33 (.int .u8 ((((gd ((gd r8.List r5.1.toNat).Held) r21.toNat).Frame).Head).Kind)::.int .u8 ((((gd ((gd r8.List r5.1.toNat).Held) r21.toNat).Frame).Head).Sub)::.bool ((((gd ((gd r8.List r5.1.toNat).Held) r21.toNat).Frame).Head).ToDs)::.bool ((((gd ((gd r8.List r5.1.toNat).Held) r21.toNat).Frame).Head).FromDs)::.bool ((((gd ((gd r8.List r5.1.toNat).Held) r21.toNat).Frame).Head).More)::.bool ((((gd ((gd r8.List r5.1.toNat).Held) r21.toNat).Frame).Head).Retry)::.bool ((((gd ((gd r8.List r5.1.toNat).Held) r21.toNat).Frame).Head).Sleep)::.bool ((((gd ((gd r8.List r5.1.toNat).Held) r21.toNat).Frame).Head).MoreData)::.bool ((((gd ((gd r8.List r5.1.toNat).Held) r21.toNat).Frame).Head).Protected)::.int .i64 ((((gd ((gd r8.List r5.1.toNat).Held) r21.toNat).Frame).Head).Duration)::.int .u8 (((((gd ((gd r8.List r5.1.toNat).Held) r21.toNat).Frame).Head).A1).x0)::.int .u8 (((((gd ((gd r8.List r5.1.toNat).Held) r21.toNat).Frame).Head).A1).x1)::.int .u8 (((((gd ((gd r8.List r5.1.toNat).Held) r21.toNat).Frame).Head).A1).x2)::.int .u8 (((((gd ((gd r8.List r5.1.toNat).Held) r21.toNat).Frame).Head).A1).x3)::.int .u8 (((((gd ((gd r8.List r5.1.toNat).Held) r21.toNat).Frame).Head).A1).x4)::.int .u8 (((((gd ((gd r8.List r5.1.toNat).Held) r21.toNat).Frame).Head).A1).x5)::.int .u8 (((((gd ((gd r8.List r5.1.toNat).Held) r21.toNat).Frame).Head).A2).x0)::.int .u8 (((((gd ((gd r8.List r5.1.toNat).Held) r21.toNat).Frame).Head).A2).x1)::.int .u8 (((((gd ((gd r8.List r5.1.toNat).Held) r21.toNat).Frame).Head).A2).x2)::.int .u8 (((((gd ((gd r8.List r5.1.toNat).Held) r21.toNat).Frame).Head).A2).x3)::.int .u8 (((((gd ((gd r8.List r5.1.toNat).Held) r21.toNat).Frame).Head).A2).x4)::.int .u8 (((((gd ((gd r8.List r5.1.toNat).Held) r21.toNat).Frame).Head).A2).x5)::.int .u8 (((((gd ((gd r8.List r5.1.toNat).Held) r21.toNat).Frame).Head).A3).x0)::.int .u8 (((((gd ((gd r8.List r5.1.toNat).Held) r21.toNat).Frame).Head).A3).x1)::.int .u8 (((((gd ((gd r8.List r5.1.toNat).Held) r21.toNat).Frame).Head).A3).x2)::.int .u8 (((((gd ((gd r8.List r5.1.toNat).Held) r21.toNat).Frame).Head).A3).x3)::.int .u8 (((((gd ((gd r8.List r5.1.toNat).Held) r21.toNat).Frame).Head).A3).x4)::.int .u8 (((((gd ((gd r8.List r5.1.toNat).Held) r21.toNat).Frame).Head).A3).x5)::.int .u8 (((((gd ((gd r8.List r5.1.toNat).Held) r21.toNat).Frame).Head).A4).x0)::.int .u8 (((((gd ((gd r8.List r5.1.toNat).Held) r21.toNat).Frame).Head).A4).x1)::.int .u8 (((((gd ((gd r8.List r5.1.toNat).Held) r21.toNat).Frame).Head).A4).x2)::.int .u8 (((((gd ((gd r8.List r5.1.toNat).Held) r21.toNat).Frame).Head).A4).x3)::.int .u8 (((((gd ((gd r8.List r5.1.toNat).Held) r21.toNat).Frame).Head).A4).x4)::.int .u8 (((((gd ((gd r8.List r5.1.toNat).Held) r21.toNat).Frame).Head).A4).x5)::.int .i64 ((((gd ((gd r8.List r5.1.toNat).Held) r21.toNat).Frame).Head).Seq)::.int .i64 ((((gd ((gd r8.List r5.1.toNat).Held) r21.toNat).Frame).Head).Frag)::.int .i64 ((((gd ((gd r8.List r5.1.toNat).Held) r21.toNat).Frame).Head).Tid)::.int .u8 ((((gd ((gd r8.List r5.1.toNat).Held) r21.toNat).Frame).Head).Ack)::.bool ((((gd ((gd r8.List r5.1.toNat).Held) r21.toNat).Frame).Head).Amsdu)::.bool ((((gd ((gd r8.List r5.1.toNat).Held) r21.toNat).Frame).Head).Eosp)::.ro 1 ((((gd ((gd r8.List r5.1.toNat).Held) r21.toNat).Frame).Body).length) false (enR c_u8 (((gd ((gd r8.List r5.1.toNat).Held) r21.toNat).Frame).Body))::[]),.lit 25 [.int .i64 0,.int .i64 0,.ro 0 0 true (fun _ _=>.top),.ro 0 0 true (fun _ _=>.top)],.lit 25 [.int .i64 r8.Limit,.int .i64 r8.Stay,.sl 4 3 0 r8.List.length false,.sl 6 43 0 r8.Group.length false],.row 57 3 r8.List.length (upc (enR c_TSleeper r8.List) r5.1.toNat 0 [.int .i64 ((gd r8.List r5.1.toNat).Aid),.bool ((gd r8.List r5.1.toNat).Asleep),.sl 10 43 0 w25.length false]),.dead,.row 61 43 r8.Group.length (enR c_TStored r8.Group),.lit 61 (.int .u8 w1_5.Cat::.int .i64 w1_5.At::.int .u8 w1_5.Frame.Head.Kind::.int .u8 w1_5.Frame.Head.Sub::.bool w1_5.Frame.Head.ToDs::.bool w1_5.Frame.Head.FromDs::.bool w1_5.Frame.Head.More::.bool w1_5.Frame.Head.Retry::.bool w1_5.Frame.Head.Sleep::.bool w1_5.Frame.Head.MoreData::.bool w1_5.Frame.Head.Protected::.int .i64 w1_5.Frame.Head.Duration::.int .u8 w1_5.Frame.Head.A1.x0::.int .u8 w1_5.Frame.Head.A1.x1::.int .u8 w1_5.Frame.Head.A1.x2::.int .u8 w1_5.Frame.Head.A1.x3::.int .u8 w1_5.Frame.Head.A1.x4::.int .u8 w1_5.Frame.Head.A1.x5::.int .u8 w1_5.Frame.Head.A2.x0::.int .u8 w1_5.Frame.Head.A2.x1::.int .u8 w1_5.Frame.Head.A2.x2::.int .u8 w1_5.Frame.Head.A2.x3::.int .u8 w1_5.Frame.Head.A2.x4::.int .u8 w1_5.Frame.Head.A2.x5::.int .u8 w1_5.Frame.Head.A3.x0::.int .u8 w1_5.Frame.Head.A3.x1::.int .u8 w1_5.Frame.Head.A3.x2::.int .u8 w1_5.Frame.Head.A3.x3::.int .u8 w1_5.Frame.Head.A3.x4::.int .u8 w1_5.Frame.Head.A3.x5::.int .u8 w1_5.Frame.Head.A4.x0::.int .u8 w1_5.Frame.Head.A4.x1::.int .u8 w1_5.Frame.Head.A4.x2::.int .u8 w1_5.Frame.Head.A4.x3::.int .u8 w1_5.Frame.Head.A4.x4::.int .u8 w1_5.Frame.Head.A4.x5::.int .i64 w1_5.Frame.Head.Seq::.int .i64 w1_5.Frame.Head.Frag::.int .i64 w1_5.Frame.Head.Tid::.int .u8 w1_5.Frame.Head.Ack::.bool w1_5.Frame.Head.Amsdu::.bool w1_5.Frame.Head.Eosp::.ro 1 w1_5.Frame.Body.length false (enR c_u8 w1_5.Frame.Body)::[]),.lit 61 (.int .u8 w1_5.Cat::.int .i64 w1_5.At::.int .u8 w1_5.Frame.Head.Kind::.int .u8 w1_5.Frame.Head.Sub::.bool w1_5.Frame.Head.ToDs::.bool w1_5.Frame.Head.FromDs::.bool w1_5.Frame.Head.More::.bool w1_5.Frame.Head.Retry::.bool w1_5.Frame.Head.Sleep::.bool w1_5.Frame.Head.MoreData::.bool w1_5.Frame.Head.Protected::.int .i64 w1_5.Frame.Head.Duration::.int .u8 w1_5.Frame.Head.A1.x0::.int .u8 w1_5.Frame.Head.A1.x1::.int .u8 w1_5.Frame.Head.A1.x2::.int .u8 w1_5.Frame.Head.A1.x3::.int .u8 w1_5.Frame.Head.A1.x4::.int .u8 w1_5.Frame.Head.A1.x5::.int .u8 w1_5.Frame.Head.A2.x0::.int .u8 w1_5.Frame.Head.A2.x1::.int .u8 w1_5.Frame.Head.A2.x2::.int .u8 w1_5.Frame.Head.A2.x3::.int .u8 w1_5.Frame.Head.A2.x4::.int .u8 w1_5.Frame.Head.A2.x5::.int .u8 w1_5.Frame.Head.A3.x0::.int .u8 w1_5.Frame.Head.A3.x1::.int .u8 w1_5.Frame.Head.A3.x2::.int .u8 w1_5.Frame.Head.A3.x3::.int .u8 w1_5.Frame.Head.A3.x4::.int .u8 w1_5.Frame.Head.A3.x5::.int .u8 w1_5.Frame.Head.A4.x0::.int .u8 w1_5.Frame.Head.A4.x1::.int .u8 w1_5.Frame.Head.A4.x2::.int .u8 w1_5.Frame.Head.A4.x3::.int .u8 w1_5.Frame.Head.A4.x4::.int .u8 w1_5.Frame.Head.A4.x5::.int .i64 w1_5.Frame.Head.Seq::.int .i64 w1_5.Frame.Head.Frag::.int .i64 w1_5.Frame.Head.Tid::.int .u8 w1_5.Frame.Head.Ack::.bool w1_5.Frame.Head.Amsdu::.bool w1_5.Frame.Head.Eosp::.ro 1 w1_5.Frame.Body.length false (enR c_u8 w1_5.Frame.Body)::[]),.lit 5 [.int .u8 w1_5.Cat],.row 61 43 w25.length (enR c_TStored w25)]) ?_ ?_
    ·refine SubF_of ⟨[some 0,some 1,some 2,some 3,some 4,some 5,some 6,some 7,some 8,some 9,some 10],?_,?_,by rfl,by rfl⟩
     ·simp [CvL,Cv,getM,tp,tp]
     ·exact ⟨CvB_dead,(by simp [CvB,CvL,Cv,blkAt,geth]),(by simp [CvB,CvL,Cv,blkAt,geth]),(by simp [CvB,CvL,Cv,blkAt,geth,getM]),(CvB_focG2 (i:=r5.1.toNat) (L:=r8.List) nr_TSleeper (fun x y hx=>by simp only [upc_ne hx]) (fun x y hx=>by simp only [upc_ne hx]) (fun y hy=>match y,hy with|0,_=>by simp [upc_ii,getL,Cv,enR,c_TSleeper,lhw26]|1,_=>by simp [upc_ii,getL,Cv,enR,c_TSleeper,lhw26]|2,_=>by simp [upc_ii,getL,Cv,getM,enR,c_TSleeper,lhw26]|(y+3),h=>absurd h (by omega))),CvB_dead,CvB_row nr_TStored rfl (fun _ _ _ _=>rfl),(by simp [CvB,CvL,Cv,blkAt,geth]),(by simp [CvB,CvL,Cv,blkAt,geth]),(by simp [CvB,CvL,Cv,blkAt,geth]),CvB_row nr_TStored lhw26 (hw26 ▸ (del_row f24 cl (fun _ _ _ _=>rfl))),trivial⟩
    simp only [tp]
    refine rg ctNo_ok ?_
    simp only [go_sem,Nat.reduceLeDiff,Nat.reduceLT,Nat.reduceAdd,Nat.reduceSub,reduceCtorEq,upc_ii]
    repeat ((with_reducible refine And.intro ?_ ?_);focus exact an0)
    refine seqM ?_
    refine draw_rule shT_ok ctNo_ok 0 (by kernel_rfl) (by kernel_rfl) ?_
    intro an han
    simp only [d_nil,d_cons,nxtD,xrD,xoD,roEq,minL,List.append_nil,refsOp,refs,mask,maskF,place,placeF,okLog,pairOk,hit,inL,slotsF,nrH,nrB,nrL,nr,List.replicate_zero,Nat.sub_self,Nat.add_zero,Nat.zero_add,Nat.reduceSub,Nat.lt_add_one,go_sem,Nat.reduceLeDiff,Nat.reduceLT,Nat.reduceAdd,Nat.reduceSub,Nat.reduceBEq]
    repeat ((with_reducible refine And.intro ?_ ?_);focus exact an5)
    refine fz2_mean [10] [4] ?_ ?_
    ·simp only [go_sem,Nat.reduceBEq,Nat.reduceAdd,fzObHF2,fzObB2]
     first|exact (foc_ob (L:=r8.List) (i:=r5.1.toNat) (fun a y=>nrefL_getL (nr_TSleeper a) y) (fun x y hx=>by simp only [upc_ne hx]) (fun y hy=>match y,hy with|0,_=>(by (simp [upc_ii,getL,fzOb,inL,geth,rowOb,enR,c_TSleeper];all_goals (first|(with_reducible trivial)|(intros;exact nrefL_getL (NRf.h _) _)|(intros;exact nfc))))|1,_=>(by (simp [upc_ii,getL,fzOb,inL,geth,rowOb,enR,c_TSleeper];all_goals (first|(with_reducible trivial)|(intros;exact nrefL_getL (NRf.h _) _)|(intros;exact nfc))))|2,_=>(by (simp [upc_ii,getL,fzOb,inL,geth,rowOb,enR,c_TSleeper];all_goals (first|(with_reducible trivial)|(intros;exact nrefL_getL (NRf.h _) _)|(intros;exact nfc))))|(y+3),h=>absurd h (by omega)))|(and_intros<;>first|exact (foc_ob (L:=r8.List) (i:=r5.1.toNat) (fun a y=>nrefL_getL (nr_TSleeper a) y) (fun x y hx=>by simp only [upc_ne hx]) (fun y hy=>match y,hy with|0,_=>(by (simp [upc_ii,getL,fzOb,enR,c_TSleeper];all_goals (first|(with_reducible trivial)|(intros;exact nrefL_getL (NRf.h _) _)|(intros;exact nfc))))|1,_=>(by (simp [upc_ii,getL,fzOb,enR,c_TSleeper];all_goals (first|(with_reducible trivial)|(intros;exact nrefL_getL (NRf.h _) _)|(intros;exact nfc))))|2,_=>(by (simp [upc_ii,getL,fzOb,inL,geth,rowOb,enR,c_TSleeper];all_goals (first|(with_reducible trivial)|(intros;exact nrefL_getL (NRf.h _) _)|(intros;exact nfc))))|(y+3),h=>absurd h (by omega)))|(with_reducible trivial)|omega|exact nfc|trivial)
    simp only [go_sem,Nat.reduceBEq,Nat.reduceAdd,fzH2,fzHF2,fzB2]
    obtain ⟨w27,hw28,H⟩:=bsi H
    replace hw28:=Option.some.inj hw28
    have lhw28:w27.length=r8.List.length:=by rw [← hw28];exact (by simp only [List.length_set])
    refine subF_mean (t2:=(tp 4 (.ptr 1 0 0 0::.ptr 2 0 0 0::.int .i64 0::tp 77 []))) (h2:=[.dead,.lit 33 (.int .u8 ((((gd ((gd r8.List r5.1.toNat).Held) r21.toNat).Frame).Head).Kind)::.int .u8 ((((gd ((gd r8.List r5.1.toNat).Held) r21.toNat).Frame).Head).Sub)::.bool ((((gd ((gd r8.List r5.1.toNat).Held) r21.toNat).Frame).Head).ToDs)::.bool ((((gd ((gd r8.List r5.1.toNat).Held) r21.toNat).Frame).Head).FromDs)::.bool ((((gd ((gd r8.List r5.1.toNat).Held) r21.toNat).Frame).Head).More)::.bool ((((gd ((gd r8.List r5.1.toNat).Held) r21.toNat).Frame).Head).Retry)::.bool ((((gd ((gd r8.List r5.1.toNat).Held) r21.toNat).Frame).Head).Sleep)::.bool (bLt 0 (w25.length:Nat))::.bool ((((gd ((gd r8.List r5.1.toNat).Held) r21.toNat).Frame).Head).Protected)::.int .i64 ((((gd ((gd r8.List r5.1.toNat).Held) r21.toNat).Frame).Head).Duration)::.int .u8 (((((gd ((gd r8.List r5.1.toNat).Held) r21.toNat).Frame).Head).A1).x0)::.int .u8 (((((gd ((gd r8.List r5.1.toNat).Held) r21.toNat).Frame).Head).A1).x1)::.int .u8 (((((gd ((gd r8.List r5.1.toNat).Held) r21.toNat).Frame).Head).A1).x2)::.int .u8 (((((gd ((gd r8.List r5.1.toNat).Held) r21.toNat).Frame).Head).A1).x3)::.int .u8 (((((gd ((gd r8.List r5.1.toNat).Held) r21.toNat).Frame).Head).A1).x4)::.int .u8 (((((gd ((gd r8.List r5.1.toNat).Held) r21.toNat).Frame).Head).A1).x5)::.int .u8 (((((gd ((gd r8.List r5.1.toNat).Held) r21.toNat).Frame).Head).A2).x0)::.int .u8 (((((gd ((gd r8.List r5.1.toNat).Held) r21.toNat).Frame).Head).A2).x1)::.int .u8 (((((gd ((gd r8.List r5.1.toNat).Held) r21.toNat).Frame).Head).A2).x2)::.int .u8 (((((gd ((gd r8.List r5.1.toNat).Held) r21.toNat).Frame).Head).A2).x3)::.int .u8 (((((gd ((gd r8.List r5.1.toNat).Held) r21.toNat).Frame).Head).A2).x4)::.int .u8 (((((gd ((gd r8.List r5.1.toNat).Held) r21.toNat).Frame).Head).A2).x5)::.int .u8 (((((gd ((gd r8.List r5.1.toNat).Held) r21.toNat).Frame).Head).A3).x0)::.int .u8 (((((gd ((gd r8.List r5.1.toNat).Held) r21.toNat).Frame).Head).A3).x1)::.int .u8 (((((gd ((gd r8.List r5.1.toNat).Held) r21.toNat).Frame).Head).A3).x2)::.int .u8 (((((gd ((gd r8.List r5.1.toNat).Held) r21.toNat).Frame).Head).A3).x3)::.int .u8 (((((gd ((gd r8.List r5.1.toNat).Held) r21.toNat).Frame).Head).A3).x4)::.int .u8 (((((gd ((gd r8.List r5.1.toNat).Held) r21.toNat).Frame).Head).A3).x5)::.int .u8 (((((gd ((gd r8.List r5.1.toNat).Held) r21.toNat).Frame).Head).A4).x0)::.int .u8 (((((gd ((gd r8.List r5.1.toNat).Held) r21.toNat).Frame).Head).A4).x1)::.int .u8 (((((gd ((gd r8.List r5.1.toNat).Held) r21.toNat).Frame).Head).A4).x2)::.int .u8 (((((gd ((gd r8.List r5.1.toNat).Held) r21.toNat).Frame).Head).A4).x3)::.int .u8 (((((gd ((gd r8.List r5.1.toNat).Held) r21.toNat).Frame).Head).A4).x4)::.int .u8 (((((gd ((gd r8.List r5.1.toNat).Held) r21.toNat).Frame).Head).A4).x5)::.int .i64 ((((gd ((gd r8.List r5.1.toNat).Held) r21.toNat).Frame).Head).Seq)::.int .i64 ((((gd ((gd r8.List r5.1.toNat).Held) r21.toNat).Frame).Head).Frag)::.int .i64 ((((gd ((gd r8.List r5.1.toNat).Held) r21.toNat).Frame).Head).Tid)::.int .u8 ((((gd ((gd r8.List r5.1.toNat).Held) r21.toNat).Frame).Head).Ack)::.bool ((((gd ((gd r8.List r5.1.toNat).Held) r21.toNat).Frame).Head).Amsdu)::.bool ((((gd ((gd r8.List r5.1.toNat).Held) r21.toNat).Frame).Head).Eosp)::.ro 1 ((((gd ((gd r8.List r5.1.toNat).Held) r21.toNat).Frame).Body).length) false (enR c_u8 (((gd ((gd r8.List r5.1.toNat).Held) r21.toNat).Frame).Body))::[]),.lit 25 [.int .i64 r8.Limit,.int .i64 r8.Stay,.sl 4 3 0 w27.length false,.sl 6 43 0 r8.Group.length false],.lit 25 [.int .i64 r8.Limit,.int .i64 r8.Stay,.sl 4 3 0 w27.length false,.sl 6 43 0 r8.Group.length false],.row 57 3 w27.length (enR c_TSleeper w27),.dead,.row 61 43 r8.Group.length (enR c_TStored r8.Group),.lit 61 (.int .u8 w1_5.Cat::.int .i64 w1_5.At::.int .u8 w1_5.Frame.Head.Kind::.int .u8 w1_5.Frame.Head.Sub::.bool w1_5.Frame.Head.ToDs::.bool w1_5.Frame.Head.FromDs::.bool w1_5.Frame.Head.More::.bool w1_5.Frame.Head.Retry::.bool w1_5.Frame.Head.Sleep::.bool w1_5.Frame.Head.MoreData::.bool w1_5.Frame.Head.Protected::.int .i64 w1_5.Frame.Head.Duration::.int .u8 w1_5.Frame.Head.A1.x0::.int .u8 w1_5.Frame.Head.A1.x1::.int .u8 w1_5.Frame.Head.A1.x2::.int .u8 w1_5.Frame.Head.A1.x3::.int .u8 w1_5.Frame.Head.A1.x4::.int .u8 w1_5.Frame.Head.A1.x5::.int .u8 w1_5.Frame.Head.A2.x0::.int .u8 w1_5.Frame.Head.A2.x1::.int .u8 w1_5.Frame.Head.A2.x2::.int .u8 w1_5.Frame.Head.A2.x3::.int .u8 w1_5.Frame.Head.A2.x4::.int .u8 w1_5.Frame.Head.A2.x5::.int .u8 w1_5.Frame.Head.A3.x0::.int .u8 w1_5.Frame.Head.A3.x1::.int .u8 w1_5.Frame.Head.A3.x2::.int .u8 w1_5.Frame.Head.A3.x3::.int .u8 w1_5.Frame.Head.A3.x4::.int .u8 w1_5.Frame.Head.A3.x5::.int .u8 w1_5.Frame.Head.A4.x0::.int .u8 w1_5.Frame.Head.A4.x1::.int .u8 w1_5.Frame.Head.A4.x2::.int .u8 w1_5.Frame.Head.A4.x3::.int .u8 w1_5.Frame.Head.A4.x4::.int .u8 w1_5.Frame.Head.A4.x5::.int .i64 w1_5.Frame.Head.Seq::.int .i64 w1_5.Frame.Head.Frag::.int .i64 w1_5.Frame.Head.Tid::.int .u8 w1_5.Frame.Head.Ack::.bool w1_5.Frame.Head.Amsdu::.bool w1_5.Frame.Head.Eosp::.ro 1 w1_5.Frame.Body.length false (enR c_u8 w1_5.Frame.Body)::[]),.lit 61 (.int .u8 w1_5.Cat::.int .i64 w1_5.At::.int .u8 w1_5.Frame.Head.Kind::.int .u8 w1_5.Frame.Head.Sub::.bool w1_5.Frame.Head.ToDs::.bool w1_5.Frame.Head.FromDs::.bool w1_5.Frame.Head.More::.bool w1_5.Frame.Head.Retry::.bool w1_5.Frame.Head.Sleep::.bool w1_5.Frame.Head.MoreData::.bool w1_5.Frame.Head.Protected::.int .i64 w1_5.Frame.Head.Duration::.int .u8 w1_5.Frame.Head.A1.x0::.int .u8 w1_5.Frame.Head.A1.x1::.int .u8 w1_5.Frame.Head.A1.x2::.int .u8 w1_5.Frame.Head.A1.x3::.int .u8 w1_5.Frame.Head.A1.x4::.int .u8 w1_5.Frame.Head.A1.x5::.int .u8 w1_5.Frame.Head.A2.x0::.int .u8 w1_5.Frame.Head.A2.x1::.int .u8 w1_5.Frame.Head.A2.x2::.int .u8 w1_5.Frame.Head.A2.x3::.int .u8 w1_5.Frame.Head.A2.x4::.int .u8 w1_5.Frame.Head.A2.x5::.int .u8 w1_5.Frame.Head.A3.x0::.int .u8 w1_5.Frame.Head.A3.x1::.int .u8 w1_5.Frame.Head.A3.x2::.int .u8 w1_5.Frame.Head.A3.x3::.int .u8 w1_5.Frame.Head.A3.x4::.int .u8 w1_5.Frame.Head.A3.x5::.int .u8 w1_5.Frame.Head.A4.x0::.int .u8 w1_5.Frame.Head.A4.x1::.int .u8 w1_5.Frame.Head.A4.x2::.int .u8 w1_5.Frame.Head.A4.x3::.int .u8 w1_5.Frame.Head.A4.x4::.int .u8 w1_5.Frame.Head.A4.x5::.int .i64 w1_5.Frame.Head.Seq::.int .i64 w1_5.Frame.Head.Frag::.int .i64 w1_5.Frame.Head.Tid::.int .u8 w1_5.Frame.Head.Ack::.bool w1_5.Frame.Head.Amsdu::.bool w1_5.Frame.Head.Eosp::.ro 1 w1_5.Frame.Body.length false (enR c_u8 w1_5.Frame.Body)::[]),.lit 5 [.int .u8 w1_5.Cat],.dead]) ?_ ?_
    ·refine SubF_of ⟨[some 0,some 1,some 2,some 3,some 4,some 5,some 6,some 7,some 8,some 9,some 10],?_,?_,by rfl,by rfl⟩
     ·simp [CvL,Cv,getM,tp,tp]
     ·exact ⟨CvB_dead,(by simp [CvB,CvL,Cv,blkAt,geth]),(by simp [CvB,CvL,Cv,blkAt,geth,getM,lhw28]),(by simp [CvB,CvL,Cv,blkAt,geth,getM,lhw28]),CvB_row nr_TSleeper lhw28 (hw28 ▸ (foc_row (L:=r8.List) (i:=r5.1.toNat) (fun a y=>nrefL_getL (nr_TSleeper a) y) (fun x y hx=>by simp only [upc_ne hx]) (fun y hy=>match y,hy with|0,_=>by simp [upc_ii,getL,fzV,enR,c_TSleeper]|1,_=>by simp [upc_ii,getL,fzV,enR,c_TSleeper]|2,_=>by simp [upc_ii,getL,fzV,inL,geth,enR,c_TSleeper,sub_enR0]|(y+3),h=>absurd h (by omega)))),CvB_dead,CvB_row nr_TStored rfl (fun _ _ _ _=>rfl),(by simp [CvB,CvL,Cv,blkAt,geth]),(by simp [CvB,CvL,Cv,blkAt,geth]),(by simp [CvB,CvL,Cv,blkAt,geth]),CvB_dead,trivial⟩
    simp only [tp]
    refine rg ctNo_ok ?_
    simp only [go_sem,Nat.reduceLT,Nat.reduceAdd]
    obtain rfl:=Option.some.inj H
    refine ⟨[4,6,1,2,3,7,8,9],?_,?_,[],?_,?_,rfl⟩
    ·simp only [go_sem,Nat.reduceBEq]
     try exact at0
    ·simp only [go_sem,Nat.reduceBEq]
     try exact at0
    ·simp only [go_sem,Nat.reduceBEq]
     exact Cv_tup (CvL_cons (Cv_agg (CvL_cons Cv_int (CvL_cons Cv_int (CvL_cons Cv_bool (CvL_cons Cv_bool (CvL_cons Cv_bool (CvL_cons Cv_bool (CvL_cons Cv_bool (CvL_cons Cv_bool (CvL_cons Cv_bool (CvL_cons Cv_int (CvL_cons Cv_int (CvL_cons Cv_int (CvL_cons Cv_int (CvL_cons Cv_int (CvL_cons Cv_int (CvL_cons Cv_int (CvL_cons Cv_int (CvL_cons Cv_int (CvL_cons Cv_int (CvL_cons Cv_int (CvL_cons Cv_int (CvL_cons Cv_int (CvL_cons Cv_int (CvL_cons Cv_int (CvL_cons Cv_int (CvL_cons Cv_int (CvL_cons Cv_int (CvL_cons Cv_int (CvL_cons Cv_int (CvL_cons Cv_int (CvL_cons Cv_int (CvL_cons Cv_int (CvL_cons Cv_int (CvL_cons Cv_int (CvL_cons Cv_int (CvL_cons Cv_int (CvL_cons Cv_int (CvL_cons Cv_int (CvL_cons Cv_bool (CvL_cons Cv_bool (CvL_cons (Cv_nf (by simp only [nref])) CvL_nil)))))))))))))))))))))))))))))))))))))))))) (CvL_cons (Cv_agg (CvL_cons Cv_int (CvL_cons Cv_int (CvL_cons (ro_row (by first|rfl|simp) (fun _ _ _ _=>rfl)) (CvL_cons (ro_row (by first|rfl|simp) (fun _ _ _ _=>rfl)) CvL_nil))))) (CvL_cons Cv_int CvL_nil)))
    ·simp only [go_sem,CvH]
  ·cases hb
 ·unfold body23 at hb
  split at hb<;>cases hb
noncomputable def F37 (p0:Int):Option (TFrame) :=
 some (TFrame.mk (THeader.mk 0 0 false false false false false false false 0 (A6u8.mk 0 0 0 0 0 0) (A6u8.mk 0 0 0 0 0 0) (A6u8.mk 0 0 0 0 0 0) (A6u8.mk 0 0 0 0 0 0) 0 0 0 0 false false) [wr .u8 (shrI .i64 p0 8),wr .u8 p0])
noncomputable def body37:List AV->List ABlk->ED
 | [v0],h=>.ed [] (iK .i64 (roD (deadL h []) v0)/\roDOb (deadL h []) v0/\(F37 (iA (roD (deadL h []) v0))).isSome=true) (.agg (.int .u8 (((gt (F37 (iA (roD (deadL h []) v0)))).Head).Kind)::.int .u8 (((gt (F37 (iA (roD (deadL h []) v0)))).Head).Sub)::.bool (((gt (F37 (iA (roD (deadL h []) v0)))).Head).ToDs)::.bool (((gt (F37 (iA (roD (deadL h []) v0)))).Head).FromDs)::.bool (((gt (F37 (iA (roD (deadL h []) v0)))).Head).More)::.bool (((gt (F37 (iA (roD (deadL h []) v0)))).Head).Retry)::.bool (((gt (F37 (iA (roD (deadL h []) v0)))).Head).Sleep)::.bool (((gt (F37 (iA (roD (deadL h []) v0)))).Head).MoreData)::.bool (((gt (F37 (iA (roD (deadL h []) v0)))).Head).Protected)::.int .i64 (((gt (F37 (iA (roD (deadL h []) v0)))).Head).Duration)::.int .u8 ((((gt (F37 (iA (roD (deadL h []) v0)))).Head).A1).x0)::.int .u8 ((((gt (F37 (iA (roD (deadL h []) v0)))).Head).A1).x1)::.int .u8 ((((gt (F37 (iA (roD (deadL h []) v0)))).Head).A1).x2)::.int .u8 ((((gt (F37 (iA (roD (deadL h []) v0)))).Head).A1).x3)::.int .u8 ((((gt (F37 (iA (roD (deadL h []) v0)))).Head).A1).x4)::.int .u8 ((((gt (F37 (iA (roD (deadL h []) v0)))).Head).A1).x5)::.int .u8 ((((gt (F37 (iA (roD (deadL h []) v0)))).Head).A2).x0)::.int .u8 ((((gt (F37 (iA (roD (deadL h []) v0)))).Head).A2).x1)::.int .u8 ((((gt (F37 (iA (roD (deadL h []) v0)))).Head).A2).x2)::.int .u8 ((((gt (F37 (iA (roD (deadL h []) v0)))).Head).A2).x3)::.int .u8 ((((gt (F37 (iA (roD (deadL h []) v0)))).Head).A2).x4)::.int .u8 ((((gt (F37 (iA (roD (deadL h []) v0)))).Head).A2).x5)::.int .u8 ((((gt (F37 (iA (roD (deadL h []) v0)))).Head).A3).x0)::.int .u8 ((((gt (F37 (iA (roD (deadL h []) v0)))).Head).A3).x1)::.int .u8 ((((gt (F37 (iA (roD (deadL h []) v0)))).Head).A3).x2)::.int .u8 ((((gt (F37 (iA (roD (deadL h []) v0)))).Head).A3).x3)::.int .u8 ((((gt (F37 (iA (roD (deadL h []) v0)))).Head).A3).x4)::.int .u8 ((((gt (F37 (iA (roD (deadL h []) v0)))).Head).A3).x5)::.int .u8 ((((gt (F37 (iA (roD (deadL h []) v0)))).Head).A4).x0)::.int .u8 ((((gt (F37 (iA (roD (deadL h []) v0)))).Head).A4).x1)::.int .u8 ((((gt (F37 (iA (roD (deadL h []) v0)))).Head).A4).x2)::.int .u8 ((((gt (F37 (iA (roD (deadL h []) v0)))).Head).A4).x3)::.int .u8 ((((gt (F37 (iA (roD (deadL h []) v0)))).Head).A4).x4)::.int .u8 ((((gt (F37 (iA (roD (deadL h []) v0)))).Head).A4).x5)::.int .i64 (((gt (F37 (iA (roD (deadL h []) v0)))).Head).Seq)::.int .i64 (((gt (F37 (iA (roD (deadL h []) v0)))).Head).Frag)::.int .i64 (((gt (F37 (iA (roD (deadL h []) v0)))).Head).Tid)::.int .u8 (((gt (F37 (iA (roD (deadL h []) v0)))).Head).Ack)::.bool (((gt (F37 (iA (roD (deadL h []) v0)))).Head).Amsdu)::.bool (((gt (F37 (iA (roD (deadL h []) v0)))).Head).Eosp)::.sl 0 1 0 (((gt (F37 (iA (roD (deadL h []) v0)))).Body).length) false::[])) [.row 5 1 (((gt (F37 (iA (roD (deadL h []) v0)))).Body).length) (enR c_u8 ((gt (F37 (iA (roD (deadL h []) v0)))).Body))]
 | _,_=>.fail
theorem ok37:FnOk Try.prog 37 (edC body37):=by
 refine edit_fnV body37 (rs:=[.cell 2 33]) Try.func37 (by kernel_rfl) rfl rfl ?_
 intro l h bs ob q0 g0 hb hob
 unfold body37 at hb
 split at hb
 ·rename_i v0
  injection hb with q1 q2 q3 q4;subst q1 q2 q3 q4
  obtain ⟨hk0_0,hk0_1,hob⟩:=hob
  obtain ⟨r,H⟩:=Option.isSome_iff_exists.1 hob
  rw [H,gt_some]
  have hw0:=iK_wk hk0_0
  obtain ⟨p0,hp_p0⟩:∃ p0,p0=iA (roD (deadL h []) v0):=⟨_,rfl⟩
  rw [← hp_p0] at H hw0
  refine ⟨[.int .i64 p0],[],rfl,⟨(EW_view hk0_1 hw0),trivial⟩,trivial,trivial,⟨(nfB_en nr_u8),trivial⟩,⟨noroB_en,trivial⟩,(by first|(simp only [noro,noroL,and_self];done)|(simp only [noro,noroL];and_intros<;>first|trivial|exact noro_bif (by simp only [noro]) (by simp only [noro])|(simp only [noro,noroL,and_self]))),?_⟩
  rw [Try.ntmps37]
  simp only [List.length_cons,List.length_nil,Nat.reduceAdd,Nat.reduceSub,List.replicate_succ,List.replicate_zero,List.cons_append,List.nil_append]
  unfold F37 at H
  try dsimp only at H
  refine sq ctNo_ok ?_
  simp only [go_sem]
  refine sq ctNo_ok ?_
  simp only [go_sem,Nat.reduceLeDiff,Nat.reduceAdd]
  repeat ((with_reducible refine And.intro ?_ ?_);focus exact an6)
  refine rg ctNo_ok ?_
  simp only [go_sem,Nat.reduceLT,Nat.reduceAdd]
  obtain rfl:=Option.some.inj H
  refine RetE_mk [] [some 1] ?_ ?_ ?_ ?_ (by rfl) (by rfl)
  ·simp only [go_sem]
   try exact at0
  ·simp only [go_sem]
   try exact at0
  ·simp only [go_sem,Nat.reduceAdd]
   exact (by first|(simp [Cv,CvL,getM];done)|(simp [Cv,CvL,getM,gt_some];omega))
  ·simp only [go_sem,Nat.reduceAdd,CvH]
   exact CvB_row nr_u8 cl (lit_row (f:=c_u8) [wr .u8 (shrI .i64 p0 8),wr .u8 p0] (fun _ _=>rfl) rfl)
 ·cases hb
noncomputable def F62 (p0:List TStored) (p1:Int):Option (Bool) :=
 need (bif (bLt 0 (p0.length:Nat)) then inb (wr .i64 ((p0.length:Nat) - 1)) p0.length else true) <| some ((bLt 0 (p0.length:Nat)) && (bLt p1 ((gd p0 ((wr .i64 ((p0.length:Nat) - 1)).toNat)).At)))
noncomputable def body62:List AV->AR
 | [v0,v1]=>.pure (lK k_TStored 43 v0/\iK .i64 v1/\(F62 (lA g_TStored v0) (iA v1)).isSome=true) (.bool (gt (F62 (lA g_TStored v0) (iA v1))))
 | _=>.fail
theorem ok62:FnOk Try.prog 62 (pureC body62):=by
 refine pure_fnM body62 (rs:=[.tmp 4]) Try.func62 (by kernel_rfl) rfl rfl ?_
 intro l ob v hb hob
 unfold body62 at hb
 split at hb
 ·rename_i v0 v1
  injection hb with q1 q2;subst q1 q2
  obtain ⟨hk0_0,hk1_0,hob⟩:=hob
  obtain ⟨r,H⟩:=Option.isSome_iff_exists.1 hob
  rw [H,gt_some]
  have hw0:=lK_wk (fun r h=>w_TStored h) hk0_0
  have hw1:=iK_wk hk1_0
  generalize lA g_TStored v0=p0 at H hw0
  generalize iA v1=p1 at H hw1
  refine ⟨[.ro 43 p0.length false (enR c_TStored p0),.int .i64 p1],_,(fun E vs F=>FR_wk1 hw0.1 F (fun vs F=>FR_wk1 hw1.1 F (fun vs F=>F))),rfl,rfl,?_⟩
  rw [Try.ntmps62]
  simp only [List.length_cons,List.length_nil,Nat.reduceAdd,Nat.reduceSub,List.replicate_succ,List.replicate_zero,List.cons_append,List.nil_append]
  unfold F62 at H
  try dsimp only at H
  refine sq ctNo_ok ?_
  simp only [go_sem]
  refine seqM ?_
  obtain ⟨f1,H⟩:=need_some.1 H
  replace f1:=g_iff.1 f1
  replace f1:=fun g=>inb_iff.1 (f1 g)
  refine rg ctNo_ok ?_
  simp only [go_sem,Nat.reduceLeDiff,Nat.reduceLT,Nat.reduceAdd]
  repeat ((with_reducible refine And.intro ?_ ?_);focus (first|(with_reducible trivial)|omega|exact f1|(intro g;have q:=f1 (by first|exact g|(rw [g];rfl)|simpa using g);first|exact q|exact ⟨q.1,q.2.1⟩|exact q.2.2|omega|exact ⟨g,q⟩|exact ⟨trivial,q⟩|exact ⟨g,q.1,q.2.1⟩|exact ⟨g,q.2.2⟩)|(intro g;(try have q0:=f1 (by first|exact g|(rw [g];rfl)|simpa using g));and_intros<;>first|(with_reducible trivial)|assumption|exact nfc|(intro g2;rw [g,g2];rfl)|(intro g2;assumption)|(simp only [g,Bool.true_and,Bool.and_true,Bool.not_false,Bool.not_true];assumption)|grind)|(and_intros<;>first|(with_reducible trivial)|omega|assumption|exact nfc|first|exact rfl|exact trivial|exact fitI|exact .inr rfl|exact .inl rfl|exact fun x hx=>absurd hx (by omega))|grind))
  refine rg ctNo_ok ?_
  simp only [go_sem]
  obtain rfl:=Option.some.inj H
  first|rfl|simp only [Bool.and_false,Bool.false_and,Bool.and_true,Bool.true_and]
 ·cases hb
noncomputable def ct90t0:Ct:=tab [(57,pureC body57)]
theorem ct90t0_ok:CtOk Try.prog ct90t0:=tab_cons ok57 <| tab_nil
theorem ct90t0_57 (l:List AV) (h:List ABlk):ct90t0 57 l h=pureC body57 l h:=rfl
noncomputable def F90 (p0:TStored) (p1:TStored):Option (Int) :=
 (F57 p0.Cat p1.Cat).bind fun r1=>some r1
noncomputable def body90:List AV->AR
 | [v0,v1]=>.pure (aK 43 k_TStored v0/\aK 43 k_TStored v1/\(F90 (g_TStored (aL v0)) (g_TStored (aL v1))).isSome=true) (.int .i64 (gt (F90 (g_TStored (aL v0)) (g_TStored (aL v1)))))
 | _=>.fail
theorem ok90:FnOk Try.prog 90 (pureC body90):=by
 refine pure_fnM body90 (rs:=[.tmp 4]) Try.func90 (by kernel_rfl) rfl rfl ?_
 intro l ob v hb hob
 unfold body90 at hb
 split at hb
 ·rename_i v0 v1
  injection hb with q1 q2;subst q1 q2
  obtain ⟨hk0_0,hk1_0,hob⟩:=hob
  obtain ⟨r,H⟩:=Option.isSome_iff_exists.1 hob
  rw [H,gt_some]
  have hw0:=wA_TStored hk0_0
  have hw1:=wA_TStored hk1_0
  generalize g_TStored (aL v0)=p0 at H hw0
  generalize g_TStored (aL v1)=p1 at H hw1
  refine ⟨[.agg (.int .u8 p0.Cat::.int .i64 p0.At::.int .u8 p0.Frame.Head.Kind::.int .u8 p0.Frame.Head.Sub::.bool p0.Frame.Head.ToDs::.bool p0.Frame.Head.FromDs::.bool p0.Frame.Head.More::.bool p0.Frame.Head.Retry::.bool p0.Frame.Head.Sleep::.bool p0.Frame.Head.MoreData::.bool p0.Frame.Head.Protected::.int .i64 p0.Frame.Head.Duration::.int .u8 p0.Frame.Head.A1.x0::.int .u8 p0.Frame.Head.A1.x1::.int .u8 p0.Frame.Head.A1.x2::.int .u8 p0.Frame.Head.A1.x3::.int .u8 p0.Frame.Head.A1.x4::.int .u8 p0.Frame.Head.A1.x5::.int .u8 p0.Frame.Head.A2.x0::.int .u8 p0.Frame.Head.A2.x1::.int .u8 p0.Frame.Head.A2.x2::.int .u8 p0.Frame.Head.A2.x3::.int .u8 p0.Frame.Head.A2.x4::.int .u8 p0.Frame.Head.A2.x5::.int .u8 p0.Frame.Head.A3.x0::.int .u8 p0.Frame.Head.A3.x1::.int .u8 p0.Frame.Head.A3.x2::.int .u8 p0.Frame.Head.A3.x3::.int .u8 p0.Frame.Head.A3.x4::.int .u8 p0.Frame.Head.A3.x5::.int .u8 p0.Frame.Head.A4.x0::.int .u8 p0.Frame.Head.A4.x1::.int .u8 p0.Frame.Head.A4.x2::.int .u8 p0.Frame.Head.A4.x3::.int .u8 p0.Frame.Head.A4.x4::.int .u8 p0.Frame.Head.A4.x5::.int .i64 p0.Frame.Head.Seq::.int .i64 p0.Frame.Head.Frag::.int .i64 p0.Frame.Head.Tid::.int .u8 p0.Frame.Head.Ack::.bool p0.Frame.Head.Amsdu::.bool p0.Frame.Head.Eosp::.ro 1 p0.Frame.Body.length false (enR c_u8 p0.Frame.Body)::[]),.agg (.int .u8 p1.Cat::.int .i64 p1.At::.int .u8 p1.Frame.Head.Kind::.int .u8 p1.Frame.Head.Sub::.bool p1.Frame.Head.ToDs::.bool p1.Frame.Head.FromDs::.bool p1.Frame.Head.More::.bool p1.Frame.Head.Retry::.bool p1.Frame.Head.Sleep::.bool p1.Frame.Head.MoreData::.bool p1.Frame.Head.Protected::.int .i64 p1.Frame.Head.Duration::.int .u8 p1.Frame.Head.A1.x0::.int .u8 p1.Frame.Head.A1.x1::.int .u8 p1.Frame.Head.A1.x2::.int .u8 p1.Frame.Head.A1.x3::.int .u8 p1.Frame.Head.A1.x4::.int .u8 p1.Frame.Head.A1.x5::.int .u8 p1.Frame.Head.A2.x0::.int .u8 p1.Frame.Head.A2.x1::.int .u8 p1.Frame.Head.A2.x2::.int .u8 p1.Frame.Head.A2.x3::.int .u8 p1.Frame.Head.A2.x4::.int .u8 p1.Frame.Head.A2.x5::.int .u8 p1.Frame.Head.A3.x0::.int .u8 p1.Frame.Head.A3.x1::.int .u8 p1.Frame.Head.A3.x2::.int .u8 p1.Frame.Head.A3.x3::.int .u8 p1.Frame.Head.A3.x4::.int .u8 p1.Frame.Head.A3.x5::.int .u8 p1.Frame.Head.A4.x0::.int .u8 p1.Frame.Head.A4.x1::.int .u8 p1.Frame.Head.A4.x2::.int .u8 p1.Frame.Head.A4.x3::.int .u8 p1.Frame.Head.A4.x4::.int .u8 p1.Frame.Head.A4.x5::.int .i64 p1.Frame.Head.Seq::.int .i64 p1.Frame.Head.Frag::.int .i64 p1.Frame.Head.Tid::.int .u8 p1.Frame.Head.Ack::.bool p1.Frame.Head.Amsdu::.bool p1.Frame.Head.Eosp::.ro 1 p1.Frame.Body.length false (enR c_u8 p1.Frame.Body)::[])],_,(fun E vs F=>FR_wk1 hw0.1 F (fun vs F=>FR_wk1 hw1.1 F (fun vs F=>F))),rfl,rfl,?_⟩
  rw [Try.ntmps90]
  simp only [List.length_cons,List.length_nil,Nat.reduceAdd,Nat.reduceSub,List.replicate_succ,List.replicate_zero,List.cons_append,List.nil_append]
  unfold F90 at H
  try dsimp only at H
  refine sq ctNo_ok ?_
  simp only [go_sem]
  refine seqM ?_
  obtain ⟨r1,e2,H⟩:=bsi H
  refine rg ct90t0_ok ?_
  simp only [go_sem,Nat.reduceLeDiff,Nat.reduceLT,Nat.reduceAdd,ct90t0_57,body57,e2]
  repeat ((with_reducible refine And.intro ?_ ?_);focus exact an0)
  refine rg ctNo_ok ?_
  simp only [go_sem]
  obtain rfl:=Option.some.inj H
  first|rfl|simp only [Bool.and_false,Bool.false_and,Bool.and_true,Bool.true_and]
 ·cases hb
noncomputable def F91_0 (p0:TStored) (p1:Int):Option (Bool) :=
 some (bEq p0.Cat p1)
noncomputable def body91_0:List AV->AR
 | [v0,v1]=>.pure (aK 43 k_TStored v0/\rK 1 k_u8 v1/\(F91_0 (g_TStored (aL v0)) (g_u8 (rG v1))).isSome=true) (.bool (gt (F91_0 (g_TStored (aL v0)) (g_u8 (rG v1)))))
 | _=>.fail
theorem ok91_0:FnOk Try.prog 91 (pureC body91_0):=by
 refine pure_fnM body91_0 (rs:=[.tmp 3]) Try.func91 (by kernel_rfl) rfl rfl ?_
 intro l ob v hb hob
 unfold body91_0 at hb
 split at hb
 ·rename_i v0 v1
  injection hb with q1 q2;subst q1 q2
  obtain ⟨hk0_0,hk1_0,hob⟩:=hob
  obtain ⟨r,H⟩:=Option.isSome_iff_exists.1 hob
  rw [H,gt_some]
  have hw0:=wA_TStored hk0_0
  have hw1:=rK_wk (f:=c_u8) (g:=g_u8) (fun r h=>w_u8 h) hk1_0
  generalize g_TStored (aL v0)=p0 at H hw0
  generalize g_u8 (rG v1)=p1 at H hw1
  refine ⟨[.agg (.int .u8 p0.Cat::.int .i64 p0.At::.int .u8 p0.Frame.Head.Kind::.int .u8 p0.Frame.Head.Sub::.bool p0.Frame.Head.ToDs::.bool p0.Frame.Head.FromDs::.bool p0.Frame.Head.More::.bool p0.Frame.Head.Retry::.bool p0.Frame.Head.Sleep::.bool p0.Frame.Head.MoreData::.bool p0.Frame.Head.Protected::.int .i64 p0.Frame.Head.Duration::.int .u8 p0.Frame.Head.A1.x0::.int .u8 p0.Frame.Head.A1.x1::.int .u8 p0.Frame.Head.A1.x2::.int .u8 p0.Frame.Head.A1.x3::.int .u8 p0.Frame.Head.A1.x4::.int .u8 p0.Frame.Head.A1.x5::.int .u8 p0.Frame.Head.A2.x0::.int .u8 p0.Frame.Head.A2.x1::.int .u8 p0.Frame.Head.A2.x2::.int .u8 p0.Frame.Head.A2.x3::.int .u8 p0.Frame.Head.A2.x4::.int .u8 p0.Frame.Head.A2.x5::.int .u8 p0.Frame.Head.A3.x0::.int .u8 p0.Frame.Head.A3.x1::.int .u8 p0.Frame.Head.A3.x2::.int .u8 p0.Frame.Head.A3.x3::.int .u8 p0.Frame.Head.A3.x4::.int .u8 p0.Frame.Head.A3.x5::.int .u8 p0.Frame.Head.A4.x0::.int .u8 p0.Frame.Head.A4.x1::.int .u8 p0.Frame.Head.A4.x2::.int .u8 p0.Frame.Head.A4.x3::.int .u8 p0.Frame.Head.A4.x4::.int .u8 p0.Frame.Head.A4.x5::.int .i64 p0.Frame.Head.Seq::.int .i64 p0.Frame.Head.Frag::.int .i64 p0.Frame.Head.Tid::.int .u8 p0.Frame.Head.Ack::.bool p0.Frame.Head.Amsdu::.bool p0.Frame.Head.Eosp::.ro 1 p0.Frame.Body.length false (enR c_u8 p0.Frame.Body)::[]),.rptr 1 1 0 0 (enR c_u8 [p1])],_,(fun E vs F=>FR_wk1 hw0.1 F (fun vs F=>FR_wk1 hw1.1 F (fun vs F=>F))),rfl,rfl,?_⟩
  rw [Try.ntmps91]
  simp only [List.length_cons,List.length_nil,Nat.reduceAdd,Nat.reduceSub,List.replicate_succ,List.replicate_zero,List.cons_append,List.nil_append]
  unfold F91_0 at H
  try dsimp only at H
  refine sq ctNo_ok ?_
  simp only [go_sem]
  refine sq ctNo_ok ?_
  simp only [go_sem,Nat.reduceLeDiff,Nat.reduceLT,Nat.reduceAdd]
  repeat ((with_reducible refine And.intro ?_ ?_);focus exact an6)
  refine rg ctNo_ok ?_
  simp only [go_sem]
  obtain rfl:=Option.some.inj H
  first|rfl|simp only [Bool.and_false,Bool.false_and,Bool.and_true,Bool.true_and]
 ·cases hb
noncomputable def ct58_1t0:Ct:=tab [(91,pureC body91_0)]
theorem ct58_1t0_ok:CtOk Try.prog ct58_1t0:=tab_cons ok91_0 <| tab_nil
theorem ct58_1t0_91 (l:List AV) (h:List ABlk):ct58_1t0 91 l h=pureC body91_0 l h:=rfl
noncomputable def F58_1_L1 (p0:List TStored) (p1:Int) (v1_1:Int):Option (Lp (Int) ((Unit) ⊕ (Int))) :=
 bif (bLt v1_1 (p0.length:Nat)) then (need (inb v1_1 p0.length) <| (F91_0 (TStored.mk ((gd p0 v1_1.toNat).Cat) ((gd p0 v1_1.toNat).At) (eF ((gd p0 v1_1.toNat).Frame))) p1).bind fun r3=>bif r3 then (some (.done (.inr v1_1))) else (some (.next (wr .i64 (v1_1+1))))) else (some (.done (.inl ())))
noncomputable def F58_1 (p0:List TStored) (p1:Int):Option (Int) :=
 lp (loopD (fun s=>F58_1_L1 p0 p1 s) 0) (fun _=>some (-1)) some
noncomputable def body58_1:List AV->AR
 | [v0,.fn 91 [v1]]=>.pure (lK k_TStored 43 v0/\rK 1 k_u8 v1/\(F58_1 (lA g_TStored v0) (g_u8 (rG v1))).isSome=true) (.int .i64 (gt (F58_1 (lA g_TStored v0) (g_u8 (rG v1)))))
 | _=>.fail
theorem ok58_1:FnOk Try.prog 58 (pureC body58_1):=by
 refine pure_fnM body58_1 (rs:=[.tmp 4]) Try.func58 (by kernel_rfl) rfl rfl ?_
 intro l ob v hb hob
 unfold body58_1 at hb
 split at hb
 ·rename_i v0 v1
  injection hb with q1 q2;subst q1 q2
  obtain ⟨hk0_0,hk1_0,hob⟩:=hob
  obtain ⟨r,H⟩:=Option.isSome_iff_exists.1 hob
  rw [H,gt_some]
  have hw0:=lK_wk (fun r h=>w_TStored h) hk0_0
  have hw1:=rK_wk (f:=c_u8) (g:=g_u8) (fun r h=>w_u8 h) hk1_0
  generalize lA g_TStored v0=p0 at H hw0
  generalize g_u8 (rG v1)=p1 at H hw1
  refine ⟨[.ro 43 p0.length false (enR c_TStored p0),.fn 91 [.rptr 1 1 0 0 (enR c_u8 [p1])]],_,(fun E vs F=>FR_wk1 hw0.1 F (fun vs F=>FR_wk1 (fn_wk (LW_cons hw1.1 LW_nil)) F (fun vs F=>F))),rfl,rfl,?_⟩
  rw [Try.ntmps58]
  simp only [List.length_cons,List.length_nil,Nat.reduceAdd,Nat.reduceSub,List.replicate_succ,List.replicate_zero,List.cons_append,List.nil_append]
  unfold F58_1 at H
  try dsimp only at H
  refine sq ctNo_ok ?_
  simp only [go_sem]
  refine seqM ?_
  refine sq ctNo_ok ?_
  simp only [go_sem]
  repeat ((with_reducible refine And.intro ?_ ?_);focus exact an0)
  refine blkM ?_
  refine loop_den (fun s:Int=>(.ro 43 p0.length false (enR c_TStored p0)::.fn 91 [.rptr 1 1 0 0 (enR c_u8 [p1])]::tp 5 (.int .i64 (p0.length:Nat)::.int .i64 s::tp 10 []))) (fun s=>[]) (fun e:Unit=>(tp 19 [])) (fun e=>[]) H ?_ (fun v1_1 o H hn1_1 hn2_1=>?_) (fun e H=>?_)
  ·refine SubF_of ⟨[],?_,?_,by rfl,by rfl⟩
   ·simp [CvL,Cv,tp,tp]
   ·trivial
  ·unfold F58_1_L1 at H
   try dsimp only at H ⊢
   try simp only [tp]
   refine sq ctNo_ok ?_
   simp only [go_sem]
   refine seqM ?_
   refine condM' rfl trivial (fun hc=>?_) (fun hc=>?_)
   ·have hk1:(bLt v1_1 (p0.length:Nat))=false:=by simpa using hc
    replace H:=cond_f hc H
    refine rg ctNo_ok ?_
    simp only [go_sem]
    refine ⟨_,(Option.some.inj H).symm,?_⟩
    refine SubF_of ⟨[],?_,?_,by rfl,by rfl⟩
    ·simp [CvL,Cv]
    ·trivial
   have hk1:(bLt v1_1 (p0.length:Nat))=true:=by simpa using hc
   replace H:=cond_t hc H
   refine rg ctNo_ok ?_
   simp only [go_sem]
   refine seqM ?_
   refine blkM ?_
   refine sq ctNo_ok ?_
   simp only [go_sem]
   refine seqM ?_
   obtain ⟨f2,H⟩:=need_some.1 H
   replace f2:=inb_iff.1 f2
   obtain ⟨r3,e4,H⟩:=bsi H
   refine rg ct58_1t0_ok ?_
   simp only [go_sem,Nat.reduceLT,Nat.reduceAdd,ct58_1t0_91,body91_0,f2,e4]
   repeat ((with_reducible refine And.intro ?_ ?_);focus exact an0)
   refine condM rfl trivial (fun hc=>?_) (fun hc=>?_)
   ·have hk5:(r3)=true:=by simpa using hc
    replace H:=cond_t hc H
    refine sq ctNo_ok ?_
    simp only [go_sem]
    refine rg ctNo_ok ?_
    simp only [go_sem]
    have H:=hn2_1 _ (Option.some.inj H).symm
    obtain rfl:=Option.some.inj H
    first|rfl|simp only [Bool.and_false,Bool.false_and,Bool.and_true,Bool.true_and]
   have hk5:(r3)=false:=by simpa using hc
   replace H:=cond_f hc H
   refine rg ctNo_ok ?_
   simp only [go_sem]
   refine rg ctNo_ok ?_
   simp only [go_sem]
   refine ⟨_,(Option.some.inj H).symm,?_⟩
   refine SubF_of ⟨[],?_,?_,by rfl,by rfl⟩
   ·simp [CvL,Cv]
   ·trivial
  ·try dsimp only at H ⊢
   try simp only [tp]
   try simp only [m_normal]
   refine sq ctNo_ok ?_
   simp only [go_sem]
   refine rg ctNo_ok ?_
   simp only [go_sem]
   obtain rfl:=Option.some.inj H
   first|rfl|simp only [Bool.and_false,Bool.false_and,Bool.and_true,Bool.true_and]
 ·cases hb
end Go.Proofs.Ytefiemaoacmdkaa
