/-
  What BufferNames reaches.
-/
import Derived.Test.YtefiemaoacmdkaaY10p3
namespace Go.Proofs.Ytefiemaoacmdkaa
open Go.Am
set_option maxHeartbeats 4000000
set_option maxRecDepth 20000
set_option linter.unusedVariables false
set_option linter.unusedSimpArgs false
noncomputable def ct41t0:Ct:=tab [(18,pureC body18)]
theorem ct41t0_ok:CtOk Try.prog ct41t0:=tab_cons ok18 <| tab_nil
theorem ct41t0_18 (l:List AV) (h:List ABlk):ct41t0 18 l h=pureC body18 l h:=rfl
noncomputable def ct41t1:Ct:=tab [(61,pureC body61)]
theorem ct41t1_ok:CtOk Try.prog ct41t1:=tab_cons ok61 <| tab_nil
theorem ct41t1_61 (l:List AV) (h:List ABlk):ct41t1 61 l h=pureC body61 l h:=rfl
noncomputable def ct41t2:Ct:=tab [(62,pureC body62)]
theorem ct41t2_ok:CtOk Try.prog ct41t2:=tab_cons ok62 <| tab_nil
theorem ct41t2_62 (l:List AV) (h:List ABlk):ct41t2 62 l h=pureC body62 l h:=rfl
noncomputable def ct41t3:Ct:=tab [(63,edC body63),(65,genC body65)]
theorem ct41t3_ok:CtOk Try.prog ct41t3:=tab_cons ok63 <| tab_cons ok65 <| tab_nil
theorem ct41t3_63 (l:List AV) (h:List ABlk):ct41t3 63 l h=edC body63 l h:=rfl
theorem ct41t3_65 (l:List AV) (h:List ABlk):ct41t3 65 l h=genC body65 l h:=rfl
noncomputable def ct41t4:Ct:=tab [(47,pureC body47)]
theorem ct41t4_ok:CtOk Try.prog ct41t4:=tab_cons ok47 <| tab_nil
theorem ct41t4_47 (l:List AV) (h:List ABlk):ct41t4 47 l h=pureC body47 l h:=rfl
noncomputable def ct41t5:Ct:=tab [(90,pureC body90)]
theorem ct41t5_ok:CtOk Try.prog ct41t5:=tab_cons ok90 <| tab_nil
theorem ct41t5_90 (l:List AV) (h:List ABlk):ct41t5 90 l h=pureC body90 l h:=rfl
noncomputable def ct41t6:Ct:=tab [(58,pureC body58_1)]
theorem ct41t6_ok:CtOk Try.prog ct41t6:=tab_cons ok58_1 <| tab_nil
theorem ct41t6_58 (l:List AV) (h:List ABlk):ct41t6 58 l h=pureC body58_1 l h:=rfl
noncomputable def ct41t7:Ct:=tab [(60,delN 61 43)]
theorem ct41t7_ok:CtOk Try.prog ct41t7:=tab_cons ok60 <| tab_nil
theorem ct41t7_60 (l:List AV) (h:List ABlk):ct41t7 60 l h=delN 61 43 l h:=rfl
noncomputable def ct41t8:Ct:=tab [(52,edC body52_0)]
theorem ct41t8_ok:CtOk Try.prog ct41t8:=tab_cons ok52_0 <| tab_nil
theorem ct41t8_52 (l:List AV) (h:List ABlk):ct41t8 52 l h=edC body52_0 l h:=rfl
noncomputable def F41_L1 (r10:TBuffer) (v1_1:Int) (v1_2:TStored):Option (Lp (Int × TStored) ((TStored) ⊕ ((List TFrame) × (List TFrame) × TBuffer × Int))) :=
 bif (bLt v1_1 (r10.Group.length:Nat)) then (need (inb v1_1 r10.Group.length) <| (F90 (TStored.mk ((gd r10.Group v1_1.toNat).Cat) ((gd r10.Group v1_1.toNat).At) (eF ((gd r10.Group v1_1.toNat).Frame))) v1_2).bind fun r22=>bif (bLt r22 0) then (need (inb v1_1 r10.Group.length) <| some (.next (wr .i64 (v1_1+1),(TStored.mk ((gd r10.Group v1_1.toNat).Cat) ((gd r10.Group v1_1.toNat).At) (eF ((gd r10.Group v1_1.toNat).Frame)))))) else (some (.next (wr .i64 (v1_1+1),v1_2)))) else (some (.done (.inl v1_2)))
noncomputable def F41 (p0:TBuffer) (p1:TFrame) (p2:Int):Option ((List TFrame) × (List TFrame) × TBuffer × Int) :=
 (F18 p0).bind fun r1=>bif (!bEq r1 0) then (some ([],[],(TBuffer.mk 0 0 [] []),r1)) else ((F61 p2).bind fun r4=>bif (!r4) then (some ([],[],(TBuffer.mk 0 0 [] []),2)) else ((F62 p0.Group p2).bind fun r7=>bif r7 then (some ([],[],(TBuffer.mk 0 0 [] []),20)) else ((F65 p0).bind fun r10=>(F63 p1).bind fun r12=>(F47 (TBuffer.mk r10.Limit r10.Stay r10.List r10.Group)).bind fun r14=>bif r14 then (bif (bEq (r10.Group.length:Nat) r10.Limit) then (bif (bLt (r10.Group.length:Nat) 1) then (none) else (need (inb 0 r10.Group.length) <| lp (loopD (fun s=>F41_L1 r10 s.1 s.2) (1,(TStored.mk ((gd r10.Group 0).Cat) ((gd r10.Group 0).At) (eF ((gd r10.Group 0).Frame))))) (fun w1_6=>bif (bLt 0 w1_6.Cat) then (some ([],[r12],(TBuffer.mk r10.Limit r10.Stay r10.List r10.Group),0)) else ((F58_1 r10.Group w1_6.Cat).bind fun r27=>need (inb r27 r10.Group.length) <| need (delb r27 (wr .i64 (r27+1)) r10.Group.length) <| (some [(eF ((gd r10.Group r27.toNat).Frame))]).bind fun w31=>(some (delL r10.Group r27 (wr .i64 (r27+1)))).bind fun w33=>need (capb 120 (w33.length+1)) <| some ([],w31,(TBuffer.mk r10.Limit r10.Stay r10.List (w33 ++ [(TStored.mk 0 p2 (eF r12))])),0))) some)) else (need (capb 120 (r10.Group.length+1)) <| some ([],[],(TBuffer.mk r10.Limit r10.Stay r10.List (r10.Group ++ [(TStored.mk 0 p2 (eF r12))])),0))) else ((F52_0 [r12]).bind fun r37=>some (r37,[],(TBuffer.mk r10.Limit r10.Stay r10.List r10.Group),0)))))
noncomputable def body41:List AV->Nat->AR
 | [v0,v1,v2],_=>.pure (aK 4 k_TBuffer v0/\aK 41 k_TFrame v1/\iK .i64 v2/\(F41 (g_TBuffer (aL v0)) (g_TFrame (aL v1)) (iA v2)).isSome=true) (.tup [.ro 41 (((gt (F41 (g_TBuffer (aL v0)) (g_TFrame (aL v1)) (iA v2))).1).length) false (enR c_TFrame ((gt (F41 (g_TBuffer (aL v0)) (g_TFrame (aL v1)) (iA v2))).1)),.ro 41 (((gt (F41 (g_TBuffer (aL v0)) (g_TFrame (aL v1)) (iA v2))).2.1).length) false (enR c_TFrame ((gt (F41 (g_TBuffer (aL v0)) (g_TFrame (aL v1)) (iA v2))).2.1)),.agg [.int .i64 (((gt (F41 (g_TBuffer (aL v0)) (g_TFrame (aL v1)) (iA v2))).2.2.1).Limit),.int .i64 (((gt (F41 (g_TBuffer (aL v0)) (g_TFrame (aL v1)) (iA v2))).2.2.1).Stay),.ro 3 ((((gt (F41 (g_TBuffer (aL v0)) (g_TFrame (aL v1)) (iA v2))).2.2.1).List).length) false (enR c_TSleeper (((gt (F41 (g_TBuffer (aL v0)) (g_TFrame (aL v1)) (iA v2))).2.2.1).List)),.ro 43 ((((gt (F41 (g_TBuffer (aL v0)) (g_TFrame (aL v1)) (iA v2))).2.2.1).Group).length) false (enR c_TStored (((gt (F41 (g_TBuffer (aL v0)) (g_TFrame (aL v1)) (iA v2))).2.2.1).Group))],.int .i64 ((gt (F41 (g_TBuffer (aL v0)) (g_TFrame (aL v1)) (iA v2))).2.2.2)])
 | _,_=>.fail
theorem ok41:FnOk Try.prog 41 (genC body41):=by
 refine gen_fn body41 (rs:=[.tmp 6,.tmp 7,.cell 8 25,.tmp 9]) Try.func41 (by kernel_rfl) rfl rfl ?_
 intro l s ob v ns hb hob
 rcases hb with ⟨hb,rfl⟩|hb
 ·unfold body41 at hb
  split at hb
  ·rename_i v0 v1 v2
   injection hb with q1 q2;subst q1 q2
   obtain ⟨hk0_0,hk1_0,hk2_0,hob⟩:=hob
   obtain ⟨r,H⟩:=Option.isSome_iff_exists.1 hob
   rw [H,gt_some]
   have hw0:=wA_TBuffer hk0_0
   have hw1:=wA_TFrame hk1_0
   have hw2:=iK_wk hk2_0
   generalize g_TBuffer (aL v0)=p0 at H hw0
   generalize g_TFrame (aL v1)=p1 at H hw1
   generalize iA v2=p2 at H hw2
   refine ⟨[.agg [.int .i64 p0.Limit,.int .i64 p0.Stay,.ro 3 p0.List.length false (enR c_TSleeper p0.List),.ro 43 p0.Group.length false (enR c_TStored p0.Group)],.agg (.int .u8 p1.Head.Kind::.int .u8 p1.Head.Sub::.bool p1.Head.ToDs::.bool p1.Head.FromDs::.bool p1.Head.More::.bool p1.Head.Retry::.bool p1.Head.Sleep::.bool p1.Head.MoreData::.bool p1.Head.Protected::.int .i64 p1.Head.Duration::.int .u8 p1.Head.A1.x0::.int .u8 p1.Head.A1.x1::.int .u8 p1.Head.A1.x2::.int .u8 p1.Head.A1.x3::.int .u8 p1.Head.A1.x4::.int .u8 p1.Head.A1.x5::.int .u8 p1.Head.A2.x0::.int .u8 p1.Head.A2.x1::.int .u8 p1.Head.A2.x2::.int .u8 p1.Head.A2.x3::.int .u8 p1.Head.A2.x4::.int .u8 p1.Head.A2.x5::.int .u8 p1.Head.A3.x0::.int .u8 p1.Head.A3.x1::.int .u8 p1.Head.A3.x2::.int .u8 p1.Head.A3.x3::.int .u8 p1.Head.A3.x4::.int .u8 p1.Head.A3.x5::.int .u8 p1.Head.A4.x0::.int .u8 p1.Head.A4.x1::.int .u8 p1.Head.A4.x2::.int .u8 p1.Head.A4.x3::.int .u8 p1.Head.A4.x4::.int .u8 p1.Head.A4.x5::.int .i64 p1.Head.Seq::.int .i64 p1.Head.Frag::.int .i64 p1.Head.Tid::.int .u8 p1.Head.Ack::.bool p1.Head.Amsdu::.bool p1.Head.Eosp::.ro 1 p1.Body.length false (enR c_u8 p1.Body)::[]),.int .i64 p2],.tup [.ro 41 r.1.length false (enR c_TFrame r.1),.ro 41 r.2.1.length false (enR c_TFrame r.2.1),.agg [.int .i64 r.2.2.1.Limit,.int .i64 r.2.2.1.Stay,.ro 3 r.2.2.1.List.length false (enR c_TSleeper r.2.2.1.List),.ro 43 r.2.2.1.Group.length false (enR c_TStored r.2.2.1.Group)],.int .i64 r.2.2.2],[],(fun E vs F=>FR_wk1 hw0.1 F (fun vs F=>FR_wk1 hw1.1 F (fun vs F=>FR_wk1 hw2.1 F (fun vs F=>F)))),by simp only [ren,renL],trivial,?_⟩
   rw [Try.ntmps41]
   simp only [List.length_cons,List.length_nil,Nat.reduceAdd,Nat.reduceSub,List.replicate_succ,List.replicate_zero,List.cons_append,List.nil_append]
   unfold F41 at H
   delta eF at H
   try dsimp only at H
   refine sq ctNo_ok ?_
   simp only [go_sem,Nat.reduceAdd]
   refine seqM ?_
   refine seqM ?_
   obtain ⟨r1,e2,H⟩:=bsi H
   refine rg ct41t0_ok ?_
   simp only [go_sem,Nat.reduceLT,Nat.reduceAdd,ct41t0_18,body18,e2]
   repeat ((with_reducible refine And.intro ?_ ?_);focus exact an0)
   refine blkM ?_
   refine sq ctNo_ok ?_
   simp only [go_sem]
   refine condM rfl trivial (fun hc=>?_) (fun hc=>?_)
   ·have hk3:(bEq r1 0)=false:=by simpa using hc
    replace H:=cond_t hc H
    refine sq ctNo_ok ?_
    simp only [go_sem,Nat.reduceAdd]
    repeat ((with_reducible refine And.intro ?_ ?_);focus exact an6)
    refine rg ctNo_ok ?_
    simp only [go_sem,Nat.reduceLT,Nat.reduceAdd]
    obtain rfl:=Option.some.inj H
    refine ⟨[0,1,2],?_,?_,[],?_,?_,rfl⟩
    ·simp only [go_sem]
     try exact at0
    ·simp only [go_sem]
     try exact at0
    ·simp only [go_sem]
     exact Cv_tup (CvL_cons (Cv_ronil (α:=TFrame)) (CvL_cons (Cv_ronil (α:=TFrame)) (CvL_cons (Cv_agg (CvL_cons Cv_int (CvL_cons Cv_int (CvL_cons (Cv_ronil (α:=TSleeper)) (CvL_cons (Cv_ronil (α:=TStored)) CvL_nil))))) (CvL_cons Cv_int CvL_nil))))
    ·simp only [go_sem,CvH]
   have hk3:(bEq r1 0)=true:=by simpa using hc
   replace H:=cond_f hc H
   refine seqM ?_
   obtain ⟨r4,e5,H⟩:=bsi H
   refine rg ct41t1_ok ?_
   simp only [go_sem,ct41t1_61,body61,e5]
   repeat ((with_reducible refine And.intro ?_ ?_);focus exact an0)
   refine condM rfl trivial (fun hc=>?_) (fun hc=>?_)
   ·have hk6:(r4)=false:=by simpa using hc
    replace H:=cond_t hc H
    refine sq ctNo_ok ?_
    simp only [go_sem,Nat.reduceAdd]
    repeat ((with_reducible refine And.intro ?_ ?_);focus exact an6)
    refine rg ctNo_ok ?_
    simp only [go_sem,Nat.reduceLT,Nat.reduceAdd]
    obtain rfl:=Option.some.inj H
    refine ⟨[0,1,2],?_,?_,[],?_,?_,rfl⟩
    ·simp only [go_sem]
     try exact at0
    ·simp only [go_sem]
     try exact at0
    ·simp only [go_sem]
     exact Cv_tup (CvL_cons (Cv_ronil (α:=TFrame)) (CvL_cons (Cv_ronil (α:=TFrame)) (CvL_cons (Cv_agg (CvL_cons Cv_int (CvL_cons Cv_int (CvL_cons (Cv_ronil (α:=TSleeper)) (CvL_cons (Cv_ronil (α:=TStored)) CvL_nil))))) (CvL_cons Cv_int CvL_nil))))
    ·simp only [go_sem,CvH]
   have hk6:(r4)=true:=by simpa using hc
   replace H:=cond_f hc H
   refine seqM ?_
   obtain ⟨r7,e8,H⟩:=bsi H
   refine rg ct41t2_ok ?_
   simp only [go_sem,Nat.reduceLT,Nat.reduceAdd,ct41t2_62,body62,e8]
   repeat ((with_reducible refine And.intro ?_ ?_);focus exact an0)
   refine condM rfl trivial (fun hc=>?_) (fun hc=>?_)
   ·have hk9:(r7)=true:=by simpa using hc
    replace H:=cond_t hc H
    refine sq ctNo_ok ?_
    simp only [go_sem,Nat.reduceAdd]
    repeat ((with_reducible refine And.intro ?_ ?_);focus exact an6)
    refine rg ctNo_ok ?_
    simp only [go_sem,Nat.reduceLT,Nat.reduceAdd]
    obtain rfl:=Option.some.inj H
    refine ⟨[0,1,2],?_,?_,[],?_,?_,rfl⟩
    ·simp only [go_sem]
     try exact at0
    ·simp only [go_sem]
     try exact at0
    ·simp only [go_sem]
     exact Cv_tup (CvL_cons (Cv_ronil (α:=TFrame)) (CvL_cons (Cv_ronil (α:=TFrame)) (CvL_cons (Cv_agg (CvL_cons Cv_int (CvL_cons Cv_int (CvL_cons (Cv_ronil (α:=TSleeper)) (CvL_cons (Cv_ronil (α:=TStored)) CvL_nil))))) (CvL_cons Cv_int CvL_nil))))
    ·simp only [go_sem,CvH]
   have hk9:(r7)=false:=by simpa using hc
   replace H:=cond_f hc H
   refine rg ctNo_ok ?_
   simp only [go_sem]
   refine seqM ?_
   obtain ⟨r10,e11,H⟩:=bsi H
   obtain ⟨r12,e13,H⟩:=bsi H
   refine draw_rule shT_ok ct41t3_ok 3 (by kernel_rfl) (by kernel_rfl) ?_
   intro an han
   simp only [d_nil,d_cons,nxtD,xrD,xoD,roEq,minL,List.append_nil,refsOp,refs,refsL,mask,maskF,place,placeF,okLog,pairOk,hit,inL,slotsF,ren,renL,rnN,nrH,nrB,nrL,nr,List.replicate_zero,List.replicate_succ,Nat.sub_self,Nat.add_zero,Nat.zero_add,Nat.reduceSub,Nat.lt_add_one,go_sem,Nat.reduceLeDiff,Nat.reduceLT,Nat.reduceAdd,Nat.reduceSub,Nat.reduceBEq,ct41t3_63,body63,ct41t3_65,body65,e11,e13]
   repeat ((with_reducible refine And.intro ?_ ?_);focus exact an5)
   refine seqM ?_
   refine seqM ?_
   obtain ⟨r14,e15,H⟩:=bsi H
   refine rg ct41t4_ok ?_
   simp only [go_sem,Nat.reduceLT,Nat.reduceAdd,ct41t4_47,body47,e15]
   repeat ((with_reducible refine And.intro ?_ ?_);focus exact an0)
   refine condM' rfl trivial (fun hc=>?_) (fun hc=>?_)
   ·have hk16:(r14)=false:=by simpa using hc
    replace H:=cond_f hc H
    refine regO ?_
    refine cutO shT_ok ctNo_ok 1 ?_
    simp only [kO_normal,List.take_succ_cons,List.take_zero,List.drop_succ_cons,List.drop_zero,go_sem,Nat.reduceLT,Nat.reduceAdd]
    repeat ((with_reducible refine And.intro ?_ ?_);focus exact an3)
    refine fzO [5] ?_ ?_
    ·simp only [go_sem,Nat.reduceBEq]
     try exact at0
    simp only [go_sem,Nat.reduceBEq,Nat.reduceAdd]
    obtain ⟨r37,e38,H⟩:=bsi H
    refine cutO shT_ok ct41t8_ok 3 ?_
    simp only [kO_normal,List.take_succ_cons,List.take_zero,List.drop_succ_cons,List.drop_zero,go_sem,Nat.reduceLeDiff,Nat.reduceAdd,ct41t8_52,body52_0,e38]
    repeat ((with_reducible refine And.intro ?_ ?_);focus exact an3)
    refine endO ?_
    refine seqM ?_
    refine draw_rule shT_ok ctNo_ok 0 (by kernel_rfl) (by kernel_rfl) ?_
    intro an han
    simp only [d_nil,d_cons,nxtD,xrD,xoD,roEq,minL,List.append_nil,refsOp,refs,mask,maskF,place,placeF,okLog,pairOk,hit,inL,slotsF,nrH,nrB,nrL,nr,List.replicate_zero,Nat.sub_self,Nat.add_zero,Nat.zero_add,Nat.reduceSub,Nat.lt_add_one,go_sem,Nat.reduceLeDiff,Nat.reduceLT,Nat.reduceAdd,Nat.reduceSub,Nat.reduceBEq]
    repeat ((with_reducible refine And.intro ?_ ?_);focus exact an5)
    refine rg ctNo_ok ?_
    simp only [go_sem,Nat.reduceLT,Nat.reduceAdd]
    obtain rfl:=Option.some.inj H
    refine ⟨[7,3,4,0,1,2],?_,?_,[],?_,?_,rfl⟩
    ·simp only [go_sem,Nat.reduceBEq]
     try exact at0
    ·simp only [go_sem,Nat.reduceBEq]
     try exact at0
    ·simp only [go_sem,Nat.reduceBEq]
     exact Cv_tup (CvL_cons (ro_row (by first|rfl|simp) (fun _ _ _ _=>rfl)) (CvL_cons (Cv_ronil (α:=TFrame)) (CvL_cons (Cv_agg (CvL_cons Cv_int (CvL_cons Cv_int (CvL_cons (ro_row (by first|rfl|simp) (fun _ _ _ _=>rfl)) (CvL_cons (ro_row (by first|rfl|simp) (fun _ _ _ _=>rfl)) CvL_nil))))) (CvL_cons Cv_int CvL_nil))))
    ·simp only [go_sem,CvH]
   have hk16:(r14)=true:=by simpa using hc
   replace H:=cond_t hc H
   refine regO ?_
   refine cutO shT_ok ctNo_ok 6 ?_
   simp only [kO_normal,List.take_succ_cons,List.take_zero,List.drop_succ_cons,List.drop_zero,go_sem,Nat.reduceLeDiff,Nat.reduceLT,Nat.reduceAdd]
   repeat ((with_reducible refine And.intro ?_ ?_);focus exact an0)
   refine inlO (rs:=[.tmp 6]) Try.func64 (by kernel_rfl) rfl rfl Try.ntmps64 (caps:=[]) (tc:=[.ptr 0 0 0 3,.int .i64 r10.Limit,.agg (.int .u8 0::.int .i64 p2::.int .u8 r12.Head.Kind::.int .u8 r12.Head.Sub::.bool r12.Head.ToDs::.bool r12.Head.FromDs::.bool r12.Head.More::.bool r12.Head.Retry::.bool r12.Head.Sleep::.bool r12.Head.MoreData::.bool r12.Head.Protected::.int .i64 r12.Head.Duration::.int .u8 r12.Head.A1.x0::.int .u8 r12.Head.A1.x1::.int .u8 r12.Head.A1.x2::.int .u8 r12.Head.A1.x3::.int .u8 r12.Head.A1.x4::.int .u8 r12.Head.A1.x5::.int .u8 r12.Head.A2.x0::.int .u8 r12.Head.A2.x1::.int .u8 r12.Head.A2.x2::.int .u8 r12.Head.A2.x3::.int .u8 r12.Head.A2.x4::.int .u8 r12.Head.A2.x5::.int .u8 r12.Head.A3.x0::.int .u8 r12.Head.A3.x1::.int .u8 r12.Head.A3.x2::.int .u8 r12.Head.A3.x3::.int .u8 r12.Head.A3.x4::.int .u8 r12.Head.A3.x5::.int .u8 r12.Head.A4.x0::.int .u8 r12.Head.A4.x1::.int .u8 r12.Head.A4.x2::.int .u8 r12.Head.A4.x3::.int .u8 r12.Head.A4.x4::.int .u8 r12.Head.A4.x5::.int .i64 r12.Head.Seq::.int .i64 r12.Head.Frag::.int .i64 r12.Head.Tid::.int .u8 r12.Head.Ack::.bool r12.Head.Amsdu::.bool r12.Head.Eosp::.sl 5 1 0 r12.Body.length false::[])]) rfl (by simp only [go_sem]) rfl ?_
   simp only [List.length_cons,List.length_nil,Nat.reduceAdd,Nat.reduceSub,List.replicate_succ,List.replicate_zero,List.cons_append,List.nil_append]
   refine sq ctNo_ok ?_
   simp only [go_sem,Nat.reduceAdd]
   refine seqM ?_
   refine sq ctNo_ok ?_
   simp only [go_sem,Nat.reduceLT,Nat.reduceAdd]
   repeat ((with_reducible refine And.intro ?_ ?_);focus exact an0)
   refine condM' rfl trivial (fun hc=>?_) (fun hc=>?_)
   ·have hk17:(bEq (r10.Group.length:Nat) r10.Limit)=false:=by simpa using hc
    replace H:=cond_f hc H
    refine rg ctNo_ok ?_
    simp only [go_sem]
    refine seqM ?_
    refine fz_mean [5] ?_ ?_
    ·simp only [go_sem,Nat.reduceBEq]
     try exact at0
    simp only [go_sem,Nat.reduceBEq,Nat.reduceAdd]
    obtain ⟨f36,H⟩:=need_some.1 H
    replace f36:=capb_iff.1 f36
    refine draw_rule shT_ok ctNo_ok 2 (by kernel_rfl) (by kernel_rfl) ?_
    intro an han
    simp only [d_nil,d_cons,nxtD,xrD,xoD,roEq,minL,List.append_nil,refsOp,refs,refsL,mask,maskF,place,placeF,okLog,pairOk,hit,inL,slotsF,ren,rnN,nrH,nrB,nrL,nr,List.replicate_zero,List.replicate_succ,Nat.sub_self,Nat.add_zero,Nat.zero_add,Nat.reduceSub,Nat.lt_add_one,go_sem,Nat.reduceLeDiff,Nat.reduceLT,Nat.reduceAdd,Nat.reduceSub,Nat.reduceBEq,f36]
    repeat ((with_reducible refine And.intro ?_ ?_);focus exact an2)
    refine sq ctNo_ok ?_
    simp only [go_sem]
    refine rg ctNo_ok ?_
    simp only [go_sem]
    refine cutO shT_ok ctNo_ok 1 ?_
    simp only [kO_normal,List.take_succ_cons,List.take_zero,List.drop_succ_cons,List.drop_zero,go_sem]
    repeat ((with_reducible refine And.intro ?_ ?_);focus exact an1)
    refine endO ?_
    refine seqM ?_
    refine draw_rule shT_ok ctNo_ok 0 (by kernel_rfl) (by kernel_rfl) ?_
    intro an han
    simp only [d_nil,d_cons,nxtD,xrD,xoD,roEq,minL,List.append_nil,refsOp,refs,mask,maskF,place,placeF,okLog,pairOk,hit,inL,slotsF,nrH,nrB,nrL,nr,List.replicate_zero,Nat.sub_self,Nat.add_zero,Nat.zero_add,Nat.reduceSub,Nat.lt_add_one,go_sem,Nat.reduceLeDiff,Nat.reduceLT,Nat.reduceAdd,Nat.reduceSub,Nat.reduceBEq]
    repeat ((with_reducible refine And.intro ?_ ?_);focus exact an2)
    refine rg ctNo_ok ?_
    simp only [go_sem,Nat.reduceLT,Nat.reduceAdd]
    obtain rfl:=Option.some.inj H
    refine ⟨[3,8,0,1,2,6],?_,?_,[],?_,?_,rfl⟩
    ·simp only [go_sem,Nat.reduceBEq]
     try exact at0
    ·simp only [go_sem,Nat.reduceBEq]
     try exact at0
    ·simp only [go_sem,Nat.reduceBEq]
     exact Cv_tup (CvL_cons (Cv_ronil (α:=TFrame)) (CvL_cons (Cv_ronil (α:=TFrame)) (CvL_cons (Cv_agg (CvL_cons Cv_int (CvL_cons Cv_int (CvL_cons (ro_row (by first|rfl|simp) (fun _ _ _ _=>rfl)) (CvL_cons (ro_row (by first|rfl|simp) (app_row (f:=c_TStored) r10.Group [(TStored.mk 0 p2 (eF r12))] (fun _ _ _ _=>rfl) (lit_row (f:=c_TStored) [(TStored.mk 0 p2 (eF r12))] (fun _ _=>rfl) rfl))) CvL_nil))))) (CvL_cons Cv_int CvL_nil))))
    ·simp only [go_sem,CvH]
   have hk17:(bEq (r10.Group.length:Nat) r10.Limit)=true:=by simpa using hc
   replace H:=cond_t hc H
   refine seqM ?_
   refine regO ?_
   refine cutO shT_ok ctNo_ok 3 ?_
   simp only [kO_normal,List.take_succ_cons,List.take_zero,List.drop_succ_cons,List.drop_zero,go_sem,Nat.reduceLT,Nat.reduceAdd]
   repeat ((with_reducible refine And.intro ?_ ?_);focus exact an0)
   refine inlO (rs:=[.cell 4 61]) Try.func89 (by kernel_rfl) rfl rfl Try.ntmps89 (caps:=[]) (tc:=[.sl 4 43 0 r10.Group.length false,.fn 90 []]) rfl (by simp only [go_sem]) rfl ?_
   simp only [List.length_cons,List.length_nil,Nat.reduceAdd,Nat.reduceSub,List.replicate_succ,List.replicate_zero,List.cons_append,List.nil_append]
   refine sq ctNo_ok ?_
   simp only [go_sem,Nat.reduceAdd]
   refine seqM ?_
   refine sq ctNo_ok ?_
   simp only [go_sem]
   repeat ((with_reducible refine And.intro ?_ ?_);focus exact an0)
   refine condM rfl trivial (fun hc=>?_) (fun hc=>?_)
   ·have hk18:(bLt (r10.Group.length:Nat) 1)=true:=by simpa using hc
    replace H:=cond_t hc H
    cases H
   have hk18:(bLt (r10.Group.length:Nat) 1)=false:=by simpa using hc
   replace H:=cond_f hc H
   refine rg ctNo_ok ?_
   simp only [go_sem]
   refine seqM ?_
   obtain ⟨f19,H⟩:=need_some.1 H
   replace f19:=inb_iff.1 f19
   refine rg ctNo_ok ?_
   simp only [go_sem,Nat.reduceLT,Nat.reduceAdd,f19]
   repeat ((with_reducible refine And.intro ?_ ?_);focus exact an6)
   refine seqM ?_
   refine sq ctNo_ok ?_
   simp only [go_sem]
   refine blkM ?_
   refine loop_den (fun s:Int × TStored=>(.sl 4 43 0 r10.Group.length false::.fn 90 []::.top::.top::.ptr 7 0 0 0::.ptr 8 0 0 0::.int .i64 s.1::tp 26 [])) (fun s=>[.lit 25 [.int .i64 r10.Limit,.int .i64 r10.Stay,.sl 3 3 0 r10.List.length false,.sl 4 43 0 r10.Group.length false],.dead,.lit 25 [.int .i64 0,.int .i64 0,.ro 0 0 true (fun _ _=>.top),.ro 0 0 true (fun _ _=>.top)],.row 57 3 r10.List.length (enR c_TSleeper r10.List),.row 61 43 r10.Group.length (enR c_TStored r10.Group),.row 5 1 r12.Body.length (enR c_u8 r12.Body),.lit 61 (.int .u8 0::.int .i64 p2::.int .u8 r12.Head.Kind::.int .u8 r12.Head.Sub::.bool r12.Head.ToDs::.bool r12.Head.FromDs::.bool r12.Head.More::.bool r12.Head.Retry::.bool r12.Head.Sleep::.bool r12.Head.MoreData::.bool r12.Head.Protected::.int .i64 r12.Head.Duration::.int .u8 r12.Head.A1.x0::.int .u8 r12.Head.A1.x1::.int .u8 r12.Head.A1.x2::.int .u8 r12.Head.A1.x3::.int .u8 r12.Head.A1.x4::.int .u8 r12.Head.A1.x5::.int .u8 r12.Head.A2.x0::.int .u8 r12.Head.A2.x1::.int .u8 r12.Head.A2.x2::.int .u8 r12.Head.A2.x3::.int .u8 r12.Head.A2.x4::.int .u8 r12.Head.A2.x5::.int .u8 r12.Head.A3.x0::.int .u8 r12.Head.A3.x1::.int .u8 r12.Head.A3.x2::.int .u8 r12.Head.A3.x3::.int .u8 r12.Head.A3.x4::.int .u8 r12.Head.A3.x5::.int .u8 r12.Head.A4.x0::.int .u8 r12.Head.A4.x1::.int .u8 r12.Head.A4.x2::.int .u8 r12.Head.A4.x3::.int .u8 r12.Head.A4.x4::.int .u8 r12.Head.A4.x5::.int .i64 r12.Head.Seq::.int .i64 r12.Head.Frag::.int .i64 r12.Head.Tid::.int .u8 r12.Head.Ack::.bool r12.Head.Amsdu::.bool r12.Head.Eosp::.sl 5 1 0 r12.Body.length false::[]),.lit 61 (.int .u8 0::.int .i64 0::.int .u8 0::.int .u8 0::.bool false::.bool false::.bool false::.bool false::.bool false::.bool false::.bool false::.int .i64 0::.int .u8 0::.int .u8 0::.int .u8 0::.int .u8 0::.int .u8 0::.int .u8 0::.int .u8 0::.int .u8 0::.int .u8 0::.int .u8 0::.int .u8 0::.int .u8 0::.int .u8 0::.int .u8 0::.int .u8 0::.int .u8 0::.int .u8 0::.int .u8 0::.int .u8 0::.int .u8 0::.int .u8 0::.int .u8 0::.int .u8 0::.int .u8 0::.int .i64 0::.int .i64 0::.int .i64 0::.int .u8 0::.bool false::.bool false::.ro 0 0 true (fun _ _=>.top)::[]),.lit 61 (.int .u8 s.2.Cat::.int .i64 s.2.At::.int .u8 s.2.Frame.Head.Kind::.int .u8 s.2.Frame.Head.Sub::.bool s.2.Frame.Head.ToDs::.bool s.2.Frame.Head.FromDs::.bool s.2.Frame.Head.More::.bool s.2.Frame.Head.Retry::.bool s.2.Frame.Head.Sleep::.bool s.2.Frame.Head.MoreData::.bool s.2.Frame.Head.Protected::.int .i64 s.2.Frame.Head.Duration::.int .u8 s.2.Frame.Head.A1.x0::.int .u8 s.2.Frame.Head.A1.x1::.int .u8 s.2.Frame.Head.A1.x2::.int .u8 s.2.Frame.Head.A1.x3::.int .u8 s.2.Frame.Head.A1.x4::.int .u8 s.2.Frame.Head.A1.x5::.int .u8 s.2.Frame.Head.A2.x0::.int .u8 s.2.Frame.Head.A2.x1::.int .u8 s.2.Frame.Head.A2.x2::.int .u8 s.2.Frame.Head.A2.x3::.int .u8 s.2.Frame.Head.A2.x4::.int .u8 s.2.Frame.Head.A2.x5::.int .u8 s.2.Frame.Head.A3.x0::.int .u8 s.2.Frame.Head.A3.x1::.int .u8 s.2.Frame.Head.A3.x2::.int .u8 s.2.Frame.Head.A3.x3::.int .u8 s.2.Frame.Head.A3.x4::.int .u8 s.2.Frame.Head.A3.x5::.int .u8 s.2.Frame.Head.A4.x0::.int .u8 s.2.Frame.Head.A4.x1::.int .u8 s.2.Frame.Head.A4.x2::.int .u8 s.2.Frame.Head.A4.x3::.int .u8 s.2.Frame.Head.A4.x4::.int .u8 s.2.Frame.Head.A4.x5::.int .i64 s.2.Frame.Head.Seq::.int .i64 s.2.Frame.Head.Frag::.int .i64 s.2.Frame.Head.Tid::.int .u8 s.2.Frame.Head.Ack::.bool s.2.Frame.Head.Amsdu::.bool s.2.Frame.Head.Eosp::.ro 1 s.2.Frame.Body.length false (enR c_u8 s.2.Frame.Body)::[])]) (fun e:TStored=>(tp 4 (.ptr 7 0 0 0::.ptr 8 0 0 0::tp 27 []))) (fun e=>[.lit 25 [.int .i64 r10.Limit,.int .i64 r10.Stay,.sl 3 3 0 r10.List.length false,.sl 4 43 0 r10.Group.length false],.dead,.lit 25 [.int .i64 0,.int .i64 0,.ro 0 0 true (fun _ _=>.top),.ro 0 0 true (fun _ _=>.top)],.row 57 3 r10.List.length (enR c_TSleeper r10.List),.row 61 43 r10.Group.length (enR c_TStored r10.Group),.row 5 1 r12.Body.length (enR c_u8 r12.Body),.lit 61 (.int .u8 0::.int .i64 p2::.int .u8 r12.Head.Kind::.int .u8 r12.Head.Sub::.bool r12.Head.ToDs::.bool r12.Head.FromDs::.bool r12.Head.More::.bool r12.Head.Retry::.bool r12.Head.Sleep::.bool r12.Head.MoreData::.bool r12.Head.Protected::.int .i64 r12.Head.Duration::.int .u8 r12.Head.A1.x0::.int .u8 r12.Head.A1.x1::.int .u8 r12.Head.A1.x2::.int .u8 r12.Head.A1.x3::.int .u8 r12.Head.A1.x4::.int .u8 r12.Head.A1.x5::.int .u8 r12.Head.A2.x0::.int .u8 r12.Head.A2.x1::.int .u8 r12.Head.A2.x2::.int .u8 r12.Head.A2.x3::.int .u8 r12.Head.A2.x4::.int .u8 r12.Head.A2.x5::.int .u8 r12.Head.A3.x0::.int .u8 r12.Head.A3.x1::.int .u8 r12.Head.A3.x2::.int .u8 r12.Head.A3.x3::.int .u8 r12.Head.A3.x4::.int .u8 r12.Head.A3.x5::.int .u8 r12.Head.A4.x0::.int .u8 r12.Head.A4.x1::.int .u8 r12.Head.A4.x2::.int .u8 r12.Head.A4.x3::.int .u8 r12.Head.A4.x4::.int .u8 r12.Head.A4.x5::.int .i64 r12.Head.Seq::.int .i64 r12.Head.Frag::.int .i64 r12.Head.Tid::.int .u8 r12.Head.Ack::.bool r12.Head.Amsdu::.bool r12.Head.Eosp::.sl 5 1 0 r12.Body.length false::[]),.lit 61 (.int .u8 0::.int .i64 0::.int .u8 0::.int .u8 0::.bool false::.bool false::.bool false::.bool false::.bool false::.bool false::.bool false::.int .i64 0::.int .u8 0::.int .u8 0::.int .u8 0::.int .u8 0::.int .u8 0::.int .u8 0::.int .u8 0::.int .u8 0::.int .u8 0::.int .u8 0::.int .u8 0::.int .u8 0::.int .u8 0::.int .u8 0::.int .u8 0::.int .u8 0::.int .u8 0::.int .u8 0::.int .u8 0::.int .u8 0::.int .u8 0::.int .u8 0::.int .u8 0::.int .u8 0::.int .i64 0::.int .i64 0::.int .i64 0::.int .u8 0::.bool false::.bool false::.ro 0 0 true (fun _ _=>.top)::[]),.lit 61 (.int .u8 e.Cat::.int .i64 e.At::.int .u8 e.Frame.Head.Kind::.int .u8 e.Frame.Head.Sub::.bool e.Frame.Head.ToDs::.bool e.Frame.Head.FromDs::.bool e.Frame.Head.More::.bool e.Frame.Head.Retry::.bool e.Frame.Head.Sleep::.bool e.Frame.Head.MoreData::.bool e.Frame.Head.Protected::.int .i64 e.Frame.Head.Duration::.int .u8 e.Frame.Head.A1.x0::.int .u8 e.Frame.Head.A1.x1::.int .u8 e.Frame.Head.A1.x2::.int .u8 e.Frame.Head.A1.x3::.int .u8 e.Frame.Head.A1.x4::.int .u8 e.Frame.Head.A1.x5::.int .u8 e.Frame.Head.A2.x0::.int .u8 e.Frame.Head.A2.x1::.int .u8 e.Frame.Head.A2.x2::.int .u8 e.Frame.Head.A2.x3::.int .u8 e.Frame.Head.A2.x4::.int .u8 e.Frame.Head.A2.x5::.int .u8 e.Frame.Head.A3.x0::.int .u8 e.Frame.Head.A3.x1::.int .u8 e.Frame.Head.A3.x2::.int .u8 e.Frame.Head.A3.x3::.int .u8 e.Frame.Head.A3.x4::.int .u8 e.Frame.Head.A3.x5::.int .u8 e.Frame.Head.A4.x0::.int .u8 e.Frame.Head.A4.x1::.int .u8 e.Frame.Head.A4.x2::.int .u8 e.Frame.Head.A4.x3::.int .u8 e.Frame.Head.A4.x4::.int .u8 e.Frame.Head.A4.x5::.int .i64 e.Frame.Head.Seq::.int .i64 e.Frame.Head.Frag::.int .i64 e.Frame.Head.Tid::.int .u8 e.Frame.Head.Ack::.bool e.Frame.Head.Amsdu::.bool e.Frame.Head.Eosp::.ro 1 e.Frame.Body.length false (enR c_u8 e.Frame.Body)::[])]) H ?_ (fun s o H hn1_1 hn2_1=>?_) (fun w1_6 H=>?_)
   ·refine SubF_of ⟨[some 0,some 1,some 2,some 3,some 4,some 5,some 6,some 7,some 8],?_,?_,by rfl,by rfl⟩
    ·simp [CvL,Cv,getM,tp,tp]
    ·exact ⟨cv,CvB_dead,cv,(CvB_same nfA),(CvB_same nfA),(CvB_same nfA),cv,cv,cv,trivial⟩
   ·obtain ⟨v1_1,v1_2⟩:=s
    unfold F41_L1 at H
    delta eF at H
    try dsimp only at H ⊢
    try simp only [tp]
    refine seqM ?_
    refine sq ctNo_ok ?_
    simp only [go_sem,Nat.reduceAdd]
    repeat ((with_reducible refine And.intro ?_ ?_);focus exact an0)
    refine condM' rfl trivial (fun hc=>?_) (fun hc=>?_)
    ·have hk20:(bLt v1_1 (r10.Group.length:Nat))=false:=by simpa using hc
     replace H:=cond_f hc H
     refine rg ctNo_ok ?_
     simp only [go_sem]
     refine ⟨_,(Option.some.inj H).symm,?_⟩
     refine SubF_of ⟨[some 0,some 1,some 2,some 3,some 4,some 5,some 6,some 7,some 8],?_,?_,by rfl,by rfl⟩
     ·simp [CvL,Cv,getM]
     ·exact ⟨cv,CvB_dead,cv,(CvB_same nfA),(CvB_same nfA),(CvB_same nfA),cv,cv,cv,trivial⟩
    have hk20:(bLt v1_1 (r10.Group.length:Nat))=true:=by simpa using hc
    replace H:=cond_t hc H
    refine rg ctNo_ok ?_
    simp only [go_sem]
    refine seqM ?_
    refine blkM ?_
    refine seqM ?_
    obtain ⟨f21,H⟩:=need_some.1 H
    replace f21:=inb_iff.1 f21
    obtain ⟨r22,e23,H⟩:=bsi H
    refine draw_quiet shT_ok ct41t5_ok (by kernel_rfl) (by kernel_rfl) ?_
    simp only [go_sem,Nat.reduceLT,Nat.reduceAdd,ct41t5_90,body90,f21,e23]
    repeat ((with_reducible refine And.intro ?_ ?_);focus exact an0)
    refine condM' rfl trivial (fun hc=>?_) (fun hc=>?_)
    ·have hk24:(bLt r22 0)=false:=by simpa using hc
     replace H:=cond_f hc H
     refine rg ctNo_ok ?_
     simp only [go_sem]
     refine rg ctNo_ok ?_
     simp only [go_sem]
     refine ⟨_,(Option.some.inj H).symm,?_⟩
     refine SubF_of ⟨[some 0,some 1,some 2,some 3,some 4,some 5,some 6,some 7,some 8],?_,?_,by rfl,by rfl⟩
     ·simp [CvL,Cv,getM]
     ·exact ⟨cv,CvB_dead,cv,(CvB_same nfA),(CvB_same nfA),(CvB_same nfA),cv,cv,cv,trivial⟩
    have hk24:(bLt r22 0)=true:=by simpa using hc
    replace H:=cond_t hc H
    obtain ⟨f25,H⟩:=need_some.1 H
    replace f25:=inb_iff.1 f25
    refine rg ctNo_ok ?_
    simp only [go_sem,Nat.reduceLT,Nat.reduceAdd,f25]
    repeat ((with_reducible refine And.intro ?_ ?_);focus exact an6)
    refine rg ctNo_ok ?_
    simp only [go_sem]
    refine ⟨_,(Option.some.inj H).symm,?_⟩
    refine SubF_of ⟨[some 0,some 1,some 2,some 3,some 4,some 5,some 6,some 7,some 8],?_,?_,by rfl,by rfl⟩
    ·simp [CvL,Cv,getM]
    ·exact ⟨cv,CvB_dead,cv,(CvB_same nfA),(CvB_same nfA),(CvB_same nfA),cv,cv,cv,trivial⟩
   ·try dsimp only at H ⊢
    try simp only [tp]
    try simp only [m_normal]
    refine sq ctNo_ok ?_
    simp only [go_sem,Nat.reduceLT,Nat.reduceAdd]
    repeat ((with_reducible refine And.intro ?_ ?_);focus exact an6)
    refine rg ctNo_ok ?_
    simp only [go_sem,Nat.reduceLT,Nat.reduceAdd]
    refine cutO shT_ok ctNo_ok 3 ?_
    simp only [kO_normal,List.take_succ_cons,List.take_zero,List.drop_succ_cons,List.drop_zero,go_sem,Nat.reduceLeDiff,Nat.reduceLT,Nat.reduceAdd]
    repeat ((with_reducible refine And.intro ?_ ?_);focus exact an0)
    refine endO ?_
    refine seqM ?_
    refine sq ctNo_ok ?_
    simp only [go_sem,Nat.reduceLeDiff,Nat.reduceLT,Nat.reduceAdd]
    repeat ((with_reducible refine And.intro ?_ ?_);focus exact an6)
    refine condM rfl trivial (fun hc=>?_) (fun hc=>?_)
    ·have hk26:(bLt 0 w1_6.Cat)=true:=by simpa using hc
     replace H:=cond_t hc H
     refine seqM ?_
     refine regO ?_
     refine cutO shT_ok ctNo_ok 2 ?_
     simp only [kO_normal,List.take_succ_cons,List.take_zero,List.drop_succ_cons,List.drop_zero,go_sem,Nat.reduceLT,Nat.reduceAdd,reduceCtorEq]
     repeat ((with_reducible refine And.intro ?_ ?_);focus exact an6)
     refine fzO [5] ?_ ?_
     ·simp only [go_sem,Nat.reduceBEq]
      try exact at0
     simp only [go_sem,Nat.reduceBEq,Nat.reduceAdd]
     refine cutO shT_ok ctNo_ok 2 ?_
     simp only [kO_normal,List.take_succ_cons,List.take_zero,List.drop_succ_cons,List.drop_zero,go_sem,Nat.reduceLeDiff,Nat.reduceAdd]
     repeat ((with_reducible refine And.intro ?_ ?_);focus exact an6)
     refine endO ?_
     refine rg ctNo_ok ?_
     simp only [go_sem]
     refine cutO shT_ok ctNo_ok 1 ?_
     simp only [kO_normal,List.take_succ_cons,List.take_zero,List.drop_succ_cons,List.drop_zero,go_sem]
     repeat ((with_reducible refine And.intro ?_ ?_);focus exact an3)
     refine endO ?_
     refine seqM ?_
     refine draw_rule shT_ok ctNo_ok 0 (by kernel_rfl) (by kernel_rfl) ?_
     intro an han
     simp only [d_nil,d_cons,nxtD,xrD,xoD,roEq,minL,List.append_nil,refsOp,refs,mask,maskF,place,placeF,okLog,pairOk,hit,inL,slotsF,nrH,nrB,nrL,nr,List.replicate_zero,Nat.sub_self,Nat.add_zero,Nat.zero_add,Nat.reduceSub,Nat.lt_add_one,go_sem,Nat.reduceLeDiff,Nat.reduceLT,Nat.reduceAdd,Nat.reduceSub,Nat.reduceBEq]
     repeat ((with_reducible refine And.intro ?_ ?_);focus exact an7)
     refine rg ctNo_ok ?_
     simp only [go_sem,Nat.reduceLT,Nat.reduceAdd]
     obtain rfl:=Option.some.inj H
     refine ⟨[10,3,4,0,2,6,7,8,9],?_,?_,[],?_,?_,rfl⟩
     ·simp only [go_sem,Nat.reduceBEq]
      try exact at0
     ·simp only [go_sem,Nat.reduceBEq]
      try exact at0
     ·simp only [go_sem,Nat.reduceBEq]
      exact Cv_tup (CvL_cons (Cv_ronil (α:=TFrame)) (CvL_cons (ro_row (by first|rfl|simp) (lit_row (f:=c_TFrame) [r12] (fun _ _=>rfl) rfl)) (CvL_cons (Cv_agg (CvL_cons Cv_int (CvL_cons Cv_int (CvL_cons (ro_row (by first|rfl|simp) (fun _ _ _ _=>rfl)) (CvL_cons (ro_row (by first|rfl|simp) (fun _ _ _ _=>rfl)) CvL_nil))))) (CvL_cons Cv_int CvL_nil))))
     ·simp only [go_sem,CvH]
    have hk26:(bLt 0 w1_6.Cat)=false:=by simpa using hc
    replace H:=cond_f hc H
    refine rg ctNo_ok ?_
    simp only [go_sem]
    refine seqM ?_
    obtain ⟨r27,e28,H⟩:=bsi H
    refine rg ct41t6_ok ?_
    simp only [go_sem,Nat.reduceLT,Nat.reduceAdd,ct41t6_58,body58_1,e28]
    repeat ((with_reducible refine And.intro ?_ ?_);focus exact an0)
    refine seqM ?_
    obtain ⟨f29,H⟩:=need_some.1 H
    replace f29:=inb_iff.1 f29
    refine rg ctNo_ok ?_
    simp only [go_sem,Nat.reduceLeDiff,Nat.reduceLT,Nat.reduceAdd,reduceCtorEq,f29]
    repeat ((with_reducible refine And.intro ?_ ?_);focus exact an6)
    obtain ⟨f30,H⟩:=need_some.1 H
    replace f30:=delb_iff.1 f30
    refine rg ct41t7_ok ?_
    simp only [go_sem,Nat.reduceLT,Nat.reduceAdd,ct41t7_60,delN,f30]
    repeat ((with_reducible refine And.intro ?_ ?_);focus exact an3)
    refine seqM ?_
    obtain ⟨w31,hw32,H⟩:=bsi H
    replace hw32:=Option.some.inj hw32
    have lhw32:w31.length=1:=by rw [← hw32];exact cl
    obtain ⟨w33,hw34,H⟩:=bsi H
    replace hw34:=Option.some.inj hw34
    have lhw34:w33.length=r10.Group.length - ((wr .i64 (r27+1)).toNat - r27.toNat):=by rw [← hw34];exact (del_len f30 cl)
    refine subF_mean (t2:=(.ptr 0 0 0 3::tp 4 (.ptr 6 0 0 0::.sl 10 41 0 w31.length false::tp 51 []))) (h2:=[.lit 25 [.int .i64 r10.Limit,.int .i64 r10.Stay,.sl 3 3 0 r10.List.length false,.sl 11 43 0 w33.length false],.dead,.lit 25 [.int .i64 0,.int .i64 0,.ro 0 0 true (fun _ _=>.top),.ro 0 0 true (fun _ _=>.top)],.row 57 3 r10.List.length (enR c_TSleeper r10.List),.dead,.row 5 1 r12.Body.length (enR c_u8 r12.Body),.lit 61 (.int .u8 0::.int .i64 p2::.int .u8 r12.Head.Kind::.int .u8 r12.Head.Sub::.bool r12.Head.ToDs::.bool r12.Head.FromDs::.bool r12.Head.More::.bool r12.Head.Retry::.bool r12.Head.Sleep::.bool r12.Head.MoreData::.bool r12.Head.Protected::.int .i64 r12.Head.Duration::.int .u8 r12.Head.A1.x0::.int .u8 r12.Head.A1.x1::.int .u8 r12.Head.A1.x2::.int .u8 r12.Head.A1.x3::.int .u8 r12.Head.A1.x4::.int .u8 r12.Head.A1.x5::.int .u8 r12.Head.A2.x0::.int .u8 r12.Head.A2.x1::.int .u8 r12.Head.A2.x2::.int .u8 r12.Head.A2.x3::.int .u8 r12.Head.A2.x4::.int .u8 r12.Head.A2.x5::.int .u8 r12.Head.A3.x0::.int .u8 r12.Head.A3.x1::.int .u8 r12.Head.A3.x2::.int .u8 r12.Head.A3.x3::.int .u8 r12.Head.A3.x4::.int .u8 r12.Head.A3.x5::.int .u8 r12.Head.A4.x0::.int .u8 r12.Head.A4.x1::.int .u8 r12.Head.A4.x2::.int .u8 r12.Head.A4.x3::.int .u8 r12.Head.A4.x4::.int .u8 r12.Head.A4.x5::.int .i64 r12.Head.Seq::.int .i64 r12.Head.Frag::.int .i64 r12.Head.Tid::.int .u8 r12.Head.Ack::.bool r12.Head.Amsdu::.bool r12.Head.Eosp::.sl 5 1 0 r12.Body.length false::[]),.lit 61 (.int .u8 w1_6.Cat::.int .i64 w1_6.At::.int .u8 w1_6.Frame.Head.Kind::.int .u8 w1_6.Frame.Head.Sub::.bool w1_6.Frame.Head.ToDs::.bool w1_6.Frame.Head.FromDs::.bool w1_6.Frame.Head.More::.bool w1_6.Frame.Head.Retry::.bool w1_6.Frame.Head.Sleep::.bool w1_6.Frame.Head.MoreData::.bool w1_6.Frame.Head.Protected::.int .i64 w1_6.Frame.Head.Duration::.int .u8 w1_6.Frame.Head.A1.x0::.int .u8 w1_6.Frame.Head.A1.x1::.int .u8 w1_6.Frame.Head.A1.x2::.int .u8 w1_6.Frame.Head.A1.x3::.int .u8 w1_6.Frame.Head.A1.x4::.int .u8 w1_6.Frame.Head.A1.x5::.int .u8 w1_6.Frame.Head.A2.x0::.int .u8 w1_6.Frame.Head.A2.x1::.int .u8 w1_6.Frame.Head.A2.x2::.int .u8 w1_6.Frame.Head.A2.x3::.int .u8 w1_6.Frame.Head.A2.x4::.int .u8 w1_6.Frame.Head.A2.x5::.int .u8 w1_6.Frame.Head.A3.x0::.int .u8 w1_6.Frame.Head.A3.x1::.int .u8 w1_6.Frame.Head.A3.x2::.int .u8 w1_6.Frame.Head.A3.x3::.int .u8 w1_6.Frame.Head.A3.x4::.int .u8 w1_6.Frame.Head.A3.x5::.int .u8 w1_6.Frame.Head.A4.x0::.int .u8 w1_6.Frame.Head.A4.x1::.int .u8 w1_6.Frame.Head.A4.x2::.int .u8 w1_6.Frame.Head.A4.x3::.int .u8 w1_6.Frame.Head.A4.x4::.int .u8 w1_6.Frame.Head.A4.x5::.int .i64 w1_6.Frame.Head.Seq::.int .i64 w1_6.Frame.Head.Frag::.int .i64 w1_6.Frame.Head.Tid::.int .u8 w1_6.Frame.Head.Ack::.bool w1_6.Frame.Head.Amsdu::.bool w1_6.Frame.Head.Eosp::.ro 1 w1_6.Frame.Body.length false (enR c_u8 w1_6.Frame.Body)::[]),.lit 61 (.int .u8 w1_6.Cat::.int .i64 w1_6.At::.int .u8 w1_6.Frame.Head.Kind::.int .u8 w1_6.Frame.Head.Sub::.bool w1_6.Frame.Head.ToDs::.bool w1_6.Frame.Head.FromDs::.bool w1_6.Frame.Head.More::.bool w1_6.Frame.Head.Retry::.bool w1_6.Frame.Head.Sleep::.bool w1_6.Frame.Head.MoreData::.bool w1_6.Frame.Head.Protected::.int .i64 w1_6.Frame.Head.Duration::.int .u8 w1_6.Frame.Head.A1.x0::.int .u8 w1_6.Frame.Head.A1.x1::.int .u8 w1_6.Frame.Head.A1.x2::.int .u8 w1_6.Frame.Head.A1.x3::.int .u8 w1_6.Frame.Head.A1.x4::.int .u8 w1_6.Frame.Head.A1.x5::.int .u8 w1_6.Frame.Head.A2.x0::.int .u8 w1_6.Frame.Head.A2.x1::.int .u8 w1_6.Frame.Head.A2.x2::.int .u8 w1_6.Frame.Head.A2.x3::.int .u8 w1_6.Frame.Head.A2.x4::.int .u8 w1_6.Frame.Head.A2.x5::.int .u8 w1_6.Frame.Head.A3.x0::.int .u8 w1_6.Frame.Head.A3.x1::.int .u8 w1_6.Frame.Head.A3.x2::.int .u8 w1_6.Frame.Head.A3.x3::.int .u8 w1_6.Frame.Head.A3.x4::.int .u8 w1_6.Frame.Head.A3.x5::.int .u8 w1_6.Frame.Head.A4.x0::.int .u8 w1_6.Frame.Head.A4.x1::.int .u8 w1_6.Frame.Head.A4.x2::.int .u8 w1_6.Frame.Head.A4.x3::.int .u8 w1_6.Frame.Head.A4.x4::.int .u8 w1_6.Frame.Head.A4.x5::.int .i64 w1_6.Frame.Head.Seq::.int .i64 w1_6.Frame.Head.Frag::.int .i64 w1_6.Frame.Head.Tid::.int .u8 w1_6.Frame.Head.Ack::.bool w1_6.Frame.Head.Amsdu::.bool w1_6.Frame.Head.Eosp::.ro 1 w1_6.Frame.Body.length false (enR c_u8 w1_6.Frame.Body)::[]),.lit 5 [.int .u8 w1_6.Cat],.row 33 41 w31.length (enR c_TFrame w31),.row 61 43 w33.length (enR c_TStored w33)]) ?_ ?_
    ·refine SubF_of ⟨[some 0,some 1,some 2,some 3,some 4,some 5,some 6,some 7,some 8,some 9,some 10,some 11],?_,?_,by rfl,by rfl⟩
     ·simp [CvL,Cv,getM,tp,tp,lhw32]
     ·exact ⟨(by simp [CvB,CvL,Cv,blkAt,geth,getM,lhw34]),CvB_dead,(by simp [CvB,CvL,Cv,blkAt,geth]),CvB_row nr_TSleeper rfl (fun _ _ _ _=>rfl),CvB_dead,CvB_row nr_u8 rfl (fun _ _ _ _=>rfl),(by simp [CvB,CvL,Cv,blkAt,geth,getM]),(by simp [CvB,CvL,Cv,blkAt,geth]),(by simp [CvB,CvL,Cv,blkAt,geth]),(by simp [CvB,CvL,Cv,blkAt,geth]),CvB_row nr_TFrame lhw32 (hw32 ▸ (lit_row (f:=c_TFrame) [(eF ((gd r10.Group r27.toNat).Frame))] (fun _ _=>rfl) rfl)),CvB_row nr_TStored lhw34 (hw34 ▸ (del_row f30 cl (fun _ _ _ _=>rfl))),trivial⟩
    simp only [tp]
    refine fz_mean [5] ?_ ?_
    ·simp only [go_sem,Nat.reduceBEq]
     try exact at0
    simp only [go_sem,Nat.reduceBEq,Nat.reduceAdd]
    obtain ⟨f35,H⟩:=need_some.1 H
    replace f35:=capb_iff.1 f35
    refine draw_rule shT_ok ctNo_ok 2 (by kernel_rfl) (by kernel_rfl) ?_
    intro an han
    simp only [d_nil,d_cons,nxtD,xrD,xoD,roEq,minL,List.append_nil,refsOp,refs,refsL,mask,maskF,place,placeF,okLog,pairOk,hit,inL,slotsF,ren,rnN,nrH,nrB,nrL,nr,List.replicate_zero,List.replicate_succ,Nat.sub_self,Nat.add_zero,Nat.zero_add,Nat.reduceSub,Nat.lt_add_one,go_sem,Nat.reduceLeDiff,Nat.reduceLT,Nat.reduceAdd,Nat.reduceSub,Nat.reduceBEq,f35]
    repeat ((with_reducible refine And.intro ?_ ?_);focus exact an2)
    refine sq ctNo_ok ?_
    simp only [go_sem]
    refine rg ctNo_ok ?_
    simp only [go_sem]
    refine cutO shT_ok ctNo_ok 1 ?_
    simp only [kO_normal,List.take_succ_cons,List.take_zero,List.drop_succ_cons,List.drop_zero,go_sem]
    repeat ((with_reducible refine And.intro ?_ ?_);focus exact an1)
    refine endO ?_
    refine seqM ?_
    refine draw_rule shT_ok ctNo_ok 0 (by kernel_rfl) (by kernel_rfl) ?_
    intro an han
    simp only [d_nil,d_cons,nxtD,xrD,xoD,roEq,minL,List.append_nil,refsOp,refs,mask,maskF,place,placeF,okLog,pairOk,hit,inL,slotsF,nrH,nrB,nrL,nr,List.replicate_zero,Nat.sub_self,Nat.add_zero,Nat.zero_add,Nat.reduceSub,Nat.lt_add_one,go_sem,Nat.reduceLeDiff,Nat.reduceLT,Nat.reduceAdd,Nat.reduceSub,Nat.reduceBEq]
    repeat ((with_reducible refine And.intro ?_ ?_);focus exact an2)
    refine rg ctNo_ok ?_
    simp only [go_sem,Nat.reduceLT,Nat.reduceAdd]
    obtain rfl:=Option.some.inj H
    refine ⟨[10,3,13,0,2,6,7,8,9],?_,?_,[],?_,?_,rfl⟩
    ·simp only [go_sem,Nat.reduceBEq]
     try exact at0
    ·simp only [go_sem,Nat.reduceBEq]
     try exact at0
    ·simp only [go_sem,Nat.reduceBEq]
     exact Cv_tup (CvL_cons (Cv_ronil (α:=TFrame)) (CvL_cons (ro_row (by first|rfl|simp) (fun _ _ _ _=>rfl)) (CvL_cons (Cv_agg (CvL_cons Cv_int (CvL_cons Cv_int (CvL_cons (ro_row (by first|rfl|simp) (fun _ _ _ _=>rfl)) (CvL_cons (ro_row (by first|rfl|simp) (app_row (f:=c_TStored) w33 [(TStored.mk 0 p2 (eF r12))] (fun _ _ _ _=>rfl) (lit_row (f:=c_TStored) [(TStored.mk 0 p2 (eF r12))] (fun _ _=>rfl) rfl))) CvL_nil))))) (CvL_cons Cv_int CvL_nil))))
    ·simp only [go_sem,CvH]
  ·cases hb
 ·unfold body41 at hb
  split at hb<;>cases hb
noncomputable def ct14t0:Ct:=tab [(18,pureC body18)]
theorem ct14t0_ok:CtOk Try.prog ct14t0:=tab_cons ok18 <| tab_nil
theorem ct14t0_18 (l:List AV) (h:List ABlk):ct14t0 18 l h=pureC body18 l h:=rfl
noncomputable def F14_L1 (p0:TBuffer) (v1_1:Int) (v1_2:List Int):Option (Lp (Int × (List Int)) ((List Int) ⊕ (TTraffic × Int))) :=
 bif (bLt v1_1 (p0.List.length:Nat)) then (need (inb v1_1 p0.List.length) <| bif (bLt 0 (((gd p0.List v1_1.toNat).Held).length:Nat)) then (need (capb 8 (v1_2.length+1)) <| some (.next (wr .i64 (v1_1+1),(v1_2 ++ [(gd p0.List v1_1.toNat).Aid])))) else (some (.next (wr .i64 (v1_1+1),v1_2)))) else (some (.done (.inl v1_2)))
noncomputable def F14 (p0:TBuffer):Option (TTraffic × Int) :=
 (F18 p0).bind fun r1=>bif (!bEq r1 0) then (some ((TTraffic.mk false []),r1)) else (lp (loopD (fun s=>F14_L1 p0 s.1 s.2) (0,[])) (fun w1_3=>some ((TTraffic.mk (bLt 0 (p0.Group.length:Nat)) w1_3),0)) some)
noncomputable def body14:List AV->List ABlk->ED
 | [v0],h=>.ed [] (aK 4 k_TBuffer (roD (deadL h []) v0)/\roDOb (deadL h []) v0/\(F14 (g_TBuffer (aL (roD (deadL h []) v0)))).isSome=true) (.tup [.agg [.bool (((gt (F14 (g_TBuffer (aL (roD (deadL h []) v0))))).1).Group),.sl 0 1 0 ((((gt (F14 (g_TBuffer (aL (roD (deadL h []) v0))))).1).Aids).length) false],.int .i64 ((gt (F14 (g_TBuffer (aL (roD (deadL h []) v0))))).2)]) [.row 3 1 ((((gt (F14 (g_TBuffer (aL (roD (deadL h []) v0))))).1).Aids).length) (enR c_i64 (((gt (F14 (g_TBuffer (aL (roD (deadL h []) v0))))).1).Aids))]
 | _,_=>.fail
theorem ok14:FnOk Try.prog 14 (edC body14):=by
 refine edit_fnV body14 (rs:=[.cell 2 41,.tmp 3]) Try.func14 (by kernel_rfl) rfl rfl ?_
 intro l h bs ob q0 g0 hb hob
 unfold body14 at hb
 split at hb
 ·rename_i v0
  injection hb with q1 q2 q3 q4;subst q1 q2 q3 q4
  obtain ⟨hk0_0,hk0_1,hob⟩:=hob
  obtain ⟨r,H⟩:=Option.isSome_iff_exists.1 hob
  rw [H,gt_some]
  have hw0:=wA_TBuffer hk0_0
  obtain ⟨p0,hp_p0⟩:∃ p0,p0=g_TBuffer (aL (roD (deadL h []) v0)):=⟨_,rfl⟩
  rw [← hp_p0] at H hw0
  refine ⟨[.agg [.int .i64 p0.Limit,.int .i64 p0.Stay,.ro 3 p0.List.length false (enR c_TSleeper p0.List),.ro 43 p0.Group.length false (enR c_TStored p0.Group)]],[],rfl,⟨(EW_view hk0_1 hw0),trivial⟩,trivial,trivial,⟨(nfB_en nr_i64),trivial⟩,⟨noroB_en,trivial⟩,(by first|(simp only [noro,noroL,and_self];done)|(simp only [noro,noroL];and_intros<;>first|trivial|exact noro_bif (by simp only [noro]) (by simp only [noro])|(simp only [noro,noroL,and_self]))),?_⟩
  rw [Try.ntmps14]
  simp only [List.length_cons,List.length_nil,Nat.reduceAdd,Nat.reduceSub,List.replicate_succ,List.replicate_zero,List.cons_append,List.nil_append]
  unfold F14 at H
  try dsimp only at H
  refine sq ctNo_ok ?_
  simp only [go_sem]
  refine seqM ?_
  refine seqM ?_
  obtain ⟨r1,e2,H⟩:=bsi H
  refine rg ct14t0_ok ?_
  simp only [go_sem,Nat.reduceLT,Nat.reduceAdd,ct14t0_18,body18,e2]
  repeat ((with_reducible refine And.intro ?_ ?_);focus exact an0)
  refine sq ctNo_ok ?_
  simp only [go_sem]
  refine condM rfl trivial (fun hc=>?_) (fun hc=>?_)
  ·have hk3:(bEq r1 0)=false:=by simpa using hc
   replace H:=cond_t hc H
   refine sq ctNo_ok ?_
   simp only [go_sem,Nat.reduceAdd]
   repeat ((with_reducible refine And.intro ?_ ?_);focus exact an6)
   refine rg ctNo_ok ?_
   simp only [go_sem,Nat.reduceLT,Nat.reduceAdd]
   obtain rfl:=Option.some.inj H
   refine RetE_mk [] [none] ?_ ?_ ?_ ?_ (by rfl) (by rfl)
   ·simp only [go_sem]
    try exact at0
   ·simp only [go_sem]
    try exact at0
   ·simp only [go_sem]
    exact Cv_tup (CvL_cons (by first|(simp [Cv,CvL];done)|(simp [Cv,CvL,getM,gt_some];omega)) (CvL_cons (by simp [Cv]) CvL_nil))
   ·simp only [go_sem,CvH]
    exact CvB_none
  have hk3:(bEq r1 0)=true:=by simpa using hc
  replace H:=cond_f hc H
  refine rg ctNo_ok ?_
  simp only [go_sem]
  refine sq ctNo_ok ?_
  simp only [go_sem,Nat.reduceLeDiff,Nat.reduceLT,Nat.reduceAdd]
  repeat ((with_reducible refine And.intro ?_ ?_);focus exact an0)
  refine seqM ?_
  refine sq ctNo_ok ?_
  simp only [go_sem,Nat.reduceLeDiff,Nat.reduceLT,Nat.reduceAdd]
  repeat ((with_reducible refine And.intro ?_ ?_);focus exact an0)
  refine blkM ?_
  refine loop_den (fun s:Int × (List Int)=>(.top::.top::.ptr 1 0 0 0::.top::.top::.ptr 2 0 0 0::tp 14 (.ro 3 p0.List.length false (enR c_TSleeper p0.List)::.int .i64 (p0.List.length:Nat)::.int .i64 s.1::tp 16 []))) (fun s=>[.dead,.lit 41 [.bool false,.ro 0 0 true (fun _ _=>.top)],.lit 41 [.bool (bLt 0 (p0.Group.length:Nat)),.sl 3 1 0 s.2.length false],.row 3 1 s.2.length (enR c_i64 s.2)]) (fun e:List Int=>(.top::.top::.ptr 1 0 0 0::.top::.top::.ptr 2 0 0 0::tp 33 [])) (fun e=>[.dead,.lit 41 [.bool false,.ro 0 0 true (fun _ _=>.top)],.lit 41 [.bool (bLt 0 (p0.Group.length:Nat)),.sl 3 1 0 e.length false],.row 3 1 e.length (enR c_i64 e)]) H ?_ (fun s o H hn1_1 hn2_1=>?_) (fun w1_3 H=>?_)
  ·refine SubF_of ⟨[some 0,some 1,some 2,none],?_,?_,by rfl,by rfl⟩
   ·simp [CvL,Cv,getM,tp,tp]
   ·exact ⟨CvB_dead,cv,cv,CvB_none,trivial⟩
  ·obtain ⟨v1_1,v1_2⟩:=s
   unfold F14_L1 at H
   try dsimp only at H ⊢
   try simp only [tp]
   refine sq ctNo_ok ?_
   simp only [go_sem,Nat.reduceAdd]
   refine seqM ?_
   refine condM' rfl trivial (fun hc=>?_) (fun hc=>?_)
   ·have hk4:(bLt v1_1 (p0.List.length:Nat))=false:=by simpa using hc
    replace H:=cond_f hc H
    refine rg ctNo_ok ?_
    simp only [go_sem]
    refine ⟨_,(Option.some.inj H).symm,?_⟩
    refine SubF_of ⟨[some 0,some 1,some 2,some 3],?_,?_,by rfl,by rfl⟩
    ·simp [CvL,Cv,getM]
    ·exact ⟨CvB_dead,cv,cv,CvB_row nr_i64 cl (fun _ _ _ _=>rfl),trivial⟩
   have hk4:(bLt v1_1 (p0.List.length:Nat))=true:=by simpa using hc
   replace H:=cond_t hc H
   refine rg ctNo_ok ?_
   simp only [go_sem]
   refine seqM ?_
   refine blkM ?_
   refine seqM ?_
   obtain ⟨f5,H⟩:=need_some.1 H
   replace f5:=inb_iff.1 f5
   refine rg ctNo_ok ?_
   simp only [go_sem,Nat.reduceLT,Nat.reduceAdd,f5]
   repeat ((with_reducible refine And.intro ?_ ?_);focus exact an6)
   refine sq ctNo_ok ?_
   simp only [go_sem,Nat.reduceLT,Nat.reduceAdd]
   repeat ((with_reducible refine And.intro ?_ ?_);focus exact an0)
   refine condM' rfl trivial (fun hc=>?_) (fun hc=>?_)
   ·have hk6:(bLt 0 (((gd p0.List v1_1.toNat).Held).length:Nat))=false:=by simpa using hc
    replace H:=cond_f hc H
    refine rg ctNo_ok ?_
    simp only [go_sem]
    refine rg ctNo_ok ?_
    simp only [go_sem]
    refine ⟨_,(Option.some.inj H).symm,?_⟩
    refine SubF_of ⟨[some 0,some 1,some 2,some 3],?_,?_,by rfl,by rfl⟩
    ·simp [CvL,Cv,getM]
    ·exact ⟨CvB_dead,cv,cv,CvB_row nr_i64 cl (fun _ _ _ _=>rfl),trivial⟩
   have hk6:(bLt 0 (((gd p0.List v1_1.toNat).Held).length:Nat))=true:=by simpa using hc
   replace H:=cond_t hc H
   obtain ⟨f7,H⟩:=need_some.1 H
   replace f7:=capb_iff.1 f7
   refine rg ctNo_ok ?_
   simp only [go_sem,Nat.reduceLeDiff,Nat.reduceLT,Nat.reduceAdd,Nat.reduceBEq,f7]
   repeat ((with_reducible refine And.intro ?_ ?_);focus exact an1)
   refine rg ctNo_ok ?_
   simp only [go_sem]
   refine ⟨_,(Option.some.inj H).symm,?_⟩
   refine SubF_of ⟨[some 0,some 1,some 2,some 6],?_,?_,by rfl,by rfl⟩
   ·simp [CvL,Cv,getM]
   ·exact ⟨CvB_dead,cv,cv,CvB_row nr_i64 cl (app_row (f:=c_i64) v1_2 [(gd p0.List v1_1.toNat).Aid] (fun _ _ _ _=>rfl) (lit_row (f:=c_i64) [(gd p0.List v1_1.toNat).Aid] (fun _ _=>rfl) rfl)),trivial⟩
  ·try dsimp only at H ⊢
   try simp only [tp]
   try simp only [m_normal]
   refine sq ctNo_ok ?_
   simp only [go_sem,Nat.reduceLT,Nat.reduceAdd]
   repeat ((with_reducible refine And.intro ?_ ?_);focus exact an6)
   refine rg ctNo_ok ?_
   simp only [go_sem,Nat.reduceLT,Nat.reduceAdd]
   obtain rfl:=Option.some.inj H
   refine RetE_mk [] [some 3] ?_ ?_ ?_ ?_ (by rfl) (by rfl)
   ·simp only [go_sem]
    try exact at0
   ·simp only [go_sem]
    try exact at0
   ·simp only [go_sem]
    exact Cv_tup (CvL_cons (by first|(simp [Cv,CvL,getM];done)|(simp [Cv,CvL,getM,gt_some];omega)) (CvL_cons (by simp [Cv]) CvL_nil))
   ·simp only [go_sem,CvH]
    exact CvB_row nr_i64 cl (fun _ _ _ _=>rfl)
 ·cases hb
end Go.Proofs.Ytefiemaoacmdkaa
