/-
  What BufferNames reaches.
-/
import Derived.Test.YtefiemaoacmdkaaY10p2
namespace Go.Proofs.Ytefiemaoacmdkaa
open Go.Am
set_option linter.unusedVariables false
set_option linter.unusedSimpArgs false
noncomputable def ct24t0:Ct:=tab [(18,pureC body18)]
theorem ct24t0_ok:CtOk Try.prog ct24t0:=tab_cons ok18 <| tab_nil
theorem ct24t0_18 (l:List AV) (h:List ABlk):ct24t0 18 l h=pureC body18 l h:=rfl
noncomputable def ct24t1:Ct:=tab [(81,pureC body81)]
theorem ct24t1_ok:CtOk Try.prog ct24t1:=tab_cons ok81 <| tab_nil
theorem ct24t1_81 (l:List AV) (h:List ABlk):ct24t1 81 l h=pureC body81 l h:=rfl
noncomputable def ct24t2 (gi:Nat):Ct:=tab [(65,genC (body65f gi))]
theorem ct24t2_ok (gi:Nat):CtOk Try.prog (ct24t2 gi):=tab_cons (ok65f gi) <| tab_nil
theorem ct24t2_65 (gi:Nat) (l:List AV) (h:List ABlk):(ct24t2 gi) 65 l h=genC (body65f gi) l h:=rfl
noncomputable def ct24t3:Ct:=tab [(61,pureC body61)]
theorem ct24t3_ok:CtOk Try.prog ct24t3:=tab_cons ok61 <| tab_nil
theorem ct24t3_61 (l:List AV) (h:List ABlk):ct24t3 61 l h=pureC body61 l h:=rfl
noncomputable def ct24t4:Ct:=tab [(62,pureC body62)]
theorem ct24t4_ok:CtOk Try.prog ct24t4:=tab_cons ok62 <| tab_nil
theorem ct24t4_62 (l:List AV) (h:List ABlk):ct24t4 62 l h=pureC body62 l h:=rfl
noncomputable def ct24t5:Ct:=tab [(63,edC body63)]
theorem ct24t5_ok:CtOk Try.prog ct24t5:=tab_cons ok63 <| tab_nil
theorem ct24t5_63 (l:List AV) (h:List ABlk):ct24t5 63 l h=edC body63 l h:=rfl
noncomputable def ct24t6:Ct:=tab [(90,pureC body90)]
theorem ct24t6_ok:CtOk Try.prog ct24t6:=tab_cons ok90 <| tab_nil
theorem ct24t6_90 (l:List AV) (h:List ABlk):ct24t6 90 l h=pureC body90 l h:=rfl
noncomputable def ct24t7:Ct:=tab [(58,pureC body58_1)]
theorem ct24t7_ok:CtOk Try.prog ct24t7:=tab_cons ok58_1 <| tab_nil
theorem ct24t7_58 (l:List AV) (h:List ABlk):ct24t7 58 l h=pureC body58_1 l h:=rfl
noncomputable def ct24t8:Ct:=tab [(60,delN 61 43)]
theorem ct24t8_ok:CtOk Try.prog ct24t8:=tab_cons ok60 <| tab_nil
theorem ct24t8_60 (l:List AV) (h:List ABlk):ct24t8 60 l h=delN 61 43 l h:=rfl
noncomputable def ct24t9:Ct:=tab [(52,edC body52_0)]
theorem ct24t9_ok:CtOk Try.prog ct24t9:=tab_cons ok52_0 <| tab_nil
theorem ct24t9_52 (l:List AV) (h:List ABlk):ct24t9 52 l h=edC body52_0 l h:=rfl
noncomputable def F24_L1 (r5:Int × Bool) (r8:TBuffer) (v1_1:Int) (v1_2:TStored):Option (Lp (Int × TStored) ((TStored) ⊕ ((List TFrame) × (List TFrame) × TBuffer × Int))) :=
 bif (bLt v1_1 (((gd r8.List r5.1.toNat).Held).length:Nat)) then (need (inb v1_1 (((gd r8.List r5.1.toNat).Held).length)) <| (F90 (TStored.mk ((gd ((gd r8.List r5.1.toNat).Held) v1_1.toNat).Cat) ((gd ((gd r8.List r5.1.toNat).Held) v1_1.toNat).At) (eF ((gd ((gd r8.List r5.1.toNat).Held) v1_1.toNat).Frame))) v1_2).bind fun r24=>bif (bLt r24 0) then (need (inb v1_1 (((gd r8.List r5.1.toNat).Held).length)) <| some (.next (wr .i64 (v1_1+1),(TStored.mk ((gd ((gd r8.List r5.1.toNat).Held) v1_1.toNat).Cat) ((gd ((gd r8.List r5.1.toNat).Held) v1_1.toNat).At) (eF ((gd ((gd r8.List r5.1.toNat).Held) v1_1.toNat).Frame)))))) else (some (.next (wr .i64 (v1_1+1),v1_2)))) else (some (.done (.inl v1_2)))
noncomputable def F24 (p0:TBuffer) (p1:Int) (p2:Int) (p3:TFrame) (p4:Int):Option ((List TFrame) × (List TFrame) × TBuffer × Int) :=
 (F18 p0).bind fun r1=>bif (!bEq r1 0) then (some ([],[],(TBuffer.mk 0 0 [] []),r1)) else (bif ((bLt p1 1) || (bLt 255 p1)) then (some ([],[],(TBuffer.mk 0 0 [] []),2)) else ((F81 p0 p1).bind fun r5=>bif (!r5.2) then (some ([],[],(TBuffer.mk 0 0 [] []),6)) else ((F65f r5.1.toNat p0).bind fun r8=>need (inb r5.1 r8.List.length) <| need (bif (!(bLt 3 p2)) then ((F61 p4).isSome) else true) <| bif ((bLt 3 p2) || (!(gt (F61 p4)))) then (some ([],[],(TBuffer.mk 0 0 [] []),2)) else ((F62 ((gd r8.List r5.1.toNat).Held) p4).bind fun r13=>bif r13 then (some ([],[],(TBuffer.mk 0 0 [] []),20)) else ((F63 p3).bind fun r16=>bif (gd r8.List r5.1.toNat).Asleep then (bif (bEq (((gd r8.List r5.1.toNat).Held).length:Nat) r8.Limit) then (bif (bLt (((gd r8.List r5.1.toNat).Held).length:Nat) 1) then (none) else (need (inb 0 (((gd r8.List r5.1.toNat).Held).length)) <| lp (loopD (fun s=>F24_L1 r5 r8 s.1 s.2) (1,(TStored.mk ((gd ((gd r8.List r5.1.toNat).Held) 0).Cat) ((gd ((gd r8.List r5.1.toNat).Held) 0).At) (eF ((gd ((gd r8.List r5.1.toNat).Held) 0).Frame))))) (fun w1_6=>bif (bLt p2 w1_6.Cat) then ((some (r8.List.set r5.1.toNat (TSleeper.mk ((gd r8.List r5.1.toNat).Aid) ((gd r8.List r5.1.toNat).Asleep) ((gd r8.List r5.1.toNat).Held)))).bind fun w29=>(some [r16]).bind fun w31=>some ([],w31,(TBuffer.mk r8.Limit r8.Stay w29 r8.Group),0)) else ((F58_1 ((gd r8.List r5.1.toNat).Held) w1_6.Cat).bind fun r33=>need (inb r33 (((gd r8.List r5.1.toNat).Held).length)) <| need (delb r33 (wr .i64 (r33+1)) (((gd r8.List r5.1.toNat).Held).length)) <| (some [(eF ((gd ((gd r8.List r5.1.toNat).Held) r33.toNat).Frame))]).bind fun w37=>(some (delL ((gd r8.List r5.1.toNat).Held) r33 (wr .i64 (r33+1)))).bind fun w39=>need (capb 120 (w39.length+1)) <| (some [(TStored.mk p2 p4 (eF r16))]).bind fun w42=>(some (w39 ++ [(TStored.mk p2 p4 (eF r16))])).bind fun w44=>(some (r8.List.set r5.1.toNat (TSleeper.mk ((gd r8.List r5.1.toNat).Aid) ((gd r8.List r5.1.toNat).Asleep) w44))).bind fun w46=>some ([],w37,(TBuffer.mk r8.Limit r8.Stay w46 r8.Group),0))) some)) else (need (capb 120 (((gd r8.List r5.1.toNat).Held).length+1)) <| (some [(TStored.mk p2 p4 (eF r16))]).bind fun w49=>(some ((gd r8.List r5.1.toNat).Held ++ [(TStored.mk p2 p4 (eF r16))])).bind fun w51=>(some (r8.List.set r5.1.toNat (TSleeper.mk ((gd r8.List r5.1.toNat).Aid) ((gd r8.List r5.1.toNat).Asleep) w51))).bind fun w53=>some ([],[],(TBuffer.mk r8.Limit r8.Stay w53 r8.Group),0))) else ((F52_0 [r16]).bind fun r55=>(some (r8.List.set r5.1.toNat (TSleeper.mk ((gd r8.List r5.1.toNat).Aid) ((gd r8.List r5.1.toNat).Asleep) ((gd r8.List r5.1.toNat).Held)))).bind fun w57=>some (r55,[],(TBuffer.mk r8.Limit r8.Stay w57 r8.Group),0)))))))
noncomputable def body24:List AV->Nat->AR
 | [v0,v1,v2,v3,v4],_=>.pure (aK 4 k_TBuffer v0/\iK .i64 v1/\iK .u8 v2/\aK 41 k_TFrame v3/\iK .i64 v4/\(F24 (g_TBuffer (aL v0)) (iA v1) (iA v2) (g_TFrame (aL v3)) (iA v4)).isSome=true) (.tup [.ro 41 (((gt (F24 (g_TBuffer (aL v0)) (iA v1) (iA v2) (g_TFrame (aL v3)) (iA v4))).1).length) false (enR c_TFrame ((gt (F24 (g_TBuffer (aL v0)) (iA v1) (iA v2) (g_TFrame (aL v3)) (iA v4))).1)),.ro 41 (((gt (F24 (g_TBuffer (aL v0)) (iA v1) (iA v2) (g_TFrame (aL v3)) (iA v4))).2.1).length) false (enR c_TFrame ((gt (F24 (g_TBuffer (aL v0)) (iA v1) (iA v2) (g_TFrame (aL v3)) (iA v4))).2.1)),.agg [.int .i64 (((gt (F24 (g_TBuffer (aL v0)) (iA v1) (iA v2) (g_TFrame (aL v3)) (iA v4))).2.2.1).Limit),.int .i64 (((gt (F24 (g_TBuffer (aL v0)) (iA v1) (iA v2) (g_TFrame (aL v3)) (iA v4))).2.2.1).Stay),.ro 3 ((((gt (F24 (g_TBuffer (aL v0)) (iA v1) (iA v2) (g_TFrame (aL v3)) (iA v4))).2.2.1).List).length) false (enR c_TSleeper (((gt (F24 (g_TBuffer (aL v0)) (iA v1) (iA v2) (g_TFrame (aL v3)) (iA v4))).2.2.1).List)),.ro 43 ((((gt (F24 (g_TBuffer (aL v0)) (iA v1) (iA v2) (g_TFrame (aL v3)) (iA v4))).2.2.1).Group).length) false (enR c_TStored (((gt (F24 (g_TBuffer (aL v0)) (iA v1) (iA v2) (g_TFrame (aL v3)) (iA v4))).2.2.1).Group))],.int .i64 ((gt (F24 (g_TBuffer (aL v0)) (iA v1) (iA v2) (g_TFrame (aL v3)) (iA v4))).2.2.2)])
 | _,_=>.fail
set_option maxHeartbeats 4000000 in
set_option maxRecDepth 20000 in
theorem ok24:FnOk Try.prog 24 (genC body24):=by
 refine gen_fn body24 (rs:=[.tmp 10,.tmp 11,.cell 12 25,.tmp 13]) Try.func24 (by kernel_rfl) rfl rfl ?_
 intro l s ob v ns hb hob
 rcases hb with ⟨hb,rfl⟩|hb
 ·unfold body24 at hb
  split at hb
  ·rename_i v0 v1 v2 v3 v4
   injection hb with q1 q2;subst q1 q2
   obtain ⟨hk0_0,hk1_0,hk2_0,hk3_0,hk4_0,hob⟩:=hob
   obtain ⟨r,H⟩:=Option.isSome_iff_exists.1 hob
   rw [H,gt_some]
   have hw0:=wA_TBuffer hk0_0
   have hw1:=iK_wk hk1_0
   have hw2:=iK_wk hk2_0
   have hw3:=wA_TFrame hk3_0
   have hw4:=iK_wk hk4_0
   generalize g_TBuffer (aL v0)=p0 at H hw0
   generalize iA v1=p1 at H hw1
   generalize iA v2=p2 at H hw2
   generalize g_TFrame (aL v3)=p3 at H hw3
   generalize iA v4=p4 at H hw4
   refine ⟨[.agg [.int .i64 p0.Limit,.int .i64 p0.Stay,.ro 3 p0.List.length false (enR c_TSleeper p0.List),.ro 43 p0.Group.length false (enR c_TStored p0.Group)],.int .i64 p1,.int .u8 p2,.agg (.int .u8 p3.Head.Kind::.int .u8 p3.Head.Sub::.bool p3.Head.ToDs::.bool p3.Head.FromDs::.bool p3.Head.More::.bool p3.Head.Retry::.bool p3.Head.Sleep::.bool p3.Head.MoreData::.bool p3.Head.Protected::.int .i64 p3.Head.Duration::.int .u8 p3.Head.A1.x0::.int .u8 p3.Head.A1.x1::.int .u8 p3.Head.A1.x2::.int .u8 p3.Head.A1.x3::.int .u8 p3.Head.A1.x4::.int .u8 p3.Head.A1.x5::.int .u8 p3.Head.A2.x0::.int .u8 p3.Head.A2.x1::.int .u8 p3.Head.A2.x2::.int .u8 p3.Head.A2.x3::.int .u8 p3.Head.A2.x4::.int .u8 p3.Head.A2.x5::.int .u8 p3.Head.A3.x0::.int .u8 p3.Head.A3.x1::.int .u8 p3.Head.A3.x2::.int .u8 p3.Head.A3.x3::.int .u8 p3.Head.A3.x4::.int .u8 p3.Head.A3.x5::.int .u8 p3.Head.A4.x0::.int .u8 p3.Head.A4.x1::.int .u8 p3.Head.A4.x2::.int .u8 p3.Head.A4.x3::.int .u8 p3.Head.A4.x4::.int .u8 p3.Head.A4.x5::.int .i64 p3.Head.Seq::.int .i64 p3.Head.Frag::.int .i64 p3.Head.Tid::.int .u8 p3.Head.Ack::.bool p3.Head.Amsdu::.bool p3.Head.Eosp::.ro 1 p3.Body.length false (enR c_u8 p3.Body)::[]),.int .i64 p4],.tup [.ro 41 r.1.length false (enR c_TFrame r.1),.ro 41 r.2.1.length false (enR c_TFrame r.2.1),.agg [.int .i64 r.2.2.1.Limit,.int .i64 r.2.2.1.Stay,.ro 3 r.2.2.1.List.length false (enR c_TSleeper r.2.2.1.List),.ro 43 r.2.2.1.Group.length false (enR c_TStored r.2.2.1.Group)],.int .i64 r.2.2.2],[],(fun E vs F=>FR_wk1 hw0.1 F (fun vs F=>FR_wk1 hw1.1 F (fun vs F=>FR_wk1 hw2.1 F (fun vs F=>FR_wk1 hw3.1 F (fun vs F=>FR_wk1 hw4.1 F (fun vs F=>F)))))),by simp only [ren,renL],trivial,?_⟩
   rw [Try.ntmps24]
   simp only [List.length_cons,List.length_nil,Nat.reduceAdd,Nat.reduceSub,List.replicate_succ,List.replicate_zero,List.cons_append,List.nil_append]
   unfold F24 at H
   delta eF at H
   try dsimp only at H
   refine sq ctNo_ok ?_
   simp only [go_sem,Nat.reduceAdd]
   refine seqM ?_
   refine regO ?_
   refine cutO shT_ok ctNo_ok 2 ?_
   simp only [kO_normal,List.take_succ_cons,List.take_zero,List.drop_succ_cons,List.drop_zero,go_sem,Nat.reduceLT,Nat.reduceAdd]
   repeat ((with_reducible refine And.intro ?_ ?_);focus exact an0)
   refine inlO (rs:=[.tmp 4,.tmp 5,.tmp 6]) Try.func51 (by kernel_rfl) rfl rfl Try.ntmps51 (caps:=[]) (tc:=[.agg [.int .i64 p0.Limit,.int .i64 p0.Stay,.ro 3 p0.List.length false (enR c_TSleeper p0.List),.ro 43 p0.Group.length false (enR c_TStored p0.Group)],.int .i64 p1]) rfl (by simp only [go_sem]) rfl ?_
   simp only [List.length_cons,List.length_nil,Nat.reduceAdd,Nat.reduceSub,List.replicate_succ,List.replicate_zero,List.cons_append,List.nil_append]
   refine sq ctNo_ok ?_
   simp only [go_sem,Nat.reduceAdd]
   refine seqM ?_
   refine seqM ?_
   obtain ⟨r1,e2,H⟩:=bsi H
   refine rg ct24t0_ok ?_
   simp only [go_sem,Nat.reduceLT,Nat.reduceAdd,ct24t0_18,body18,e2]
   repeat ((with_reducible refine And.intro ?_ ?_);focus exact an0)
   refine sq ctNo_ok ?_
   simp only [go_sem]
   refine condM rfl trivial (fun hc=>?_) (fun hc=>?_)
   ·have hk3:(bEq r1 0)=false:=by simpa using hc
    replace H:=cond_t hc H
    refine sq ctNo_ok ?_
    simp only [go_sem]
    refine rg ctNo_ok ?_
    simp only [go_sem]
    refine cutO shT_ok ctNo_ok 7 ?_
    simp only [kO_normal,List.take_succ_cons,List.take_zero,List.drop_succ_cons,List.drop_zero,go_sem,Nat.reduceLT,Nat.reduceAdd]
    repeat ((with_reducible refine And.intro ?_ ?_);focus exact an0)
    refine endO ?_
    refine seqM ?_
    refine blkM ?_
    refine sq ctNo_ok ?_
    simp only [go_sem]
    refine condM rfl trivial (fun hc=>?_) (fun hc=>?_)
    rotate_left
    ·simp [hk3] at hc
    refine sq ctNo_ok ?_
    simp only [go_sem,Nat.reduceAdd]
    repeat ((with_reducible refine And.intro ?_ ?_);focus exact an6)
    refine rg ctNo_ok ?_
    simp only [go_sem,Nat.reduceLT,Nat.reduceAdd]
    obtain rfl:=Option.some.inj H
    refine ⟨[0,1,2,3],?_,?_,[],?_,?_,rfl⟩
    ·simp only [go_sem]
     try exact at0
    ·simp only [go_sem]
     try exact at0
    ·simp only [go_sem]
     exact Cv_tup (CvL_cons (Cv_ronil (α:=TFrame)) (CvL_cons (Cv_ronil (α:=TFrame)) (CvL_cons (Cv_agg (CvL_cons Cv_int (CvL_cons Cv_int (CvL_cons (Cv_ronil (α:=TSleeper)) (CvL_cons (Cv_ronil (α:=TStored)) CvL_nil))))) (CvL_cons Cv_int CvL_nil))))
    ·simp only [go_sem,CvH]
   have hk3:(bEq r1 0)=true:=by simpa using hc
   replace H:=cond_f hc H
   refine rg ctNo_ok ?_
   simp only [go_sem]
   refine seqM ?_
   refine sq ctNo_ok ?_
   simp only [go_sem]
   repeat ((with_reducible refine And.intro ?_ ?_);focus exact an6)
   refine condM rfl trivial (fun hc=>?_) (fun hc=>?_)
   ·have hk4:((bLt p1 1) || (bLt 255 p1))=true:=by simpa using hc
    replace H:=cond_t hc H
    refine sq ctNo_ok ?_
    simp only [go_sem]
    refine rg ctNo_ok ?_
    simp only [go_sem]
    refine cutO shT_ok ctNo_ok 7 ?_
    simp only [kO_normal,List.take_succ_cons,List.take_zero,List.drop_succ_cons,List.drop_zero,go_sem,Nat.reduceLT,Nat.reduceAdd]
    repeat ((with_reducible refine And.intro ?_ ?_);focus exact an0)
    refine endO ?_
    refine seqM ?_
    refine blkM ?_
    refine sq ctNo_ok ?_
    simp only [go_sem,(by decide:bEq (2) (0)=false)]
    refine condM rfl trivial (fun hc=>?_) (fun hc=>?_)
    rotate_left
    ·cases hc
    refine sq ctNo_ok ?_
    simp only [go_sem,Nat.reduceAdd]
    repeat ((with_reducible refine And.intro ?_ ?_);focus exact an6)
    refine rg ctNo_ok ?_
    simp only [go_sem,Nat.reduceLT,Nat.reduceAdd]
    obtain rfl:=Option.some.inj H
    refine ⟨[0,1,2,3],?_,?_,[],?_,?_,rfl⟩
    ·simp only [go_sem]
     try exact at0
    ·simp only [go_sem]
     try exact at0
    ·simp only [go_sem]
     exact Cv_tup (CvL_cons (Cv_ronil (α:=TFrame)) (CvL_cons (Cv_ronil (α:=TFrame)) (CvL_cons (Cv_agg (CvL_cons Cv_int (CvL_cons Cv_int (CvL_cons (Cv_ronil (α:=TSleeper)) (CvL_cons (Cv_ronil (α:=TStored)) CvL_nil))))) (CvL_cons Cv_int CvL_nil))))
    ·simp only [go_sem,CvH]
   have hk4:((bLt p1 1) || (bLt 255 p1))=false:=by simpa using hc
   replace H:=cond_f hc H
   refine rg ctNo_ok ?_
   simp only [go_sem]
   refine seqM ?_
   obtain ⟨r5,e6,H⟩:=bsi H
   refine rg ct24t1_ok ?_
   simp only [go_sem,Nat.reduceLT,Nat.reduceAdd,ct24t1_81,body81,e6]
   repeat ((with_reducible refine And.intro ?_ ?_);focus exact an0)
   refine seqM ?_
   refine sq ctNo_ok ?_
   simp only [go_sem]
   refine condM rfl trivial (fun hc=>?_) (fun hc=>?_)
   ·have hk7:(r5.2)=false:=by simpa using hc
    replace H:=cond_t hc H
    refine sq ctNo_ok ?_
    simp only [go_sem]
    refine rg ctNo_ok ?_
    simp only [go_sem]
    refine cutO shT_ok ctNo_ok 7 ?_
    simp only [kO_normal,List.take_succ_cons,List.take_zero,List.drop_succ_cons,List.drop_zero,go_sem,Nat.reduceLT,Nat.reduceAdd]
    repeat ((with_reducible refine And.intro ?_ ?_);focus exact an0)
    refine endO ?_
    refine seqM ?_
    refine blkM ?_
    refine sq ctNo_ok ?_
    simp only [go_sem,(by decide:bEq (6) (0)=false)]
    refine condM rfl trivial (fun hc=>?_) (fun hc=>?_)
    rotate_left
    ·cases hc
    refine sq ctNo_ok ?_
    simp only [go_sem,Nat.reduceAdd]
    repeat ((with_reducible refine And.intro ?_ ?_);focus exact an6)
    refine rg ctNo_ok ?_
    simp only [go_sem,Nat.reduceLT,Nat.reduceAdd]
    obtain rfl:=Option.some.inj H
    refine ⟨[0,1,2,3],?_,?_,[],?_,?_,rfl⟩
    ·simp only [go_sem]
     try exact at0
    ·simp only [go_sem]
     try exact at0
    ·simp only [go_sem]
     exact Cv_tup (CvL_cons (Cv_ronil (α:=TFrame)) (CvL_cons (Cv_ronil (α:=TFrame)) (CvL_cons (Cv_agg (CvL_cons Cv_int (CvL_cons Cv_int (CvL_cons (Cv_ronil (α:=TSleeper)) (CvL_cons (Cv_ronil (α:=TStored)) CvL_nil))))) (CvL_cons Cv_int CvL_nil))))
    ·simp only [go_sem,CvH]
   have hk7:(r5.2)=true:=by simpa using hc
   replace H:=cond_f hc H
   refine rg ctNo_ok ?_
   simp only [go_sem]
   refine seqM ?_
   obtain ⟨r8,e9,H⟩:=bsi H
   refine rg (ct24t2_ok r5.1.toNat) ?_
   simp only [go_sem,Nat.reduceLT,Nat.reduceAdd,ct24t2_65,body65f,e9]
   repeat ((with_reducible refine And.intro ?_ ?_);focus exact an0)
   refine seqM ?_
   obtain ⟨f10,H⟩:=need_some.1 H
   replace f10:=inb_iff.1 f10
   refine draw_quiet shT_ok ctNo_ok (by kernel_rfl) (by kernel_rfl) ?_
   simp only [go_sem,Nat.reduceLeDiff,Nat.reduceLT,Nat.reduceAdd,f10]
   repeat ((with_reducible refine And.intro ?_ ?_);focus exact an6)
   refine rg ctNo_ok ?_
   simp only [go_sem]
   refine cutO shT_ok ctNo_ok 7 ?_
   simp only [kO_normal,List.take_succ_cons,List.take_zero,List.drop_succ_cons,List.drop_zero,go_sem,Nat.reduceLT,Nat.reduceAdd]
   repeat ((with_reducible refine And.intro ?_ ?_);focus exact an0)
   refine endO ?_
   refine seqM ?_
   refine blkM ?_
   refine sq ctNo_ok ?_
   simp only [go_sem,(by decide:bEq (0) (0)=true)]
   refine condM rfl trivial (fun hc=>?_) (fun hc=>?_)
   ·cases hc
   refine seqM ?_
   obtain ⟨f11,H⟩:=need_some.1 H
   replace f11:=g_iff.1 f11
   refine rg ct24t3_ok ?_
   simp only [go_sem,ct24t3_61,body61]
   repeat ((with_reducible refine And.intro ?_ ?_);focus (first|(with_reducible trivial)|omega|exact f11|(intro g;have q:=f11 (by first|exact g|(rw [g];rfl)|simpa using g);first|exact q|exact ⟨q.1,q.2.1⟩|exact q.2.2|omega|exact ⟨g,q⟩|exact ⟨trivial,q⟩|exact ⟨g,q.1,q.2.1⟩|exact ⟨g,q.2.2⟩)|(intro g;(try have q0:=f11 (by first|exact g|(rw [g];rfl)|simpa using g));and_intros<;>first|(with_reducible trivial)|assumption|exact nfc|(intro g2;rw [g,g2];rfl)|(intro g2;assumption)|(simp only [g,Bool.true_and,Bool.and_true,Bool.not_false,Bool.not_true];assumption)|grind)|(and_intros<;>first|(with_reducible trivial)|omega|assumption|exact nfc|first|exact rfl|exact trivial|exact fitI|exact .inr rfl|exact .inl rfl|exact fun x hx=>absurd hx (by omega))|grind))
   refine condM rfl trivial (fun hc=>?_) (fun hc=>?_)
   ·have hk12:((bLt 3 p2) || (!(gt (F61 p4))))=true:=by simpa using hc
    replace H:=cond_t hc H
    refine sq ctNo_ok ?_
    simp only [go_sem,Nat.reduceAdd]
    repeat ((with_reducible refine And.intro ?_ ?_);focus exact an6)
    refine rg ctNo_ok ?_
    simp only [go_sem,Nat.reduceLT,Nat.reduceAdd]
    obtain rfl:=Option.some.inj H
    refine ⟨[0,1,2,3],?_,?_,[],?_,?_,rfl⟩
    ·simp only [go_sem]
     try exact at0
    ·simp only [go_sem,Nat.reduceBEq]
     try exact at0
    ·simp only [go_sem]
     exact Cv_tup (CvL_cons (Cv_ronil (α:=TFrame)) (CvL_cons (Cv_ronil (α:=TFrame)) (CvL_cons (Cv_agg (CvL_cons Cv_int (CvL_cons Cv_int (CvL_cons (Cv_ronil (α:=TSleeper)) (CvL_cons (Cv_ronil (α:=TStored)) CvL_nil))))) (CvL_cons Cv_int CvL_nil))))
    ·simp only [go_sem,CvH]
   have hk12:((bLt 3 p2) || (!(gt (F61 p4))))=false:=by simpa using hc
   replace H:=cond_f hc H
   refine seqM ?_
   obtain ⟨r13,e14,H⟩:=bsi H
   refine rg ct24t4_ok ?_
   simp only [go_sem,Nat.reduceLT,Nat.reduceAdd,Nat.reduceSub,upc_ii,ct24t4_62,body62,e14]
   repeat ((with_reducible refine And.intro ?_ ?_);focus exact an0)
   refine condM rfl trivial (fun hc=>?_) (fun hc=>?_)
   ·have hk15:(r13)=true:=by simpa using hc
    replace H:=cond_t hc H
    refine sq ctNo_ok ?_
    simp only [go_sem,Nat.reduceAdd]
    repeat ((with_reducible refine And.intro ?_ ?_);focus exact an6)
    refine rg ctNo_ok ?_
    simp only [go_sem,Nat.reduceLT,Nat.reduceAdd]
    obtain rfl:=Option.some.inj H
    refine ⟨[0,1,2,3],?_,?_,[],?_,?_,rfl⟩
    ·simp only [go_sem]
     try exact at0
    ·simp only [go_sem,Nat.reduceBEq]
     try exact at0
    ·simp only [go_sem]
     exact Cv_tup (CvL_cons (Cv_ronil (α:=TFrame)) (CvL_cons (Cv_ronil (α:=TFrame)) (CvL_cons (Cv_agg (CvL_cons Cv_int (CvL_cons Cv_int (CvL_cons (Cv_ronil (α:=TSleeper)) (CvL_cons (Cv_ronil (α:=TStored)) CvL_nil))))) (CvL_cons Cv_int CvL_nil))))
    ·simp only [go_sem,CvH]
   have hk15:(r13)=false:=by simpa using hc
   replace H:=cond_f hc H
   refine rg ctNo_ok ?_
   simp only [go_sem]
   refine seqM ?_
   obtain ⟨r16,e17,H⟩:=bsi H
   refine rg ct24t5_ok ?_
   simp only [go_sem,Nat.reduceLT,Nat.reduceAdd,ct24t5_63,body63,e17]
   repeat ((with_reducible refine And.intro ?_ ?_);focus exact an0)
   refine seqM ?_
   refine sq ctNo_ok ?_
   simp only [go_sem,Nat.reduceLeDiff,Nat.reduceLT,Nat.reduceAdd,Nat.reduceSub,upc_ii]
   repeat ((with_reducible refine And.intro ?_ ?_);focus exact an6)
   refine condM' rfl trivial (fun hc=>?_) (fun hc=>?_)
   ·have hk18:((gd r8.List r5.1.toNat).Asleep)=false:=by simpa using hc
    replace H:=cond_f hc H
    refine regO ?_
    refine cutO shT_ok ctNo_ok 1 ?_
    simp only [kO_normal,List.take_succ_cons,List.take_zero,List.drop_succ_cons,List.drop_zero,go_sem,Nat.reduceLT,Nat.reduceAdd]
    repeat ((with_reducible refine And.intro ?_ ?_);focus exact an3)
    refine fzO [7] ?_ ?_
    ·simp only [go_sem,Nat.reduceBEq]
     try exact at0
    simp only [go_sem,Nat.reduceBEq,Nat.reduceAdd]
    obtain ⟨r55,e56,H⟩:=bsi H
    refine cutO shT_ok ct24t9_ok 3 ?_
    simp only [kO_normal,List.take_succ_cons,List.take_zero,List.drop_succ_cons,List.drop_zero,go_sem,Nat.reduceLeDiff,Nat.reduceAdd,ct24t9_52,body52_0,e56]
    repeat ((with_reducible refine And.intro ?_ ?_);focus exact an3)
    refine endO ?_
    refine seqM ?_
    refine draw_rule shT_ok ctNo_ok 0 (by kernel_rfl) (by kernel_rfl) ?_
    intro an han
    simp only [d_nil,d_cons,nxtD,xrD,xoD,roEq,minL,List.append_nil,refsOp,refs,mask,maskF,place,placeF,okLog,pairOk,hit,inL,slotsF,nrH,nrB,nrL,nr,List.replicate_zero,Nat.sub_self,Nat.add_zero,Nat.zero_add,Nat.reduceSub,Nat.lt_add_one,go_sem,Nat.reduceLeDiff,Nat.reduceLT,Nat.reduceAdd,Nat.reduceSub,Nat.reduceBEq]
    repeat ((with_reducible refine And.intro ?_ ?_);focus exact an5)
    refine fz2_mean [5] [4] ?_ ?_
    ·simp only [go_sem,Nat.reduceBEq,Nat.reduceAdd,fzObHF2,fzObB2]
     first|exact (foc_ob (L:=r8.List) (i:=r5.1.toNat) (fun a y=>nrefL_getL (nr_TSleeper a) y) (fun x y hx=>by simp only [upc_ne hx]) (fun y hy=>match y,hy with|0,_=>(by (simp [upc_ii,getL,fzOb,inL,geth,rowOb,enR,c_TSleeper];all_goals (first|(with_reducible trivial)|(intros;exact nrefL_getL (NRf.h _) _)|(intros;exact nfc))))|1,_=>(by (simp [upc_ii,getL,fzOb,inL,geth,rowOb,enR,c_TSleeper];all_goals (first|(with_reducible trivial)|(intros;exact nrefL_getL (NRf.h _) _)|(intros;exact nfc))))|2,_=>(by (simp [upc_ii,getL,fzOb,inL,geth,rowOb,enR,c_TSleeper];all_goals (first|(with_reducible trivial)|(intros;exact nrefL_getL (NRf.h _) _)|(intros;exact nfc))))|(y+3),h=>absurd h (by omega)))|(and_intros<;>first|exact (foc_ob (L:=r8.List) (i:=r5.1.toNat) (fun a y=>nrefL_getL (nr_TSleeper a) y) (fun x y hx=>by simp only [upc_ne hx]) (fun y hy=>match y,hy with|0,_=>(by (simp [upc_ii,getL,fzOb,enR,c_TSleeper];all_goals (first|(with_reducible trivial)|(intros;exact nrefL_getL (NRf.h _) _)|(intros;exact nfc))))|1,_=>(by (simp [upc_ii,getL,fzOb,enR,c_TSleeper];all_goals (first|(with_reducible trivial)|(intros;exact nrefL_getL (NRf.h _) _)|(intros;exact nfc))))|2,_=>(by (simp [upc_ii,getL,fzOb,inL,geth,rowOb,enR,c_TSleeper];all_goals (first|(with_reducible trivial)|(intros;exact nrefL_getL (NRf.h _) _)|(intros;exact nfc))))|(y+3),h=>absurd h (by omega)))|(with_reducible trivial)|omega|exact nfc|trivial)
    simp only [go_sem,Nat.reduceBEq,Nat.reduceAdd,fzH2,fzHF2,fzB2]
    obtain ⟨w57,hw58,H⟩:=bsi H
    replace hw58:=Option.some.inj hw58
    have lhw58:w57.length=r8.List.length:=by rw [← hw58];exact (by simp only [List.length_set])
    refine subF_mean (t2:=(tp 10 (.sl 9 41 0 r55.length false::.ro 0 0 true (fun _ _=>.top)::.ptr 2 0 0 0::.int .i64 0::tp 57 []))) (h2:=[.lit 25 [.int .i64 p0.Limit,.int .i64 p0.Stay,.ro 3 p0.List.length false (enR c_TSleeper p0.List),.ro 43 p0.Group.length false (enR c_TStored p0.Group)],.lit 33 (.int .u8 r16.Head.Kind::.int .u8 r16.Head.Sub::.bool r16.Head.ToDs::.bool r16.Head.FromDs::.bool r16.Head.More::.bool r16.Head.Retry::.bool r16.Head.Sleep::.bool r16.Head.MoreData::.bool r16.Head.Protected::.int .i64 r16.Head.Duration::.int .u8 r16.Head.A1.x0::.int .u8 r16.Head.A1.x1::.int .u8 r16.Head.A1.x2::.int .u8 r16.Head.A1.x3::.int .u8 r16.Head.A1.x4::.int .u8 r16.Head.A1.x5::.int .u8 r16.Head.A2.x0::.int .u8 r16.Head.A2.x1::.int .u8 r16.Head.A2.x2::.int .u8 r16.Head.A2.x3::.int .u8 r16.Head.A2.x4::.int .u8 r16.Head.A2.x5::.int .u8 r16.Head.A3.x0::.int .u8 r16.Head.A3.x1::.int .u8 r16.Head.A3.x2::.int .u8 r16.Head.A3.x3::.int .u8 r16.Head.A3.x4::.int .u8 r16.Head.A3.x5::.int .u8 r16.Head.A4.x0::.int .u8 r16.Head.A4.x1::.int .u8 r16.Head.A4.x2::.int .u8 r16.Head.A4.x3::.int .u8 r16.Head.A4.x4::.int .u8 r16.Head.A4.x5::.int .i64 r16.Head.Seq::.int .i64 r16.Head.Frag::.int .i64 r16.Head.Tid::.int .u8 r16.Head.Ack::.bool r16.Head.Amsdu::.bool r16.Head.Eosp::.ro 1 r16.Body.length false (enR c_u8 r16.Body)::[]),.lit 25 [.int .i64 r8.Limit,.int .i64 r8.Stay,.sl 4 3 0 w57.length false,.sl 6 43 0 r8.Group.length false],.lit 25 [.int .i64 r8.Limit,.int .i64 r8.Stay,.sl 4 3 0 w57.length false,.sl 6 43 0 r8.Group.length false],.row 57 3 w57.length (enR c_TSleeper w57),.dead,.row 61 43 r8.Group.length (enR c_TStored r8.Group),.dead,.dead,.row 33 41 r55.length (enR c_TFrame r55)]) ?_ ?_
    ·refine SubF_of ⟨[some 0,some 1,some 2,some 3,some 4,some 5,some 6,some 7,some 8,some 9],?_,?_,by rfl,by rfl⟩
     ·simp [CvL,Cv,getM,tp,tp]
     ·exact ⟨(by simp [CvB,CvL,Cv,blkAt,geth]),(by simp [CvB,CvL,Cv,blkAt,geth]),(by simp [CvB,CvL,Cv,blkAt,geth,getM,lhw58]),(by simp [CvB,CvL,Cv,blkAt,geth,getM,lhw58]),CvB_row nr_TSleeper lhw58 (hw58 ▸ (foc_row (L:=r8.List) (i:=r5.1.toNat) (fun a y=>nrefL_getL (nr_TSleeper a) y) (fun x y hx=>by simp only [upc_ne hx]) (fun y hy=>match y,hy with|0,_=>by simp [upc_ii,getL,fzV,enR,c_TSleeper]|1,_=>by simp [upc_ii,getL,fzV,enR,c_TSleeper]|2,_=>by simp [upc_ii,getL,fzV,inL,geth,enR,c_TSleeper,sub_enR0]|(y+3),h=>absurd h (by omega)))),CvB_dead,CvB_row nr_TStored rfl (fun _ _ _ _=>rfl),CvB_dead,CvB_dead,CvB_row nr_TFrame rfl (fun _ _ _ _=>rfl),trivial⟩
    simp only [tp]
    refine rg ctNo_ok ?_
    simp only [go_sem,Nat.reduceLT,Nat.reduceAdd]
    obtain rfl:=Option.some.inj H
    refine ⟨[9,4,6,0,1,2,3],?_,?_,[],?_,?_,rfl⟩
    ·simp only [go_sem,Nat.reduceBEq]
     try exact at0
    ·simp only [go_sem,Nat.reduceBEq]
     try exact at0
    ·simp only [go_sem,Nat.reduceBEq]
     exact Cv_tup (CvL_cons (ro_row (by first|rfl|simp) (fun _ _ _ _=>rfl)) (CvL_cons (Cv_ronil (α:=TFrame)) (CvL_cons (Cv_agg (CvL_cons Cv_int (CvL_cons Cv_int (CvL_cons (ro_row (by first|rfl|simp) (fun _ _ _ _=>rfl)) (CvL_cons (ro_row (by first|rfl|simp) (fun _ _ _ _=>rfl)) CvL_nil))))) (CvL_cons Cv_int CvL_nil))))
    ·simp only [go_sem,CvH]
   have hk18:((gd r8.List r5.1.toNat).Asleep)=true:=by simpa using hc
   replace H:=cond_t hc H
   refine draw_tail shT_ok ctNo_ok 11 (by kernel_rfl) (by kernel_rfl) (by kernel_rfl) ?_
   simp only [kO_normal,List.take_succ_cons,List.take_zero,List.drop_succ_cons,List.drop_zero,go_sem,Nat.reduceLeDiff,Nat.reduceLT,Nat.reduceAdd]
   repeat ((with_reducible refine And.intro ?_ ?_);focus exact an0)
   refine inlO (rs:=[.tmp 6]) Try.func64 (by kernel_rfl) rfl rfl Try.ntmps64 (caps:=[]) (tc:=[.ptr 4 3 r5.1.toNat 2,.int .i64 r8.Limit,.agg (.int .u8 p2::.int .i64 p4::.int .u8 r16.Head.Kind::.int .u8 r16.Head.Sub::.bool r16.Head.ToDs::.bool r16.Head.FromDs::.bool r16.Head.More::.bool r16.Head.Retry::.bool r16.Head.Sleep::.bool r16.Head.MoreData::.bool r16.Head.Protected::.int .i64 r16.Head.Duration::.int .u8 r16.Head.A1.x0::.int .u8 r16.Head.A1.x1::.int .u8 r16.Head.A1.x2::.int .u8 r16.Head.A1.x3::.int .u8 r16.Head.A1.x4::.int .u8 r16.Head.A1.x5::.int .u8 r16.Head.A2.x0::.int .u8 r16.Head.A2.x1::.int .u8 r16.Head.A2.x2::.int .u8 r16.Head.A2.x3::.int .u8 r16.Head.A2.x4::.int .u8 r16.Head.A2.x5::.int .u8 r16.Head.A3.x0::.int .u8 r16.Head.A3.x1::.int .u8 r16.Head.A3.x2::.int .u8 r16.Head.A3.x3::.int .u8 r16.Head.A3.x4::.int .u8 r16.Head.A3.x5::.int .u8 r16.Head.A4.x0::.int .u8 r16.Head.A4.x1::.int .u8 r16.Head.A4.x2::.int .u8 r16.Head.A4.x3::.int .u8 r16.Head.A4.x4::.int .u8 r16.Head.A4.x5::.int .i64 r16.Head.Seq::.int .i64 r16.Head.Frag::.int .i64 r16.Head.Tid::.int .u8 r16.Head.Ack::.bool r16.Head.Amsdu::.bool r16.Head.Eosp::.sl 7 1 0 r16.Body.length false::[])]) rfl (by simp only [go_sem]) rfl ?_
   simp only [List.length_cons,List.length_nil,Nat.reduceAdd,Nat.reduceSub,List.replicate_succ,List.replicate_zero,List.cons_append,List.nil_append]
   refine sq ctNo_ok ?_
   simp only [go_sem,Nat.reduceAdd]
   refine seqM ?_
   refine sq ctNo_ok ?_
   simp only [go_sem,Nat.reduceLT,Nat.reduceAdd,Nat.reduceSub,upc_ii]
   repeat ((with_reducible refine And.intro ?_ ?_);focus exact an0)
   refine condM' rfl trivial (fun hc=>?_) (fun hc=>?_)
   ·have hk19:(bEq (((gd r8.List r5.1.toNat).Held).length:Nat) r8.Limit)=false:=by simpa using hc
    replace H:=cond_f hc H
    refine rg ctNo_ok ?_
    simp only [go_sem]
    refine seqM ?_
    refine fz_mean [7] ?_ ?_
    ·simp only [go_sem,Nat.reduceBEq]
     try exact at0
    simp only [go_sem,Nat.reduceBEq,Nat.reduceAdd]
    obtain ⟨f48,H⟩:=need_some.1 H
    replace f48:=capb_iff.1 f48
    refine draw_rule shT_ok ctNo_ok 2 (by kernel_rfl) (by kernel_rfl) ?_
    intro an han
    simp only [d_nil,d_cons,nxtD,xrD,xoD,roEq,minL,List.append_nil,refsOp,refs,refsL,mask,maskF,place,placeF,okLog,pairOk,hit,inL,slotsF,ren,rnN,nrH,nrB,List.replicate_zero,List.replicate_succ,Nat.sub_self,Nat.add_zero,Nat.zero_add,Nat.reduceSub,Nat.lt_add_one,go_sem,Nat.reduceLeDiff,Nat.reduceLT,Nat.reduceAdd,Nat.reduceSub,Nat.reduceBEq,upc_ii,f48]
    repeat ((with_reducible refine And.intro ?_ ?_);focus exact an2)
    refine sq ctNo_ok ?_
    simp only [go_sem]
    refine rg ctNo_ok ?_
    simp only [go_sem]
    refine cutO shT_ok ctNo_ok 1 ?_
    simp only [kO_normal,List.take_succ_cons,List.take_zero,List.drop_succ_cons,List.drop_zero,go_sem]
    repeat ((with_reducible refine And.intro ?_ ?_);focus exact an1)
    refine endO ?_
    refine seqM ?_
    refine draw_rule shT_ok ctNo_ok 0 (by kernel_rfl) (by kernel_rfl) ?_
    intro an han
    simp only [d_nil,d_cons,nxtD,xrD,xoD,roEq,minL,List.append_nil,refsOp,refs,mask,maskF,place,placeF,okLog,pairOk,hit,inL,slotsF,nrH,nrB,nrL,nr,List.replicate_zero,Nat.sub_self,Nat.add_zero,Nat.zero_add,Nat.reduceSub,Nat.lt_add_one,go_sem,Nat.reduceLeDiff,Nat.reduceLT,Nat.reduceAdd,Nat.reduceSub,Nat.reduceBEq]
    repeat ((with_reducible refine And.intro ?_ ?_);focus exact an2)
    obtain ⟨w49,hw50,H⟩:=bsi H
    replace hw50:=Option.some.inj hw50
    have lhw50:w49.length=1:=by rw [← hw50];exact cl
    obtain ⟨w51,hw52,H⟩:=bsi H
    replace hw52:=Option.some.inj hw52
    have lhw52:w51.length=((gd r8.List r5.1.toNat).Held).length+1:=by rw [← hw52];exact cl
    refine subF_mean (t2:=(tp 10 (.ro 0 0 true (fun _ _=>.top)::.ro 0 0 true (fun _ _=>.top)::.ptr 2 0 0 0::.int .i64 0::tp 57 []))) (h2:=[.lit 25 [.int .i64 p0.Limit,.int .i64 p0.Stay,.ro 3 p0.List.length false (enR c_TSleeper p0.List),.ro 43 p0.Group.length false (enR c_TStored p0.Group)],.lit 33 (.int .u8 r16.Head.Kind::.int .u8 r16.Head.Sub::.bool r16.Head.ToDs::.bool r16.Head.FromDs::.bool r16.Head.More::.bool r16.Head.Retry::.bool r16.Head.Sleep::.bool r16.Head.MoreData::.bool r16.Head.Protected::.int .i64 r16.Head.Duration::.int .u8 r16.Head.A1.x0::.int .u8 r16.Head.A1.x1::.int .u8 r16.Head.A1.x2::.int .u8 r16.Head.A1.x3::.int .u8 r16.Head.A1.x4::.int .u8 r16.Head.A1.x5::.int .u8 r16.Head.A2.x0::.int .u8 r16.Head.A2.x1::.int .u8 r16.Head.A2.x2::.int .u8 r16.Head.A2.x3::.int .u8 r16.Head.A2.x4::.int .u8 r16.Head.A2.x5::.int .u8 r16.Head.A3.x0::.int .u8 r16.Head.A3.x1::.int .u8 r16.Head.A3.x2::.int .u8 r16.Head.A3.x3::.int .u8 r16.Head.A3.x4::.int .u8 r16.Head.A3.x5::.int .u8 r16.Head.A4.x0::.int .u8 r16.Head.A4.x1::.int .u8 r16.Head.A4.x2::.int .u8 r16.Head.A4.x3::.int .u8 r16.Head.A4.x4::.int .u8 r16.Head.A4.x5::.int .i64 r16.Head.Seq::.int .i64 r16.Head.Frag::.int .i64 r16.Head.Tid::.int .u8 r16.Head.Ack::.bool r16.Head.Amsdu::.bool r16.Head.Eosp::.ro 1 r16.Body.length false (enR c_u8 r16.Body)::[]),.lit 25 [.int .i64 r8.Limit,.int .i64 r8.Stay,.sl 4 3 0 r8.List.length false,.sl 6 43 0 r8.Group.length false],.lit 25 [.int .i64 r8.Limit,.int .i64 r8.Stay,.sl 4 3 0 r8.List.length false,.sl 6 43 0 r8.Group.length false],.row 57 3 r8.List.length (upc (enR c_TSleeper r8.List) r5.1.toNat 0 [.int .i64 ((gd r8.List r5.1.toNat).Aid),.bool ((gd r8.List r5.1.toNat).Asleep),.sl 10 43 0 w51.length false]),.dead,.row 61 43 r8.Group.length (enR c_TStored r8.Group),.dead,.lit 61 (.int .u8 p2::.int .i64 p4::.int .u8 r16.Head.Kind::.int .u8 r16.Head.Sub::.bool r16.Head.ToDs::.bool r16.Head.FromDs::.bool r16.Head.More::.bool r16.Head.Retry::.bool r16.Head.Sleep::.bool r16.Head.MoreData::.bool r16.Head.Protected::.int .i64 r16.Head.Duration::.int .u8 r16.Head.A1.x0::.int .u8 r16.Head.A1.x1::.int .u8 r16.Head.A1.x2::.int .u8 r16.Head.A1.x3::.int .u8 r16.Head.A1.x4::.int .u8 r16.Head.A1.x5::.int .u8 r16.Head.A2.x0::.int .u8 r16.Head.A2.x1::.int .u8 r16.Head.A2.x2::.int .u8 r16.Head.A2.x3::.int .u8 r16.Head.A2.x4::.int .u8 r16.Head.A2.x5::.int .u8 r16.Head.A3.x0::.int .u8 r16.Head.A3.x1::.int .u8 r16.Head.A3.x2::.int .u8 r16.Head.A3.x3::.int .u8 r16.Head.A3.x4::.int .u8 r16.Head.A3.x5::.int .u8 r16.Head.A4.x0::.int .u8 r16.Head.A4.x1::.int .u8 r16.Head.A4.x2::.int .u8 r16.Head.A4.x3::.int .u8 r16.Head.A4.x4::.int .u8 r16.Head.A4.x5::.int .i64 r16.Head.Seq::.int .i64 r16.Head.Frag::.int .i64 r16.Head.Tid::.int .u8 r16.Head.Ack::.bool r16.Head.Amsdu::.bool r16.Head.Eosp::.ro 1 r16.Body.length false (enR c_u8 r16.Body)::[]),.row 61 43 w49.length (enR c_TStored w49),.row 61 43 w51.length (enR c_TStored w51)]) ?_ ?_
    ·refine SubF_of ⟨[some 0,some 1,some 2,some 3,some 4,some 5,some 6,some 7,some 8,some 9,some 10],?_,?_,by rfl,by rfl⟩
     ·simp [CvL,Cv,getM,tp,tp]
     ·exact ⟨(by simp [CvB,CvL,Cv,blkAt,geth]),(by simp [CvB,CvL,Cv,blkAt,geth]),(by simp [CvB,CvL,Cv,blkAt,geth,getM]),(by simp [CvB,CvL,Cv,blkAt,geth,getM]),(CvB_focG2 (i:=r5.1.toNat) (L:=r8.List) nr_TSleeper (fun x y hx=>by simp only [upc_ne hx]) (fun x y hx=>by simp only [upc_ne hx]) (fun y hy=>match y,hy with|0,_=>by simp [upc_ii,getL,Cv,enR,c_TSleeper,lhw52]|1,_=>by simp [upc_ii,getL,Cv,enR,c_TSleeper,lhw52]|2,_=>by simp [upc_ii,getL,Cv,getM,enR,c_TSleeper,lhw52]|(y+3),h=>absurd h (by omega))),CvB_dead,CvB_row nr_TStored rfl (fun _ _ _ _=>rfl),CvB_dead,(by simp [CvB,CvL,Cv,blkAt,geth]),CvB_row nr_TStored lhw50 (hw50 ▸ (lit_row (f:=c_TStored) [(TStored.mk p2 p4 (eF r16))] (fun _ _=>rfl) rfl)),CvB_row nr_TStored lhw52 (hw52 ▸ (app_row (f:=c_TStored) ((gd r8.List r5.1.toNat).Held) [(TStored.mk p2 p4 (eF r16))] (fun _ _ _ _=>rfl) (lit_row (f:=c_TStored) [(TStored.mk p2 p4 (eF r16))] (fun _ _=>rfl) rfl))),trivial⟩
    simp only [tp]
    refine fz2_mean [10] [4] ?_ ?_
    ·simp only [go_sem,Nat.reduceBEq,Nat.reduceAdd,fzObHF2,fzObB2]
     first|exact (foc_ob (L:=r8.List) (i:=r5.1.toNat) (fun a y=>nrefL_getL (nr_TSleeper a) y) (fun x y hx=>by simp only [upc_ne hx]) (fun y hy=>match y,hy with|0,_=>(by (simp [upc_ii,getL,fzOb,enR,c_TSleeper];all_goals (first|(with_reducible trivial)|(intros;exact nrefL_getL (NRf.h _) _)|(intros;exact nfc))))|1,_=>(by (simp [upc_ii,getL,fzOb,enR,c_TSleeper];all_goals (first|(with_reducible trivial)|(intros;exact nrefL_getL (NRf.h _) _)|(intros;exact nfc))))|2,_=>(by (simp [upc_ii,getL,fzOb,inL,geth,rowOb,enR,c_TSleeper];all_goals (first|(with_reducible trivial)|(intros;exact nrefL_getL (NRf.h _) _)|(intros;exact nfc))))|(y+3),h=>absurd h (by omega)))|(and_intros<;>first|exact (foc_ob (L:=r8.List) (i:=r5.1.toNat) (fun a y=>nrefL_getL (nr_TSleeper a) y) (fun x y hx=>by simp only [upc_ne hx]) (fun y hy=>match y,hy with|0,_=>(by (simp [upc_ii,getL,fzOb,inL,geth,rowOb,enR,c_TSleeper];all_goals (first|(with_reducible trivial)|(intros;exact nrefL_getL (NRf.h _) _)|(intros;exact nfc))))|1,_=>(by (simp [upc_ii,getL,fzOb,inL,geth,rowOb,enR,c_TSleeper];all_goals (first|(with_reducible trivial)|(intros;exact nrefL_getL (NRf.h _) _)|(intros;exact nfc))))|2,_=>(by (simp [upc_ii,getL,fzOb,inL,geth,rowOb,enR,c_TSleeper];all_goals (first|(with_reducible trivial)|(intros;exact nrefL_getL (NRf.h _) _)|(intros;exact nfc))))|(y+3),h=>absurd h (by omega)))|(with_reducible trivial)|omega|exact nfc|trivial)
    simp only [go_sem,Nat.reduceBEq,Nat.reduceAdd,fzH2,fzHF2,fzB2]
    obtain ⟨w53,hw54,H⟩:=bsi H
    replace hw54:=Option.some.inj hw54
    have lhw54:w53.length=r8.List.length:=by rw [← hw54];exact (by simp only [List.length_set])
    refine subF_mean (t2:=(tp 10 (.ro 0 0 true (fun _ _=>.top)::.ro 0 0 true (fun _ _=>.top)::.ptr 2 0 0 0::.int .i64 0::tp 57 []))) (h2:=[.lit 25 [.int .i64 p0.Limit,.int .i64 p0.Stay,.ro 3 p0.List.length false (enR c_TSleeper p0.List),.ro 43 p0.Group.length false (enR c_TStored p0.Group)],.lit 33 (.int .u8 r16.Head.Kind::.int .u8 r16.Head.Sub::.bool r16.Head.ToDs::.bool r16.Head.FromDs::.bool r16.Head.More::.bool r16.Head.Retry::.bool r16.Head.Sleep::.bool r16.Head.MoreData::.bool r16.Head.Protected::.int .i64 r16.Head.Duration::.int .u8 r16.Head.A1.x0::.int .u8 r16.Head.A1.x1::.int .u8 r16.Head.A1.x2::.int .u8 r16.Head.A1.x3::.int .u8 r16.Head.A1.x4::.int .u8 r16.Head.A1.x5::.int .u8 r16.Head.A2.x0::.int .u8 r16.Head.A2.x1::.int .u8 r16.Head.A2.x2::.int .u8 r16.Head.A2.x3::.int .u8 r16.Head.A2.x4::.int .u8 r16.Head.A2.x5::.int .u8 r16.Head.A3.x0::.int .u8 r16.Head.A3.x1::.int .u8 r16.Head.A3.x2::.int .u8 r16.Head.A3.x3::.int .u8 r16.Head.A3.x4::.int .u8 r16.Head.A3.x5::.int .u8 r16.Head.A4.x0::.int .u8 r16.Head.A4.x1::.int .u8 r16.Head.A4.x2::.int .u8 r16.Head.A4.x3::.int .u8 r16.Head.A4.x4::.int .u8 r16.Head.A4.x5::.int .i64 r16.Head.Seq::.int .i64 r16.Head.Frag::.int .i64 r16.Head.Tid::.int .u8 r16.Head.Ack::.bool r16.Head.Amsdu::.bool r16.Head.Eosp::.ro 1 r16.Body.length false (enR c_u8 r16.Body)::[]),.lit 25 [.int .i64 r8.Limit,.int .i64 r8.Stay,.sl 4 3 0 w53.length false,.sl 6 43 0 r8.Group.length false],.lit 25 [.int .i64 r8.Limit,.int .i64 r8.Stay,.sl 4 3 0 w53.length false,.sl 6 43 0 r8.Group.length false],.row 57 3 w53.length (enR c_TSleeper w53),.dead,.row 61 43 r8.Group.length (enR c_TStored r8.Group),.dead,.lit 61 (.int .u8 p2::.int .i64 p4::.int .u8 r16.Head.Kind::.int .u8 r16.Head.Sub::.bool r16.Head.ToDs::.bool r16.Head.FromDs::.bool r16.Head.More::.bool r16.Head.Retry::.bool r16.Head.Sleep::.bool r16.Head.MoreData::.bool r16.Head.Protected::.int .i64 r16.Head.Duration::.int .u8 r16.Head.A1.x0::.int .u8 r16.Head.A1.x1::.int .u8 r16.Head.A1.x2::.int .u8 r16.Head.A1.x3::.int .u8 r16.Head.A1.x4::.int .u8 r16.Head.A1.x5::.int .u8 r16.Head.A2.x0::.int .u8 r16.Head.A2.x1::.int .u8 r16.Head.A2.x2::.int .u8 r16.Head.A2.x3::.int .u8 r16.Head.A2.x4::.int .u8 r16.Head.A2.x5::.int .u8 r16.Head.A3.x0::.int .u8 r16.Head.A3.x1::.int .u8 r16.Head.A3.x2::.int .u8 r16.Head.A3.x3::.int .u8 r16.Head.A3.x4::.int .u8 r16.Head.A3.x5::.int .u8 r16.Head.A4.x0::.int .u8 r16.Head.A4.x1::.int .u8 r16.Head.A4.x2::.int .u8 r16.Head.A4.x3::.int .u8 r16.Head.A4.x4::.int .u8 r16.Head.A4.x5::.int .i64 r16.Head.Seq::.int .i64 r16.Head.Frag::.int .i64 r16.Head.Tid::.int .u8 r16.Head.Ack::.bool r16.Head.Amsdu::.bool r16.Head.Eosp::.ro 1 r16.Body.length false (enR c_u8 r16.Body)::[]),.row 61 43 w49.length (enR c_TStored w49),.dead]) ?_ ?_
    ·refine SubF_of ⟨[some 0,some 1,some 2,some 3,some 4,some 5,some 6,some 7,some 8,some 9,some 10],?_,?_,by rfl,by rfl⟩
     ·simp [CvL,Cv,getM,tp,tp]
     ·exact ⟨(by simp [CvB,CvL,Cv,blkAt,geth]),(by simp [CvB,CvL,Cv,blkAt,geth]),(by simp [CvB,CvL,Cv,blkAt,geth,getM,lhw54]),(by simp [CvB,CvL,Cv,blkAt,geth,getM,lhw54]),CvB_row nr_TSleeper lhw54 (hw54 ▸ (foc_row (L:=r8.List) (i:=r5.1.toNat) (fun a y=>nrefL_getL (nr_TSleeper a) y) (fun x y hx=>by simp only [upc_ne hx]) (fun y hy=>match y,hy with|0,_=>by simp [upc_ii,getL,fzV,enR,c_TSleeper]|1,_=>by simp [upc_ii,getL,fzV,enR,c_TSleeper]|2,_=>by simp [upc_ii,getL,fzV,inL,geth,enR,c_TSleeper,sub_enR0]|(y+3),h=>absurd h (by omega)))),CvB_dead,CvB_row nr_TStored rfl (fun _ _ _ _=>rfl),CvB_dead,(by simp [CvB,CvL,Cv,blkAt,geth]),CvB_row nr_TStored rfl (fun _ _ _ _=>rfl),CvB_dead,trivial⟩
    simp only [tp]
    refine rg ctNo_ok ?_
    simp only [go_sem,Nat.reduceLT,Nat.reduceAdd]
    obtain rfl:=Option.some.inj H
    refine ⟨[4,6,0,1,2,3,8],?_,?_,[],?_,?_,rfl⟩
    ·simp only [go_sem,Nat.reduceBEq]
     try exact at0
    ·simp only [go_sem,Nat.reduceBEq]
     try exact at0
    ·simp only [go_sem,Nat.reduceBEq]
     exact Cv_tup (CvL_cons (Cv_ronil (α:=TFrame)) (CvL_cons (Cv_ronil (α:=TFrame)) (CvL_cons (Cv_agg (CvL_cons Cv_int (CvL_cons Cv_int (CvL_cons (ro_row (by first|rfl|simp) (fun _ _ _ _=>rfl)) (CvL_cons (ro_row (by first|rfl|simp) (fun _ _ _ _=>rfl)) CvL_nil))))) (CvL_cons Cv_int CvL_nil))))
    ·simp only [go_sem,CvH]
   have hk19:(bEq (((gd r8.List r5.1.toNat).Held).length:Nat) r8.Limit)=true:=by simpa using hc
   replace H:=cond_t hc H
   refine seqM ?_
   refine regO ?_
   refine cutO shT_ok ctNo_ok 3 ?_
   simp only [kO_normal,List.take_succ_cons,List.take_zero,List.drop_succ_cons,List.drop_zero,go_sem,Nat.reduceLT,Nat.reduceAdd,Nat.reduceSub,upc_ii]
   repeat ((with_reducible refine And.intro ?_ ?_);focus exact an0)
   refine inlO (rs:=[.cell 4 61]) Try.func89 (by kernel_rfl) rfl rfl Try.ntmps89 (caps:=[]) (tc:=[.sl 5 43 0 (((gd r8.List r5.1.toNat).Held).length) false,.fn 90 []]) rfl (by simp only [go_sem]) rfl ?_
   simp only [List.length_cons,List.length_nil,Nat.reduceAdd,Nat.reduceSub,List.replicate_succ,List.replicate_zero,List.cons_append,List.nil_append]
   refine sq ctNo_ok ?_
   simp only [go_sem,Nat.reduceAdd]
   refine seqM ?_
   refine sq ctNo_ok ?_
   simp only [go_sem]
   repeat ((with_reducible refine And.intro ?_ ?_);focus exact an0)
   refine condM rfl trivial (fun hc=>?_) (fun hc=>?_)
   ·have hk20:(bLt (((gd r8.List r5.1.toNat).Held).length:Nat) 1)=true:=by simpa using hc
    replace H:=cond_t hc H
    cases H
   have hk20:(bLt (((gd r8.List r5.1.toNat).Held).length:Nat) 1)=false:=by simpa using hc
   replace H:=cond_f hc H
   refine rg ctNo_ok ?_
   simp only [go_sem]
   refine seqM ?_
   obtain ⟨f21,H⟩:=need_some.1 H
   replace f21:=inb_iff.1 f21
   refine rg ctNo_ok ?_
   simp only [go_sem,Nat.reduceLT,Nat.reduceAdd,f21]
   repeat ((with_reducible refine And.intro ?_ ?_);focus exact an6)
   refine seqM ?_
   refine sq ctNo_ok ?_
   simp only [go_sem]
   refine blkM ?_
   refine loop_den (fun s:Int × TStored=>(.sl 5 43 0 (((gd r8.List r5.1.toNat).Held).length) false::.fn 90 []::.top::.top::.ptr 9 0 0 0::.ptr 10 0 0 0::.int .i64 s.1::tp 26 [])) (fun s=>[.dead,.dead,.lit 25 [.int .i64 0,.int .i64 0,.ro 0 0 true (fun _ _=>.top),.ro 0 0 true (fun _ _=>.top)],.lit 25 [.int .i64 r8.Limit,.int .i64 r8.Stay,.sl 4 3 0 r8.List.length false,.sl 6 43 0 r8.Group.length false],.row 57 3 r8.List.length (upc (enR c_TSleeper r8.List) r5.1.toNat 2 [.sl 5 43 0 (((gd r8.List r5.1.toNat).Held).length) false]),.row 61 43 (((gd r8.List r5.1.toNat).Held).length) (enR c_TStored ((gd r8.List r5.1.toNat).Held)),.row 61 43 r8.Group.length (enR c_TStored r8.Group),.row 5 1 r16.Body.length (enR c_u8 r16.Body),.lit 61 (.int .u8 p2::.int .i64 p4::.int .u8 r16.Head.Kind::.int .u8 r16.Head.Sub::.bool r16.Head.ToDs::.bool r16.Head.FromDs::.bool r16.Head.More::.bool r16.Head.Retry::.bool r16.Head.Sleep::.bool r16.Head.MoreData::.bool r16.Head.Protected::.int .i64 r16.Head.Duration::.int .u8 r16.Head.A1.x0::.int .u8 r16.Head.A1.x1::.int .u8 r16.Head.A1.x2::.int .u8 r16.Head.A1.x3::.int .u8 r16.Head.A1.x4::.int .u8 r16.Head.A1.x5::.int .u8 r16.Head.A2.x0::.int .u8 r16.Head.A2.x1::.int .u8 r16.Head.A2.x2::.int .u8 r16.Head.A2.x3::.int .u8 r16.Head.A2.x4::.int .u8 r16.Head.A2.x5::.int .u8 r16.Head.A3.x0::.int .u8 r16.Head.A3.x1::.int .u8 r16.Head.A3.x2::.int .u8 r16.Head.A3.x3::.int .u8 r16.Head.A3.x4::.int .u8 r16.Head.A3.x5::.int .u8 r16.Head.A4.x0::.int .u8 r16.Head.A4.x1::.int .u8 r16.Head.A4.x2::.int .u8 r16.Head.A4.x3::.int .u8 r16.Head.A4.x4::.int .u8 r16.Head.A4.x5::.int .i64 r16.Head.Seq::.int .i64 r16.Head.Frag::.int .i64 r16.Head.Tid::.int .u8 r16.Head.Ack::.bool r16.Head.Amsdu::.bool r16.Head.Eosp::.sl 7 1 0 r16.Body.length false::[]),.lit 61 (.int .u8 0::.int .i64 0::.int .u8 0::.int .u8 0::.bool false::.bool false::.bool false::.bool false::.bool false::.bool false::.bool false::.int .i64 0::.int .u8 0::.int .u8 0::.int .u8 0::.int .u8 0::.int .u8 0::.int .u8 0::.int .u8 0::.int .u8 0::.int .u8 0::.int .u8 0::.int .u8 0::.int .u8 0::.int .u8 0::.int .u8 0::.int .u8 0::.int .u8 0::.int .u8 0::.int .u8 0::.int .u8 0::.int .u8 0::.int .u8 0::.int .u8 0::.int .u8 0::.int .u8 0::.int .i64 0::.int .i64 0::.int .i64 0::.int .u8 0::.bool false::.bool false::.ro 0 0 true (fun _ _=>.top)::[]),.lit 61 (.int .u8 s.2.Cat::.int .i64 s.2.At::.int .u8 s.2.Frame.Head.Kind::.int .u8 s.2.Frame.Head.Sub::.bool s.2.Frame.Head.ToDs::.bool s.2.Frame.Head.FromDs::.bool s.2.Frame.Head.More::.bool s.2.Frame.Head.Retry::.bool s.2.Frame.Head.Sleep::.bool s.2.Frame.Head.MoreData::.bool s.2.Frame.Head.Protected::.int .i64 s.2.Frame.Head.Duration::.int .u8 s.2.Frame.Head.A1.x0::.int .u8 s.2.Frame.Head.A1.x1::.int .u8 s.2.Frame.Head.A1.x2::.int .u8 s.2.Frame.Head.A1.x3::.int .u8 s.2.Frame.Head.A1.x4::.int .u8 s.2.Frame.Head.A1.x5::.int .u8 s.2.Frame.Head.A2.x0::.int .u8 s.2.Frame.Head.A2.x1::.int .u8 s.2.Frame.Head.A2.x2::.int .u8 s.2.Frame.Head.A2.x3::.int .u8 s.2.Frame.Head.A2.x4::.int .u8 s.2.Frame.Head.A2.x5::.int .u8 s.2.Frame.Head.A3.x0::.int .u8 s.2.Frame.Head.A3.x1::.int .u8 s.2.Frame.Head.A3.x2::.int .u8 s.2.Frame.Head.A3.x3::.int .u8 s.2.Frame.Head.A3.x4::.int .u8 s.2.Frame.Head.A3.x5::.int .u8 s.2.Frame.Head.A4.x0::.int .u8 s.2.Frame.Head.A4.x1::.int .u8 s.2.Frame.Head.A4.x2::.int .u8 s.2.Frame.Head.A4.x3::.int .u8 s.2.Frame.Head.A4.x4::.int .u8 s.2.Frame.Head.A4.x5::.int .i64 s.2.Frame.Head.Seq::.int .i64 s.2.Frame.Head.Frag::.int .i64 s.2.Frame.Head.Tid::.int .u8 s.2.Frame.Head.Ack::.bool s.2.Frame.Head.Amsdu::.bool s.2.Frame.Head.Eosp::.ro 1 s.2.Frame.Body.length false (enR c_u8 s.2.Frame.Body)::[])]) (fun e:TStored=>(tp 4 (.ptr 9 0 0 0::.ptr 10 0 0 0::tp 27 []))) (fun e=>[.dead,.dead,.lit 25 [.int .i64 0,.int .i64 0,.ro 0 0 true (fun _ _=>.top),.ro 0 0 true (fun _ _=>.top)],.lit 25 [.int .i64 r8.Limit,.int .i64 r8.Stay,.sl 4 3 0 r8.List.length false,.sl 6 43 0 r8.Group.length false],.row 57 3 r8.List.length (upc (enR c_TSleeper r8.List) r5.1.toNat 2 [.sl 5 43 0 (((gd r8.List r5.1.toNat).Held).length) false]),.row 61 43 (((gd r8.List r5.1.toNat).Held).length) (enR c_TStored ((gd r8.List r5.1.toNat).Held)),.row 61 43 r8.Group.length (enR c_TStored r8.Group),.row 5 1 r16.Body.length (enR c_u8 r16.Body),.lit 61 (.int .u8 p2::.int .i64 p4::.int .u8 r16.Head.Kind::.int .u8 r16.Head.Sub::.bool r16.Head.ToDs::.bool r16.Head.FromDs::.bool r16.Head.More::.bool r16.Head.Retry::.bool r16.Head.Sleep::.bool r16.Head.MoreData::.bool r16.Head.Protected::.int .i64 r16.Head.Duration::.int .u8 r16.Head.A1.x0::.int .u8 r16.Head.A1.x1::.int .u8 r16.Head.A1.x2::.int .u8 r16.Head.A1.x3::.int .u8 r16.Head.A1.x4::.int .u8 r16.Head.A1.x5::.int .u8 r16.Head.A2.x0::.int .u8 r16.Head.A2.x1::.int .u8 r16.Head.A2.x2::.int .u8 r16.Head.A2.x3::.int .u8 r16.Head.A2.x4::.int .u8 r16.Head.A2.x5::.int .u8 r16.Head.A3.x0::.int .u8 r16.Head.A3.x1::.int .u8 r16.Head.A3.x2::.int .u8 r16.Head.A3.x3::.int .u8 r16.Head.A3.x4::.int .u8 r16.Head.A3.x5::.int .u8 r16.Head.A4.x0::.int .u8 r16.Head.A4.x1::.int .u8 r16.Head.A4.x2::.int .u8 r16.Head.A4.x3::.int .u8 r16.Head.A4.x4::.int .u8 r16.Head.A4.x5::.int .i64 r16.Head.Seq::.int .i64 r16.Head.Frag::.int .i64 r16.Head.Tid::.int .u8 r16.Head.Ack::.bool r16.Head.Amsdu::.bool r16.Head.Eosp::.sl 7 1 0 r16.Body.length false::[]),.lit 61 (.int .u8 0::.int .i64 0::.int .u8 0::.int .u8 0::.bool false::.bool false::.bool false::.bool false::.bool false::.bool false::.bool false::.int .i64 0::.int .u8 0::.int .u8 0::.int .u8 0::.int .u8 0::.int .u8 0::.int .u8 0::.int .u8 0::.int .u8 0::.int .u8 0::.int .u8 0::.int .u8 0::.int .u8 0::.int .u8 0::.int .u8 0::.int .u8 0::.int .u8 0::.int .u8 0::.int .u8 0::.int .u8 0::.int .u8 0::.int .u8 0::.int .u8 0::.int .u8 0::.int .u8 0::.int .i64 0::.int .i64 0::.int .i64 0::.int .u8 0::.bool false::.bool false::.ro 0 0 true (fun _ _=>.top)::[]),.lit 61 (.int .u8 e.Cat::.int .i64 e.At::.int .u8 e.Frame.Head.Kind::.int .u8 e.Frame.Head.Sub::.bool e.Frame.Head.ToDs::.bool e.Frame.Head.FromDs::.bool e.Frame.Head.More::.bool e.Frame.Head.Retry::.bool e.Frame.Head.Sleep::.bool e.Frame.Head.MoreData::.bool e.Frame.Head.Protected::.int .i64 e.Frame.Head.Duration::.int .u8 e.Frame.Head.A1.x0::.int .u8 e.Frame.Head.A1.x1::.int .u8 e.Frame.Head.A1.x2::.int .u8 e.Frame.Head.A1.x3::.int .u8 e.Frame.Head.A1.x4::.int .u8 e.Frame.Head.A1.x5::.int .u8 e.Frame.Head.A2.x0::.int .u8 e.Frame.Head.A2.x1::.int .u8 e.Frame.Head.A2.x2::.int .u8 e.Frame.Head.A2.x3::.int .u8 e.Frame.Head.A2.x4::.int .u8 e.Frame.Head.A2.x5::.int .u8 e.Frame.Head.A3.x0::.int .u8 e.Frame.Head.A3.x1::.int .u8 e.Frame.Head.A3.x2::.int .u8 e.Frame.Head.A3.x3::.int .u8 e.Frame.Head.A3.x4::.int .u8 e.Frame.Head.A3.x5::.int .u8 e.Frame.Head.A4.x0::.int .u8 e.Frame.Head.A4.x1::.int .u8 e.Frame.Head.A4.x2::.int .u8 e.Frame.Head.A4.x3::.int .u8 e.Frame.Head.A4.x4::.int .u8 e.Frame.Head.A4.x5::.int .i64 e.Frame.Head.Seq::.int .i64 e.Frame.Head.Frag::.int .i64 e.Frame.Head.Tid::.int .u8 e.Frame.Head.Ack::.bool e.Frame.Head.Amsdu::.bool e.Frame.Head.Eosp::.ro 1 e.Frame.Body.length false (enR c_u8 e.Frame.Body)::[])]) H ?_ (fun s o H hn1_1 hn2_1=>?_) (fun w1_6 H=>?_)
   ·refine SubF_of ⟨[some 0,some 1,some 2,some 3,some 4,some 5,some 6,some 7,some 8,some 9,some 10],?_,?_,by rfl,by rfl⟩
    ·simp [CvL,Cv,getM,tp,tp]
    ·exact ⟨CvB_dead,CvB_dead,cv,cv,(CvB_focG (i:=r5.1.toNat) (L:=r8.List) nr_TSleeper (fun x y hx=>by simp only [upc_ne hx]) (fun y hy=>match y,hy with|0,_=>by simp [upc_ii,getL,Cv,enR,c_TSleeper]|1,_=>by simp [upc_ii,getL,Cv,enR,c_TSleeper]|2,_=>by simp [upc_ii,getL,Cv,getM,enR,c_TSleeper]|(y+3),h=>absurd h (by omega))),(CvB_same nfA),(CvB_same nfA),(CvB_same nfA),cv,cv,cv,trivial⟩
   ·obtain ⟨v1_1,v1_2⟩:=s
    unfold F24_L1 at H
    delta eF at H
    try dsimp only at H ⊢
    try simp only [tp]
    refine seqM ?_
    refine sq ctNo_ok ?_
    simp only [go_sem,Nat.reduceAdd]
    repeat ((with_reducible refine And.intro ?_ ?_);focus exact an0)
    refine condM' rfl trivial (fun hc=>?_) (fun hc=>?_)
    ·have hk22:(bLt v1_1 (((gd r8.List r5.1.toNat).Held).length:Nat))=false:=by simpa using hc
     replace H:=cond_f hc H
     refine rg ctNo_ok ?_
     simp only [go_sem]
     refine ⟨_,(Option.some.inj H).symm,?_⟩
     refine SubF_of ⟨[some 0,some 1,some 2,some 3,some 4,some 5,some 6,some 7,some 8,some 9,some 10],?_,?_,by rfl,by rfl⟩
     ·simp [CvL,Cv,getM]
     ·exact ⟨CvB_dead,CvB_dead,cv,cv,(CvB_focG (i:=r5.1.toNat) (L:=r8.List) nr_TSleeper (fun x y hx=>by simp only [upc_ne hx]) (fun y hy=>match y,hy with|0,_=>by simp [upc_ii,getL,Cv,enR,c_TSleeper]|1,_=>by simp [upc_ii,getL,Cv,enR,c_TSleeper]|2,_=>by simp [upc_ii,getL,Cv,getM,enR,c_TSleeper]|(y+3),h=>absurd h (by omega))),(CvB_same nfA),(CvB_same nfA),(CvB_same nfA),cv,cv,cv,trivial⟩
    have hk22:(bLt v1_1 (((gd r8.List r5.1.toNat).Held).length:Nat))=true:=by simpa using hc
    replace H:=cond_t hc H
    refine rg ctNo_ok ?_
    simp only [go_sem]
    refine seqM ?_
    refine blkM ?_
    refine seqM ?_
    obtain ⟨f23,H⟩:=need_some.1 H
    replace f23:=inb_iff.1 f23
    obtain ⟨r24,e25,H⟩:=bsi H
    refine draw_quiet shT_ok ct24t6_ok (by kernel_rfl) (by kernel_rfl) ?_
    simp only [go_sem,Nat.reduceLT,Nat.reduceAdd,ct24t6_90,body90,f23,e25]
    repeat ((with_reducible refine And.intro ?_ ?_);focus exact an0)
    refine condM' rfl trivial (fun hc=>?_) (fun hc=>?_)
    ·have hk26:(bLt r24 0)=false:=by simpa using hc
     replace H:=cond_f hc H
     refine rg ctNo_ok ?_
     simp only [go_sem]
     refine rg ctNo_ok ?_
     simp only [go_sem]
     refine ⟨_,(Option.some.inj H).symm,?_⟩
     refine SubF_of ⟨[some 0,some 1,some 2,some 3,some 4,some 5,some 6,some 7,some 8,some 9,some 10],?_,?_,by rfl,by rfl⟩
     ·simp [CvL,Cv,getM]
     ·exact ⟨CvB_dead,CvB_dead,cv,cv,(CvB_focG (i:=r5.1.toNat) (L:=r8.List) nr_TSleeper (fun x y hx=>by simp only [upc_ne hx]) (fun y hy=>match y,hy with|0,_=>by simp [upc_ii,getL,Cv,enR,c_TSleeper]|1,_=>by simp [upc_ii,getL,Cv,enR,c_TSleeper]|2,_=>by simp [upc_ii,getL,Cv,getM,enR,c_TSleeper]|(y+3),h=>absurd h (by omega))),(CvB_same nfA),(CvB_same nfA),(CvB_same nfA),cv,cv,cv,trivial⟩
    have hk26:(bLt r24 0)=true:=by simpa using hc
    replace H:=cond_t hc H
    obtain ⟨f27,H⟩:=need_some.1 H
    replace f27:=inb_iff.1 f27
    refine rg ctNo_ok ?_
    simp only [go_sem,Nat.reduceLT,Nat.reduceAdd,f27]
    repeat ((with_reducible refine And.intro ?_ ?_);focus exact an6)
    refine rg ctNo_ok ?_
    simp only [go_sem]
    refine ⟨_,(Option.some.inj H).symm,?_⟩
    refine SubF_of ⟨[some 0,some 1,some 2,some 3,some 4,some 5,some 6,some 7,some 8,some 9,some 10],?_,?_,by rfl,by rfl⟩
    ·simp [CvL,Cv,getM]
    ·exact ⟨CvB_dead,CvB_dead,cv,cv,(CvB_focG (i:=r5.1.toNat) (L:=r8.List) nr_TSleeper (fun x y hx=>by simp only [upc_ne hx]) (fun y hy=>match y,hy with|0,_=>by simp [upc_ii,getL,Cv,enR,c_TSleeper]|1,_=>by simp [upc_ii,getL,Cv,enR,c_TSleeper]|2,_=>by simp [upc_ii,getL,Cv,getM,enR,c_TSleeper]|(y+3),h=>absurd h (by omega))),(CvB_same nfA),(CvB_same nfA),(CvB_same nfA),cv,cv,cv,trivial⟩
   ·try dsimp only at H ⊢
    try simp only [tp]
    try simp only [m_normal]
    refine sq ctNo_ok ?_
    simp only [go_sem,Nat.reduceLT,Nat.reduceAdd]
    repeat ((with_reducible refine And.intro ?_ ?_);focus exact an6)
    refine rg ctNo_ok ?_
    simp only [go_sem,Nat.reduceLT,Nat.reduceAdd]
    refine cutO shT_ok ctNo_ok 3 ?_
    simp only [kO_normal,List.take_succ_cons,List.take_zero,List.drop_succ_cons,List.drop_zero,go_sem,Nat.reduceLeDiff,Nat.reduceLT,Nat.reduceAdd]
    repeat ((with_reducible refine And.intro ?_ ?_);focus exact an0)
    refine endO ?_
    refine seqM ?_
    refine sq ctNo_ok ?_
    simp only [go_sem,Nat.reduceLeDiff,Nat.reduceLT,Nat.reduceAdd]
    repeat ((with_reducible refine And.intro ?_ ?_);focus exact an6)
    refine condM rfl trivial (fun hc=>?_) (fun hc=>?_)
    ·have hk28:(bLt p2 w1_6.Cat)=true:=by simpa using hc
     replace H:=cond_t hc H
     refine seqM ?_
     refine regO ?_
     refine cutO shT_ok ctNo_ok 2 ?_
     simp only [kO_normal,List.take_succ_cons,List.take_zero,List.drop_succ_cons,List.drop_zero,go_sem,Nat.reduceLT,Nat.reduceAdd,reduceCtorEq]
     repeat ((with_reducible refine And.intro ?_ ?_);focus exact an6)
     refine fzO [7] ?_ ?_
     ·simp only [go_sem,Nat.reduceBEq]
      try exact at0
     simp only [go_sem,Nat.reduceBEq,Nat.reduceAdd]
     refine cutO shT_ok ctNo_ok 2 ?_
     simp only [kO_normal,List.take_succ_cons,List.take_zero,List.drop_succ_cons,List.drop_zero,go_sem,Nat.reduceLeDiff,Nat.reduceAdd]
     repeat ((with_reducible refine And.intro ?_ ?_);focus exact an6)
     refine endO ?_
     refine rg ctNo_ok ?_
     simp only [go_sem]
     refine cutO shT_ok ctNo_ok 1 ?_
     simp only [kO_normal,List.take_succ_cons,List.take_zero,List.drop_succ_cons,List.drop_zero,go_sem]
     repeat ((with_reducible refine And.intro ?_ ?_);focus exact an3)
     refine endO ?_
     refine seqM ?_
     refine draw_rule shT_ok ctNo_ok 0 (by kernel_rfl) (by kernel_rfl) ?_
     intro an han
     simp only [d_nil,d_cons,nxtD,xrD,xoD,roEq,minL,List.append_nil,refsOp,refs,mask,maskF,place,placeF,okLog,pairOk,hit,inL,slotsF,nrH,nrB,nrL,nr,List.replicate_zero,Nat.sub_self,Nat.add_zero,Nat.zero_add,Nat.reduceSub,Nat.lt_add_one,go_sem,Nat.reduceLeDiff,Nat.reduceLT,Nat.reduceAdd,Nat.reduceSub,Nat.reduceBEq]
     repeat ((with_reducible refine And.intro ?_ ?_);focus exact an7)
     refine fz2_mean [5] [4] ?_ ?_
     ·simp only [go_sem,Nat.reduceBEq,Nat.reduceAdd,fzObHF2,fzObB2]
      first|exact (foc_ob (L:=r8.List) (i:=r5.1.toNat) (fun a y=>nrefL_getL (nr_TSleeper a) y) (fun x y hx=>by simp only [upc_ne hx]) (fun y hy=>match y,hy with|0,_=>(by (simp [upc_ii,getL,fzOb,inL,geth,rowOb,enR,c_TSleeper];all_goals (first|(with_reducible trivial)|(intros;exact nrefL_getL (NRf.h _) _)|(intros;exact nfc))))|1,_=>(by (simp [upc_ii,getL,fzOb,inL,geth,rowOb,enR,c_TSleeper];all_goals (first|(with_reducible trivial)|(intros;exact nrefL_getL (NRf.h _) _)|(intros;exact nfc))))|2,_=>(by (simp [upc_ii,getL,fzOb,inL,geth,rowOb,enR,c_TSleeper];all_goals (first|(with_reducible trivial)|(intros;exact nrefL_getL (NRf.h _) _)|(intros;exact nfc))))|(y+3),h=>absurd h (by omega)))|(and_intros<;>first|exact (foc_ob (L:=r8.List) (i:=r5.1.toNat) (fun a y=>nrefL_getL (nr_TSleeper a) y) (fun x y hx=>by simp only [upc_ne hx]) (fun y hy=>match y,hy with|0,_=>(by (simp [upc_ii,getL,fzOb,enR,c_TSleeper];all_goals (first|(with_reducible trivial)|(intros;exact nrefL_getL (NRf.h _) _)|(intros;exact nfc))))|1,_=>(by (simp [upc_ii,getL,fzOb,enR,c_TSleeper];all_goals (first|(with_reducible trivial)|(intros;exact nrefL_getL (NRf.h _) _)|(intros;exact nfc))))|2,_=>(by (simp [upc_ii,getL,fzOb,inL,geth,rowOb,enR,c_TSleeper];all_goals (first|(with_reducible trivial)|(intros;exact nrefL_getL (NRf.h _) _)|(intros;exact nfc))))|(y+3),h=>absurd h (by omega)))|(with_reducible trivial)|omega|exact nfc|trivial)
     simp only [go_sem,Nat.reduceBEq,Nat.reduceAdd,fzH2,fzHF2,fzB2]
     obtain ⟨w29,hw30,H⟩:=bsi H
     replace hw30:=Option.some.inj hw30
     have lhw30:w29.length=r8.List.length:=by rw [← hw30];exact (by simp only [List.length_set])
     obtain ⟨w31,hw32,H⟩:=bsi H
     replace hw32:=Option.some.inj hw32
     have lhw32:w31.length=1:=by rw [← hw32];exact cl
     refine subF_mean (t2:=(tp 10 (.ro 0 0 true (fun _ _=>.top)::.sl 12 41 0 w31.length false::.ptr 2 0 0 0::.int .i64 0::tp 57 []))) (h2:=[.dead,.dead,.lit 25 [.int .i64 r8.Limit,.int .i64 r8.Stay,.sl 4 3 0 w29.length false,.sl 6 43 0 r8.Group.length false],.lit 25 [.int .i64 r8.Limit,.int .i64 r8.Stay,.sl 4 3 0 w29.length false,.sl 6 43 0 r8.Group.length false],.row 57 3 w29.length (enR c_TSleeper w29),.dead,.row 61 43 r8.Group.length (enR c_TStored r8.Group),.dead,.lit 61 (.int .u8 p2::.int .i64 p4::.int .u8 r16.Head.Kind::.int .u8 r16.Head.Sub::.bool r16.Head.ToDs::.bool r16.Head.FromDs::.bool r16.Head.More::.bool r16.Head.Retry::.bool r16.Head.Sleep::.bool r16.Head.MoreData::.bool r16.Head.Protected::.int .i64 r16.Head.Duration::.int .u8 r16.Head.A1.x0::.int .u8 r16.Head.A1.x1::.int .u8 r16.Head.A1.x2::.int .u8 r16.Head.A1.x3::.int .u8 r16.Head.A1.x4::.int .u8 r16.Head.A1.x5::.int .u8 r16.Head.A2.x0::.int .u8 r16.Head.A2.x1::.int .u8 r16.Head.A2.x2::.int .u8 r16.Head.A2.x3::.int .u8 r16.Head.A2.x4::.int .u8 r16.Head.A2.x5::.int .u8 r16.Head.A3.x0::.int .u8 r16.Head.A3.x1::.int .u8 r16.Head.A3.x2::.int .u8 r16.Head.A3.x3::.int .u8 r16.Head.A3.x4::.int .u8 r16.Head.A3.x5::.int .u8 r16.Head.A4.x0::.int .u8 r16.Head.A4.x1::.int .u8 r16.Head.A4.x2::.int .u8 r16.Head.A4.x3::.int .u8 r16.Head.A4.x4::.int .u8 r16.Head.A4.x5::.int .i64 r16.Head.Seq::.int .i64 r16.Head.Frag::.int .i64 r16.Head.Tid::.int .u8 r16.Head.Ack::.bool r16.Head.Amsdu::.bool r16.Head.Eosp::.ro 1 r16.Body.length false (enR c_u8 r16.Body)::[]),.lit 61 (.int .u8 w1_6.Cat::.int .i64 w1_6.At::.int .u8 w1_6.Frame.Head.Kind::.int .u8 w1_6.Frame.Head.Sub::.bool w1_6.Frame.Head.ToDs::.bool w1_6.Frame.Head.FromDs::.bool w1_6.Frame.Head.More::.bool w1_6.Frame.Head.Retry::.bool w1_6.Frame.Head.Sleep::.bool w1_6.Frame.Head.MoreData::.bool w1_6.Frame.Head.Protected::.int .i64 w1_6.Frame.Head.Duration::.int .u8 w1_6.Frame.Head.A1.x0::.int .u8 w1_6.Frame.Head.A1.x1::.int .u8 w1_6.Frame.Head.A1.x2::.int .u8 w1_6.Frame.Head.A1.x3::.int .u8 w1_6.Frame.Head.A1.x4::.int .u8 w1_6.Frame.Head.A1.x5::.int .u8 w1_6.Frame.Head.A2.x0::.int .u8 w1_6.Frame.Head.A2.x1::.int .u8 w1_6.Frame.Head.A2.x2::.int .u8 w1_6.Frame.Head.A2.x3::.int .u8 w1_6.Frame.Head.A2.x4::.int .u8 w1_6.Frame.Head.A2.x5::.int .u8 w1_6.Frame.Head.A3.x0::.int .u8 w1_6.Frame.Head.A3.x1::.int .u8 w1_6.Frame.Head.A3.x2::.int .u8 w1_6.Frame.Head.A3.x3::.int .u8 w1_6.Frame.Head.A3.x4::.int .u8 w1_6.Frame.Head.A3.x5::.int .u8 w1_6.Frame.Head.A4.x0::.int .u8 w1_6.Frame.Head.A4.x1::.int .u8 w1_6.Frame.Head.A4.x2::.int .u8 w1_6.Frame.Head.A4.x3::.int .u8 w1_6.Frame.Head.A4.x4::.int .u8 w1_6.Frame.Head.A4.x5::.int .i64 w1_6.Frame.Head.Seq::.int .i64 w1_6.Frame.Head.Frag::.int .i64 w1_6.Frame.Head.Tid::.int .u8 w1_6.Frame.Head.Ack::.bool w1_6.Frame.Head.Amsdu::.bool w1_6.Frame.Head.Eosp::.ro 1 w1_6.Frame.Body.length false (enR c_u8 w1_6.Frame.Body)::[]),.lit 61 (.int .u8 w1_6.Cat::.int .i64 w1_6.At::.int .u8 w1_6.Frame.Head.Kind::.int .u8 w1_6.Frame.Head.Sub::.bool w1_6.Frame.Head.ToDs::.bool w1_6.Frame.Head.FromDs::.bool w1_6.Frame.Head.More::.bool w1_6.Frame.Head.Retry::.bool w1_6.Frame.Head.Sleep::.bool w1_6.Frame.Head.MoreData::.bool w1_6.Frame.Head.Protected::.int .i64 w1_6.Frame.Head.Duration::.int .u8 w1_6.Frame.Head.A1.x0::.int .u8 w1_6.Frame.Head.A1.x1::.int .u8 w1_6.Frame.Head.A1.x2::.int .u8 w1_6.Frame.Head.A1.x3::.int .u8 w1_6.Frame.Head.A1.x4::.int .u8 w1_6.Frame.Head.A1.x5::.int .u8 w1_6.Frame.Head.A2.x0::.int .u8 w1_6.Frame.Head.A2.x1::.int .u8 w1_6.Frame.Head.A2.x2::.int .u8 w1_6.Frame.Head.A2.x3::.int .u8 w1_6.Frame.Head.A2.x4::.int .u8 w1_6.Frame.Head.A2.x5::.int .u8 w1_6.Frame.Head.A3.x0::.int .u8 w1_6.Frame.Head.A3.x1::.int .u8 w1_6.Frame.Head.A3.x2::.int .u8 w1_6.Frame.Head.A3.x3::.int .u8 w1_6.Frame.Head.A3.x4::.int .u8 w1_6.Frame.Head.A3.x5::.int .u8 w1_6.Frame.Head.A4.x0::.int .u8 w1_6.Frame.Head.A4.x1::.int .u8 w1_6.Frame.Head.A4.x2::.int .u8 w1_6.Frame.Head.A4.x3::.int .u8 w1_6.Frame.Head.A4.x4::.int .u8 w1_6.Frame.Head.A4.x5::.int .i64 w1_6.Frame.Head.Seq::.int .i64 w1_6.Frame.Head.Frag::.int .i64 w1_6.Frame.Head.Tid::.int .u8 w1_6.Frame.Head.Ack::.bool w1_6.Frame.Head.Amsdu::.bool w1_6.Frame.Head.Eosp::.ro 1 w1_6.Frame.Body.length false (enR c_u8 w1_6.Frame.Body)::[]),.lit 5 [.int .u8 w1_6.Cat],.row 33 41 w31.length (enR c_TFrame w31)]) ?_ ?_
     ·refine SubF_of ⟨[some 0,some 1,some 2,some 3,some 4,some 5,some 6,some 7,some 8,some 9,some 10,some 11,some 12],?_,?_,by rfl,by rfl⟩
      ·simp [CvL,Cv,getM,tp,tp,lhw32]
      ·exact ⟨CvB_dead,CvB_dead,(by simp [CvB,CvL,Cv,blkAt,geth,getM,lhw30]),(by simp [CvB,CvL,Cv,blkAt,geth,getM,lhw30]),CvB_row nr_TSleeper lhw30 (hw30 ▸ (foc_row (L:=r8.List) (i:=r5.1.toNat) (fun a y=>nrefL_getL (nr_TSleeper a) y) (fun x y hx=>by simp only [upc_ne hx]) (fun y hy=>match y,hy with|0,_=>by simp [upc_ii,getL,fzV,enR,c_TSleeper]|1,_=>by simp [upc_ii,getL,fzV,enR,c_TSleeper]|2,_=>by simp [upc_ii,getL,fzV,inL,geth,enR,c_TSleeper,sub_enR0]|(y+3),h=>absurd h (by omega)))),CvB_dead,CvB_row nr_TStored rfl (fun _ _ _ _=>rfl),CvB_dead,(by simp [CvB,CvL,Cv,blkAt,geth]),(by simp [CvB,CvL,Cv,blkAt,geth]),(by simp [CvB,CvL,Cv,blkAt,geth]),(by simp [CvB,CvL,Cv,blkAt,geth]),CvB_row nr_TFrame lhw32 (hw32 ▸ (lit_row (f:=c_TFrame) [r16] (fun _ _=>rfl) rfl)),trivial⟩
     simp only [tp]
     refine rg ctNo_ok ?_
     simp only [go_sem,Nat.reduceLT,Nat.reduceAdd]
     obtain rfl:=Option.some.inj H
     refine ⟨[12,4,6,2,3,8,9,10,11],?_,?_,[],?_,?_,rfl⟩
     ·simp only [go_sem,Nat.reduceBEq]
      try exact at0
     ·simp only [go_sem,Nat.reduceBEq]
      try exact at0
     ·simp only [go_sem,Nat.reduceBEq]
      exact Cv_tup (CvL_cons (Cv_ronil (α:=TFrame)) (CvL_cons (ro_row (by first|rfl|simp) (fun _ _ _ _=>rfl)) (CvL_cons (Cv_agg (CvL_cons Cv_int (CvL_cons Cv_int (CvL_cons (ro_row (by first|rfl|simp) (fun _ _ _ _=>rfl)) (CvL_cons (ro_row (by first|rfl|simp) (fun _ _ _ _=>rfl)) CvL_nil))))) (CvL_cons Cv_int CvL_nil))))
     ·simp only [go_sem,CvH]
    have hk28:(bLt p2 w1_6.Cat)=false:=by simpa using hc
    replace H:=cond_f hc H
    refine rg ctNo_ok ?_
    simp only [go_sem]
    refine seqM ?_
    obtain ⟨r33,e34,H⟩:=bsi H
    refine rg ct24t7_ok ?_
    simp only [go_sem,Nat.reduceLT,Nat.reduceAdd,Nat.reduceSub,upc_ii,ct24t7_58,body58_1,e34]
    repeat ((with_reducible refine And.intro ?_ ?_);focus exact an0)
    refine seqM ?_
    obtain ⟨f35,H⟩:=need_some.1 H
    replace f35:=inb_iff.1 f35
    refine rg ctNo_ok ?_
    simp only [go_sem,Nat.reduceLeDiff,Nat.reduceLT,Nat.reduceAdd,Nat.reduceSub,reduceCtorEq,upc_ii,f35]
    repeat ((with_reducible refine And.intro ?_ ?_);focus exact an6)
    obtain ⟨f36,H⟩:=need_some.1 H
    replace f36:=delb_iff.1 f36
    refine rg ct24t8_ok ?_
    simp only [go_sem,Nat.reduceLT,Nat.reduceAdd,Nat.reduceSub,upc_ii,ct24t8_60,delN,f36]
    repeat ((with_reducible refine And.intro ?_ ?_);focus exact an3)
    refine seqM ?_
    obtain ⟨w37,hw38,H⟩:=bsi H
    replace hw38:=Option.some.inj hw38
    have lhw38:w37.length=1:=by rw [← hw38];exact cl
    obtain ⟨w39,hw40,H⟩:=bsi H
    replace hw40:=Option.some.inj hw40
    have lhw40:w39.length=((gd r8.List r5.1.toNat).Held).length - ((wr .i64 (r33+1)).toNat - r33.toNat):=by rw [← hw40];exact (del_len f36 cl)
    refine subF_mean (t2:=(.ptr 4 3 r5.1.toNat 2::tp 4 (.ptr 8 0 0 0::.sl 12 41 0 w37.length false::tp 51 []))) (h2:=[.dead,.dead,.lit 25 [.int .i64 0,.int .i64 0,.ro 0 0 true (fun _ _=>.top),.ro 0 0 true (fun _ _=>.top)],.lit 25 [.int .i64 r8.Limit,.int .i64 r8.Stay,.sl 4 3 0 r8.List.length false,.sl 6 43 0 r8.Group.length false],.row 57 3 r8.List.length (upc (enR c_TSleeper r8.List) r5.1.toNat 0 [.int .i64 ((gd r8.List r5.1.toNat).Aid),.bool ((gd r8.List r5.1.toNat).Asleep),.sl 13 43 0 w39.length false]),.dead,.row 61 43 r8.Group.length (enR c_TStored r8.Group),.row 5 1 r16.Body.length (enR c_u8 r16.Body),.lit 61 (.int .u8 p2::.int .i64 p4::.int .u8 r16.Head.Kind::.int .u8 r16.Head.Sub::.bool r16.Head.ToDs::.bool r16.Head.FromDs::.bool r16.Head.More::.bool r16.Head.Retry::.bool r16.Head.Sleep::.bool r16.Head.MoreData::.bool r16.Head.Protected::.int .i64 r16.Head.Duration::.int .u8 r16.Head.A1.x0::.int .u8 r16.Head.A1.x1::.int .u8 r16.Head.A1.x2::.int .u8 r16.Head.A1.x3::.int .u8 r16.Head.A1.x4::.int .u8 r16.Head.A1.x5::.int .u8 r16.Head.A2.x0::.int .u8 r16.Head.A2.x1::.int .u8 r16.Head.A2.x2::.int .u8 r16.Head.A2.x3::.int .u8 r16.Head.A2.x4::.int .u8 r16.Head.A2.x5::.int .u8 r16.Head.A3.x0::.int .u8 r16.Head.A3.x1::.int .u8 r16.Head.A3.x2::.int .u8 r16.Head.A3.x3::.int .u8 r16.Head.A3.x4::.int .u8 r16.Head.A3.x5::.int .u8 r16.Head.A4.x0::.int .u8 r16.Head.A4.x1::.int .u8 r16.Head.A4.x2::.int .u8 r16.Head.A4.x3::.int .u8 r16.Head.A4.x4::.int .u8 r16.Head.A4.x5::.int .i64 r16.Head.Seq::.int .i64 r16.Head.Frag::.int .i64 r16.Head.Tid::.int .u8 r16.Head.Ack::.bool r16.Head.Amsdu::.bool r16.Head.Eosp::.sl 7 1 0 r16.Body.length false::[]),.lit 61 (.int .u8 w1_6.Cat::.int .i64 w1_6.At::.int .u8 w1_6.Frame.Head.Kind::.int .u8 w1_6.Frame.Head.Sub::.bool w1_6.Frame.Head.ToDs::.bool w1_6.Frame.Head.FromDs::.bool w1_6.Frame.Head.More::.bool w1_6.Frame.Head.Retry::.bool w1_6.Frame.Head.Sleep::.bool w1_6.Frame.Head.MoreData::.bool w1_6.Frame.Head.Protected::.int .i64 w1_6.Frame.Head.Duration::.int .u8 w1_6.Frame.Head.A1.x0::.int .u8 w1_6.Frame.Head.A1.x1::.int .u8 w1_6.Frame.Head.A1.x2::.int .u8 w1_6.Frame.Head.A1.x3::.int .u8 w1_6.Frame.Head.A1.x4::.int .u8 w1_6.Frame.Head.A1.x5::.int .u8 w1_6.Frame.Head.A2.x0::.int .u8 w1_6.Frame.Head.A2.x1::.int .u8 w1_6.Frame.Head.A2.x2::.int .u8 w1_6.Frame.Head.A2.x3::.int .u8 w1_6.Frame.Head.A2.x4::.int .u8 w1_6.Frame.Head.A2.x5::.int .u8 w1_6.Frame.Head.A3.x0::.int .u8 w1_6.Frame.Head.A3.x1::.int .u8 w1_6.Frame.Head.A3.x2::.int .u8 w1_6.Frame.Head.A3.x3::.int .u8 w1_6.Frame.Head.A3.x4::.int .u8 w1_6.Frame.Head.A3.x5::.int .u8 w1_6.Frame.Head.A4.x0::.int .u8 w1_6.Frame.Head.A4.x1::.int .u8 w1_6.Frame.Head.A4.x2::.int .u8 w1_6.Frame.Head.A4.x3::.int .u8 w1_6.Frame.Head.A4.x4::.int .u8 w1_6.Frame.Head.A4.x5::.int .i64 w1_6.Frame.Head.Seq::.int .i64 w1_6.Frame.Head.Frag::.int .i64 w1_6.Frame.Head.Tid::.int .u8 w1_6.Frame.Head.Ack::.bool w1_6.Frame.Head.Amsdu::.bool w1_6.Frame.Head.Eosp::.ro 1 w1_6.Frame.Body.length false (enR c_u8 w1_6.Frame.Body)::[]),.lit 61 (.int .u8 w1_6.Cat::.int .i64 w1_6.At::.int .u8 w1_6.Frame.Head.Kind::.int .u8 w1_6.Frame.Head.Sub::.bool w1_6.Frame.Head.ToDs::.bool w1_6.Frame.Head.FromDs::.bool w1_6.Frame.Head.More::.bool w1_6.Frame.Head.Retry::.bool w1_6.Frame.Head.Sleep::.bool w1_6.Frame.Head.MoreData::.bool w1_6.Frame.Head.Protected::.int .i64 w1_6.Frame.Head.Duration::.int .u8 w1_6.Frame.Head.A1.x0::.int .u8 w1_6.Frame.Head.A1.x1::.int .u8 w1_6.Frame.Head.A1.x2::.int .u8 w1_6.Frame.Head.A1.x3::.int .u8 w1_6.Frame.Head.A1.x4::.int .u8 w1_6.Frame.Head.A1.x5::.int .u8 w1_6.Frame.Head.A2.x0::.int .u8 w1_6.Frame.Head.A2.x1::.int .u8 w1_6.Frame.Head.A2.x2::.int .u8 w1_6.Frame.Head.A2.x3::.int .u8 w1_6.Frame.Head.A2.x4::.int .u8 w1_6.Frame.Head.A2.x5::.int .u8 w1_6.Frame.Head.A3.x0::.int .u8 w1_6.Frame.Head.A3.x1::.int .u8 w1_6.Frame.Head.A3.x2::.int .u8 w1_6.Frame.Head.A3.x3::.int .u8 w1_6.Frame.Head.A3.x4::.int .u8 w1_6.Frame.Head.A3.x5::.int .u8 w1_6.Frame.Head.A4.x0::.int .u8 w1_6.Frame.Head.A4.x1::.int .u8 w1_6.Frame.Head.A4.x2::.int .u8 w1_6.Frame.Head.A4.x3::.int .u8 w1_6.Frame.Head.A4.x4::.int .u8 w1_6.Frame.Head.A4.x5::.int .i64 w1_6.Frame.Head.Seq::.int .i64 w1_6.Frame.Head.Frag::.int .i64 w1_6.Frame.Head.Tid::.int .u8 w1_6.Frame.Head.Ack::.bool w1_6.Frame.Head.Amsdu::.bool w1_6.Frame.Head.Eosp::.ro 1 w1_6.Frame.Body.length false (enR c_u8 w1_6.Frame.Body)::[]),.lit 5 [.int .u8 w1_6.Cat],.row 33 41 w37.length (enR c_TFrame w37),.row 61 43 w39.length (enR c_TStored w39)]) ?_ ?_
    ·refine SubF_of ⟨[some 0,some 1,some 2,some 3,some 4,some 5,some 6,some 7,some 8,some 9,some 10,some 11,some 12,some 13],?_,?_,by rfl,by rfl⟩
     ·simp [CvL,Cv,getM,tp,tp,lhw38]
     ·exact ⟨CvB_dead,CvB_dead,(by simp [CvB,CvL,Cv,blkAt,geth]),(by simp [CvB,CvL,Cv,blkAt,geth,getM]),(CvB_focG2 (i:=r5.1.toNat) (L:=r8.List) nr_TSleeper (fun x y hx=>by simp only [upc_ne hx]) (fun x y hx=>by simp only [upc_ne hx]) (fun y hy=>match y,hy with|0,_=>by simp [upc_ii,getL,Cv,enR,c_TSleeper,lhw40]|1,_=>by simp [upc_ii,getL,Cv,enR,c_TSleeper,lhw40]|2,_=>by simp [upc_ii,getL,Cv,getM,enR,c_TSleeper,lhw40]|(y+3),h=>absurd h (by omega))),CvB_dead,CvB_row nr_TStored rfl (fun _ _ _ _=>rfl),CvB_row nr_u8 rfl (fun _ _ _ _=>rfl),(by simp [CvB,CvL,Cv,blkAt,geth,getM]),(by simp [CvB,CvL,Cv,blkAt,geth]),(by simp [CvB,CvL,Cv,blkAt,geth]),(by simp [CvB,CvL,Cv,blkAt,geth]),CvB_row nr_TFrame lhw38 (hw38 ▸ (lit_row (f:=c_TFrame) [(eF ((gd ((gd r8.List r5.1.toNat).Held) r33.toNat).Frame))] (fun _ _=>rfl) rfl)),CvB_row nr_TStored lhw40 (hw40 ▸ (del_row f36 cl (fun _ _ _ _=>rfl))),trivial⟩
    simp only [tp]
    refine fz_mean [7] ?_ ?_
    ·simp only [go_sem,Nat.reduceBEq]
     try exact at0
    simp only [go_sem,Nat.reduceBEq,Nat.reduceAdd]
    obtain ⟨f41,H⟩:=need_some.1 H
    replace f41:=capb_iff.1 f41
    refine draw_rule shT_ok ctNo_ok 2 (by kernel_rfl) (by kernel_rfl) ?_
    intro an han
    simp only [d_nil,d_cons,nxtD,xrD,xoD,roEq,minL,List.append_nil,refsOp,refs,refsL,mask,maskF,place,placeF,okLog,pairOk,hit,inL,slotsF,ren,rnN,nrH,nrB,List.replicate_zero,List.replicate_succ,Nat.sub_self,Nat.add_zero,Nat.zero_add,Nat.reduceSub,Nat.zero_le,Nat.lt_add_one,go_sem,Nat.reduceLeDiff,Nat.reduceLT,Nat.reduceAdd,Nat.reduceSub,Nat.reduceBEq,upc_ii,f41]
    repeat ((with_reducible refine And.intro ?_ ?_);focus exact an2)
    refine sq ctNo_ok ?_
    simp only [go_sem]
    refine rg ctNo_ok ?_
    simp only [go_sem]
    refine cutO shT_ok ctNo_ok 1 ?_
    simp only [kO_normal,List.take_succ_cons,List.take_zero,List.drop_succ_cons,List.drop_zero,go_sem]
    repeat ((with_reducible refine And.intro ?_ ?_);focus exact an1)
    refine endO ?_
    refine seqM ?_
    refine draw_rule shT_ok ctNo_ok 0 (by kernel_rfl) (by kernel_rfl) ?_
    intro an han
    simp only [d_nil,d_cons,nxtD,xrD,xoD,roEq,minL,List.append_nil,refsOp,refs,mask,maskF,place,placeF,okLog,pairOk,hit,inL,slotsF,nrH,nrB,nrL,nr,List.replicate_zero,Nat.sub_self,Nat.add_zero,Nat.zero_add,Nat.reduceSub,Nat.lt_add_one,go_sem,Nat.reduceLeDiff,Nat.reduceLT,Nat.reduceAdd,Nat.reduceSub,Nat.reduceBEq]
    repeat ((with_reducible refine And.intro ?_ ?_);focus exact an2)
    obtain ⟨w42,hw43,H⟩:=bsi H
    replace hw43:=Option.some.inj hw43
    have lhw43:w42.length=1:=by rw [← hw43];exact cl
    obtain ⟨w44,hw45,H⟩:=bsi H
    replace hw45:=Option.some.inj hw45
    have lhw45:w44.length=w39.length+1:=by rw [← hw45];exact cl
    refine subF_mean (t2:=(tp 10 (.ro 0 0 true (fun _ _=>.top)::.sl 12 41 0 w37.length false::.ptr 2 0 0 0::.int .i64 0::tp 57 []))) (h2:=[.dead,.dead,.lit 25 [.int .i64 r8.Limit,.int .i64 r8.Stay,.sl 4 3 0 r8.List.length false,.sl 6 43 0 r8.Group.length false],.lit 25 [.int .i64 r8.Limit,.int .i64 r8.Stay,.sl 4 3 0 r8.List.length false,.sl 6 43 0 r8.Group.length false],.row 57 3 r8.List.length (upc (enR c_TSleeper r8.List) r5.1.toNat 0 [.int .i64 ((gd r8.List r5.1.toNat).Aid),.bool ((gd r8.List r5.1.toNat).Asleep),.sl 15 43 0 w44.length false]),.dead,.row 61 43 r8.Group.length (enR c_TStored r8.Group),.dead,.lit 61 (.int .u8 p2::.int .i64 p4::.int .u8 r16.Head.Kind::.int .u8 r16.Head.Sub::.bool r16.Head.ToDs::.bool r16.Head.FromDs::.bool r16.Head.More::.bool r16.Head.Retry::.bool r16.Head.Sleep::.bool r16.Head.MoreData::.bool r16.Head.Protected::.int .i64 r16.Head.Duration::.int .u8 r16.Head.A1.x0::.int .u8 r16.Head.A1.x1::.int .u8 r16.Head.A1.x2::.int .u8 r16.Head.A1.x3::.int .u8 r16.Head.A1.x4::.int .u8 r16.Head.A1.x5::.int .u8 r16.Head.A2.x0::.int .u8 r16.Head.A2.x1::.int .u8 r16.Head.A2.x2::.int .u8 r16.Head.A2.x3::.int .u8 r16.Head.A2.x4::.int .u8 r16.Head.A2.x5::.int .u8 r16.Head.A3.x0::.int .u8 r16.Head.A3.x1::.int .u8 r16.Head.A3.x2::.int .u8 r16.Head.A3.x3::.int .u8 r16.Head.A3.x4::.int .u8 r16.Head.A3.x5::.int .u8 r16.Head.A4.x0::.int .u8 r16.Head.A4.x1::.int .u8 r16.Head.A4.x2::.int .u8 r16.Head.A4.x3::.int .u8 r16.Head.A4.x4::.int .u8 r16.Head.A4.x5::.int .i64 r16.Head.Seq::.int .i64 r16.Head.Frag::.int .i64 r16.Head.Tid::.int .u8 r16.Head.Ack::.bool r16.Head.Amsdu::.bool r16.Head.Eosp::.ro 1 r16.Body.length false (enR c_u8 r16.Body)::[]),.lit 61 (.int .u8 w1_6.Cat::.int .i64 w1_6.At::.int .u8 w1_6.Frame.Head.Kind::.int .u8 w1_6.Frame.Head.Sub::.bool w1_6.Frame.Head.ToDs::.bool w1_6.Frame.Head.FromDs::.bool w1_6.Frame.Head.More::.bool w1_6.Frame.Head.Retry::.bool w1_6.Frame.Head.Sleep::.bool w1_6.Frame.Head.MoreData::.bool w1_6.Frame.Head.Protected::.int .i64 w1_6.Frame.Head.Duration::.int .u8 w1_6.Frame.Head.A1.x0::.int .u8 w1_6.Frame.Head.A1.x1::.int .u8 w1_6.Frame.Head.A1.x2::.int .u8 w1_6.Frame.Head.A1.x3::.int .u8 w1_6.Frame.Head.A1.x4::.int .u8 w1_6.Frame.Head.A1.x5::.int .u8 w1_6.Frame.Head.A2.x0::.int .u8 w1_6.Frame.Head.A2.x1::.int .u8 w1_6.Frame.Head.A2.x2::.int .u8 w1_6.Frame.Head.A2.x3::.int .u8 w1_6.Frame.Head.A2.x4::.int .u8 w1_6.Frame.Head.A2.x5::.int .u8 w1_6.Frame.Head.A3.x0::.int .u8 w1_6.Frame.Head.A3.x1::.int .u8 w1_6.Frame.Head.A3.x2::.int .u8 w1_6.Frame.Head.A3.x3::.int .u8 w1_6.Frame.Head.A3.x4::.int .u8 w1_6.Frame.Head.A3.x5::.int .u8 w1_6.Frame.Head.A4.x0::.int .u8 w1_6.Frame.Head.A4.x1::.int .u8 w1_6.Frame.Head.A4.x2::.int .u8 w1_6.Frame.Head.A4.x3::.int .u8 w1_6.Frame.Head.A4.x4::.int .u8 w1_6.Frame.Head.A4.x5::.int .i64 w1_6.Frame.Head.Seq::.int .i64 w1_6.Frame.Head.Frag::.int .i64 w1_6.Frame.Head.Tid::.int .u8 w1_6.Frame.Head.Ack::.bool w1_6.Frame.Head.Amsdu::.bool w1_6.Frame.Head.Eosp::.ro 1 w1_6.Frame.Body.length false (enR c_u8 w1_6.Frame.Body)::[]),.lit 61 (.int .u8 w1_6.Cat::.int .i64 w1_6.At::.int .u8 w1_6.Frame.Head.Kind::.int .u8 w1_6.Frame.Head.Sub::.bool w1_6.Frame.Head.ToDs::.bool w1_6.Frame.Head.FromDs::.bool w1_6.Frame.Head.More::.bool w1_6.Frame.Head.Retry::.bool w1_6.Frame.Head.Sleep::.bool w1_6.Frame.Head.MoreData::.bool w1_6.Frame.Head.Protected::.int .i64 w1_6.Frame.Head.Duration::.int .u8 w1_6.Frame.Head.A1.x0::.int .u8 w1_6.Frame.Head.A1.x1::.int .u8 w1_6.Frame.Head.A1.x2::.int .u8 w1_6.Frame.Head.A1.x3::.int .u8 w1_6.Frame.Head.A1.x4::.int .u8 w1_6.Frame.Head.A1.x5::.int .u8 w1_6.Frame.Head.A2.x0::.int .u8 w1_6.Frame.Head.A2.x1::.int .u8 w1_6.Frame.Head.A2.x2::.int .u8 w1_6.Frame.Head.A2.x3::.int .u8 w1_6.Frame.Head.A2.x4::.int .u8 w1_6.Frame.Head.A2.x5::.int .u8 w1_6.Frame.Head.A3.x0::.int .u8 w1_6.Frame.Head.A3.x1::.int .u8 w1_6.Frame.Head.A3.x2::.int .u8 w1_6.Frame.Head.A3.x3::.int .u8 w1_6.Frame.Head.A3.x4::.int .u8 w1_6.Frame.Head.A3.x5::.int .u8 w1_6.Frame.Head.A4.x0::.int .u8 w1_6.Frame.Head.A4.x1::.int .u8 w1_6.Frame.Head.A4.x2::.int .u8 w1_6.Frame.Head.A4.x3::.int .u8 w1_6.Frame.Head.A4.x4::.int .u8 w1_6.Frame.Head.A4.x5::.int .i64 w1_6.Frame.Head.Seq::.int .i64 w1_6.Frame.Head.Frag::.int .i64 w1_6.Frame.Head.Tid::.int .u8 w1_6.Frame.Head.Ack::.bool w1_6.Frame.Head.Amsdu::.bool w1_6.Frame.Head.Eosp::.ro 1 w1_6.Frame.Body.length false (enR c_u8 w1_6.Frame.Body)::[]),.lit 5 [.int .u8 w1_6.Cat],.row 33 41 w37.length (enR c_TFrame w37),.dead,.row 61 43 w42.length (enR c_TStored w42),.row 61 43 w44.length (enR c_TStored w44)]) ?_ ?_
    ·refine SubF_of ⟨[some 0,some 1,some 2,some 3,some 4,some 5,some 6,some 7,some 8,some 9,some 10,some 11,some 12,some 13,some 14,some 15],?_,?_,by rfl,by rfl⟩
     ·simp [CvL,Cv,getM,tp,tp]
     ·exact ⟨CvB_dead,CvB_dead,(by simp [CvB,CvL,Cv,blkAt,geth,getM]),(by simp [CvB,CvL,Cv,blkAt,geth,getM]),(CvB_focG2 (i:=r5.1.toNat) (L:=r8.List) nr_TSleeper (fun x y hx=>by simp only [upc_ne hx]) (fun x y hx=>by simp only [upc_ne hx]) (fun y hy=>match y,hy with|0,_=>by simp [upc_ii,getL,Cv,enR,c_TSleeper,lhw45]|1,_=>by simp [upc_ii,getL,Cv,enR,c_TSleeper,lhw45]|2,_=>by simp [upc_ii,getL,Cv,getM,enR,c_TSleeper,lhw45]|(y+3),h=>absurd h (by omega))),CvB_dead,CvB_row nr_TStored rfl (fun _ _ _ _=>rfl),CvB_dead,(by simp [CvB,CvL,Cv,blkAt,geth]),(by simp [CvB,CvL,Cv,blkAt,geth]),(by simp [CvB,CvL,Cv,blkAt,geth]),(by simp [CvB,CvL,Cv,blkAt,geth]),CvB_row nr_TFrame rfl (fun _ _ _ _=>rfl),CvB_dead,CvB_row nr_TStored lhw43 (hw43 ▸ (lit_row (f:=c_TStored) [(TStored.mk p2 p4 (eF r16))] (fun _ _=>rfl) rfl)),CvB_row nr_TStored lhw45 (hw45 ▸ (app_row (f:=c_TStored) w39 [(TStored.mk p2 p4 (eF r16))] (fun _ _ _ _=>rfl) (lit_row (f:=c_TStored) [(TStored.mk p2 p4 (eF r16))] (fun _ _=>rfl) rfl))),trivial⟩
    simp only [tp]
    refine fz2_mean [15] [4] ?_ ?_
    ·simp only [go_sem,Nat.reduceBEq,Nat.reduceAdd,fzObHF2,fzObB2]
     first|exact (foc_ob (L:=r8.List) (i:=r5.1.toNat) (fun a y=>nrefL_getL (nr_TSleeper a) y) (fun x y hx=>by simp only [upc_ne hx]) (fun y hy=>match y,hy with|0,_=>(by (simp [upc_ii,getL,fzOb,enR,c_TSleeper];all_goals (first|(with_reducible trivial)|(intros;exact nrefL_getL (NRf.h _) _)|(intros;exact nfc))))|1,_=>(by (simp [upc_ii,getL,fzOb,enR,c_TSleeper];all_goals (first|(with_reducible trivial)|(intros;exact nrefL_getL (NRf.h _) _)|(intros;exact nfc))))|2,_=>(by (simp [upc_ii,getL,fzOb,inL,geth,rowOb,enR,c_TSleeper];all_goals (first|(with_reducible trivial)|(intros;exact nrefL_getL (NRf.h _) _)|(intros;exact nfc))))|(y+3),h=>absurd h (by omega)))|(and_intros<;>first|exact (foc_ob (L:=r8.List) (i:=r5.1.toNat) (fun a y=>nrefL_getL (nr_TSleeper a) y) (fun x y hx=>by simp only [upc_ne hx]) (fun y hy=>match y,hy with|0,_=>(by (simp [upc_ii,getL,fzOb,inL,geth,rowOb,enR,c_TSleeper];all_goals (first|(with_reducible trivial)|(intros;exact nrefL_getL (NRf.h _) _)|(intros;exact nfc))))|1,_=>(by (simp [upc_ii,getL,fzOb,inL,geth,rowOb,enR,c_TSleeper];all_goals (first|(with_reducible trivial)|(intros;exact nrefL_getL (NRf.h _) _)|(intros;exact nfc))))|2,_=>(by (simp [upc_ii,getL,fzOb,inL,geth,rowOb,enR,c_TSleeper];all_goals (first|(with_reducible trivial)|(intros;exact nrefL_getL (NRf.h _) _)|(intros;exact nfc))))|(y+3),h=>absurd h (by omega)))|(with_reducible trivial)|omega|exact nfc|trivial)
    simp only [go_sem,Nat.reduceBEq,Nat.reduceAdd,fzH2,fzHF2,fzB2]
    obtain ⟨w46,hw47,H⟩:=bsi H
    replace hw47:=Option.some.inj hw47
    have lhw47:w46.length=r8.List.length:=by rw [← hw47];exact (by simp only [List.length_set])
    refine subF_mean (t2:=(tp 10 (.ro 0 0 true (fun _ _=>.top)::.sl 12 41 0 w37.length false::.ptr 2 0 0 0::.int .i64 0::tp 57 []))) (h2:=[.dead,.dead,.lit 25 [.int .i64 r8.Limit,.int .i64 r8.Stay,.sl 4 3 0 w46.length false,.sl 6 43 0 r8.Group.length false],.lit 25 [.int .i64 r8.Limit,.int .i64 r8.Stay,.sl 4 3 0 w46.length false,.sl 6 43 0 r8.Group.length false],.row 57 3 w46.length (enR c_TSleeper w46),.dead,.row 61 43 r8.Group.length (enR c_TStored r8.Group),.dead,.lit 61 (.int .u8 p2::.int .i64 p4::.int .u8 r16.Head.Kind::.int .u8 r16.Head.Sub::.bool r16.Head.ToDs::.bool r16.Head.FromDs::.bool r16.Head.More::.bool r16.Head.Retry::.bool r16.Head.Sleep::.bool r16.Head.MoreData::.bool r16.Head.Protected::.int .i64 r16.Head.Duration::.int .u8 r16.Head.A1.x0::.int .u8 r16.Head.A1.x1::.int .u8 r16.Head.A1.x2::.int .u8 r16.Head.A1.x3::.int .u8 r16.Head.A1.x4::.int .u8 r16.Head.A1.x5::.int .u8 r16.Head.A2.x0::.int .u8 r16.Head.A2.x1::.int .u8 r16.Head.A2.x2::.int .u8 r16.Head.A2.x3::.int .u8 r16.Head.A2.x4::.int .u8 r16.Head.A2.x5::.int .u8 r16.Head.A3.x0::.int .u8 r16.Head.A3.x1::.int .u8 r16.Head.A3.x2::.int .u8 r16.Head.A3.x3::.int .u8 r16.Head.A3.x4::.int .u8 r16.Head.A3.x5::.int .u8 r16.Head.A4.x0::.int .u8 r16.Head.A4.x1::.int .u8 r16.Head.A4.x2::.int .u8 r16.Head.A4.x3::.int .u8 r16.Head.A4.x4::.int .u8 r16.Head.A4.x5::.int .i64 r16.Head.Seq::.int .i64 r16.Head.Frag::.int .i64 r16.Head.Tid::.int .u8 r16.Head.Ack::.bool r16.Head.Amsdu::.bool r16.Head.Eosp::.ro 1 r16.Body.length false (enR c_u8 r16.Body)::[]),.lit 61 (.int .u8 w1_6.Cat::.int .i64 w1_6.At::.int .u8 w1_6.Frame.Head.Kind::.int .u8 w1_6.Frame.Head.Sub::.bool w1_6.Frame.Head.ToDs::.bool w1_6.Frame.Head.FromDs::.bool w1_6.Frame.Head.More::.bool w1_6.Frame.Head.Retry::.bool w1_6.Frame.Head.Sleep::.bool w1_6.Frame.Head.MoreData::.bool w1_6.Frame.Head.Protected::.int .i64 w1_6.Frame.Head.Duration::.int .u8 w1_6.Frame.Head.A1.x0::.int .u8 w1_6.Frame.Head.A1.x1::.int .u8 w1_6.Frame.Head.A1.x2::.int .u8 w1_6.Frame.Head.A1.x3::.int .u8 w1_6.Frame.Head.A1.x4::.int .u8 w1_6.Frame.Head.A1.x5::.int .u8 w1_6.Frame.Head.A2.x0::.int .u8 w1_6.Frame.Head.A2.x1::.int .u8 w1_6.Frame.Head.A2.x2::.int .u8 w1_6.Frame.Head.A2.x3::.int .u8 w1_6.Frame.Head.A2.x4::.int .u8 w1_6.Frame.Head.A2.x5::.int .u8 w1_6.Frame.Head.A3.x0::.int .u8 w1_6.Frame.Head.A3.x1::.int .u8 w1_6.Frame.Head.A3.x2::.int .u8 w1_6.Frame.Head.A3.x3::.int .u8 w1_6.Frame.Head.A3.x4::.int .u8 w1_6.Frame.Head.A3.x5::.int .u8 w1_6.Frame.Head.A4.x0::.int .u8 w1_6.Frame.Head.A4.x1::.int .u8 w1_6.Frame.Head.A4.x2::.int .u8 w1_6.Frame.Head.A4.x3::.int .u8 w1_6.Frame.Head.A4.x4::.int .u8 w1_6.Frame.Head.A4.x5::.int .i64 w1_6.Frame.Head.Seq::.int .i64 w1_6.Frame.Head.Frag::.int .i64 w1_6.Frame.Head.Tid::.int .u8 w1_6.Frame.Head.Ack::.bool w1_6.Frame.Head.Amsdu::.bool w1_6.Frame.Head.Eosp::.ro 1 w1_6.Frame.Body.length false (enR c_u8 w1_6.Frame.Body)::[]),.lit 61 (.int .u8 w1_6.Cat::.int .i64 w1_6.At::.int .u8 w1_6.Frame.Head.Kind::.int .u8 w1_6.Frame.Head.Sub::.bool w1_6.Frame.Head.ToDs::.bool w1_6.Frame.Head.FromDs::.bool w1_6.Frame.Head.More::.bool w1_6.Frame.Head.Retry::.bool w1_6.Frame.Head.Sleep::.bool w1_6.Frame.Head.MoreData::.bool w1_6.Frame.Head.Protected::.int .i64 w1_6.Frame.Head.Duration::.int .u8 w1_6.Frame.Head.A1.x0::.int .u8 w1_6.Frame.Head.A1.x1::.int .u8 w1_6.Frame.Head.A1.x2::.int .u8 w1_6.Frame.Head.A1.x3::.int .u8 w1_6.Frame.Head.A1.x4::.int .u8 w1_6.Frame.Head.A1.x5::.int .u8 w1_6.Frame.Head.A2.x0::.int .u8 w1_6.Frame.Head.A2.x1::.int .u8 w1_6.Frame.Head.A2.x2::.int .u8 w1_6.Frame.Head.A2.x3::.int .u8 w1_6.Frame.Head.A2.x4::.int .u8 w1_6.Frame.Head.A2.x5::.int .u8 w1_6.Frame.Head.A3.x0::.int .u8 w1_6.Frame.Head.A3.x1::.int .u8 w1_6.Frame.Head.A3.x2::.int .u8 w1_6.Frame.Head.A3.x3::.int .u8 w1_6.Frame.Head.A3.x4::.int .u8 w1_6.Frame.Head.A3.x5::.int .u8 w1_6.Frame.Head.A4.x0::.int .u8 w1_6.Frame.Head.A4.x1::.int .u8 w1_6.Frame.Head.A4.x2::.int .u8 w1_6.Frame.Head.A4.x3::.int .u8 w1_6.Frame.Head.A4.x4::.int .u8 w1_6.Frame.Head.A4.x5::.int .i64 w1_6.Frame.Head.Seq::.int .i64 w1_6.Frame.Head.Frag::.int .i64 w1_6.Frame.Head.Tid::.int .u8 w1_6.Frame.Head.Ack::.bool w1_6.Frame.Head.Amsdu::.bool w1_6.Frame.Head.Eosp::.ro 1 w1_6.Frame.Body.length false (enR c_u8 w1_6.Frame.Body)::[]),.lit 5 [.int .u8 w1_6.Cat],.row 33 41 w37.length (enR c_TFrame w37),.dead,.row 61 43 w42.length (enR c_TStored w42),.dead]) ?_ ?_
    ·refine SubF_of ⟨[some 0,some 1,some 2,some 3,some 4,some 5,some 6,some 7,some 8,some 9,some 10,some 11,some 12,some 13,some 14,some 15],?_,?_,by rfl,by rfl⟩
     ·simp [CvL,Cv,getM,tp,tp]
     ·exact ⟨CvB_dead,CvB_dead,(by simp [CvB,CvL,Cv,blkAt,geth,getM,lhw47]),(by simp [CvB,CvL,Cv,blkAt,geth,getM,lhw47]),CvB_row nr_TSleeper lhw47 (hw47 ▸ (foc_row (L:=r8.List) (i:=r5.1.toNat) (fun a y=>nrefL_getL (nr_TSleeper a) y) (fun x y hx=>by simp only [upc_ne hx]) (fun y hy=>match y,hy with|0,_=>by simp [upc_ii,getL,fzV,enR,c_TSleeper]|1,_=>by simp [upc_ii,getL,fzV,enR,c_TSleeper]|2,_=>by simp [upc_ii,getL,fzV,inL,geth,enR,c_TSleeper,sub_enR0]|(y+3),h=>absurd h (by omega)))),CvB_dead,CvB_row nr_TStored rfl (fun _ _ _ _=>rfl),CvB_dead,(by simp [CvB,CvL,Cv,blkAt,geth]),(by simp [CvB,CvL,Cv,blkAt,geth]),(by simp [CvB,CvL,Cv,blkAt,geth]),(by simp [CvB,CvL,Cv,blkAt,geth]),CvB_row nr_TFrame rfl (fun _ _ _ _=>rfl),CvB_dead,CvB_row nr_TStored rfl (fun _ _ _ _=>rfl),CvB_dead,trivial⟩
    simp only [tp]
    refine rg ctNo_ok ?_
    simp only [go_sem,Nat.reduceLT,Nat.reduceAdd]
    obtain rfl:=Option.some.inj H
    refine ⟨[12,4,6,2,3,8,9,10,11],?_,?_,[],?_,?_,rfl⟩
    ·simp only [go_sem,Nat.reduceBEq]
     try exact at0
    ·simp only [go_sem,Nat.reduceBEq]
     try exact at0
    ·simp only [go_sem,Nat.reduceBEq]
     exact Cv_tup (CvL_cons (Cv_ronil (α:=TFrame)) (CvL_cons (ro_row (by first|rfl|simp) (fun _ _ _ _=>rfl)) (CvL_cons (Cv_agg (CvL_cons Cv_int (CvL_cons Cv_int (CvL_cons (ro_row (by first|rfl|simp) (fun _ _ _ _=>rfl)) (CvL_cons (ro_row (by first|rfl|simp) (fun _ _ _ _=>rfl)) CvL_nil))))) (CvL_cons Cv_int CvL_nil))))
    ·simp only [go_sem,CvH]
  ·cases hb
 ·unfold body24 at hb
  split at hb<;>cases hb
end Go.Proofs.Ytefiemaoacmdkaa
