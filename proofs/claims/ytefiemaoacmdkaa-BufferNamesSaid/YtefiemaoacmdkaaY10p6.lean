/-
  What BufferNames reaches.
-/
import Derived.Test.YtefiemaoacmdkaaY10p5
namespace Go.Proofs.Ytefiemaoacmdkaa
open Go.Am
set_option maxHeartbeats 4000000
set_option maxRecDepth 20000
set_option linter.unusedVariables false
set_option linter.unusedSimpArgs false
noncomputable def ct83_0t0:Ct:=tab [(106,pureC body106_1)]
theorem ct83_0t0_ok:CtOk Try.prog ct83_0t0:=tab_cons ok106_1 <| tab_nil
theorem ct83_0t0_106 (l:List AV) (h:List ABlk):ct83_0t0 106 l h=pureC body106_1 l h:=rfl
noncomputable def ct83_0t1:Ct:=tab [(84,pureC body84_0)]
theorem ct83_0t1_ok:CtOk Try.prog ct83_0t1:=tab_cons ok84_0 <| tab_nil
theorem ct83_0t1_84 (l:List AV) (h:List ABlk):ct83_0t1 84 l h=pureC body84_0 l h:=rfl
noncomputable def F83_0_L1 (p1:Int) (v1_1:List TSleeper) (v1_2:Int) (v1_3:Int):Option (Lp ((List TSleeper) × Int × Int) (((List TSleeper) × Int) ⊕ (List TSleeper))) :=
 bif (bLt v1_3 (v1_1.length:Nat)) then (need (inb v1_3 v1_1.length) <| (F84_0 (gd v1_1 v1_3.toNat) p1).bind fun r6=>bif (!r6) then (need (inb v1_2 v1_1.length) <| some (.next ((v1_1.set v1_2.toNat (gd v1_1 v1_3.toNat)),wr .i64 (v1_2+1),wr .i64 (v1_3+1)))) else (some (.next (v1_1,v1_2,wr .i64 (v1_3+1))))) else (some (.done (.inl (v1_1,v1_2))))
noncomputable def F83_0 (p0:List TSleeper) (p1:Int):Option (List TSleeper) :=
 (F106_1 p0 p1).bind fun r1=>bif (bEq r1 (-1)) then (some p0) else (lp (loopD (fun s=>F83_0_L1 p1 s.1 s.2.1 s.2.2) (p0,r1,wr .i64 (r1+1))) (fun e1=>need (slb e1.2 (e1.1.length:Nat) e1.1.length) <| need (slb 0 e1.2 e1.1.length) <| some (List.take e1.2.toNat e1.1)) some)
noncomputable def body83_0:List AV->List ABlk->ED
 | [v0,.fn 84 [v1]],h=>.ed [slN v0] (oS 57 3 h v0/\lK k_TSleeper 3 (roW h v0)/\rK 1 k_i64 v1/\(F83_0 (lA g_TSleeper (roW h v0)) (g_i64 (rG v1))).isSome=true) (.sl 1 3 0 ((gt (F83_0 (lA g_TSleeper (roW h v0)) (g_i64 (rG v1)))).length) false) [.dead,.row 57 3 ((gt (F83_0 (lA g_TSleeper (roW h v0)) (g_i64 (rG v1)))).length) (enR c_TSleeper (gt (F83_0 (lA g_TSleeper (roW h v0)) (g_i64 (rG v1)))))]
 | _,_=>.fail
theorem ok83_0:FnOk Try.prog 83 (edC body83_0):=by
 refine edit_fnM body83_0 (rs:=[.tmp 4]) Try.func83 (by kernel_rfl) rfl rfl ?_
 intro l h bs ob q0 g0 hb hob
 unfold body83_0 at hb
 split at hb
 ·rename_i v0 v1
  injection hb with q1 q2 q3 q4;subst q1 q2 q3 q4
  obtain ⟨hk0_0,hk0_1,hk1_0,hob⟩:=hob
  obtain ⟨r,H⟩:=Option.isSome_iff_exists.1 hob
  rw [H,gt_some]
  obtain ⟨p0,hp0⟩:∃ p0,p0=lA g_TSleeper (roW h v0):=⟨_,rfl⟩
  rw [← hp0] at H
  obtain ⟨ev0,eb0⟩:=own_row2 (f:=c_TSleeper) (g:=g_TSleeper) (bs:=[slN v0]) (i:=0) (fun hr=>w_TSleeper hr) hk0_0 hk0_1 (L:=p0) (by rw [hp0]) rfl
  have hw1:=rK_wk (f:=c_i64) (g:=g_i64) (fun r h=>w_i64 h) hk1_0
  obtain ⟨p1,hp_p1⟩:∃ p1,p1=g_i64 (rG v1):=⟨_,rfl⟩
  rw [← hp_p1] at H hw1
  refine ⟨[.sl 0 3 0 p0.length false,.fn 84 [.rptr 1 1 0 0 (enR c_i64 [p1])]],[.row 57 3 p0.length (enR c_TSleeper p0)],rfl,⟨ev0,⟨(EV_fn ⟨(EV_wk hw1),trivial⟩),trivial⟩⟩,⟨eb0,trivial⟩,⟨trivial,⟨(nfB_en nr_TSleeper),trivial⟩⟩,?_⟩
  rw [Try.ntmps83]
  simp only [List.length_cons,List.length_nil,Nat.reduceAdd,Nat.reduceSub,List.replicate_succ,List.replicate_zero,List.cons_append,List.nil_append]
  unfold F83_0 at H
  try dsimp only at H
  refine sq ctNo_ok ?_
  simp only [go_sem]
  refine seqM ?_
  obtain ⟨r1,e2,H⟩:=bsi H
  refine rg ct83_0t0_ok ?_
  simp only [go_sem,Nat.reduceLT,ct83_0t0_106,body106_1,e2]
  repeat ((with_reducible refine And.intro ?_ ?_);focus exact an0)
  refine seqM ?_
  refine sq ctNo_ok ?_
  simp only [go_sem]
  refine condM rfl trivial (fun hc=>?_) (fun hc=>?_)
  ·have hk3:(bEq r1 (-1))=true:=by simpa using hc
   replace H:=cond_t hc H
   refine sq ctNo_ok ?_
   simp only [go_sem]
   refine rg ctNo_ok ?_
   simp only [go_sem]
   obtain rfl:=Option.some.inj H
   refine RetE_mk [] [some 0,some 0] ?_ ?_ ?_ ?_ (by rfl) (by rfl)
   ·simp only [go_sem]
    try exact at0
   ·simp only [go_sem]
    try exact at0
   ·simp only [go_sem]
    exact (by first|(simp [Cv,getM];done)|(simp [Cv,CvL,getM,gt_some];omega))
   ·simp only [go_sem,CvH]
    first|exact ⟨CvB_dead,CvB_row nr_TSleeper cl (fun _ _ _ _=>rfl)⟩|trivial
  have hk3:(bEq r1 (-1))=false:=by simpa using hc
  replace H:=cond_f hc H
  refine rg ctNo_ok ?_
  simp only [go_sem]
  refine seqM ?_
  refine sq ctNo_ok ?_
  simp only [go_sem]
  refine blkM ?_
  refine loop_den (fun s:(List TSleeper) × Int × Int=>(.sl 1 3 0 s.1.length false::.fn 84 [.rptr 1 1 0 0 (enR c_i64 [p1])]::.top::.top::.top::.int .i64 s.2.1::.int .i64 s.2.2::tp 35 [])) (fun s=>[.dead,.row 57 3 s.1.length (enR c_TSleeper s.1)]) (fun e:(List TSleeper) × Int=>(.sl 1 3 0 e.1.length false::tp 4 (.int .i64 e.2::tp 36 []))) (fun e=>[.dead,.row 57 3 e.1.length (enR c_TSleeper e.1)]) H ?_ (fun s o H hn1_1 hn2_1=>?_) (fun e H=>?_)
  ·refine SubF_of ⟨[some 0,some 0],?_,?_,by rfl,by rfl⟩
   ·simp [CvL,Cv,getM,tp,tp]
   ·exact ⟨CvB_dead,CvB_row nr_TSleeper cl (fun _ _ _ _=>rfl),trivial⟩
  ·obtain ⟨v1_1,v1_2,v1_3⟩:=s
   unfold F83_0_L1 at H
   try dsimp only at H ⊢
   try simp only [tp]
   refine seqM ?_
   refine sq ctNo_ok ?_
   simp only [go_sem]
   repeat ((with_reducible refine And.intro ?_ ?_);focus exact an0)
   refine condM' rfl trivial (fun hc=>?_) (fun hc=>?_)
   ·have hk4:(bLt v1_3 (v1_1.length:Nat))=false:=by simpa using hc
    replace H:=cond_f hc H
    refine rg ctNo_ok ?_
    simp only [go_sem]
    refine ⟨_,(Option.some.inj H).symm,?_⟩
    refine SubF_of ⟨[some 0,some 1],?_,?_,by rfl,by rfl⟩
    ·simp [CvL,Cv,getM]
    ·exact ⟨CvB_dead,CvB_row nr_TSleeper cl (fun _ _ _ _=>rfl),trivial⟩
   have hk4:(bLt v1_3 (v1_1.length:Nat))=true:=by simpa using hc
   replace H:=cond_t hc H
   refine rg ctNo_ok ?_
   simp only [go_sem]
   refine seqM ?_
   refine blkM ?_
   refine seqM ?_
   obtain ⟨f5,H⟩:=need_some.1 H
   replace f5:=inb_iff.1 f5
   refine rg ctNo_ok ?_
   simp only [go_sem,Nat.reduceLT,Nat.reduceAdd,f5]
   repeat ((with_reducible refine And.intro ?_ ?_);focus exact an6)
   refine seqM ?_
   obtain ⟨r6,e7,H⟩:=bsi H
   refine rg ct83_0t1_ok ?_
   simp only [go_sem,Nat.reduceLT,Nat.reduceAdd,ct83_0t1_84,body84_0,e7]
   repeat ((with_reducible refine And.intro ?_ ?_);focus exact an0)
   refine condM' rfl trivial (fun hc=>?_) (fun hc=>?_)
   ·have hk8:(r6)=true:=by simpa using hc
    replace H:=cond_f hc H
    refine rg ctNo_ok ?_
    simp only [go_sem]
    refine rg ctNo_ok ?_
    simp only [go_sem]
    refine ⟨_,(Option.some.inj H).symm,?_⟩
    refine SubF_of ⟨[some 0,some 1],?_,?_,by rfl,by rfl⟩
    ·simp [CvL,Cv,getM]
    ·exact ⟨CvB_dead,CvB_row nr_TSleeper cl (fun _ _ _ _=>rfl),trivial⟩
   have hk8:(r6)=false:=by simpa using hc
   replace H:=cond_t hc H
   refine seqM ?_
   obtain ⟨f9,H⟩:=need_some.1 H
   replace f9:=inb_iff.1 f9
   refine rg ctNo_ok ?_
   simp only [go_sem,Nat.reduceLT,Nat.reduceAdd,f9]
   repeat ((with_reducible refine And.intro ?_ ?_);focus exact an6)
   refine rg ctNo_ok ?_
   simp only [go_sem]
   refine rg ctNo_ok ?_
   simp only [go_sem]
   refine ⟨_,(Option.some.inj H).symm,?_⟩
   refine SubF_of ⟨[some 0,some 1],?_,?_,by rfl,by rfl⟩
   ·simp [CvL,Cv,getM]
   ·exact ⟨CvB_dead,CvB_row nr_TSleeper cl (upc_row (f:=c_TSleeper) v1_1 v1_2.toNat 0 (gd v1_1 v1_3.toNat) (fun _ _ _ _=>rfl) (fun y hy=>match y,hy with|0,_=>rfl|1,_=>rfl|2,_=>rfl|(y+3),h=>absurd h (by omega))),trivial⟩
  ·obtain ⟨w1_4,w1_5⟩:=e
   try dsimp only at H ⊢
   try simp only [tp]
   try simp only [m_normal]
   refine seqM ?_
   obtain ⟨f10,H⟩:=need_some.1 H
   replace f10:=slb_iff.1 f10
   refine rg ctNo_ok ?_
   simp only [go_sem,Nat.reduceLeDiff,Nat.reduceAdd,f10]
   repeat ((with_reducible refine And.intro ?_ ?_);focus exact an3)
   refine seqM ?_
   obtain ⟨f11,H⟩:=need_some.1 H
   replace f11:=slb_iff.1 f11
   refine rg ctNo_ok ?_
   simp only [go_sem,f11]
   repeat ((with_reducible refine And.intro ?_ ?_);focus exact an6)
   refine rg ctNo_ok ?_
   simp only [go_sem]
   obtain rfl:=Option.some.inj H
   refine RetE_mk [] [some 0,some 1] ?_ ?_ ?_ ?_ (by rfl) (by rfl)
   ·simp only [go_sem]
    try exact at0
   ·simp only [go_sem]
    try exact at0
   ·simp only [go_sem]
    exact (by first|(simp [Cv,getM,(show (List.take w1_5.toNat w1_4).length=w1_5.toNat from take_len (n:=w1_4.length) cl (by omega))];done)|(simp [Cv,CvL,getM,gt_some,(show (List.take w1_5.toNat w1_4).length=w1_5.toNat from take_len (n:=w1_4.length) cl (by omega))];omega))
   ·simp only [go_sem,CvH]
    first|exact ⟨CvB_dead,(CvB_pre nr_TSleeper (by rw [show (List.take w1_5.toNat w1_4).length=w1_5.toNat from take_len (n:=w1_4.length) cl (by omega)];omega) (clr_row (fun _ _ _ _=>rfl)))⟩|trivial
 ·cases hb
noncomputable def ct42t0:Ct:=tab [(18,pureC body18)]
theorem ct42t0_ok:CtOk Try.prog ct42t0:=tab_cons ok18 <| tab_nil
theorem ct42t0_18 (l:List AV) (h:List ABlk):ct42t0 18 l h=pureC body18 l h:=rfl
noncomputable def ct42t1:Ct:=tab [(81,pureC body81)]
theorem ct42t1_ok:CtOk Try.prog ct42t1:=tab_cons ok81 <| tab_nil
theorem ct42t1_81 (l:List AV) (h:List ABlk):ct42t1 81 l h=pureC body81 l h:=rfl
noncomputable def ct42t2:Ct:=tab [(65,genC body65)]
theorem ct42t2_ok:CtOk Try.prog ct42t2:=tab_cons ok65 <| tab_nil
theorem ct42t2_65 (l:List AV) (h:List ABlk):ct42t2 65 l h=genC body65 l h:=rfl
noncomputable def ct42t3:Ct:=tab [(53,genC body53)]
theorem ct42t3_ok:CtOk Try.prog ct42t3:=tab_cons ok53 <| tab_nil
theorem ct42t3_53 (l:List AV) (h:List ABlk):ct42t3 53 l h=genC body53 l h:=rfl
noncomputable def ct42t4:Ct:=tab [(83,edC body83_0)]
theorem ct42t4_ok:CtOk Try.prog ct42t4:=tab_cons ok83_0 <| tab_nil
theorem ct42t4_83 (l:List AV) (h:List ABlk):ct42t4 83 l h=edC body83_0 l h:=rfl
noncomputable def ct42t5:Ct:=tab [(47,pureC body47)]
theorem ct42t5_ok:CtOk Try.prog ct42t5:=tab_cons ok47 <| tab_nil
theorem ct42t5_47 (l:List AV) (h:List ABlk):ct42t5 47 l h=pureC body47 l h:=rfl
noncomputable def F42 (p0:TBuffer) (p1:Int):Option ((List TFrame) × TBuffer × Int) :=
 (F18 p0).bind fun r1=>bif (!bEq r1 0) then (some ([],(TBuffer.mk 0 0 [] []),r1)) else (bif ((bLt p1 1) || (bLt 255 p1)) then (some ([],(TBuffer.mk 0 0 [] []),2)) else ((F81 p0 p1).bind fun r5=>bif (!r5.2) then (some ([],(TBuffer.mk 0 0 [] []),6)) else ((F65 p0).bind fun r8=>need (inb r5.1 r8.List.length) <| (F53 ((gd r8.List r5.1.toNat).Held)).bind fun r11=>(F83_0 r8.List p1).bind fun r13=>(F47 (TBuffer.mk r8.Limit r8.Stay r13 r8.Group)).bind fun r15=>bif (!r15) then ((F53 r8.Group).bind fun r18=>need (capb 104 (r11.length+r18.length)) <| some ((r11 ++ r18),(TBuffer.mk r8.Limit r8.Stay r13 []),0)) else (need (capb 104 r11.length) <| (some (r11 ++ ([]:List TFrame))).bind fun w22=>some (w22,(TBuffer.mk r8.Limit r8.Stay r13 r8.Group),0)))))
noncomputable def body42:List AV->Nat->AR
 | [v0,v1],_=>.pure (aK 4 k_TBuffer v0/\iK .i64 v1/\(F42 (g_TBuffer (aL v0)) (iA v1)).isSome=true) (.tup [.ro 41 (((gt (F42 (g_TBuffer (aL v0)) (iA v1))).1).length) false (enR c_TFrame ((gt (F42 (g_TBuffer (aL v0)) (iA v1))).1)),.agg [.int .i64 (((gt (F42 (g_TBuffer (aL v0)) (iA v1))).2.1).Limit),.int .i64 (((gt (F42 (g_TBuffer (aL v0)) (iA v1))).2.1).Stay),.ro 3 ((((gt (F42 (g_TBuffer (aL v0)) (iA v1))).2.1).List).length) false (enR c_TSleeper (((gt (F42 (g_TBuffer (aL v0)) (iA v1))).2.1).List)),.ro 43 ((((gt (F42 (g_TBuffer (aL v0)) (iA v1))).2.1).Group).length) false (enR c_TStored (((gt (F42 (g_TBuffer (aL v0)) (iA v1))).2.1).Group))],.int .i64 ((gt (F42 (g_TBuffer (aL v0)) (iA v1))).2.2)])
 | _,_=>.fail
theorem ok42:FnOk Try.prog 42 (genC body42):=by
 refine gen_fn body42 (rs:=[.tmp 4,.cell 5 25,.tmp 6]) Try.func42 (by kernel_rfl) rfl rfl ?_
 intro l s ob v ns hb hob
 rcases hb with ⟨hb,rfl⟩|hb
 ·unfold body42 at hb
  split at hb
  ·rename_i v0 v1
   injection hb with q1 q2;subst q1 q2
   obtain ⟨hk0_0,hk1_0,hob⟩:=hob
   obtain ⟨r,H⟩:=Option.isSome_iff_exists.1 hob
   rw [H,gt_some]
   have hw0:=wA_TBuffer hk0_0
   have hw1:=iK_wk hk1_0
   generalize g_TBuffer (aL v0)=p0 at H hw0
   generalize iA v1=p1 at H hw1
   refine ⟨[.agg [.int .i64 p0.Limit,.int .i64 p0.Stay,.ro 3 p0.List.length false (enR c_TSleeper p0.List),.ro 43 p0.Group.length false (enR c_TStored p0.Group)],.int .i64 p1],.tup [.ro 41 r.1.length false (enR c_TFrame r.1),.agg [.int .i64 r.2.1.Limit,.int .i64 r.2.1.Stay,.ro 3 r.2.1.List.length false (enR c_TSleeper r.2.1.List),.ro 43 r.2.1.Group.length false (enR c_TStored r.2.1.Group)],.int .i64 r.2.2],[],(fun E vs F=>FR_wk1 hw0.1 F (fun vs F=>FR_wk1 hw1.1 F (fun vs F=>F))),by simp only [ren,renL],trivial,?_⟩
   rw [Try.ntmps42]
   simp only [List.length_cons,List.length_nil,Nat.reduceAdd,Nat.reduceSub,List.replicate_succ,List.replicate_zero,List.cons_append,List.nil_append]
   unfold F42 at H
   try dsimp only at H
   refine sq ctNo_ok ?_
   simp only [go_sem,Nat.reduceAdd]
   refine seqM ?_
   refine regO ?_
   refine cutO shT_ok ctNo_ok 2 ?_
   simp only [kO_normal,List.take_succ_cons,List.take_zero,List.drop_succ_cons,List.drop_zero,go_sem,Nat.reduceLT,Nat.reduceAdd]
   repeat ((with_reducible refine And.intro ?_ ?_);focus exact an0)
   refine inlO (rs:=[.tmp 4,.tmp 5,.tmp 6]) Try.func51 (by kernel_rfl) rfl rfl Try.ntmps51 (caps:=[]) (tc:=[.agg [.int .i64 p0.Limit,.int .i64 p0.Stay,.ro 3 p0.List.length false (enR c_TSleeper p0.List),.ro 43 p0.Group.length false (enR c_TStored p0.Group)],.int .i64 p1]) rfl (by simp only [go_sem]) rfl ?_
   simp only [List.length_cons,List.length_nil,Nat.reduceAdd,Nat.reduceSub,List.replicate_succ,List.replicate_zero,List.cons_append,List.nil_append]
   refine sq ctNo_ok ?_
   simp only [go_sem,Nat.reduceAdd]
   refine seqM ?_
   refine seqM ?_
   obtain ⟨r1,e2,H⟩:=bsi H
   refine rg ct42t0_ok ?_
   simp only [go_sem,Nat.reduceLT,Nat.reduceAdd,ct42t0_18,body18,e2]
   repeat ((with_reducible refine And.intro ?_ ?_);focus exact an0)
   refine sq ctNo_ok ?_
   simp only [go_sem]
   refine condM rfl trivial (fun hc=>?_) (fun hc=>?_)
   ·have hk3:(bEq r1 0)=false:=by simpa using hc
    replace H:=cond_t hc H
    refine sq ctNo_ok ?_
    simp only [go_sem]
    refine rg ctNo_ok ?_
    simp only [go_sem]
    refine cutO shT_ok ctNo_ok 7 ?_
    simp only [kO_normal,List.take_succ_cons,List.take_zero,List.drop_succ_cons,List.drop_zero,go_sem,Nat.reduceLT,Nat.reduceAdd]
    repeat ((with_reducible refine And.intro ?_ ?_);focus exact an0)
    refine endO ?_
    refine seqM ?_
    refine sq ctNo_ok ?_
    simp only [go_sem]
    refine condM rfl trivial (fun hc=>?_) (fun hc=>?_)
    rotate_left
    ·simp [hk3] at hc
    refine sq ctNo_ok ?_
    simp only [go_sem,Nat.reduceAdd]
    repeat ((with_reducible refine And.intro ?_ ?_);focus exact an6)
    refine rg ctNo_ok ?_
    simp only [go_sem,Nat.reduceLT,Nat.reduceAdd]
    obtain rfl:=Option.some.inj H
    refine ⟨[0,1,2,3],?_,?_,[],?_,?_,rfl⟩
    ·simp only [go_sem]
     try exact at0
    ·simp only [go_sem]
     try exact at0
    ·simp only [go_sem]
     exact Cv_tup (CvL_cons (Cv_ronil (α:=TFrame)) (CvL_cons (Cv_agg (CvL_cons Cv_int (CvL_cons Cv_int (CvL_cons (Cv_ronil (α:=TSleeper)) (CvL_cons (Cv_ronil (α:=TStored)) CvL_nil))))) (CvL_cons Cv_int CvL_nil)))
    ·simp only [go_sem,CvH]
   have hk3:(bEq r1 0)=true:=by simpa using hc
   replace H:=cond_f hc H
   refine rg ctNo_ok ?_
   simp only [go_sem]
   refine seqM ?_
   refine sq ctNo_ok ?_
   simp only [go_sem]
   repeat ((with_reducible refine And.intro ?_ ?_);focus exact an6)
   refine condM rfl trivial (fun hc=>?_) (fun hc=>?_)
   ·have hk4:((bLt p1 1) || (bLt 255 p1))=true:=by simpa using hc
    replace H:=cond_t hc H
    refine sq ctNo_ok ?_
    simp only [go_sem]
    refine rg ctNo_ok ?_
    simp only [go_sem]
    refine cutO shT_ok ctNo_ok 7 ?_
    simp only [kO_normal,List.take_succ_cons,List.take_zero,List.drop_succ_cons,List.drop_zero,go_sem,Nat.reduceLT,Nat.reduceAdd]
    repeat ((with_reducible refine And.intro ?_ ?_);focus exact an0)
    refine endO ?_
    refine seqM ?_
    refine sq ctNo_ok ?_
    simp only [go_sem,(by decide:bEq (2) (0)=false)]
    refine condM rfl trivial (fun hc=>?_) (fun hc=>?_)
    rotate_left
    ·cases hc
    refine sq ctNo_ok ?_
    simp only [go_sem,Nat.reduceAdd]
    repeat ((with_reducible refine And.intro ?_ ?_);focus exact an6)
    refine rg ctNo_ok ?_
    simp only [go_sem,Nat.reduceLT,Nat.reduceAdd]
    obtain rfl:=Option.some.inj H
    refine ⟨[0,1,2,3],?_,?_,[],?_,?_,rfl⟩
    ·simp only [go_sem]
     try exact at0
    ·simp only [go_sem]
     try exact at0
    ·simp only [go_sem]
     exact Cv_tup (CvL_cons (Cv_ronil (α:=TFrame)) (CvL_cons (Cv_agg (CvL_cons Cv_int (CvL_cons Cv_int (CvL_cons (Cv_ronil (α:=TSleeper)) (CvL_cons (Cv_ronil (α:=TStored)) CvL_nil))))) (CvL_cons Cv_int CvL_nil)))
    ·simp only [go_sem,CvH]
   have hk4:((bLt p1 1) || (bLt 255 p1))=false:=by simpa using hc
   replace H:=cond_f hc H
   refine rg ctNo_ok ?_
   simp only [go_sem]
   refine seqM ?_
   obtain ⟨r5,e6,H⟩:=bsi H
   refine rg ct42t1_ok ?_
   simp only [go_sem,Nat.reduceLT,Nat.reduceAdd,ct42t1_81,body81,e6]
   repeat ((with_reducible refine And.intro ?_ ?_);focus exact an0)
   refine seqM ?_
   refine sq ctNo_ok ?_
   simp only [go_sem]
   refine condM rfl trivial (fun hc=>?_) (fun hc=>?_)
   ·have hk7:(r5.2)=false:=by simpa using hc
    replace H:=cond_t hc H
    refine sq ctNo_ok ?_
    simp only [go_sem]
    refine rg ctNo_ok ?_
    simp only [go_sem]
    refine cutO shT_ok ctNo_ok 7 ?_
    simp only [kO_normal,List.take_succ_cons,List.take_zero,List.drop_succ_cons,List.drop_zero,go_sem,Nat.reduceLT,Nat.reduceAdd]
    repeat ((with_reducible refine And.intro ?_ ?_);focus exact an0)
    refine endO ?_
    refine seqM ?_
    refine sq ctNo_ok ?_
    simp only [go_sem,(by decide:bEq (6) (0)=false)]
    refine condM rfl trivial (fun hc=>?_) (fun hc=>?_)
    rotate_left
    ·cases hc
    refine sq ctNo_ok ?_
    simp only [go_sem,Nat.reduceAdd]
    repeat ((with_reducible refine And.intro ?_ ?_);focus exact an6)
    refine rg ctNo_ok ?_
    simp only [go_sem,Nat.reduceLT,Nat.reduceAdd]
    obtain rfl:=Option.some.inj H
    refine ⟨[0,1,2,3],?_,?_,[],?_,?_,rfl⟩
    ·simp only [go_sem]
     try exact at0
    ·simp only [go_sem]
     try exact at0
    ·simp only [go_sem]
     exact Cv_tup (CvL_cons (Cv_ronil (α:=TFrame)) (CvL_cons (Cv_agg (CvL_cons Cv_int (CvL_cons Cv_int (CvL_cons (Cv_ronil (α:=TSleeper)) (CvL_cons (Cv_ronil (α:=TStored)) CvL_nil))))) (CvL_cons Cv_int CvL_nil)))
    ·simp only [go_sem,CvH]
   have hk7:(r5.2)=true:=by simpa using hc
   replace H:=cond_f hc H
   refine rg ctNo_ok ?_
   simp only [go_sem]
   refine seqM ?_
   obtain ⟨r8,e9,H⟩:=bsi H
   refine rg ct42t2_ok ?_
   simp only [go_sem,Nat.reduceLT,Nat.reduceAdd,ct42t2_65,body65,e9]
   repeat ((with_reducible refine And.intro ?_ ?_);focus exact an0)
   refine seqM ?_
   obtain ⟨f10,H⟩:=need_some.1 H
   replace f10:=inb_iff.1 f10
   refine draw_quiet shT_ok ctNo_ok (by kernel_rfl) (by kernel_rfl) ?_
   simp only [go_sem,Nat.reduceLeDiff,Nat.reduceLT,Nat.reduceAdd,f10]
   repeat ((with_reducible refine And.intro ?_ ?_);focus exact an6)
   refine rg ctNo_ok ?_
   simp only [go_sem]
   refine cutO shT_ok ctNo_ok 7 ?_
   simp only [kO_normal,List.take_succ_cons,List.take_zero,List.drop_succ_cons,List.drop_zero,go_sem,Nat.reduceLT,Nat.reduceAdd]
   repeat ((with_reducible refine And.intro ?_ ?_);focus exact an0)
   refine endO ?_
   refine seqM ?_
   refine sq ctNo_ok ?_
   simp only [go_sem,(by decide:bEq (0) (0)=true)]
   refine condM rfl trivial (fun hc=>?_) (fun hc=>?_)
   ·cases hc
   refine rg ctNo_ok ?_
   simp only [go_sem]
   refine seqM ?_
   obtain ⟨r11,e12,H⟩:=bsi H
   refine rg ct42t3_ok ?_
   simp only [go_sem,Nat.reduceLT,Nat.reduceAdd,ct42t3_53,body53,e12]
   repeat ((with_reducible refine And.intro ?_ ?_);focus exact an0)
   refine seqM ?_
   refine fz_mean [1] ?_ ?_
   ·simp only [go_sem,Nat.reduceBEq]
    try exact at0
   simp only [go_sem,Nat.reduceBEq,Nat.reduceAdd]
   obtain ⟨r13,e14,H⟩:=bsi H
   refine rg ct42t4_ok ?_
   simp only [go_sem,Nat.reduceLeDiff,Nat.reduceLT,Nat.reduceAdd,ct42t4_83,body83_0,e14]
   repeat ((with_reducible refine And.intro ?_ ?_);focus exact an3)
   refine seqM ?_
   refine regO ?_
   refine cutO shT_ok ctNo_ok 2 ?_
   simp only [kO_normal,List.take_succ_cons,List.take_zero,List.drop_succ_cons,List.drop_zero,go_sem]
   repeat ((with_reducible refine And.intro ?_ ?_);focus exact an3)
   refine inlO (rs:=[.tmp 2]) Try.func54 (by kernel_rfl) rfl rfl Try.ntmps54 (caps:=[]) (tc:=[.ptr 3 0 0 0]) rfl (by simp only [go_sem]) rfl ?_
   simp only [List.length_cons,List.length_nil,Nat.reduceAdd,Nat.reduceSub,List.replicate_succ,List.replicate_zero,List.cons_append,List.nil_append]
   refine sq ctNo_ok ?_
   simp only [go_sem]
   refine seqM ?_
   refine seqM ?_
   obtain ⟨r15,e16,H⟩:=bsi H
   refine rg ct42t5_ok ?_
   simp only [go_sem,Nat.reduceLT,Nat.reduceAdd,ct42t5_47,body47,e16]
   repeat ((with_reducible refine And.intro ?_ ?_);focus exact an0)
   refine condM rfl trivial (fun hc=>?_) (fun hc=>?_)
   ·have hk17:(r15)=false:=by simpa using hc
    replace H:=cond_t hc H
    refine fz_mean [5] ?_ ?_
    ·simp only [go_sem,Nat.reduceBEq]
     try exact at0
    simp only [go_sem,Nat.reduceBEq,Nat.reduceAdd]
    obtain ⟨r18,e19,H⟩:=bsi H
    refine rg ct42t3_ok ?_
    simp only [go_sem,Nat.reduceLT,Nat.reduceAdd,ct42t3_53,body53,e19]
    repeat ((with_reducible refine And.intro ?_ ?_);focus exact an0)
    refine sq ctNo_ok ?_
    simp only [go_sem]
    refine rg ctNo_ok ?_
    simp only [go_sem]
    obtain ⟨f20,H⟩:=need_some.1 H
    replace f20:=capb_iff.1 f20
    refine cutO shT_ok ctNo_ok 2 ?_
    simp only [kO_normal,List.take_succ_cons,List.take_zero,List.drop_succ_cons,List.drop_zero,go_sem,Nat.reduceLeDiff,Nat.reduceAdd,f20]
    repeat ((with_reducible refine And.intro ?_ ?_);focus exact an1)
    refine endO ?_
    refine seqM ?_
    refine draw_rule shT_ok ctNo_ok 0 (by kernel_rfl) (by kernel_rfl) ?_
    intro an han
    simp only [d_nil,d_cons,nxtD,xrD,xoD,roEq,minL,List.append_nil,refsOp,refs,mask,maskF,place,placeF,okLog,pairOk,hit,inL,slotsF,nrH,nrB,nrL,nr,List.replicate_zero,Nat.sub_self,Nat.add_zero,Nat.zero_add,Nat.reduceSub,Nat.lt_add_one,go_sem,Nat.reduceLeDiff,Nat.reduceLT,Nat.reduceAdd,Nat.reduceSub,Nat.reduceBEq]
    repeat ((with_reducible refine And.intro ?_ ?_);focus exact an2)
    refine rg ctNo_ok ?_
    simp only [go_sem,Nat.reduceLT,Nat.reduceAdd]
    obtain rfl:=Option.some.inj H
    refine ⟨[9,7,0,2,3],?_,?_,[],?_,?_,rfl⟩
    ·simp only [go_sem,Nat.reduceBEq]
     try exact at0
    ·simp only [go_sem,Nat.reduceBEq]
     try exact at0
    ·simp only [go_sem,Nat.reduceBEq]
     exact Cv_tup (CvL_cons (ro_row (by first|rfl|simp) (app_row (f:=c_TFrame) r11 r18 (fun _ _ _ _=>rfl) (fun _ _ _ _=>rfl))) (CvL_cons (Cv_agg (CvL_cons Cv_int (CvL_cons Cv_int (CvL_cons (ro_row (by first|rfl|simp) (fun _ _ _ _=>rfl)) (CvL_cons (Cv_ronil (α:=TStored)) CvL_nil))))) (CvL_cons Cv_int CvL_nil)))
    ·simp only [go_sem,CvH]
   have hk17:(r15)=true:=by simpa using hc
   replace H:=cond_f hc H
   refine rg ctNo_ok ?_
   simp only [go_sem]
   refine sq ctNo_ok ?_
   simp only [go_sem]
   refine rg ctNo_ok ?_
   simp only [go_sem]
   obtain ⟨f21,H⟩:=need_some.1 H
   replace f21:=capb_iff.1 f21
   refine cutO shT_ok ctNo_ok 2 ?_
   simp only [kO_normal,List.take_succ_cons,List.take_zero,List.drop_succ_cons,List.drop_zero,go_sem,Nat.reduceLeDiff,Nat.reduceAdd,reduceCtorEq,f21]
   repeat ((with_reducible refine And.intro ?_ ?_);focus exact an1)
   refine endO ?_
   refine seqM ?_
   obtain ⟨w22,hw23,H⟩:=bsi H
   replace hw23:=Option.some.inj hw23
   have lhw23:w22.length=r11.length:=by rw [← hw23];exact (by simp [(show ([]:List TFrame).length=0 from rfl)])
   refine subF_mean (t2:=(tp 4 (.sl 8 41 0 w22.length false::.ptr 2 0 0 0::.top::.ptr 3 0 0 0::tp 34 []))) (h2:=[.lit 25 [.int .i64 p0.Limit,.int .i64 p0.Stay,.ro 3 p0.List.length false (enR c_TSleeper p0.List),.ro 43 p0.Group.length false (enR c_TStored p0.Group)],.dead,.lit 25 [.int .i64 0,.int .i64 0,.ro 0 0 true (fun _ _=>.top),.ro 0 0 true (fun _ _=>.top)],.lit 25 [.int .i64 r8.Limit,.int .i64 r8.Stay,.sl 7 3 0 r13.length false,.sl 5 43 0 r8.Group.length false],.dead,.row 61 43 r8.Group.length (enR c_TStored r8.Group),.dead,.row 57 3 r13.length (enR c_TSleeper r13),.row 33 41 w22.length (enR c_TFrame w22)]) ?_ ?_
   ·refine SubF_of ⟨[some 0,some 1,some 2,some 3,some 4,some 5,some 6,some 7,some 8],?_,?_,by rfl,by rfl⟩
    ·simp [CvL,Cv,getM,tp,tp,lhw23]
    ·exact ⟨(by simp [CvB,CvL,Cv,blkAt,geth]),CvB_dead,(by simp [CvB,CvL,Cv,blkAt,geth]),(by simp [CvB,CvL,Cv,blkAt,geth,getM]),CvB_dead,CvB_row nr_TStored rfl (fun _ _ _ _=>rfl),CvB_dead,CvB_row nr_TSleeper rfl (fun _ _ _ _=>rfl),CvB_row nr_TFrame lhw23 (hw23 ▸ (app_row (f:=c_TFrame) r11 ([]:List TFrame) (fun _ _ _ _=>rfl) (fun x y hx=>absurd hx (by simp)))),trivial⟩
   simp only [tp]
   refine draw_rule shT_ok ctNo_ok 0 (by kernel_rfl) (by kernel_rfl) ?_
   intro an han
   simp only [d_nil,d_cons,nxtD,xrD,xoD,roEq,minL,List.append_nil,refsOp,refs,mask,maskF,place,placeF,okLog,pairOk,hit,inL,slotsF,nrH,nrB,nrL,nr,List.replicate_zero,Nat.sub_self,Nat.add_zero,Nat.zero_add,Nat.reduceSub,Nat.lt_add_one,go_sem,Nat.reduceLeDiff,Nat.reduceLT,Nat.reduceAdd,Nat.reduceSub,Nat.reduceBEq]
   repeat ((with_reducible refine And.intro ?_ ?_);focus exact an5)
   refine rg ctNo_ok ?_
   simp only [go_sem,Nat.reduceLT,Nat.reduceAdd]
   obtain rfl:=Option.some.inj H
   refine ⟨[8,7,5,0,2,3],?_,?_,[],?_,?_,rfl⟩
   ·simp only [go_sem,Nat.reduceBEq]
    try exact at0
   ·simp only [go_sem,Nat.reduceBEq]
    try exact at0
   ·simp only [go_sem,Nat.reduceBEq]
    exact Cv_tup (CvL_cons (ro_row (by first|rfl|simp) (fun _ _ _ _=>rfl)) (CvL_cons (Cv_agg (CvL_cons Cv_int (CvL_cons Cv_int (CvL_cons (ro_row (by first|rfl|simp) (fun _ _ _ _=>rfl)) (CvL_cons (ro_row (by first|rfl|simp) (fun _ _ _ _=>rfl)) CvL_nil))))) (CvL_cons Cv_int CvL_nil)))
   ·simp only [go_sem,CvH]
  ·cases hb
 ·unfold body42 at hb
  split at hb<;>cases hb
noncomputable def F38 (p0:TFrame):Option (Int) :=
 bif (!bEq (p0.Body.length:Nat) 2) then (some (-1)) else (need (inb 0 p0.Body.length) <| need (inb 1 p0.Body.length) <| some (orI .i64 (shlI .i64 (wr .i64 (gd p0.Body 0)) 8) (wr .i64 (gd p0.Body 1))))
noncomputable def body38:List AV->AR
 | [v0]=>.pure (aK 41 k_TFrame v0/\(F38 (g_TFrame (aL v0))).isSome=true) (.int .i64 (gt (F38 (g_TFrame (aL v0)))))
 | _=>.fail
theorem ok38:FnOk Try.prog 38 (pureC body38):=by
 refine pure_fnM body38 (rs:=[.tmp 2]) Try.func38 (by kernel_rfl) rfl rfl ?_
 intro l ob v hb hob
 unfold body38 at hb
 split at hb
 ·rename_i v0
  injection hb with q1 q2;subst q1 q2
  obtain ⟨hk0_0,hob⟩:=hob
  obtain ⟨r,H⟩:=Option.isSome_iff_exists.1 hob
  rw [H,gt_some]
  have hw0:=wA_TFrame hk0_0
  generalize g_TFrame (aL v0)=p0 at H hw0
  refine ⟨[.agg (.int .u8 p0.Head.Kind::.int .u8 p0.Head.Sub::.bool p0.Head.ToDs::.bool p0.Head.FromDs::.bool p0.Head.More::.bool p0.Head.Retry::.bool p0.Head.Sleep::.bool p0.Head.MoreData::.bool p0.Head.Protected::.int .i64 p0.Head.Duration::.int .u8 p0.Head.A1.x0::.int .u8 p0.Head.A1.x1::.int .u8 p0.Head.A1.x2::.int .u8 p0.Head.A1.x3::.int .u8 p0.Head.A1.x4::.int .u8 p0.Head.A1.x5::.int .u8 p0.Head.A2.x0::.int .u8 p0.Head.A2.x1::.int .u8 p0.Head.A2.x2::.int .u8 p0.Head.A2.x3::.int .u8 p0.Head.A2.x4::.int .u8 p0.Head.A2.x5::.int .u8 p0.Head.A3.x0::.int .u8 p0.Head.A3.x1::.int .u8 p0.Head.A3.x2::.int .u8 p0.Head.A3.x3::.int .u8 p0.Head.A3.x4::.int .u8 p0.Head.A3.x5::.int .u8 p0.Head.A4.x0::.int .u8 p0.Head.A4.x1::.int .u8 p0.Head.A4.x2::.int .u8 p0.Head.A4.x3::.int .u8 p0.Head.A4.x4::.int .u8 p0.Head.A4.x5::.int .i64 p0.Head.Seq::.int .i64 p0.Head.Frag::.int .i64 p0.Head.Tid::.int .u8 p0.Head.Ack::.bool p0.Head.Amsdu::.bool p0.Head.Eosp::.ro 1 p0.Body.length false (enR c_u8 p0.Body)::[])],_,(fun E vs F=>FR_wk1 hw0.1 F (fun vs F=>F)),rfl,rfl,?_⟩
  rw [Try.ntmps38]
  simp only [List.length_cons,List.length_nil,Nat.reduceAdd,Nat.reduceSub,List.replicate_succ,List.replicate_zero,List.cons_append,List.nil_append]
  unfold F38 at H
  try dsimp only at H
  refine sq ctNo_ok ?_
  simp only [go_sem]
  refine seqM ?_
  refine sq ctNo_ok ?_
  simp only [go_sem,Nat.reduceLT,Nat.reduceAdd]
  repeat ((with_reducible refine And.intro ?_ ?_);focus exact an0)
  refine condM rfl trivial (fun hc=>?_) (fun hc=>?_)
  ·have hk1:(bEq (p0.Body.length:Nat) 2)=false:=by simpa using hc
   replace H:=cond_t hc H
   refine sq ctNo_ok ?_
   simp only [go_sem]
   refine rg ctNo_ok ?_
   simp only [go_sem]
   obtain rfl:=Option.some.inj H
   first|rfl|simp only [Bool.and_false,Bool.false_and,Bool.and_true,Bool.true_and]
  have hk1:(bEq (p0.Body.length:Nat) 2)=true:=by simpa using hc
  replace H:=cond_f hc H
  refine rg ctNo_ok ?_
  simp only [go_sem]
  refine seqM ?_
  obtain ⟨f2,H⟩:=need_some.1 H
  replace f2:=inb_iff.1 f2
  obtain ⟨f3,H⟩:=need_some.1 H
  replace f3:=inb_iff.1 f3
  refine draw_quiet shT_ok ctNo_ok (by kernel_rfl) (by kernel_rfl) ?_
  simp only [go_sem,Nat.reduceLT,Nat.reduceAdd,Int.reduceToNat,f2,f3]
  repeat ((with_reducible refine And.intro ?_ ?_);focus exact an6)
  refine rg ctNo_ok ?_
  simp only [go_sem]
  obtain rfl:=Option.some.inj H
  first|rfl|simp only [Bool.and_false,Bool.false_and,Bool.and_true,Bool.true_and]
 ·cases hb
noncomputable def ct20t0:Ct:=tab [(12,genC body12)]
theorem ct20t0_ok:CtOk Try.prog ct20t0:=tab_cons ok12 <| tab_nil
theorem ct20t0_12 (l:List AV) (h:List ABlk):ct20t0 12 l h=genC body12 l h:=rfl
noncomputable def ct20t1:Ct:=tab [(40,genC body40)]
theorem ct20t1_ok:CtOk Try.prog ct20t1:=tab_cons ok40 <| tab_nil
theorem ct20t1_40 (l:List AV) (h:List ABlk):ct20t1 40 l h=genC body40 l h:=rfl
noncomputable def ct20t2:Ct:=tab [(50,genC body50)]
theorem ct20t2_ok:CtOk Try.prog ct20t2:=tab_cons ok50 <| tab_nil
theorem ct20t2_50 (l:List AV) (h:List ABlk):ct20t2 50 l h=genC body50 l h:=rfl
noncomputable def ct20t3:Ct:=tab [(24,frC (genC body24)),(37,edC body37)]
theorem ct20t3_ok:CtOk Try.prog ct20t3:=tab_cons (fr_ok ok24) <| tab_cons ok37 <| tab_nil
theorem ct20t3_24 (l:List AV) (h:List ABlk):ct20t3 24 l h=frC (genC body24) l h:=rfl
theorem ct20t3_37 (l:List AV) (h:List ABlk):ct20t3 37 l h=edC body37 l h:=rfl
noncomputable def ct20t4:Ct:=tab [(23,genC body23)]
theorem ct20t4_ok:CtOk Try.prog ct20t4:=tab_cons ok23 <| tab_nil
theorem ct20t4_23 (l:List AV) (h:List ABlk):ct20t4 23 l h=genC body23 l h:=rfl
noncomputable def ct20t5:Ct:=tab [(38,pureC body38)]
theorem ct20t5_ok:CtOk Try.prog ct20t5:=tab_cons ok38 <| tab_nil
theorem ct20t5_38 (l:List AV) (h:List ABlk):ct20t5 38 l h=pureC body38 l h:=rfl
noncomputable def F20:Option (Bool) :=
 (F12 2 100).bind fun r1=>(F40 r1.1 7).bind fun r3=>(F50 r3.1 7).bind fun r5=>(F37 1).bind fun r7=>(F24 r5.1 7 1 (eF r7) 10).bind fun r9=>(F37 2).bind fun r11=>(F24 r9.2.2.1 7 2 (eF r11) 11).bind fun r13=>(F37 3).bind fun r15=>(F24 r13.2.2.1 7 1 (eF r15) 12).bind fun r17=>(F23 r17.2.2.1 7).bind fun r19=>need (bif (((((((((((bEq r1.2 0) && (bEq r3.2 0)) && (bEq r5.2 0)) && (bEq r9.2.2.2 0)) && (bEq r13.2.2.2 0)) && (bEq r17.2.2.2 0)) && (bEq r19.2.2 0)) && (bEq (r9.2.1.length:Nat) 0)) && (bEq (r13.2.1.length:Nat) 0)) && (bEq (r17.1.length:Nat) 0)) && (bEq (r17.2.1.length:Nat) 1)) then inb 0 r17.2.1.length else true) <| need (bif (((((((((((bEq r1.2 0) && (bEq r3.2 0)) && (bEq r5.2 0)) && (bEq r9.2.2.2 0)) && (bEq r13.2.2.2 0)) && (bEq r17.2.2.2 0)) && (bEq r19.2.2 0)) && (bEq (r9.2.1.length:Nat) 0)) && (bEq (r13.2.1.length:Nat) 0)) && (bEq (r17.1.length:Nat) 0)) && (bEq (r17.2.1.length:Nat) 1)) then ((F38 (eF (gd r17.2.1 0))).isSome) else true) <| need (bif ((((((((((((bEq r1.2 0) && (bEq r3.2 0)) && (bEq r5.2 0)) && (bEq r9.2.2.2 0)) && (bEq r13.2.2.2 0)) && (bEq r17.2.2.2 0)) && (bEq r19.2.2 0)) && (bEq (r9.2.1.length:Nat) 0)) && (bEq (r13.2.1.length:Nat) 0)) && (bEq (r17.1.length:Nat) 0)) && (bEq (r17.2.1.length:Nat) 1)) && (bEq (gt (F38 (eF (gd r17.2.1 0)))) 1)) then ((F38 r19.1).isSome) else true) <| need (bif (((((((((((((((bEq r1.2 0) && (bEq r3.2 0)) && (bEq r5.2 0)) && (bEq r9.2.2.2 0)) && (bEq r13.2.2.2 0)) && (bEq r17.2.2.2 0)) && (bEq r19.2.2 0)) && (bEq (r9.2.1.length:Nat) 0)) && (bEq (r13.2.1.length:Nat) 0)) && (bEq (r17.1.length:Nat) 0)) && (bEq (r17.2.1.length:Nat) 1)) && (bEq (gt (F38 (eF (gd r17.2.1 0)))) 1)) && (bEq (gt (F38 r19.1)) 2)) && r19.1.Head.MoreData) && (bEq (r19.2.1.List.length:Nat) 1)) then inb 0 r19.2.1.List.length else true) <| some ((((((((((((((((bEq r1.2 0) && (bEq r3.2 0)) && (bEq r5.2 0)) && (bEq r9.2.2.2 0)) && (bEq r13.2.2.2 0)) && (bEq r17.2.2.2 0)) && (bEq r19.2.2 0)) && (bEq (r9.2.1.length:Nat) 0)) && (bEq (r13.2.1.length:Nat) 0)) && (bEq (r17.1.length:Nat) 0)) && (bEq (r17.2.1.length:Nat) 1)) && (bEq (gt (F38 (eF (gd r17.2.1 0)))) 1)) && (bEq (gt (F38 r19.1)) 2)) && r19.1.Head.MoreData) && (bEq (r19.2.1.List.length:Nat) 1)) && (bEq (((gd r19.2.1.List 0).Held).length:Nat) 1))
noncomputable def body20:List AV->AR
 | []=>.pure ((F20).isSome=true) (.bool (gt F20))
 | _=>.fail
theorem ok20:FnOk Try.prog 20 (pureC body20):=by
 refine pure_fnM body20 (rs:=[.tmp 0]) Try.func20 (by kernel_rfl) rfl rfl ?_
 intro l ob v hb hob
 unfold body20 at hb
 split at hb
 ·injection hb with q1 q2;subst q1 q2
  obtain ⟨r,H⟩:=Option.isSome_iff_exists.1 hob
  rw [H,gt_some]
  refine ⟨[],_,(fun E vs F=>F),rfl,rfl,?_⟩
  rw [Try.ntmps20]
  simp only [List.length_nil,Nat.reduceSub,List.replicate_succ,List.replicate_zero,List.nil_append]
  unfold F20 at H
  delta eF at H
  try dsimp only at H
  refine sq ctNo_ok ?_
  simp only [go_sem]
  refine seqM ?_
  obtain ⟨r1,e2,H⟩:=bsi H
  refine rg ct20t0_ok ?_
  simp only [go_sem,Nat.reduceLT,Nat.reduceAdd,ct20t0_12,body12,e2]
  repeat ((with_reducible refine And.intro ?_ ?_);focus exact an0)
  refine seqM ?_
  obtain ⟨r3,e4,H⟩:=bsi H
  refine rg ct20t1_ok ?_
  simp only [go_sem,Nat.reduceLT,Nat.reduceAdd,ct20t1_40,body40,e4]
  repeat ((with_reducible refine And.intro ?_ ?_);focus exact an0)
  refine seqM ?_
  obtain ⟨r5,e6,H⟩:=bsi H
  refine rg ct20t2_ok ?_
  simp only [go_sem,Nat.reduceLT,Nat.reduceAdd,ct20t2_50,body50,e6]
  repeat ((with_reducible refine And.intro ?_ ?_);focus exact an0)
  refine seqM ?_
  obtain ⟨r7,e8,H⟩:=bsi H
  obtain ⟨r9,e10,H⟩:=bsi H
  refine draw_rule shT_ok ct20t3_ok 1 (by kernel_rfl) (by kernel_rfl) ?_
  intro an han
  simp only [d_nil,d_cons,nxtD,xrD,xoD,roEq,minL,List.append_nil,refsOp,refs,refsL,mask,maskF,place,placeF,okLog,pairOk,hit,inL,slotsF,ren,renL,rnN,nrH,nrB,nrL,nr,List.replicate_zero,List.replicate_succ,Nat.sub_self,Nat.add_zero,Nat.zero_add,Nat.reduceSub,Nat.lt_add_one,go_sem,Nat.reduceLeDiff,Nat.reduceLT,Nat.reduceAdd,Nat.reduceSub,Nat.reduceBEq,frC,obR,fzL,fzV,fzH,fzHF,fzB,fzOb,fzObL,fzObH,fzObB,rowOb,refsL,refs,inL,ct20t3_24,body24,ct20t3_37,body37,e8,e10]
  repeat ((with_reducible refine And.intro ?_ ?_);focus exact an5)
  refine seqM ?_
  obtain ⟨r11,e12,H⟩:=bsi H
  obtain ⟨r13,e14,H⟩:=bsi H
  refine draw_rule shT_ok ct20t3_ok 1 (by kernel_rfl) (by kernel_rfl) ?_
  intro an han
  simp only [d_nil,d_cons,nxtD,xrD,xoD,roEq,minL,List.append_nil,refsOp,refs,refsL,mask,maskF,place,placeF,okLog,pairOk,hit,inL,slotsF,ren,renL,rnN,nrH,nrB,nrL,nr,List.replicate_zero,List.replicate_succ,Nat.sub_self,Nat.add_zero,Nat.zero_add,Nat.reduceSub,Nat.lt_add_one,go_sem,Nat.reduceLeDiff,Nat.reduceLT,Nat.reduceAdd,Nat.reduceSub,Nat.reduceBEq,frC,obR,fzL,fzV,fzH,fzHF,fzB,fzOb,fzObL,fzObH,fzObB,rowOb,refsL,refs,inL,ct20t3_24,body24,ct20t3_37,body37,e12,e14]
  repeat ((with_reducible refine And.intro ?_ ?_);focus exact an5)
  refine seqM ?_
  obtain ⟨r15,e16,H⟩:=bsi H
  obtain ⟨r17,e18,H⟩:=bsi H
  refine draw_rule shT_ok ct20t3_ok 1 (by kernel_rfl) (by kernel_rfl) ?_
  intro an han
  simp only [d_nil,d_cons,nxtD,xrD,xoD,roEq,minL,List.append_nil,refsOp,refs,refsL,mask,maskF,place,placeF,okLog,pairOk,hit,inL,slotsF,ren,renL,rnN,nrH,nrB,nrL,nr,List.replicate_zero,List.replicate_succ,Nat.sub_self,Nat.add_zero,Nat.zero_add,Nat.reduceSub,Nat.lt_add_one,go_sem,Nat.reduceLeDiff,Nat.reduceLT,Nat.reduceAdd,Nat.reduceSub,Nat.reduceBEq,frC,obR,fzL,fzV,fzH,fzHF,fzB,fzOb,fzObL,fzObH,fzObB,rowOb,refsL,refs,inL,ct20t3_24,body24,ct20t3_37,body37,e16,e18]
  repeat ((with_reducible refine And.intro ?_ ?_);focus exact an5)
  refine seqM ?_
  obtain ⟨r19,e20,H⟩:=bsi H
  refine rg ct20t4_ok ?_
  simp only [go_sem,Nat.reduceLT,Nat.reduceAdd,ct20t4_23,body23,e20]
  repeat ((with_reducible refine And.intro ?_ ?_);focus exact an0)
  refine sq ctNo_ok ?_
  simp only [go_sem]
  repeat ((with_reducible refine And.intro ?_ ?_);focus exact an6)
  refine seqM ?_
  obtain ⟨f21,H⟩:=need_some.1 H
  replace f21:=g_iff.1 f21
  replace f21:=fun g=>inb_iff.1 (f21 g)
  obtain ⟨f22,H⟩:=need_some.1 H
  replace f22:=g_iff.1 f22
  obtain ⟨f23,H⟩:=need_some.1 H
  replace f23:=g_iff.1 f23
  obtain ⟨f24,H⟩:=need_some.1 H
  replace f24:=g_iff.1 f24
  replace f24:=fun g=>inb_iff.1 (f24 g)
  refine rg ct20t5_ok ?_
  simp only [go_sem,Nat.reduceLeDiff,Nat.reduceLT,Nat.reduceAdd,reduceCtorEq,ct20t5_38,body38]
  repeat ((with_reducible refine And.intro ?_ ?_);focus (first|(with_reducible trivial)|omega|exact f21|exact f22|exact f23|exact f24|(intro g;have q:=f21 (by first|exact g|(rw [g];rfl)|simpa using g);first|exact q|exact ⟨q.1,q.2.1⟩|exact q.2.2|omega|exact ⟨g,q⟩|exact ⟨trivial,q⟩|exact ⟨g,q.1,q.2.1⟩|exact ⟨g,q.2.2⟩)|(intro g;have q:=f22 (by first|exact g|(rw [g];rfl)|simpa using g);first|exact q|exact ⟨q.1,q.2.1⟩|exact q.2.2|omega|exact ⟨g,q⟩|exact ⟨trivial,q⟩|exact ⟨g,q.1,q.2.1⟩|exact ⟨g,q.2.2⟩)|(intro g;have q:=f23 (by first|exact g|(rw [g];rfl)|simpa using g);first|exact q|exact ⟨q.1,q.2.1⟩|exact q.2.2|omega|exact ⟨g,q⟩|exact ⟨trivial,q⟩|exact ⟨g,q.1,q.2.1⟩|exact ⟨g,q.2.2⟩)|(intro g;have q:=f24 (by first|exact g|(rw [g];rfl)|simpa using g);first|exact q|exact ⟨q.1,q.2.1⟩|exact q.2.2|omega|exact ⟨g,q⟩|exact ⟨trivial,q⟩|exact ⟨g,q.1,q.2.1⟩|exact ⟨g,q.2.2⟩)|(intro g;(try have q0:=f21 (by first|exact g|(rw [g];rfl)|simpa using g));(try have q1:=f22 (by first|exact g|(rw [g];rfl)|simpa using g));(try have q2:=f23 (by first|exact g|(rw [g];rfl)|simpa using g));(try have q3:=f24 (by first|exact g|(rw [g];rfl)|simpa using g));and_intros<;>first|(with_reducible trivial)|assumption|exact nfc|(intro g2;rw [g,g2];rfl)|(intro g2;assumption)|(simp only [g,Bool.true_and,Bool.and_true,Bool.not_false,Bool.not_true];assumption)|grind)|(and_intros<;>first|(with_reducible trivial)|omega|assumption|exact nfc|first|exact rfl|exact trivial|exact fitI|exact .inr rfl|exact .inl rfl|exact fun x hx=>absurd hx (by omega))|grind))
  refine rg ctNo_ok ?_
  simp only [go_sem]
  obtain rfl:=Option.some.inj H
  first|rfl|simp only [Bool.and_false,Bool.false_and,Bool.and_true,Bool.true_and]
 ·cases hb
end Go.Proofs.Ytefiemaoacmdkaa
