/-
  What TriggerKeeps reaches.
-/
import Derived.Test.YtnclkplbeenmdaaY6p2
namespace Go.Proofs.Ytnclkplbeenmdaa
open Go.Am
set_option maxHeartbeats 4000000
set_option maxRecDepth 20000
set_option linter.unusedVariables false
set_option linter.unusedSimpArgs false
noncomputable def F72k (p0:List TSleeper):Option (List TSleeper) :=
 need (capb 40 p0.length) <| some p0
noncomputable def body72k:List AV->List ABlk->ED
 | [v0],h=>.ed [slN v0] (oS 71 3 h v0/\lK k_TSleeper 3 (roW h v0)/\(F72k (lA g_TSleeper (roW h v0))).isSome=true) (.sl 1 3 0 (gt (F72k (lA g_TSleeper (roW h v0)))).length false) [.row 71 3 (lA g_TSleeper (roW h v0)).length (enR c_TSleeper (lA g_TSleeper (roW h v0))),.row 71 3 (gt (F72k (lA g_TSleeper (roW h v0)))).length (enR c_TSleeper (gt (F72k (lA g_TSleeper (roW h v0)))))]
 | _,_=>.fail
theorem ok72k:FnOk Try.prog 72 (edC body72k):=by
 refine edit_fnM body72k (rs:=[.tmp 2]) Try.func72 (by kernel_rfl) rfl rfl ?_
 intro l h bs ob q0 g0 hb hob
 unfold body72k at hb
 split at hb
 ·rename_i v0
  injection hb with q1 q2 q3 q4;subst q1 q2 q3 q4
  obtain ⟨hk0_0,hk0_1,hob⟩:=hob
  obtain ⟨r,H⟩:=Option.isSome_iff_exists.1 hob
  rw [H,gt_some]
  obtain ⟨p0,hp0⟩:∃ p0,p0=lA g_TSleeper (roW h v0):=⟨_,rfl⟩
  rw [← hp0] at H
  try simp only [← hp0]
  obtain ⟨ev0,eb0⟩:=own_row2 (f:=c_TSleeper) (g:=g_TSleeper) (bs:=[slN v0]) (i:=0) (fun hr=>w_TSleeper hr) hk0_0 hk0_1 (L:=p0) (by rw [hp0]) rfl
  unfold F72k at H
  obtain ⟨f1,H⟩:=need_some.1 H
  replace f1:=capb_iff.1 f1
  obtain rfl:=Option.some.inj H
  refine ⟨[.sl 0 3 0 p0.length false],[.row 71 3 p0.length (enR c_TSleeper p0)],rfl,⟨ev0,trivial⟩,⟨eb0,trivial⟩,⟨(nfB_en nr_TSleeper),⟨(nfB_en nr_TSleeper),trivial⟩⟩,?_⟩
  rw [Try.ntmps72]
  simp only [List.length_cons,List.length_nil,Nat.reduceAdd,Nat.reduceSub,List.replicate_succ,List.replicate_zero,List.cons_append,List.nil_append]
  refine rg ctNo_ok ?_
  cases hn:p0.length with
  | zero =>
   simp only [go_sem,Nat.reduceLeDiff,Nat.reduceAdd]
   have hp:p0=[]:=List.eq_nil_of_length_eq_zero hn
   subst hp
   refine ⟨?_,?_⟩
   ·refine RetE_mk [] [some 0,none] ?_ ?_ ?_ ?_ (by rfl) (by rfl)
    ·simp only [fzOb]
    ·simp only [fzObB,fzObH,and_self]
    ·simp [fzV,Cv]
    ·simp only [fzH,fzHF,fzB,inL,cond_false,and_true,CvH,and_true];exact ⟨CvB_z,CvB_none⟩
   ·refine ⟨by omega,RetE_mk [] [some 0,some 2] ?_ ?_ ?_ ?_ (by rfl) (by rfl)⟩
    ·simp only [Nat.add_zero,fzOb,inL,rowOb,geth,cond_false,true_and,Nat.zero_add,Nat.le_refl]
    ·simp only [fzObB,fzObH,and_self]
    ·simp [fzV,inL,Cv,getM]
    ·simp only [fzH,fzHF,fzB,inL,cond_false,and_true,CvH,and_true];exact ⟨CvB_z,CvB_z⟩
  | succ m =>
   simp only [go_sem,Nat.reduceLeDiff,Nat.reduceAdd]
   refine ⟨by omega,RetE_mk [] [some 0,some 2] ?_ ?_ ?_ ?_ (by rfl) (by rfl)⟩
   ·simp only [fzOb,inL,rowOb,geth,cond_false,true_and,Nat.zero_add,Nat.le_refl]
   ·simp only [fzObB,fzObH,and_self]
   ·simp [fzV,inL,Cv,getM]
   ·simp only [fzH,fzHF,fzB,inL,cond_false,and_true,CvH,and_true];rw [← hn];exact ⟨CvB_row nr_TSleeper rfl (fun _ _ _ _=>rfl),CvB_row nr_TSleeper rfl (fun x y hx hy=>by simp only [appC,Nat.not_lt_zero,if_false,Nat.sub_zero])⟩
 ·cases hb
noncomputable def ct54_0t0:Ct:=tab [(72,edC body72k)]
theorem ct54_0t0_ok:CtOk Try.prog ct54_0t0:=tab_cons ok72k <| tab_nil
theorem ct54_0t0_72 (l:List AV) (h:List ABlk):ct54_0t0 72 l h=edC body72k l h:=rfl
noncomputable def ct54_0t1:Ct:=tab [(71,genC body71_0)]
theorem ct54_0t1_ok:CtOk Try.prog ct54_0t1:=tab_cons ok71_0 <| tab_nil
theorem ct54_0t1_71 (l:List AV) (h:List ABlk):ct54_0t1 71 l h=genC body71_0 l h:=rfl
noncomputable def ct54_0t2:Ct:=tab [(71,genC body71)]
theorem ct54_0t2_ok:CtOk Try.prog ct54_0t2:=tab_cons ok71 <| tab_nil
theorem ct54_0t2_71 (l:List AV) (h:List ABlk):ct54_0t2 71 l h=genC body71 l h:=rfl
noncomputable def F54_0_L1 (r1:List TSleeper) (v1_1:Int) (v1_2:List TSleeper):Option (Lp (Int × (List TSleeper)) ((List TSleeper) ⊕ (TBuffer))) :=
 bif (bLt v1_1 (r1.length:Nat)) then (need (inb v1_1 v1_2.length) <| (F71_0 ((gd v1_2 v1_1.toNat).Held)).bind fun r4=>need (inb v1_1 v1_2.length) <| some (.next (wr .i64 (v1_1+1),(v1_2.set v1_1.toNat (TSleeper.mk ((gd v1_2 v1_1.toNat).Aid) ((gd v1_2 v1_1.toNat).Asleep) r4))))) else (some (.done (.inl v1_2)))
noncomputable def F54_0 (p0:TBuffer):Option (TBuffer) :=
 (F72k p0.List).bind fun r1=>lp (loopD (fun s=>F54_0_L1 r1 s.1 s.2) (0,r1)) (fun w1_3=>(F71 p0.Group).bind fun r7=>some (TBuffer.mk p0.Limit p0.Stay w1_3 r7)) some
noncomputable def body54_0:List AV->List ABlk->ED
 | [v0],h=>.ed [slN (getL (aLs v0) 2)] (((aLs v0).length=4/\v0 = .agg (aLs v0))/\k_TBuffer (getL (roWL h (aLs v0)))/\nref (getL (aLs v0) 0)/\nref (getL (aLs v0) 1)/\oS 71 3 h (getL (aLs v0) 2)/\nref (getL (aLs v0) 3)/\(F54_0 (g_TBuffer (getL (roWL h (aLs v0))))).isSome=true) (.agg [.int .i64 ((gt (F54_0 (g_TBuffer (getL (roWL h (aLs v0)))))).Limit),.int .i64 ((gt (F54_0 (g_TBuffer (getL (roWL h (aLs v0)))))).Stay),.sl 1 3 0 (((gt (F54_0 (g_TBuffer (getL (roWL h (aLs v0)))))).List).length) false,.sl 2 43 0 (((gt (F54_0 (g_TBuffer (getL (roWL h (aLs v0)))))).Group).length) false]) [.row 71 3 (((g_TBuffer (getL (roWL h (aLs v0)))).List).length) (enR c_TSleeper ((g_TBuffer (getL (roWL h (aLs v0)))).List)),.row 71 3 (((gt (F54_0 (g_TBuffer (getL (roWL h (aLs v0)))))).List).length) (enR c_TSleeper ((gt (F54_0 (g_TBuffer (getL (roWL h (aLs v0)))))).List)),.row 73 43 (((gt (F54_0 (g_TBuffer (getL (roWL h (aLs v0)))))).Group).length) (enR c_TStored ((gt (F54_0 (g_TBuffer (getL (roWL h (aLs v0)))))).Group))]
 | _,_=>.fail
theorem ok54_0:FnOk Try.prog 54 (edC body54_0):=by
 refine edit_fnM body54_0 (rs:=[.cell 2 52]) Try.func54 (by kernel_rfl) rfl rfl ?_
 intro l h bs ob q0 g0 hb hob
 unfold body54_0 at hb
 split at hb
 ·rename_i v0
  injection hb with q1 q2 q3 q4;subst q1 q2 q3 q4
  obtain ⟨hk0_0,hk0_1,hk0_2,hk0_3,hk0_4,hk0_5,hob⟩:=hob
  obtain ⟨r,H⟩:=Option.isSome_iff_exists.1 hob
  rw [H,gt_some]
  obtain ⟨p0,hp0⟩:∃ p0,p0=g_TBuffer (getL (roWL h (aLs v0))):=⟨_,rfl⟩
  rw [← hp0] at H
  try simp only [← hp0]
  have hw0:∀ y,y < 4->WkV (getL (c_TBuffer p0) y) (roW h (getL (aLs v0) y))/\nref (getL (c_TBuffer p0) y):=fun y hy=>by rw [hp0,← getL_roWL];exact w_TBuffer hk0_1 y hy
  have hk0_K:=hk0_1
  unfold k_TBuffer at hk0_K
  obtain ⟨kk0_0,kk0_1,kk0_2,kk0_3⟩:=hk0_K
  obtain ⟨ev0_2,eb0_2⟩:=own_row2 (f:=c_TSleeper) (g:=g_TSleeper) (bs:=[slN (getL (aLs v0) 2)]) (i:=0) (fun hr=>w_TSleeper hr) hk0_4 (by rw [← getL_roWL];exact kk0_2) (L:=p0.List) (by rw [hp0,← getL_roWL];rfl) rfl
  refine ⟨[.agg [.int .i64 p0.Limit,.int .i64 p0.Stay,.sl 0 3 0 p0.List.length false,.ro 43 p0.Group.length false (enR c_TStored p0.Group)]],[.row 71 3 p0.List.length (enR c_TSleeper p0.List)],rfl,⟨(by rw [hk0_0.2];exact EV_agg (EVL_of hk0_0.1.symm (fun y hy=>by
     match y,hy with
     | 0,_=>exact EV_t hk0_2 (hw0 0 (by decide))
     | 1,_=>exact EV_t hk0_3 (hw0 1 (by decide))
     | 2,_=>exact ev0_2
     | 3,_=>exact EV_t hk0_5 (hw0 3 (by decide))
     | y+4,hy=>exact absurd hy (by simp)))),trivial⟩,⟨eb0_2,trivial⟩,⟨(nfB_en nr_TSleeper),⟨(nfB_en nr_TSleeper),⟨(nfB_en nr_TStored),trivial⟩⟩⟩,?_⟩
  rw [Try.ntmps54]
  simp only [List.length_cons,List.length_nil,Nat.reduceAdd,Nat.reduceSub,List.replicate_succ,List.replicate_zero,List.cons_append,List.nil_append]
  unfold F54_0 at H
  try dsimp only at H
  refine sq ctNo_ok ?_
  simp only [go_sem,Nat.reduceAdd]
  refine sq ctNo_ok ?_
  simp only [go_sem]
  refine seqM ?_
  obtain ⟨r1,e2,H⟩:=bsi H
  refine rg ct54_0t0_ok ?_
  simp only [go_sem,Nat.reduceLeDiff,Nat.reduceLT,Nat.reduceAdd,ct54_0t0_72,body72k,e2]
  repeat ((with_reducible refine And.intro ?_ ?_);focus exact an0)
  refine seqM ?_
  refine sq ctNo_ok ?_
  simp only [go_sem,Nat.reduceLeDiff,Nat.reduceLT,Nat.reduceAdd]
  repeat ((with_reducible refine And.intro ?_ ?_);focus exact an0)
  refine blkM ?_
  refine loop_den (fun s:Int × (List TSleeper)=>(.top::.ptr 1 0 0 0::.ptr 2 0 0 0::.fn 71 []::tp 7 (.int .i64 (r1.length:Nat)::.int .i64 s.1::tp 22 []))) (fun s=>[.row 71 3 p0.List.length (enR c_TSleeper p0.List),.lit 52 [.int .i64 p0.Limit,.int .i64 p0.Stay,.sl 4 3 0 s.2.length false,.ro 43 p0.Group.length false (enR c_TStored p0.Group)],.lit 52 [.int .i64 0,.int .i64 0,.ro 0 0 true (fun _ _=>.top),.ro 0 0 true (fun _ _=>.top)],.dead,.row 71 3 s.2.length (enR c_TSleeper s.2)]) (fun e:List TSleeper=>(.top::.ptr 1 0 0 0::.ptr 2 0 0 0::.fn 71 []::tp 31 [])) (fun e=>[.row 71 3 p0.List.length (enR c_TSleeper p0.List),.lit 52 [.int .i64 p0.Limit,.int .i64 p0.Stay,.sl 4 3 0 e.length false,.ro 43 p0.Group.length false (enR c_TStored p0.Group)],.lit 52 [.int .i64 0,.int .i64 0,.ro 0 0 true (fun _ _=>.top),.ro 0 0 true (fun _ _=>.top)],.dead,.row 71 3 e.length (enR c_TSleeper e)]) H ?_ (fun s o H hn1_1 hn2_1=>?_) (fun w1_3 H=>?_)
  ·refine SubF_of ⟨[some 0,some 1,some 2,some 3,some 3],?_,?_,by rfl,by rfl⟩
   ·simp [CvL,Cv,getM,tp]
   ·exact ⟨(CvB_same nfA),cv,cv,CvB_dead,CvB_row nr_TSleeper cl (fun _ _ _ _=>rfl),trivial⟩
  ·obtain ⟨v1_1,v1_2⟩:=s
   unfold F54_0_L1 at H
   try dsimp only at H ⊢
   try simp only [tp]
   refine sq ctNo_ok ?_
   simp only [go_sem,Nat.reduceAdd]
   refine seqM ?_
   refine condM' rfl trivial (fun hc=>?_) (fun hc=>?_)
   ·replace H:=cond_f hc H
    refine rg ctNo_ok ?_
    simp only [go_sem]
    refine ⟨_,(Option.some.inj H).symm,?_⟩
    refine SubF_of ⟨[some 0,some 1,some 2,some 3,some 4],?_,?_,by rfl,by rfl⟩
    ·simp [CvL,Cv,getM]
    ·exact ⟨(CvB_same nfA),cv,cv,CvB_dead,CvB_row nr_TSleeper cl (fun _ _ _ _=>rfl),trivial⟩
   replace H:=cond_t hc H
   refine rg ctNo_ok ?_
   simp only [go_sem]
   refine seqM ?_
   refine blkM ?_
   refine sq ctNo_ok ?_
   simp only [go_sem]
   obtain ⟨f3,H⟩:=need_some.1 H
   replace f3:=inb_iff.1 f3
   obtain ⟨r4,e5,H⟩:=bsi H
   obtain ⟨f6,H⟩:=need_some.1 H
   replace f6:=inb_iff.1 f6
   refine draw_rule shT_ok ct54_0t1_ok 0 (by kernel_rfl) (by kernel_rfl) ?_
   intro an han
   simp only [d_nil,d_cons,nxtD,xrD,xoD,roEq,minL,List.append_nil,refsOp,refs,refsL,mask,maskF,place,placeF,okLog,pairOk,hit,inL,slotsF,ren,nrH,nrB,List.replicate_zero,Nat.sub_self,Nat.add_zero,Nat.zero_add,Nat.reduceSub,Nat.lt_add_one,go_sem,Nat.reduceLeDiff,Nat.reduceLT,Nat.reduceAdd,Nat.reduceSub,Nat.reduceBEq,ct54_0t1_71,body71_0,f3,e5]
   repeat ((with_reducible refine And.intro ?_ ?_);focus exact an2)
   refine rg ctNo_ok ?_
   simp only [go_sem]
   refine ⟨_,(Option.some.inj H).symm,?_⟩
   refine SubF_of ⟨[some 0,some 1,some 2,some 3,some 4],?_,?_,by rfl,by rfl⟩
   ·simp [CvL,Cv,getM]
   ·exact ⟨(CvB_same nfA),cv,cv,CvB_dead,CvB_row nr_TSleeper cl (upc_row (f:=c_TSleeper) v1_2 v1_1.toNat 2 (TSleeper.mk ((gd v1_2 v1_1.toNat).Aid) ((gd v1_2 v1_1.toNat).Asleep) r4) (fun _ _ _ _=>rfl) (fun y hy=>match y,hy with|0,_=>rfl|1,_=>rfl|2,_=>rfl|(y+3),h=>absurd h nlt)),trivial⟩
  ·try dsimp only at H ⊢
   try simp only [tp]
   try simp only [m_normal]
   refine seqM ?_
   obtain ⟨r7,e8,H⟩:=bsi H
   refine rg ct54_0t2_ok ?_
   simp only [go_sem,Nat.reduceLT,Nat.reduceAdd,ct54_0t2_71,body71,e8]
   repeat ((with_reducible refine And.intro ?_ ?_);focus exact an0)
   refine sq ctNo_ok ?_
   simp only [go_sem,Nat.reduceLT,Nat.reduceAdd]
   repeat ((with_reducible refine And.intro ?_ ?_);focus exact an6)
   refine rg ctNo_ok ?_
   simp only [go_sem,Nat.reduceLT,Nat.reduceAdd]
   obtain rfl:=Option.some.inj H
   refine RetE_mk [] [some 0,some 4,some 5] ?_ ?_ ?_ ?_ (by rfl) (by rfl)
   ·simp only [go_sem]
    try exact at0
   ·simp only [go_sem]
    try exact at0
   ·simp only [go_sem]
    exact (by first|(simp [Cv,CvL,getM];done)|(simp [Cv,CvL,getM,gt_some];omega))
   ·simp only [go_sem,CvH]
    first|exact ⟨CvB_row nr_TSleeper rfl (fun _ _ _ _=>rfl),CvB_row nr_TSleeper cl (fun _ _ _ _=>rfl),CvB_row nr_TStored cl (fun _ _ _ _=>rfl)⟩|trivial
 ·cases hb
noncomputable def F54_0f_L1 (r1:List TSleeper) (v1_1:Int) (v1_2:List TSleeper):Option (Lp (Int × (List TSleeper)) ((Int × (List TSleeper)) ⊕ (TBuffer))) :=
 bif (bLt v1_1 (r1.length:Nat)) then (need (bLt v1_1 1000000) <| need (inb v1_1 v1_2.length) <| (F71_0 ((gd v1_2 v1_1.toNat).Held)).bind fun r4=>need (inb v1_1 v1_2.length) <| some (.next (wr .i64 (v1_1+1),(v1_2.set v1_1.toNat (TSleeper.mk ((gd v1_2 v1_1.toNat).Aid) ((gd v1_2 v1_1.toNat).Asleep) r4))))) else (some (.done (.inl (v1_1,v1_2))))
noncomputable def F54_0f (gi:Nat) (p0:TBuffer):Option (TBuffer) :=
 (F72k p0.List).bind fun r1=>lp (loopD (fun s=>F54_0f_L1 r1 s.1 s.2) (0,r1)) (fun e=>need (bLt (gi:Int) e.1) <| (F71 p0.Group).bind fun r7=>some (TBuffer.mk p0.Limit p0.Stay e.2 r7)) some
noncomputable def body54_0f (gi:Nat):List AV->List ABlk->ED
 | [v0],h=>.ed [slN (getL (aLs v0) 2)] (((aLs v0).length=4/\v0 = .agg (aLs v0))/\k_TBuffer (getL (roWL h (aLs v0)))/\nref (getL (aLs v0) 0)/\nref (getL (aLs v0) 1)/\oS 71 3 h (getL (aLs v0) 2)/\nref (getL (aLs v0) 3)/\(F54_0f gi (g_TBuffer (getL (roWL h (aLs v0))))).isSome=true) (.agg [.int .i64 ((gt (F54_0f gi (g_TBuffer (getL (roWL h (aLs v0)))))).Limit),.int .i64 ((gt (F54_0f gi (g_TBuffer (getL (roWL h (aLs v0)))))).Stay),.sl (1) 3 0 ((gt (F54_0f gi (g_TBuffer (getL (roWL h (aLs v0)))))).List).length false,.sl (3) 43 0 ((gt (F54_0f gi (g_TBuffer (getL (roWL h (aLs v0)))))).Group).length false]) [.row 71 3 (((g_TBuffer (getL (roWL h (aLs v0)))).List).length) (enR c_TSleeper ((g_TBuffer (getL (roWL h (aLs v0)))).List)),.row 71 3 ((gt (F54_0f gi (g_TBuffer (getL (roWL h (aLs v0)))))).List).length (upc (enR c_TSleeper ((gt (F54_0f gi (g_TBuffer (getL (roWL h (aLs v0)))))).List)) gi 2 [.sl (2) 43 0 ((gd ((gt (F54_0f gi (g_TBuffer (getL (roWL h (aLs v0)))))).List) gi).Held).length false]),.row 73 43 ((gd ((gt (F54_0f gi (g_TBuffer (getL (roWL h (aLs v0)))))).List) gi).Held).length (enR c_TStored ((gd ((gt (F54_0f gi (g_TBuffer (getL (roWL h (aLs v0)))))).List) gi).Held)),.row 73 43 ((gt (F54_0f gi (g_TBuffer (getL (roWL h (aLs v0)))))).Group).length (enR c_TStored ((gt (F54_0f gi (g_TBuffer (getL (roWL h (aLs v0)))))).Group))]
 | _,_=>.fail
theorem ok54_0f (gi:Nat):FnOk Try.prog 54 (edC (body54_0f gi)):=by
 refine edit_fnM (body54_0f gi) (rs:=[.cell 2 52]) Try.func54 (by kernel_rfl) rfl rfl ?_
 intro l h bs ob q0 g0 hb hob
 unfold body54_0f at hb
 split at hb
 ·rename_i v0
  injection hb with q1 q2 q3 q4;subst q1 q2 q3 q4
  obtain ⟨hk0_0,hk0_1,hk0_2,hk0_3,hk0_4,hk0_5,hob⟩:=hob
  obtain ⟨r,H⟩:=Option.isSome_iff_exists.1 hob
  rw [H,gt_some]
  obtain ⟨p0,hp0⟩:∃ p0,p0=g_TBuffer (getL (roWL h (aLs v0))):=⟨_,rfl⟩
  rw [← hp0] at H
  try simp only [← hp0]
  have hw0:∀ y,y < 4->WkV (getL (c_TBuffer p0) y) (roW h (getL (aLs v0) y))/\nref (getL (c_TBuffer p0) y):=fun y hy=>by rw [hp0,← getL_roWL];exact w_TBuffer hk0_1 y hy
  have hk0_K:=hk0_1
  unfold k_TBuffer at hk0_K
  obtain ⟨kk0_0,kk0_1,kk0_2,kk0_3⟩:=hk0_K
  obtain ⟨ev0_2,eb0_2⟩:=own_row2 (f:=c_TSleeper) (g:=g_TSleeper) (bs:=[slN (getL (aLs v0) 2)]) (i:=0) (fun hr=>w_TSleeper hr) hk0_4 (by rw [← getL_roWL];exact kk0_2) (L:=p0.List) (by rw [hp0,← getL_roWL];rfl) rfl
  refine ⟨[.agg [.int .i64 p0.Limit,.int .i64 p0.Stay,.sl 0 3 0 p0.List.length false,.ro 43 p0.Group.length false (enR c_TStored p0.Group)]],[.row 71 3 p0.List.length (enR c_TSleeper p0.List)],rfl,⟨(by rw [hk0_0.2];exact EV_agg (EVL_of hk0_0.1.symm (fun y hy=>by
     match y,hy with
     | 0,_=>exact EV_t hk0_2 (hw0 0 (by decide))
     | 1,_=>exact EV_t hk0_3 (hw0 1 (by decide))
     | 2,_=>exact ev0_2
     | 3,_=>exact EV_t hk0_5 (hw0 3 (by decide))
     | y+4,hy=>exact absurd hy (by simp)))),trivial⟩,⟨eb0_2,trivial⟩,⟨(nfB_en nr_TSleeper),⟨(nfB_foc nr_TSleeper),⟨(nfB_en nr_TStored),⟨(nfB_en nr_TStored),trivial⟩⟩⟩⟩,?_⟩
  rw [Try.ntmps54]
  simp only [List.length_cons,List.length_nil,Nat.reduceAdd,Nat.reduceSub,List.replicate_succ,List.replicate_zero,List.cons_append,List.nil_append]
  unfold F54_0f at H
  try dsimp only at H
  refine sq ctNo_ok ?_
  simp only [go_sem,Nat.reduceAdd]
  refine sq ctNo_ok ?_
  simp only [go_sem]
  refine seqM ?_
  obtain ⟨r1,e2,H⟩:=bsi H
  refine rg ct54_0t0_ok ?_
  simp only [go_sem,Nat.reduceLeDiff,Nat.reduceLT,Nat.reduceAdd,ct54_0t0_72,body72k,e2]
  repeat ((with_reducible refine And.intro ?_ ?_);focus exact an0)
  refine seqM ?_
  refine sq ctNo_ok ?_
  simp only [go_sem,Nat.reduceLeDiff,Nat.reduceLT,Nat.reduceAdd]
  repeat ((with_reducible refine And.intro ?_ ?_);focus exact an0)
  refine blkM ?_
  refine loop_den (fun s:Int × (List TSleeper)=>(.top::.ptr 1 0 0 0::.ptr 2 0 0 0::.fn 71 []::tp 7 (.int .i64 (r1.length:Nat)::.int .i64 s.1::tp 22 []))) (fun s=>[.row 71 3 p0.List.length (enR c_TSleeper p0.List),.lit 52 [.int .i64 p0.Limit,.int .i64 p0.Stay,.sl 4 3 0 s.2.length false,.ro 43 p0.Group.length false (enR c_TStored p0.Group)],.lit 52 [.int .i64 0,.int .i64 0,.ro 0 0 true (fun _ _=>.top),.ro 0 0 true (fun _ _=>.top)],.dead,.row 71 3 s.2.length (bif bLt (gi:Int) s.1 then upc (enR c_TSleeper s.2) gi 2 [.sl 5 43 0 (gd s.2 gi).Held.length false] else enR c_TSleeper s.2),.row 73 43 (bif bLt (gi:Int) s.1 then (gd s.2 gi).Held.length else 0) (enR c_TStored (gd s.2 gi).Held)]) (fun e:Int × (List TSleeper)=>(.top::.ptr 1 0 0 0::.ptr 2 0 0 0::.fn 71 []::tp 31 [])) (fun e=>[.row 71 3 p0.List.length (enR c_TSleeper p0.List),.lit 52 [.int .i64 p0.Limit,.int .i64 p0.Stay,.sl 4 3 0 e.2.length false,.ro 43 p0.Group.length false (enR c_TStored p0.Group)],.lit 52 [.int .i64 0,.int .i64 0,.ro 0 0 true (fun _ _=>.top),.ro 0 0 true (fun _ _=>.top)],.dead,.row 71 3 e.2.length (bif bLt (gi:Int) e.1 then upc (enR c_TSleeper e.2) gi 2 [.sl 5 43 0 (gd e.2 gi).Held.length false] else enR c_TSleeper e.2),.row 73 43 (bif bLt (gi:Int) e.1 then (gd e.2 gi).Held.length else 0) (enR c_TStored (gd e.2 gi).Held)]) H ?_ (fun s o H hn1_1 hn2_1=>?_) (fun e H=>?_)
  ·have h0:bLt (gi:Int) 0=false:=by simp [bLt]
   try dsimp only
   simp only [h0,cond_false]
   refine SubF_of ⟨[some 0,some 1,some 2,some 3,some 3,none],?_,?_,by rfl,by rfl⟩
   ·simp [CvL,Cv,getM,tp]
   ·exact ⟨(CvB_same nfA),cv,cv,CvB_dead,CvB_row nr_TSleeper cl (fun _ _ _ _=>rfl),(by simp only [CvB]),trivial⟩
  ·obtain ⟨v1_1,v1_2⟩:=s
   unfold F54_0f_L1 at H
   try dsimp only at H ⊢
   try simp only [tp]
   refine sq ctNo_ok ?_
   simp only [go_sem,Nat.reduceAdd]
   refine seqM ?_
   refine condM' rfl trivial (fun hc=>?_) (fun hc=>?_)
   ·replace H:=cond_f hc H
    refine rg ctNo_ok ?_
    simp only [go_sem]
    refine ⟨_,(Option.some.inj H).symm,?_⟩
    cases hgi:bLt (gi:Int) v1_1
    ·try dsimp only
     simp only [cond_false]
     refine SubF_of ⟨[some 0,some 1,some 2,some 3,some 4,some 5],?_,?_,by rfl,by rfl⟩
     ·simp [CvL,Cv,getM]
     ·exact ⟨(CvB_same nfA),cv,cv,CvB_dead,CvB_row nr_TSleeper cl (fun _ _ _ _=>rfl),CvB_z,trivial⟩
    ·try dsimp only
     simp only [cond_true]
     refine SubF_of ⟨[some 0,some 1,some 2,some 3,some 4,some 5],?_,?_,by rfl,by rfl⟩
     ·simp [CvL,Cv,getM]
     ·exact ⟨(CvB_same nfA),cv,cv,CvB_dead,CvB_focI nr_TSleeper (by simp [getM]) rfl rfl,CvB_row nr_TStored rfl (fun _ _ _ _=>rfl),trivial⟩
   replace H:=cond_t hc H
   refine rg ctNo_ok ?_
   simp only [go_sem]
   refine seqM ?_
   refine blkM ?_
   refine sq ctNo_ok ?_
   simp only [go_sem]
   obtain ⟨fz0,H⟩:=need_some.1 H
   have fz0:v1_1 < 1000000:=by simpa [bLt] using fz0
   obtain ⟨f3,H⟩:=need_some.1 H
   replace f3:=inb_iff.1 f3
   obtain ⟨r4,e5,H⟩:=bsi H
   obtain ⟨f6,H⟩:=need_some.1 H
   replace f6:=inb_iff.1 f6
   have hwr:wr .i64 (v1_1+1)=v1_1+1:=wr_in (by omega)
   rcases Nat.lt_trichotomy v1_1.toNat gi with hgi|hgi|hgi
   ·have hb:bLt (gi:Int) v1_1=false:=by simp only [bLt,decide_eq_false_iff_not];omega
    have hb2:bLt (gi:Int) (wr .i64 (v1_1+1))=false:=by rw [hwr];simp only [bLt,decide_eq_false_iff_not];omega
    simp only [hb,cond_false]
    refine draw_rule shT_ok ct54_0t1_ok 0 (by kernel_rfl) (by kernel_rfl) ?_
    intro an han
    simp only [d_nil,d_cons,nxtD,xrD,xoD,roEq,minL,List.append_nil,refsOp,refs,refsL,mask,maskF,place,placeF,okLog,pairOk,hit,inL,slotsF,ren,nrH,nrB,List.replicate_zero,Nat.sub_self,Nat.add_zero,Nat.zero_add,Nat.reduceSub,Nat.lt_add_one,go_sem,Nat.reduceLeDiff,Nat.reduceLT,Nat.reduceAdd,Nat.reduceSub,Nat.reduceBEq,ct54_0t1_71,body71_0,f3,e5]
    repeat ((with_reducible refine And.intro ?_ ?_);focus exact an2)
    refine rg ctNo_ok ?_
    simp only [go_sem]
    refine ⟨_,(Option.some.inj H).symm,?_⟩
    try dsimp only
    simp only [hb2,cond_false]
    refine SubF_of ⟨[some 0,some 1,some 2,some 3,some 4,some 5],?_,?_,by rfl,by rfl⟩
    ·simp [CvL,Cv,getM]
    ·exact ⟨(CvB_same nfA),cv,cv,CvB_dead,CvB_row nr_TSleeper cl (upc_row (f:=c_TSleeper) v1_2 v1_1.toNat 2 (TSleeper.mk ((gd v1_2 v1_1.toNat).Aid) ((gd v1_2 v1_1.toNat).Asleep) r4) (fun _ _ _ _=>rfl) (fun y hy=>match y,hy with|0,_=>rfl|1,_=>rfl|2,_=>rfl|(y+3),h=>absurd h nlt)),CvB_z,trivial⟩
   ·have hb:bLt (gi:Int) v1_1=false:=by simp only [bLt,decide_eq_false_iff_not];omega
    have hb2:bLt (gi:Int) (wr .i64 (v1_1+1))=true:=by rw [hwr];simp only [bLt,decide_eq_true_eq];omega
    have Hk:=H
    obtain rfl:=hgi
    have H:=Hk
    have e5b:F71 (gd v1_2 v1_1.toNat).Held=some r4:=by have h:=e5;unfold F71_0 at h;unfold F71;exact h
    have hgs:gd (v1_2.set v1_1.toNat (TSleeper.mk ((gd v1_2 v1_1.toNat).Aid) ((gd v1_2 v1_1.toNat).Asleep) r4)) v1_1.toNat=(TSleeper.mk ((gd v1_2 v1_1.toNat).Aid) ((gd v1_2 v1_1.toNat).Asleep) r4):=gd_set_eq (by omega)
    simp only [hb,cond_false]
    refine draw_rule shT_ok ct54_0t2_ok 1 (by kernel_rfl) (by kernel_rfl) ?_
    intro an han
    simp only [d_nil,d_cons,nxtD,xrD,xoD,roEq,minL,List.append_nil,refsOp,refs,refsL,mask,maskF,place,placeF,okLog,pairOk,hit,inL,slotsF,ren,rnN,nrH,nrB,List.replicate_zero,List.replicate_succ,Nat.sub_self,Nat.add_zero,Nat.zero_add,Nat.reduceSub,Nat.lt_add_one,go_sem,Nat.reduceLeDiff,Nat.reduceLT,Nat.reduceAdd,Nat.reduceSub,Nat.reduceBEq,ct54_0t2_71,body71,f3,e5b]
    repeat ((with_reducible refine And.intro ?_ ?_);focus exact an2)
    refine rg ctNo_ok ?_
    simp only [go_sem]
    refine ⟨_,(Option.some.inj H).symm,?_⟩
    try dsimp only
    simp only [hb2,cond_true,hgs]
    refine SubF_of ⟨[some 0,some 1,some 2,some 3,some 4,some 6],?_,?_,by rfl,by rfl⟩
    ·simp [CvL,Cv,getM]
    ·exact ⟨(CvB_same nfA),cv,cv,CvB_dead,CvB_focS nr_TSleeper (by omega) (by simp [getM]) (fun y hy hne=>match y,hy with|0,_=>rfl|1,_=>rfl|2,_=>absurd rfl hne|(y+3),h=>absurd h (by omega)) rfl,CvB_row nr_TStored rfl (fun _ _ _ _=>rfl),trivial⟩
   ·have hb:bLt (gi:Int) v1_1=true:=by simp only [bLt,decide_eq_true_eq];omega
    have hb2:bLt (gi:Int) (wr .i64 (v1_1+1))=true:=by rw [hwr];simp only [bLt,decide_eq_true_eq];omega
    have hne:v1_1.toNat ≠ gi:=by omega
    have hgs:gd (v1_2.set v1_1.toNat (TSleeper.mk ((gd v1_2 v1_1.toNat).Aid) ((gd v1_2 v1_1.toNat).Asleep) r4)) gi=gd v1_2 gi:=gd_set_ne hne
    simp only [hb,cond_true]
    refine draw_rule shT_ok ct54_0t1_ok 0 (by kernel_rfl) (by kernel_rfl) ?_
    intro an han
    simp only [d_nil,d_cons,nxtD,xrD,xoD,roEq,minL,List.append_nil,refsOp,refs,refsL,mask,maskF,place,placeF,okLog,pairOk,hit,inL,slotsF,ren,nrH,nrB,List.replicate_zero,Nat.sub_self,Nat.add_zero,Nat.zero_add,Nat.reduceSub,Nat.lt_add_one,go_sem,Nat.reduceLeDiff,Nat.reduceLT,Nat.reduceAdd,Nat.reduceSub,Nat.reduceBEq,upc_ne hne,ct54_0t1_71,body71_0,f3,e5]
    repeat ((with_reducible refine And.intro ?_ ?_);focus exact an2)
    refine rg ctNo_ok ?_
    simp only [go_sem]
    refine ⟨_,(Option.some.inj H).symm,?_⟩
    try dsimp only
    simp only [hb2,cond_true,hgs]
    refine SubF_of ⟨[some 0,some 1,some 2,some 3,some 4,some 5],?_,?_,by rfl,by rfl⟩
    ·simp [CvL,Cv,getM]
    ·exact ⟨(CvB_same nfA),cv,cv,CvB_dead,CvB_focC nr_TSleeper (by omega) hne (by simp [getM]) rfl (fun y hy=>match y,hy with|0,_=>rfl|1,_=>rfl|2,_=>rfl|(y+3),h=>absurd h nlt),CvB_row nr_TStored rfl (fun _ _ _ _=>rfl),trivial⟩
  ·obtain ⟨e1,e2⟩:=e
   try dsimp only at H ⊢
   try simp only [tp]
   try simp only [m_normal]
   refine seqM ?_
   obtain ⟨fgi,H⟩:=need_some.1 H
   try simp only [fgi,cond_true]
   obtain ⟨r7,e8,H⟩:=bsi H
   refine rg ct54_0t2_ok ?_
   simp only [go_sem,Nat.reduceLT,Nat.reduceAdd,ct54_0t2_71,body71,e8]
   repeat ((with_reducible refine And.intro ?_ ?_);focus exact an0)
   refine sq ctNo_ok ?_
   simp only [go_sem,Nat.reduceLT,Nat.reduceAdd]
   repeat ((with_reducible refine And.intro ?_ ?_);focus exact an6)
   refine rg ctNo_ok ?_
   simp only [go_sem,Nat.reduceLT,Nat.reduceAdd]
   obtain rfl:=Option.some.inj H
   refine RetE_mk [] [some 0,some 4,some 5,some 6] ?_ ?_ ?_ ?_ (by rfl) (by rfl)
   ·simp only [go_sem]
    try exact at0
   ·simp only [go_sem]
    try exact at0
   ·simp only [go_sem]
    exact (by first|(simp [Cv,CvL,getM];done)|(simp [Cv,CvL,getM,gt_some];omega))
   ·simp only [go_sem,CvH]
    first|exact ⟨CvB_row nr_TSleeper rfl (fun _ _ _ _=>rfl),CvB_focI nr_TSleeper (by simp [getM]) rfl rfl,CvB_row nr_TStored rfl (fun _ _ _ _=>rfl),CvB_row nr_TStored cl (fun _ _ _ _=>rfl)⟩|trivial
 ·cases hb
noncomputable def ct29_0t0:Ct:=tab [(20,pureC body20),(34,pureC body34)]
theorem ct29_0t0_ok:CtOk Try.prog ct29_0t0:=tab_cons ok20 <| tab_cons ok34 <| tab_nil
theorem ct29_0t0_20 (l:List AV) (h:List ABlk):ct29_0t0 20 l h=pureC body20 l h:=rfl
theorem ct29_0t0_34 (l:List AV) (h:List ABlk):ct29_0t0 34 l h=pureC body34 l h:=rfl
noncomputable def ct29_0t1:Ct:=tab [(52,pureC body52_1)]
theorem ct29_0t1_ok:CtOk Try.prog ct29_0t1:=tab_cons ok52_1 <| tab_nil
theorem ct29_0t1_52 (l:List AV) (h:List ABlk):ct29_0t1 52 l h=pureC body52_1 l h:=rfl
noncomputable def ct29_0t2 (gi:Nat):Ct:=tab [(54,edC (body54_0f gi))]
theorem ct29_0t2_ok (gi:Nat):CtOk Try.prog (ct29_0t2 gi):=tab_cons (ok54_0f gi) <| tab_nil
theorem ct29_0t2_54 (gi:Nat) (l:List AV) (h:List ABlk):(ct29_0t2 gi) 54 l h=edC (body54_0f gi) l h:=rfl
noncomputable def ct29_0t3:Ct:=tab [(56,pureC body56_0)]
theorem ct29_0t3_ok:CtOk Try.prog ct29_0t3:=tab_cons ok56_0 <| tab_nil
theorem ct29_0t3_56 (l:List AV) (h:List ABlk):ct29_0t3 56 l h=pureC body56_0 l h:=rfl
noncomputable def ct29_0t4:Ct:=tab [(73,delN 73 43)]
theorem ct29_0t4_ok:CtOk Try.prog ct29_0t4:=tab_cons ok73 <| tab_nil
theorem ct29_0t4_73 (l:List AV) (h:List ABlk):ct29_0t4 73 l h=delN 73 43 l h:=rfl
noncomputable def ct29_0t5:Ct:=tab [(49,pureC body49_0)]
theorem ct29_0t5_ok:CtOk Try.prog ct29_0t5:=tab_cons ok49_0 <| tab_nil
theorem ct29_0t5_49 (l:List AV) (h:List ABlk):ct29_0t5 49 l h=pureC body49_0 l h:=rfl
noncomputable def ct29_0t6:Ct:=tab [(57,edC body57)]
theorem ct29_0t6_ok:CtOk Try.prog ct29_0t6:=tab_cons ok57 <| tab_nil
theorem ct29_0t6_57 (l:List AV) (h:List ABlk):ct29_0t6 57 l h=edC body57 l h:=rfl
noncomputable def F29_0_L2 (p1:TTriggerPlan) (v1_2:List TStored) (v2_1:Int) (v2_2:Int):Option (Lp (Int × Int) ((Int) ⊕ (TPeriod × TBuffer × Int))) :=
 bif (bLt v2_2 (v1_2.length:Nat)) then (need (inb v2_2 v1_2.length) <| (F56_0 p1.Deliver (TStored.mk ((gd v1_2 v2_2.toNat).Cat) ((gd v1_2 v2_2.toNat).At) (TFrame.mk (THeader.mk ((((gd v1_2 v2_2.toNat).Frame).Head).Kind) ((((gd v1_2 v2_2.toNat).Frame).Head).Sub) ((((gd v1_2 v2_2.toNat).Frame).Head).ToDs) ((((gd v1_2 v2_2.toNat).Frame).Head).FromDs) ((((gd v1_2 v2_2.toNat).Frame).Head).More) ((((gd v1_2 v2_2.toNat).Frame).Head).Retry) ((((gd v1_2 v2_2.toNat).Frame).Head).Sleep) ((((gd v1_2 v2_2.toNat).Frame).Head).MoreData) ((((gd v1_2 v2_2.toNat).Frame).Head).Protected) ((((gd v1_2 v2_2.toNat).Frame).Head).Duration) (A6u8.mk (((((gd v1_2 v2_2.toNat).Frame).Head).A1).x0) (((((gd v1_2 v2_2.toNat).Frame).Head).A1).x1) (((((gd v1_2 v2_2.toNat).Frame).Head).A1).x2) (((((gd v1_2 v2_2.toNat).Frame).Head).A1).x3) (((((gd v1_2 v2_2.toNat).Frame).Head).A1).x4) (((((gd v1_2 v2_2.toNat).Frame).Head).A1).x5)) (A6u8.mk (((((gd v1_2 v2_2.toNat).Frame).Head).A2).x0) (((((gd v1_2 v2_2.toNat).Frame).Head).A2).x1) (((((gd v1_2 v2_2.toNat).Frame).Head).A2).x2) (((((gd v1_2 v2_2.toNat).Frame).Head).A2).x3) (((((gd v1_2 v2_2.toNat).Frame).Head).A2).x4) (((((gd v1_2 v2_2.toNat).Frame).Head).A2).x5)) (A6u8.mk (((((gd v1_2 v2_2.toNat).Frame).Head).A3).x0) (((((gd v1_2 v2_2.toNat).Frame).Head).A3).x1) (((((gd v1_2 v2_2.toNat).Frame).Head).A3).x2) (((((gd v1_2 v2_2.toNat).Frame).Head).A3).x3) (((((gd v1_2 v2_2.toNat).Frame).Head).A3).x4) (((((gd v1_2 v2_2.toNat).Frame).Head).A3).x5)) (A6u8.mk (((((gd v1_2 v2_2.toNat).Frame).Head).A4).x0) (((((gd v1_2 v2_2.toNat).Frame).Head).A4).x1) (((((gd v1_2 v2_2.toNat).Frame).Head).A4).x2) (((((gd v1_2 v2_2.toNat).Frame).Head).A4).x3) (((((gd v1_2 v2_2.toNat).Frame).Head).A4).x4) (((((gd v1_2 v2_2.toNat).Frame).Head).A4).x5)) ((((gd v1_2 v2_2.toNat).Frame).Head).Seq) ((((gd v1_2 v2_2.toNat).Frame).Head).Frag) ((((gd v1_2 v2_2.toNat).Frame).Head).Tid) ((((gd v1_2 v2_2.toNat).Frame).Head).Ack) ((((gd v1_2 v2_2.toNat).Frame).Head).Amsdu) ((((gd v1_2 v2_2.toNat).Frame).Head).Eosp)) (((gd v1_2 v2_2.toNat).Frame).Body)))).bind fun r11=>need (bif (r11 && (!(bLt v2_1 0))) then inb v2_1 v1_2.length else true) <| bif (r11 && ((bLt v2_1 0) || (bLt ((gd v1_2 v2_1.toNat).Cat) ((gd v1_2 v2_2.toNat).Cat)))) then (some (.next (v2_2,wr .i64 (v2_2+1)))) else (some (.next (v2_1,wr .i64 (v2_2+1))))) else (some (.done (.inl v2_1)))
noncomputable def F29_0_L1 (p1:TTriggerPlan) (v1_1:List TFrame) (v1_2:List TStored):Option (Lp ((List TFrame) × (List TStored)) (((List TFrame) × (List TStored)) ⊕ (TPeriod × TBuffer × Int))) :=
 bif ((bEq p1.Most 0) || (bLt (v1_1.length:Nat) p1.Most)) then (lp (loopD (fun s=>F29_0_L2 p1 v1_2 s.1 s.2) ((-1),0)) (fun w2_3=>bif (bLt w2_3 0) then (some (.done (.inl (v1_1,v1_2)))) else (need (inb w2_3 v1_2.length) <| need (delb w2_3 (wr .i64 (w2_3+1)) v1_2.length) <| (some (delL v1_2 w2_3 (wr .i64 (w2_3+1)))).bind fun w16=>need (capb 104 (v1_1.length+1)) <| some (.next ((v1_1 ++ [(TFrame.mk (THeader.mk ((((gd v1_2 w2_3.toNat).Frame).Head).Kind) ((((gd v1_2 w2_3.toNat).Frame).Head).Sub) ((((gd v1_2 w2_3.toNat).Frame).Head).ToDs) ((((gd v1_2 w2_3.toNat).Frame).Head).FromDs) ((((gd v1_2 w2_3.toNat).Frame).Head).More) ((((gd v1_2 w2_3.toNat).Frame).Head).Retry) ((((gd v1_2 w2_3.toNat).Frame).Head).Sleep) true ((((gd v1_2 w2_3.toNat).Frame).Head).Protected) ((((gd v1_2 w2_3.toNat).Frame).Head).Duration) (A6u8.mk (((((gd v1_2 w2_3.toNat).Frame).Head).A1).x0) (((((gd v1_2 w2_3.toNat).Frame).Head).A1).x1) (((((gd v1_2 w2_3.toNat).Frame).Head).A1).x2) (((((gd v1_2 w2_3.toNat).Frame).Head).A1).x3) (((((gd v1_2 w2_3.toNat).Frame).Head).A1).x4) (((((gd v1_2 w2_3.toNat).Frame).Head).A1).x5)) (A6u8.mk (((((gd v1_2 w2_3.toNat).Frame).Head).A2).x0) (((((gd v1_2 w2_3.toNat).Frame).Head).A2).x1) (((((gd v1_2 w2_3.toNat).Frame).Head).A2).x2) (((((gd v1_2 w2_3.toNat).Frame).Head).A2).x3) (((((gd v1_2 w2_3.toNat).Frame).Head).A2).x4) (((((gd v1_2 w2_3.toNat).Frame).Head).A2).x5)) (A6u8.mk (((((gd v1_2 w2_3.toNat).Frame).Head).A3).x0) (((((gd v1_2 w2_3.toNat).Frame).Head).A3).x1) (((((gd v1_2 w2_3.toNat).Frame).Head).A3).x2) (((((gd v1_2 w2_3.toNat).Frame).Head).A3).x3) (((((gd v1_2 w2_3.toNat).Frame).Head).A3).x4) (((((gd v1_2 w2_3.toNat).Frame).Head).A3).x5)) (A6u8.mk (((((gd v1_2 w2_3.toNat).Frame).Head).A4).x0) (((((gd v1_2 w2_3.toNat).Frame).Head).A4).x1) (((((gd v1_2 w2_3.toNat).Frame).Head).A4).x2) (((((gd v1_2 w2_3.toNat).Frame).Head).A4).x3) (((((gd v1_2 w2_3.toNat).Frame).Head).A4).x4) (((((gd v1_2 w2_3.toNat).Frame).Head).A4).x5)) ((((gd v1_2 w2_3.toNat).Frame).Head).Seq) ((((gd v1_2 w2_3.toNat).Frame).Head).Frag) ((((gd v1_2 w2_3.toNat).Frame).Head).Tid) ((((gd v1_2 w2_3.toNat).Frame).Head).Ack) ((((gd v1_2 w2_3.toNat).Frame).Head).Amsdu) false) (((gd v1_2 w2_3.toNat).Frame).Body))]),w16)))) (fun r=>some (.done (.inr r)))) else (some (.done (.inl (v1_1,v1_2))))
noncomputable def F29_0 (p0:TBuffer) (p1:TTriggerPlan) (p2:Int) (p3:A6u8) (p4:A6u8):Option (TPeriod × TBuffer × Int) :=
 (F34 (TBuffer.mk p0.Limit p0.Stay p0.List p0.Group)).bind fun r1=>need (bif (!(!bEq r1 0)) then ((F20 p1).isSome) else true) <| bif ((!bEq r1 0) || (!bEq (gt (F20 p1)) 0)) then (some ((TPeriod.mk 0 []),(TBuffer.mk 0 0 [] []),8)) else (bif ((bLt p2 1) || (bLt 255 p2)) then (some ((TPeriod.mk 0 []),(TBuffer.mk 0 0 [] []),2)) else ((F52_1 p0.List p2).bind fun r4=>bif (bLt r4 0) then (some ((TPeriod.mk 0 []),(TBuffer.mk 0 0 [] []),6)) else (need (inb r4 p0.List.length) <| bif (!((gd p0.List r4.toNat).Asleep)) then (some ((TPeriod.mk 0 []),(TBuffer.mk 0 0 [] []),20)) else ((F54_0f r4.toNat (TBuffer.mk p0.Limit p0.Stay p0.List p0.Group)).bind fun r7=>need (inb r4 r7.List.length) <| lp (loopD (fun s=>F29_0_L1 p1 s.1 s.2) ([],(gd r7.List r4.toNat).Held)) (fun e1=>need (inb r4 r7.List.length) <| (F49_0 e1.2 p1.Deliver).bind fun r20=>bif (bEq (e1.1.length:Nat) 0) then ((F57 p3 p4).bind fun r22=>need (inb 0 1) <| (some (r7.List.set r4.toNat (TSleeper.mk ((gd r7.List r4.toNat).Aid) ((gd r7.List r4.toNat).Asleep) e1.2))).bind fun w25=>(some (([r22].set 0 (TFrame.mk (THeader.mk (((gd [r22] 0).Head).Kind) (((gd [r22] 0).Head).Sub) (((gd [r22] 0).Head).ToDs) (((gd [r22] 0).Head).FromDs) (((gd [r22] 0).Head).More) (((gd [r22] 0).Head).Retry) (((gd [r22] 0).Head).Sleep) (((gd [r22] 0).Head).MoreData) (((gd [r22] 0).Head).Protected) (((gd [r22] 0).Head).Duration) (A6u8.mk ((((gd [r22] 0).Head).A1).x0) ((((gd [r22] 0).Head).A1).x1) ((((gd [r22] 0).Head).A1).x2) ((((gd [r22] 0).Head).A1).x3) ((((gd [r22] 0).Head).A1).x4) ((((gd [r22] 0).Head).A1).x5)) (A6u8.mk ((((gd [r22] 0).Head).A2).x0) ((((gd [r22] 0).Head).A2).x1) ((((gd [r22] 0).Head).A2).x2) ((((gd [r22] 0).Head).A2).x3) ((((gd [r22] 0).Head).A2).x4) ((((gd [r22] 0).Head).A2).x5)) (A6u8.mk ((((gd [r22] 0).Head).A3).x0) ((((gd [r22] 0).Head).A3).x1) ((((gd [r22] 0).Head).A3).x2) ((((gd [r22] 0).Head).A3).x3) ((((gd [r22] 0).Head).A3).x4) ((((gd [r22] 0).Head).A3).x5)) (A6u8.mk ((((gd [r22] 0).Head).A4).x0) ((((gd [r22] 0).Head).A4).x1) ((((gd [r22] 0).Head).A4).x2) ((((gd [r22] 0).Head).A4).x3) ((((gd [r22] 0).Head).A4).x4) ((((gd [r22] 0).Head).A4).x5)) (((gd [r22] 0).Head).Seq) (((gd [r22] 0).Head).Frag) (((gd [r22] 0).Head).Tid) (((gd [r22] 0).Head).Ack) (((gd [r22] 0).Head).Amsdu) true) ((gd [r22] 0).Body))).set 0 ((fun qq24=>(TFrame.mk (THeader.mk qq24.Head.Kind qq24.Head.Sub qq24.Head.ToDs qq24.Head.FromDs qq24.Head.More qq24.Head.Retry qq24.Head.Sleep false qq24.Head.Protected qq24.Head.Duration (A6u8.mk qq24.Head.A1.x0 qq24.Head.A1.x1 qq24.Head.A1.x2 qq24.Head.A1.x3 qq24.Head.A1.x4 qq24.Head.A1.x5) (A6u8.mk qq24.Head.A2.x0 qq24.Head.A2.x1 qq24.Head.A2.x2 qq24.Head.A2.x3 qq24.Head.A2.x4 qq24.Head.A2.x5) (A6u8.mk qq24.Head.A3.x0 qq24.Head.A3.x1 qq24.Head.A3.x2 qq24.Head.A3.x3 qq24.Head.A3.x4 qq24.Head.A3.x5) (A6u8.mk qq24.Head.A4.x0 qq24.Head.A4.x1 qq24.Head.A4.x2 qq24.Head.A4.x3 qq24.Head.A4.x4 qq24.Head.A4.x5) qq24.Head.Seq qq24.Head.Frag qq24.Head.Tid qq24.Head.Ack qq24.Head.Amsdu qq24.Head.Eosp) qq24.Body)) (gd ([r22].set 0 (TFrame.mk (THeader.mk (((gd [r22] 0).Head).Kind) (((gd [r22] 0).Head).Sub) (((gd [r22] 0).Head).ToDs) (((gd [r22] 0).Head).FromDs) (((gd [r22] 0).Head).More) (((gd [r22] 0).Head).Retry) (((gd [r22] 0).Head).Sleep) (((gd [r22] 0).Head).MoreData) (((gd [r22] 0).Head).Protected) (((gd [r22] 0).Head).Duration) (A6u8.mk ((((gd [r22] 0).Head).A1).x0) ((((gd [r22] 0).Head).A1).x1) ((((gd [r22] 0).Head).A1).x2) ((((gd [r22] 0).Head).A1).x3) ((((gd [r22] 0).Head).A1).x4) ((((gd [r22] 0).Head).A1).x5)) (A6u8.mk ((((gd [r22] 0).Head).A2).x0) ((((gd [r22] 0).Head).A2).x1) ((((gd [r22] 0).Head).A2).x2) ((((gd [r22] 0).Head).A2).x3) ((((gd [r22] 0).Head).A2).x4) ((((gd [r22] 0).Head).A2).x5)) (A6u8.mk ((((gd [r22] 0).Head).A3).x0) ((((gd [r22] 0).Head).A3).x1) ((((gd [r22] 0).Head).A3).x2) ((((gd [r22] 0).Head).A3).x3) ((((gd [r22] 0).Head).A3).x4) ((((gd [r22] 0).Head).A3).x5)) (A6u8.mk ((((gd [r22] 0).Head).A4).x0) ((((gd [r22] 0).Head).A4).x1) ((((gd [r22] 0).Head).A4).x2) ((((gd [r22] 0).Head).A4).x3) ((((gd [r22] 0).Head).A4).x4) ((((gd [r22] 0).Head).A4).x5)) (((gd [r22] 0).Head).Seq) (((gd [r22] 0).Head).Frag) (((gd [r22] 0).Head).Tid) (((gd [r22] 0).Head).Ack) (((gd [r22] 0).Head).Amsdu) true) ((gd [r22] 0).Body))) 0)))).bind fun w27=>some ((TPeriod.mk p2 w27),(TBuffer.mk r7.Limit r7.Stay w25 r7.Group),0)) else (need (inb (wr .i64 ((e1.1.length:Nat) - 1)) e1.1.length) <| (some (r7.List.set r4.toNat (TSleeper.mk ((gd r7.List r4.toNat).Aid) ((gd r7.List r4.toNat).Asleep) e1.2))).bind fun w30=>(some ((e1.1.set ((wr .i64 ((e1.1.length:Nat) - 1)).toNat) (TFrame.mk (THeader.mk (((gd e1.1 ((wr .i64 ((e1.1.length:Nat) - 1)).toNat)).Head).Kind) (((gd e1.1 ((wr .i64 ((e1.1.length:Nat) - 1)).toNat)).Head).Sub) (((gd e1.1 ((wr .i64 ((e1.1.length:Nat) - 1)).toNat)).Head).ToDs) (((gd e1.1 ((wr .i64 ((e1.1.length:Nat) - 1)).toNat)).Head).FromDs) (((gd e1.1 ((wr .i64 ((e1.1.length:Nat) - 1)).toNat)).Head).More) (((gd e1.1 ((wr .i64 ((e1.1.length:Nat) - 1)).toNat)).Head).Retry) (((gd e1.1 ((wr .i64 ((e1.1.length:Nat) - 1)).toNat)).Head).Sleep) (((gd e1.1 ((wr .i64 ((e1.1.length:Nat) - 1)).toNat)).Head).MoreData) (((gd e1.1 ((wr .i64 ((e1.1.length:Nat) - 1)).toNat)).Head).Protected) (((gd e1.1 ((wr .i64 ((e1.1.length:Nat) - 1)).toNat)).Head).Duration) (A6u8.mk ((((gd e1.1 ((wr .i64 ((e1.1.length:Nat) - 1)).toNat)).Head).A1).x0) ((((gd e1.1 ((wr .i64 ((e1.1.length:Nat) - 1)).toNat)).Head).A1).x1) ((((gd e1.1 ((wr .i64 ((e1.1.length:Nat) - 1)).toNat)).Head).A1).x2) ((((gd e1.1 ((wr .i64 ((e1.1.length:Nat) - 1)).toNat)).Head).A1).x3) ((((gd e1.1 ((wr .i64 ((e1.1.length:Nat) - 1)).toNat)).Head).A1).x4) ((((gd e1.1 ((wr .i64 ((e1.1.length:Nat) - 1)).toNat)).Head).A1).x5)) (A6u8.mk ((((gd e1.1 ((wr .i64 ((e1.1.length:Nat) - 1)).toNat)).Head).A2).x0) ((((gd e1.1 ((wr .i64 ((e1.1.length:Nat) - 1)).toNat)).Head).A2).x1) ((((gd e1.1 ((wr .i64 ((e1.1.length:Nat) - 1)).toNat)).Head).A2).x2) ((((gd e1.1 ((wr .i64 ((e1.1.length:Nat) - 1)).toNat)).Head).A2).x3) ((((gd e1.1 ((wr .i64 ((e1.1.length:Nat) - 1)).toNat)).Head).A2).x4) ((((gd e1.1 ((wr .i64 ((e1.1.length:Nat) - 1)).toNat)).Head).A2).x5)) (A6u8.mk ((((gd e1.1 ((wr .i64 ((e1.1.length:Nat) - 1)).toNat)).Head).A3).x0) ((((gd e1.1 ((wr .i64 ((e1.1.length:Nat) - 1)).toNat)).Head).A3).x1) ((((gd e1.1 ((wr .i64 ((e1.1.length:Nat) - 1)).toNat)).Head).A3).x2) ((((gd e1.1 ((wr .i64 ((e1.1.length:Nat) - 1)).toNat)).Head).A3).x3) ((((gd e1.1 ((wr .i64 ((e1.1.length:Nat) - 1)).toNat)).Head).A3).x4) ((((gd e1.1 ((wr .i64 ((e1.1.length:Nat) - 1)).toNat)).Head).A3).x5)) (A6u8.mk ((((gd e1.1 ((wr .i64 ((e1.1.length:Nat) - 1)).toNat)).Head).A4).x0) ((((gd e1.1 ((wr .i64 ((e1.1.length:Nat) - 1)).toNat)).Head).A4).x1) ((((gd e1.1 ((wr .i64 ((e1.1.length:Nat) - 1)).toNat)).Head).A4).x2) ((((gd e1.1 ((wr .i64 ((e1.1.length:Nat) - 1)).toNat)).Head).A4).x3) ((((gd e1.1 ((wr .i64 ((e1.1.length:Nat) - 1)).toNat)).Head).A4).x4) ((((gd e1.1 ((wr .i64 ((e1.1.length:Nat) - 1)).toNat)).Head).A4).x5)) (((gd e1.1 ((wr .i64 ((e1.1.length:Nat) - 1)).toNat)).Head).Seq) (((gd e1.1 ((wr .i64 ((e1.1.length:Nat) - 1)).toNat)).Head).Frag) (((gd e1.1 ((wr .i64 ((e1.1.length:Nat) - 1)).toNat)).Head).Tid) (((gd e1.1 ((wr .i64 ((e1.1.length:Nat) - 1)).toNat)).Head).Ack) (((gd e1.1 ((wr .i64 ((e1.1.length:Nat) - 1)).toNat)).Head).Amsdu) true) ((gd e1.1 ((wr .i64 ((e1.1.length:Nat) - 1)).toNat)).Body))).set ((wr .i64 ((e1.1.length:Nat) - 1)).toNat) ((fun qq29=>(TFrame.mk (THeader.mk qq29.Head.Kind qq29.Head.Sub qq29.Head.ToDs qq29.Head.FromDs qq29.Head.More qq29.Head.Retry qq29.Head.Sleep r20 qq29.Head.Protected qq29.Head.Duration (A6u8.mk qq29.Head.A1.x0 qq29.Head.A1.x1 qq29.Head.A1.x2 qq29.Head.A1.x3 qq29.Head.A1.x4 qq29.Head.A1.x5) (A6u8.mk qq29.Head.A2.x0 qq29.Head.A2.x1 qq29.Head.A2.x2 qq29.Head.A2.x3 qq29.Head.A2.x4 qq29.Head.A2.x5) (A6u8.mk qq29.Head.A3.x0 qq29.Head.A3.x1 qq29.Head.A3.x2 qq29.Head.A3.x3 qq29.Head.A3.x4 qq29.Head.A3.x5) (A6u8.mk qq29.Head.A4.x0 qq29.Head.A4.x1 qq29.Head.A4.x2 qq29.Head.A4.x3 qq29.Head.A4.x4 qq29.Head.A4.x5) qq29.Head.Seq qq29.Head.Frag qq29.Head.Tid qq29.Head.Ack qq29.Head.Amsdu qq29.Head.Eosp) qq29.Body)) (gd (e1.1.set ((wr .i64 ((e1.1.length:Nat) - 1)).toNat) (TFrame.mk (THeader.mk (((gd e1.1 ((wr .i64 ((e1.1.length:Nat) - 1)).toNat)).Head).Kind) (((gd e1.1 ((wr .i64 ((e1.1.length:Nat) - 1)).toNat)).Head).Sub) (((gd e1.1 ((wr .i64 ((e1.1.length:Nat) - 1)).toNat)).Head).ToDs) (((gd e1.1 ((wr .i64 ((e1.1.length:Nat) - 1)).toNat)).Head).FromDs) (((gd e1.1 ((wr .i64 ((e1.1.length:Nat) - 1)).toNat)).Head).More) (((gd e1.1 ((wr .i64 ((e1.1.length:Nat) - 1)).toNat)).Head).Retry) (((gd e1.1 ((wr .i64 ((e1.1.length:Nat) - 1)).toNat)).Head).Sleep) (((gd e1.1 ((wr .i64 ((e1.1.length:Nat) - 1)).toNat)).Head).MoreData) (((gd e1.1 ((wr .i64 ((e1.1.length:Nat) - 1)).toNat)).Head).Protected) (((gd e1.1 ((wr .i64 ((e1.1.length:Nat) - 1)).toNat)).Head).Duration) (A6u8.mk ((((gd e1.1 ((wr .i64 ((e1.1.length:Nat) - 1)).toNat)).Head).A1).x0) ((((gd e1.1 ((wr .i64 ((e1.1.length:Nat) - 1)).toNat)).Head).A1).x1) ((((gd e1.1 ((wr .i64 ((e1.1.length:Nat) - 1)).toNat)).Head).A1).x2) ((((gd e1.1 ((wr .i64 ((e1.1.length:Nat) - 1)).toNat)).Head).A1).x3) ((((gd e1.1 ((wr .i64 ((e1.1.length:Nat) - 1)).toNat)).Head).A1).x4) ((((gd e1.1 ((wr .i64 ((e1.1.length:Nat) - 1)).toNat)).Head).A1).x5)) (A6u8.mk ((((gd e1.1 ((wr .i64 ((e1.1.length:Nat) - 1)).toNat)).Head).A2).x0) ((((gd e1.1 ((wr .i64 ((e1.1.length:Nat) - 1)).toNat)).Head).A2).x1) ((((gd e1.1 ((wr .i64 ((e1.1.length:Nat) - 1)).toNat)).Head).A2).x2) ((((gd e1.1 ((wr .i64 ((e1.1.length:Nat) - 1)).toNat)).Head).A2).x3) ((((gd e1.1 ((wr .i64 ((e1.1.length:Nat) - 1)).toNat)).Head).A2).x4) ((((gd e1.1 ((wr .i64 ((e1.1.length:Nat) - 1)).toNat)).Head).A2).x5)) (A6u8.mk ((((gd e1.1 ((wr .i64 ((e1.1.length:Nat) - 1)).toNat)).Head).A3).x0) ((((gd e1.1 ((wr .i64 ((e1.1.length:Nat) - 1)).toNat)).Head).A3).x1) ((((gd e1.1 ((wr .i64 ((e1.1.length:Nat) - 1)).toNat)).Head).A3).x2) ((((gd e1.1 ((wr .i64 ((e1.1.length:Nat) - 1)).toNat)).Head).A3).x3) ((((gd e1.1 ((wr .i64 ((e1.1.length:Nat) - 1)).toNat)).Head).A3).x4) ((((gd e1.1 ((wr .i64 ((e1.1.length:Nat) - 1)).toNat)).Head).A3).x5)) (A6u8.mk ((((gd e1.1 ((wr .i64 ((e1.1.length:Nat) - 1)).toNat)).Head).A4).x0) ((((gd e1.1 ((wr .i64 ((e1.1.length:Nat) - 1)).toNat)).Head).A4).x1) ((((gd e1.1 ((wr .i64 ((e1.1.length:Nat) - 1)).toNat)).Head).A4).x2) ((((gd e1.1 ((wr .i64 ((e1.1.length:Nat) - 1)).toNat)).Head).A4).x3) ((((gd e1.1 ((wr .i64 ((e1.1.length:Nat) - 1)).toNat)).Head).A4).x4) ((((gd e1.1 ((wr .i64 ((e1.1.length:Nat) - 1)).toNat)).Head).A4).x5)) (((gd e1.1 ((wr .i64 ((e1.1.length:Nat) - 1)).toNat)).Head).Seq) (((gd e1.1 ((wr .i64 ((e1.1.length:Nat) - 1)).toNat)).Head).Frag) (((gd e1.1 ((wr .i64 ((e1.1.length:Nat) - 1)).toNat)).Head).Tid) (((gd e1.1 ((wr .i64 ((e1.1.length:Nat) - 1)).toNat)).Head).Ack) (((gd e1.1 ((wr .i64 ((e1.1.length:Nat) - 1)).toNat)).Head).Amsdu) true) ((gd e1.1 ((wr .i64 ((e1.1.length:Nat) - 1)).toNat)).Body))) ((wr .i64 ((e1.1.length:Nat) - 1)).toNat))))).bind fun w32=>some ((TPeriod.mk p2 w32),(TBuffer.mk r7.Limit r7.Stay w30 r7.Group),0))) some))))
noncomputable def body29_0:List AV->List ABlk->ED
 | [v0,v1,v2,v3,v4],h=>.ed [slN (getL (aLs v0) 2)] (((aLs v0).length=4/\v0 = .agg (aLs v0))/\k_TBuffer (getL (roWL h (aLs v0)))/\nref (getL (aLs v0) 0)/\nref (getL (aLs v0) 1)/\oS 71 3 h (getL (aLs v0) 2)/\nref (getL (aLs v0) 3)/\aK 3 k_TTriggerPlan v1/\iK .i64 v2/\aK 6 k_A6u8 v3/\aK 6 k_A6u8 v4/\(F29_0 (g_TBuffer (getL (roWL h (aLs v0)))) (g_TTriggerPlan (aL v1)) (iA v2) (g_A6u8 (aL v3)) (g_A6u8 (aL v4))).isSome=true) (.tup [.agg [.int .i64 (((gt (F29_0 (g_TBuffer (getL (roWL h (aLs v0)))) (g_TTriggerPlan (aL v1)) (iA v2) (g_A6u8 (aL v3)) (g_A6u8 (aL v4)))).1).Aid),.sl 1 41 0 ((((gt (F29_0 (g_TBuffer (getL (roWL h (aLs v0)))) (g_TTriggerPlan (aL v1)) (iA v2) (g_A6u8 (aL v3)) (g_A6u8 (aL v4)))).1).Left).length) false],.agg [.int .i64 (((gt (F29_0 (g_TBuffer (getL (roWL h (aLs v0)))) (g_TTriggerPlan (aL v1)) (iA v2) (g_A6u8 (aL v3)) (g_A6u8 (aL v4)))).2.1).Limit),.int .i64 (((gt (F29_0 (g_TBuffer (getL (roWL h (aLs v0)))) (g_TTriggerPlan (aL v1)) (iA v2) (g_A6u8 (aL v3)) (g_A6u8 (aL v4)))).2.1).Stay),.sl 2 3 0 ((((gt (F29_0 (g_TBuffer (getL (roWL h (aLs v0)))) (g_TTriggerPlan (aL v1)) (iA v2) (g_A6u8 (aL v3)) (g_A6u8 (aL v4)))).2.1).List).length) false,.sl 3 43 0 ((((gt (F29_0 (g_TBuffer (getL (roWL h (aLs v0)))) (g_TTriggerPlan (aL v1)) (iA v2) (g_A6u8 (aL v3)) (g_A6u8 (aL v4)))).2.1).Group).length) false],.int .i64 ((gt (F29_0 (g_TBuffer (getL (roWL h (aLs v0)))) (g_TTriggerPlan (aL v1)) (iA v2) (g_A6u8 (aL v3)) (g_A6u8 (aL v4)))).2.2)]) [.row 71 3 (((g_TBuffer (getL (roWL h (aLs v0)))).List).length) (enR c_TSleeper ((g_TBuffer (getL (roWL h (aLs v0)))).List)),.row 30 41 ((((gt (F29_0 (g_TBuffer (getL (roWL h (aLs v0)))) (g_TTriggerPlan (aL v1)) (iA v2) (g_A6u8 (aL v3)) (g_A6u8 (aL v4)))).1).Left).length) (enR c_TFrame (((gt (F29_0 (g_TBuffer (getL (roWL h (aLs v0)))) (g_TTriggerPlan (aL v1)) (iA v2) (g_A6u8 (aL v3)) (g_A6u8 (aL v4)))).1).Left)),.row 71 3 ((((gt (F29_0 (g_TBuffer (getL (roWL h (aLs v0)))) (g_TTriggerPlan (aL v1)) (iA v2) (g_A6u8 (aL v3)) (g_A6u8 (aL v4)))).2.1).List).length) (enR c_TSleeper (((gt (F29_0 (g_TBuffer (getL (roWL h (aLs v0)))) (g_TTriggerPlan (aL v1)) (iA v2) (g_A6u8 (aL v3)) (g_A6u8 (aL v4)))).2.1).List)),.row 73 43 ((((gt (F29_0 (g_TBuffer (getL (roWL h (aLs v0)))) (g_TTriggerPlan (aL v1)) (iA v2) (g_A6u8 (aL v3)) (g_A6u8 (aL v4)))).2.1).Group).length) (enR c_TStored (((gt (F29_0 (g_TBuffer (getL (roWL h (aLs v0)))) (g_TTriggerPlan (aL v1)) (iA v2) (g_A6u8 (aL v3)) (g_A6u8 (aL v4)))).2.1).Group))]
 | _,_=>.fail
theorem ok29_0:FnOk Try.prog 29 (edC body29_0):=by
 refine edit_fnM body29_0 (rs:=[.cell 10 33,.cell 11 52,.tmp 12]) Try.func29 (by kernel_rfl) rfl rfl ?_
 intro l h bs ob q0 g0 hb hob
 unfold body29_0 at hb
 split at hb
 ·rename_i v0 v1 v2 v3 v4
  injection hb with q1 q2 q3 q4;subst q1 q2 q3 q4
  obtain ⟨hk0_0,hk0_1,hk0_2,hk0_3,hk0_4,hk0_5,hk1_0,hk2_0,hk3_0,hk4_0,hob⟩:=hob
  obtain ⟨r,H⟩:=Option.isSome_iff_exists.1 hob
  rw [H,gt_some]
  obtain ⟨p0,hp0⟩:∃ p0,p0=g_TBuffer (getL (roWL h (aLs v0))):=⟨_,rfl⟩
  rw [← hp0] at H
  try simp only [← hp0]
  have hw0:∀ y,y < 4->WkV (getL (c_TBuffer p0) y) (roW h (getL (aLs v0) y))/\nref (getL (c_TBuffer p0) y):=fun y hy=>by rw [hp0,← getL_roWL];exact w_TBuffer hk0_1 y hy
  have hk0_K:=hk0_1
  unfold k_TBuffer at hk0_K
  obtain ⟨kk0_0,kk0_1,kk0_2,kk0_3⟩:=hk0_K
  obtain ⟨ev0_2,eb0_2⟩:=own_row2 (f:=c_TSleeper) (g:=g_TSleeper) (bs:=[slN (getL (aLs v0) 2)]) (i:=0) (fun hr=>w_TSleeper hr) hk0_4 (by rw [← getL_roWL];exact kk0_2) (L:=p0.List) (by rw [hp0,← getL_roWL];rfl) rfl
  have hw1:=wA_TTriggerPlan hk1_0
  obtain ⟨p1,hp_p1⟩:∃ p1,p1=g_TTriggerPlan (aL v1):=⟨_,rfl⟩
  rw [← hp_p1] at H hw1
  have hw2:=iK_wk hk2_0
  obtain ⟨p2,hp_p2⟩:∃ p2,p2=iA v2:=⟨_,rfl⟩
  rw [← hp_p2] at H hw2
  have hw3:=wA_A6u8 hk3_0
  obtain ⟨p3,hp_p3⟩:∃ p3,p3=g_A6u8 (aL v3):=⟨_,rfl⟩
  rw [← hp_p3] at H hw3
  have hw4:=wA_A6u8 hk4_0
  obtain ⟨p4,hp_p4⟩:∃ p4,p4=g_A6u8 (aL v4):=⟨_,rfl⟩
  rw [← hp_p4] at H hw4
  refine ⟨[.agg [.int .i64 p0.Limit,.int .i64 p0.Stay,.sl 0 3 0 p0.List.length false,.ro 43 p0.Group.length false (enR c_TStored p0.Group)],.agg [.int .u8 p1.Start,.int .u8 p1.Deliver,.int .i64 p1.Most],.int .i64 p2,.agg [.int .u8 p3.x0,.int .u8 p3.x1,.int .u8 p3.x2,.int .u8 p3.x3,.int .u8 p3.x4,.int .u8 p3.x5],.agg [.int .u8 p4.x0,.int .u8 p4.x1,.int .u8 p4.x2,.int .u8 p4.x3,.int .u8 p4.x4,.int .u8 p4.x5]],[.row 71 3 p0.List.length (enR c_TSleeper p0.List)],rfl,⟨(by rw [hk0_0.2];exact EV_agg (EVL_of hk0_0.1.symm (fun y hy=>by
     match y,hy with
     | 0,_=>exact EV_t hk0_2 (hw0 0 (by decide))
     | 1,_=>exact EV_t hk0_3 (hw0 1 (by decide))
     | 2,_=>exact ev0_2
     | 3,_=>exact EV_t hk0_5 (hw0 3 (by decide))
     | y+4,hy=>exact absurd hy (by simp)))),⟨(EV_wk hw1),⟨(EV_wk hw2),⟨(EV_wk hw3),⟨(EV_wk hw4),trivial⟩⟩⟩⟩⟩,⟨eb0_2,trivial⟩,⟨(nfB_en nr_TSleeper),⟨(nfB_en nr_TFrame),⟨(nfB_en nr_TSleeper),⟨(nfB_en nr_TStored),trivial⟩⟩⟩⟩,?_⟩
  rw [Try.ntmps29]
  simp only [List.length_cons,List.length_nil,Nat.reduceAdd,Nat.reduceSub,List.replicate_succ,List.replicate_zero,List.cons_append,List.nil_append]
  unfold F29_0 at H
  try dsimp only at H
  refine sq ctNo_ok ?_
  simp only [go_sem,Nat.reduceAdd]
  refine seqM ?_
  refine seqM ?_
  obtain ⟨r1,e2,H⟩:=bsi H
  obtain ⟨f3,H⟩:=need_some.1 H
  replace f3:=g_iff.1 f3
  refine rg ct29_0t0_ok ?_
  simp only [go_sem,Nat.reduceLT,Nat.reduceAdd,ct29_0t0_20,body20,ct29_0t0_34,body34,e2]
  repeat ((with_reducible refine And.intro ?_ ?_);focus (first|(with_reducible trivial)|omega|exact f3|(intro g;have q:=f3 (by first|exact g|(rw [g];rfl)|simpa using g);first|exact q|exact ⟨q.1,q.2.1⟩|exact q.2.2|omega|exact ⟨g,q⟩|exact ⟨trivial,q⟩|exact ⟨g,q.1,q.2.1⟩|exact ⟨g,q.2.2⟩)|(intro g;(try have q0:=f3 (by first|exact g|(rw [g];rfl)|simpa using g));and_intros<;>first|(with_reducible trivial)|assumption|exact nfc|(intro g2;rw [g,g2];rfl)|(intro g2;assumption)|(simp only [g,Bool.true_and,Bool.and_true,Bool.not_false,Bool.not_true];assumption)|grind)|(and_intros<;>first|(with_reducible trivial)|omega|assumption|exact nfc|first|exact rfl|exact trivial|exact fitI|exact .inr rfl|exact .inl rfl|exact fun x hx=>absurd hx (by omega))|grind))
  refine condM rfl trivial (fun hc=>?_) (fun hc=>?_)
  ·replace H:=cond_t hc H
   refine sq ctNo_ok ?_
   simp only [go_sem,Nat.reduceAdd]
   repeat ((with_reducible refine And.intro ?_ ?_);focus exact an6)
   refine rg ctNo_ok ?_
   simp only [go_sem,Nat.reduceLT,Nat.reduceAdd]
   obtain rfl:=Option.some.inj H
   refine RetE_mk [] [some 0,none,none,none] ?_ ?_ ?_ ?_ (by rfl) (by rfl)
   ·simp only [go_sem]
    try exact at0
   ·simp only [go_sem]
    try exact at0
   ·simp only [go_sem]
    exact Cv_tup (CvL_cons (by first|(simp [Cv,CvL];done)|(simp [Cv,CvL,getM,gt_some];omega)) (CvL_cons (by first|(simp [Cv,CvL];done)|(simp [Cv,CvL,getM,gt_some];omega)) (CvL_cons (by simp [Cv]) CvL_nil)))
   ·simp only [go_sem,CvH]
    first|exact ⟨CvB_row nr_TSleeper rfl (fun _ _ _ _=>rfl),CvB_none,CvB_none,CvB_none⟩|trivial
  replace H:=cond_f hc H
  refine rg ctNo_ok ?_
  simp only [go_sem]
  refine seqM ?_
  refine sq ctNo_ok ?_
  simp only [go_sem,Nat.reduceLT]
  repeat ((with_reducible refine And.intro ?_ ?_);focus exact an6)
  refine condM rfl trivial (fun hc=>?_) (fun hc=>?_)
  ·replace H:=cond_t hc H
   refine sq ctNo_ok ?_
   simp only [go_sem,Nat.reduceAdd]
   repeat ((with_reducible refine And.intro ?_ ?_);focus exact an6)
   refine rg ctNo_ok ?_
   simp only [go_sem,Nat.reduceLT,Nat.reduceAdd]
   obtain rfl:=Option.some.inj H
   refine RetE_mk [] [some 0,none,none,none] ?_ ?_ ?_ ?_ (by rfl) (by rfl)
   ·simp only [go_sem]
    try exact at0
   ·simp only [go_sem]
    try exact at0
   ·simp only [go_sem]
    exact Cv_tup (CvL_cons (by first|(simp [Cv,CvL];done)|(simp [Cv,CvL,getM,gt_some];omega)) (CvL_cons (by first|(simp [Cv,CvL];done)|(simp [Cv,CvL,getM,gt_some];omega)) (CvL_cons (by simp [Cv]) CvL_nil)))
   ·simp only [go_sem,CvH]
    first|exact ⟨CvB_row nr_TSleeper rfl (fun _ _ _ _=>rfl),CvB_none,CvB_none,CvB_none⟩|trivial
  replace H:=cond_f hc H
  refine rg ctNo_ok ?_
  simp only [go_sem]
  refine seqM ?_
  obtain ⟨r4,e5,H⟩:=bsi H
  refine rg ct29_0t1_ok ?_
  simp only [go_sem,Nat.reduceLeDiff,Nat.reduceLT,Nat.reduceAdd,ct29_0t1_52,body52_1,e5]
  repeat ((with_reducible refine And.intro ?_ ?_);focus exact an0)
  refine seqM ?_
  refine blkM ?_
  refine sq ctNo_ok ?_
  simp only [go_sem]
  refine condM rfl trivial (fun hc=>?_) (fun hc=>?_)
  ·replace H:=cond_t hc H
   refine sq ctNo_ok ?_
   simp only [go_sem,Nat.reduceAdd]
   repeat ((with_reducible refine And.intro ?_ ?_);focus exact an6)
   refine rg ctNo_ok ?_
   simp only [go_sem,Nat.reduceLT,Nat.reduceAdd]
   obtain rfl:=Option.some.inj H
   refine RetE_mk [] [some 0,none,none,none] ?_ ?_ ?_ ?_ (by rfl) (by rfl)
   ·simp only [go_sem]
    try exact at0
   ·simp only [go_sem]
    try exact at0
   ·simp only [go_sem]
    exact Cv_tup (CvL_cons (by first|(simp [Cv,CvL];done)|(simp [Cv,CvL,getM,gt_some];omega)) (CvL_cons (by first|(simp [Cv,CvL];done)|(simp [Cv,CvL,getM,gt_some];omega)) (CvL_cons (by simp [Cv]) CvL_nil)))
   ·simp only [go_sem,CvH]
    first|exact ⟨CvB_row nr_TSleeper rfl (fun _ _ _ _=>rfl),CvB_none,CvB_none,CvB_none⟩|trivial
  replace H:=cond_f hc H
  refine seqM ?_
  obtain ⟨f6,H⟩:=need_some.1 H
  replace f6:=inb_iff.1 f6
  refine rg ctNo_ok ?_
  simp only [go_sem,Nat.reduceLeDiff,Nat.reduceLT,Nat.reduceAdd,f6]
  repeat ((with_reducible refine And.intro ?_ ?_);focus exact an6)
  refine condM rfl trivial (fun hc=>?_) (fun hc=>?_)
  ·replace H:=cond_t hc H
   refine sq ctNo_ok ?_
   simp only [go_sem,Nat.reduceAdd]
   repeat ((with_reducible refine And.intro ?_ ?_);focus exact an6)
   refine rg ctNo_ok ?_
   simp only [go_sem,Nat.reduceLT,Nat.reduceAdd]
   obtain rfl:=Option.some.inj H
   refine RetE_mk [] [some 0,none,none,none] ?_ ?_ ?_ ?_ (by rfl) (by rfl)
   ·simp only [go_sem]
    try exact at0
   ·simp only [go_sem]
    try exact at0
   ·simp only [go_sem]
    exact Cv_tup (CvL_cons (by first|(simp [Cv,CvL];done)|(simp [Cv,CvL,getM,gt_some];omega)) (CvL_cons (by first|(simp [Cv,CvL];done)|(simp [Cv,CvL,getM,gt_some];omega)) (CvL_cons (by simp [Cv]) CvL_nil)))
   ·simp only [go_sem,CvH]
    first|exact ⟨CvB_row nr_TSleeper rfl (fun _ _ _ _=>rfl),CvB_none,CvB_none,CvB_none⟩|trivial
  replace H:=cond_f hc H
  refine rg ctNo_ok ?_
  simp only [go_sem]
  refine seqM ?_
  obtain ⟨r7,e8,H⟩:=bsi H
  refine rg (ct29_0t2_ok r4.toNat) ?_
  simp only [go_sem,Nat.reduceLT,Nat.reduceAdd,ct29_0t2_54,body54_0f,e8]
  repeat ((with_reducible refine And.intro ?_ ?_);focus exact an0)
  refine seqM ?_
  obtain ⟨f9,H⟩:=need_some.1 H
  replace f9:=inb_iff.1 f9
  refine draw_rule shT_ok ctNo_ok 1 (by kernel_rfl) (by kernel_rfl) ?_
  intro an han
  simp only [d_nil,d_cons,nxtD,xrD,xoD,roEq,minL,List.append_nil,refsOp,refs,mask,maskF,place,placeF,okLog,pairOk,hit,inL,slotsF,ren,rnN,nrH,nrB,nrL,nr,List.replicate_zero,List.replicate_succ,Nat.sub_self,Nat.add_zero,Nat.zero_add,Nat.reduceSub,Nat.lt_add_one,go_sem,Nat.reduceLeDiff,Nat.reduceLT,Nat.reduceAdd,Nat.reduceSub,Nat.reduceBEq,upc_ii,f9]
  repeat ((with_reducible refine And.intro ?_ ?_);focus exact an2)
  refine sq ctNo_ok ?_
  simp only [go_sem,Nat.reduceLeDiff,Nat.reduceLT,Nat.reduceAdd]
  repeat ((with_reducible refine And.intro ?_ ?_);focus exact an6)
  refine seqM ?_
  refine blkM ?_
  refine loop_den (fun s:(List TFrame) × (List TStored)=>(tp 5 (.ptr 1 0 0 0::.ptr 2 0 0 0::.top::.ptr 4 0 0 0::.ptr 5 0 0 0::.ptr 6 0 0 0::.ptr 7 0 0 0::.top::.int .i64 r4::.ptr 11 0 0 0::tp 125 []))) (fun s=>[.row 71 3 p0.List.length (enR c_TSleeper p0.List),.lit 52 [.int .i64 r7.Limit,.int .i64 r7.Stay,.sl 8 3 0 r7.List.length false,.sl 10 43 0 r7.Group.length false],.lit 23 [.int .u8 p1.Start,.int .u8 p1.Deliver,.int .i64 p1.Most],.dead,.lit 25 [.int .u8 p3.x0,.int .u8 p3.x1,.int .u8 p3.x2,.int .u8 p3.x3,.int .u8 p3.x4,.int .u8 p3.x5],.lit 25 [.int .u8 p4.x0,.int .u8 p4.x1,.int .u8 p4.x2,.int .u8 p4.x3,.int .u8 p4.x4,.int .u8 p4.x5],.lit 33 [.int .i64 p2,.sl 12 41 0 s.1.length false],.lit 52 [.int .i64 0,.int .i64 0,.ro 0 0 true (fun _ _=>.top),.ro 0 0 true (fun _ _=>.top)],.row 71 3 r7.List.length (upc (enR c_TSleeper r7.List) r4.toNat 2 [.sl 9 43 0 (((gd r7.List r4.toNat).Held).length) false]),.dead,.row 73 43 r7.Group.length (enR c_TStored r7.Group),.lit 103 [.sl 13 43 0 s.2.length false,.int .u8 p1.Deliver],.row 30 41 s.1.length (enR c_TFrame s.1),.row 73 43 s.2.length (enR c_TStored s.2)]) (fun e:(List TFrame) × (List TStored)=>(tp 5 (.ptr 1 0 0 0::.top::.top::.ptr 4 0 0 0::.ptr 5 0 0 0::.ptr 6 0 0 0::.ptr 7 0 0 0::.top::.int .i64 r4::.ptr 11 0 0 0::tp 125 []))) (fun e=>[.row 71 3 p0.List.length (enR c_TSleeper p0.List),.lit 52 [.int .i64 r7.Limit,.int .i64 r7.Stay,.sl 8 3 0 r7.List.length false,.sl 10 43 0 r7.Group.length false],.dead,.dead,.lit 25 [.int .u8 p3.x0,.int .u8 p3.x1,.int .u8 p3.x2,.int .u8 p3.x3,.int .u8 p3.x4,.int .u8 p3.x5],.lit 25 [.int .u8 p4.x0,.int .u8 p4.x1,.int .u8 p4.x2,.int .u8 p4.x3,.int .u8 p4.x4,.int .u8 p4.x5],.lit 33 [.int .i64 p2,.sl 12 41 0 e.1.length false],.lit 52 [.int .i64 0,.int .i64 0,.ro 0 0 true (fun _ _=>.top),.ro 0 0 true (fun _ _=>.top)],.row 71 3 r7.List.length (upc (enR c_TSleeper r7.List) r4.toNat 2 [.sl 9 43 0 (((gd r7.List r4.toNat).Held).length) false]),.dead,.row 73 43 r7.Group.length (enR c_TStored r7.Group),.lit 103 [.sl 13 43 0 e.2.length false,.int .u8 p1.Deliver],.row 30 41 e.1.length (enR c_TFrame e.1),.row 73 43 e.2.length (enR c_TStored e.2)]) H ?_ (fun s o H hn1_1 hn2_1=>?_) (fun e H=>?_)
  ·refine SubF_of ⟨[some 0,some 1,some 2,some 3,some 4,some 5,some 6,some 7,some 8,some 9,some 10,some 11,none,some 9],?_,?_,by rfl,by rfl⟩
   ·simp [CvL,Cv,getM,tp]
   ·exact ⟨(CvB_same nfA),cv,cv,CvB_dead,cv,cv,cv,cv,(CvB_focG (i:=r4.toNat) (L:=r7.List) nr_TSleeper (fun x y hx=>by simp only [upc_ne hx]) (fun y hy=>match y,hy with|0,_=>by simp [upc_ii,getL,Cv,enR,c_TSleeper]|1,_=>by simp [upc_ii,getL,Cv,enR,c_TSleeper]|2,_=>by simp [upc_ii,getL,Cv,getM,enR,c_TSleeper]|(y+3),h=>absurd h nlt)),CvB_dead,(CvB_same nfA),cv,CvB_none,CvB_row nr_TStored cl (fun _ _ _ _=>rfl),trivial⟩
  ·obtain ⟨v1_1,v1_2⟩:=s
   unfold F29_0_L1 at H
   try dsimp only at H ⊢
   try simp only [tp]
   refine seqM ?_
   refine sq ctNo_ok ?_
   simp only [go_sem,Nat.reduceLT,Nat.reduceAdd]
   repeat ((with_reducible refine And.intro ?_ ?_);focus exact an7)
   refine condM' rfl trivial (fun hc=>?_) (fun hc=>?_)
   ·replace H:=cond_f hc H
    refine rg ctNo_ok ?_
    simp only [go_sem]
    refine ⟨_,(Option.some.inj H).symm,?_⟩
    refine SubF_of ⟨[some 0,some 1,some 2,some 3,some 4,some 5,some 6,some 7,some 8,some 9,some 10,some 11,some 12,some 13],?_,?_,by rfl,by rfl⟩
    ·simp [CvL,Cv,getM]
    ·exact ⟨(CvB_same nfA),cv,CvB_dead,CvB_dead,cv,cv,cv,cv,(CvB_focG (i:=r4.toNat) (L:=r7.List) nr_TSleeper (fun x y hx=>by simp only [upc_ne hx]) (fun y hy=>match y,hy with|0,_=>by simp [upc_ii,getL,Cv,enR,c_TSleeper]|1,_=>by simp [upc_ii,getL,Cv,enR,c_TSleeper]|2,_=>by simp [upc_ii,getL,Cv,getM,enR,c_TSleeper]|(y+3),h=>absurd h nlt)),CvB_dead,(CvB_same nfA),cv,CvB_row nr_TFrame cl (fun _ _ _ _=>rfl),CvB_row nr_TStored cl (fun _ _ _ _=>rfl),trivial⟩
   replace H:=cond_t hc H
   refine rg ctNo_ok ?_
   simp only [go_sem]
   refine blkM ?_
   refine seqM ?_
   refine regO ?_
   refine cutO shT_ok ctNo_ok 1 ?_
   simp only [kO_normal,List.take_succ_cons,List.take_zero,List.drop_succ_cons,List.drop_zero,go_sem]
   repeat ((with_reducible refine And.intro ?_ ?_);focus exact an0)
   refine inlO (rs:=[.cell 2 30,.tmp 3]) Try.func55 (by kernel_rfl) rfl rfl Try.ntmps55 (caps:=[]) (tc:=[.ptr 11 0 0 0]) rfl (by simp only [go_sem]) rfl ?_
   simp only [List.length_cons,List.length_nil,Nat.reduceAdd,Nat.reduceSub,List.replicate_succ,List.replicate_zero,List.cons_append,List.nil_append]
   refine sq ctNo_ok ?_
   simp only [go_sem,Nat.reduceAdd]
   refine sq ctNo_ok ?_
   simp only [go_sem]
   refine seqM ?_
   refine sq ctNo_ok ?_
   simp only [go_sem,Nat.reduceLeDiff,Nat.reduceLT,Nat.reduceAdd]
   repeat ((with_reducible refine And.intro ?_ ?_);focus exact an0)
   refine blkM ?_
   refine loop_den (fun s:Int × Int=>(.ptr 11 0 0 0::.top::.ptr 14 0 0 0::.top::.int .i64 s.1::tp 6 (.sl 13 43 0 v1_2.length false::.int .i64 (v1_2.length:Nat)::.int .i64 s.2::tp 49 []))) (fun s=>[.row 71 3 p0.List.length (enR c_TSleeper p0.List),.lit 52 [.int .i64 r7.Limit,.int .i64 r7.Stay,.sl 8 3 0 r7.List.length false,.sl 10 43 0 r7.Group.length false],.lit 23 [.int .u8 p1.Start,.int .u8 p1.Deliver,.int .i64 p1.Most],.dead,.lit 25 [.int .u8 p3.x0,.int .u8 p3.x1,.int .u8 p3.x2,.int .u8 p3.x3,.int .u8 p3.x4,.int .u8 p3.x5],.lit 25 [.int .u8 p4.x0,.int .u8 p4.x1,.int .u8 p4.x2,.int .u8 p4.x3,.int .u8 p4.x4,.int .u8 p4.x5],.lit 33 [.int .i64 p2,.sl 12 41 0 v1_1.length false],.lit 52 [.int .i64 0,.int .i64 0,.ro 0 0 true (fun _ _=>.top),.ro 0 0 true (fun _ _=>.top)],.row 71 3 r7.List.length (upc (enR c_TSleeper r7.List) r4.toNat 2 [.sl 9 43 0 (((gd r7.List r4.toNat).Held).length) false]),.dead,.row 73 43 r7.Group.length (enR c_TStored r7.Group),.lit 103 [.sl 13 43 0 v1_2.length false,.int .u8 p1.Deliver],.row 30 41 v1_1.length (enR c_TFrame v1_1),.row 73 43 v1_2.length (enR c_TStored v1_2),.lit 30 (.int .u8 0::.int .u8 0::.bool false::.bool false::.bool false::.bool false::.bool false::.bool false::.bool false::.int .i64 0::.int .u8 0::.int .u8 0::.int .u8 0::.int .u8 0::.int .u8 0::.int .u8 0::.int .u8 0::.int .u8 0::.int .u8 0::.int .u8 0::.int .u8 0::.int .u8 0::.int .u8 0::.int .u8 0::.int .u8 0::.int .u8 0::.int .u8 0::.int .u8 0::.int .u8 0::.int .u8 0::.int .u8 0::.int .u8 0::.int .u8 0::.int .u8 0::.int .i64 0::.int .i64 0::.int .i64 0::.int .u8 0::.bool false::.bool false::.ro 0 0 true (fun _ _=>.top)::[])]) (fun e:Int=>(.ptr 11 0 0 0::.top::.ptr 14 0 0 0::.top::.int .i64 e::tp 58 [])) (fun e=>[.row 71 3 p0.List.length (enR c_TSleeper p0.List),.lit 52 [.int .i64 r7.Limit,.int .i64 r7.Stay,.sl 8 3 0 r7.List.length false,.sl 10 43 0 r7.Group.length false],.lit 23 [.int .u8 p1.Start,.int .u8 p1.Deliver,.int .i64 p1.Most],.dead,.lit 25 [.int .u8 p3.x0,.int .u8 p3.x1,.int .u8 p3.x2,.int .u8 p3.x3,.int .u8 p3.x4,.int .u8 p3.x5],.lit 25 [.int .u8 p4.x0,.int .u8 p4.x1,.int .u8 p4.x2,.int .u8 p4.x3,.int .u8 p4.x4,.int .u8 p4.x5],.lit 33 [.int .i64 p2,.sl 12 41 0 v1_1.length false],.lit 52 [.int .i64 0,.int .i64 0,.ro 0 0 true (fun _ _=>.top),.ro 0 0 true (fun _ _=>.top)],.row 71 3 r7.List.length (upc (enR c_TSleeper r7.List) r4.toNat 2 [.sl 9 43 0 (((gd r7.List r4.toNat).Held).length) false]),.dead,.row 73 43 r7.Group.length (enR c_TStored r7.Group),.lit 103 [.sl 13 43 0 v1_2.length false,.int .u8 p1.Deliver],.row 30 41 v1_1.length (enR c_TFrame v1_1),.row 73 43 v1_2.length (enR c_TStored v1_2),.lit 30 (.int .u8 0::.int .u8 0::.bool false::.bool false::.bool false::.bool false::.bool false::.bool false::.bool false::.int .i64 0::.int .u8 0::.int .u8 0::.int .u8 0::.int .u8 0::.int .u8 0::.int .u8 0::.int .u8 0::.int .u8 0::.int .u8 0::.int .u8 0::.int .u8 0::.int .u8 0::.int .u8 0::.int .u8 0::.int .u8 0::.int .u8 0::.int .u8 0::.int .u8 0::.int .u8 0::.int .u8 0::.int .u8 0::.int .u8 0::.int .u8 0::.int .u8 0::.int .i64 0::.int .i64 0::.int .i64 0::.int .u8 0::.bool false::.bool false::.ro 0 0 true (fun _ _=>.top)::[])]) H ?_ (fun s o H hn1_2 hn2_2=>?_) (fun w2_3 H=>?_)
   ·refine SubF_of ⟨[some 0,some 1,some 2,some 3,some 4,some 5,some 6,some 7,some 8,some 9,some 10,some 11,some 12,some 13,some 14],?_,?_,by rfl,by rfl⟩
    ·simp [CvL,Cv,getM,tp]
    ·exact ⟨(CvB_same nfA),cv,cv,CvB_dead,cv,cv,cv,cv,(CvB_focG (i:=r4.toNat) (L:=r7.List) nr_TSleeper (fun x y hx=>by simp only [upc_ne hx]) (fun y hy=>match y,hy with|0,_=>by simp [upc_ii,getL,Cv,enR,c_TSleeper]|1,_=>by simp [upc_ii,getL,Cv,enR,c_TSleeper]|2,_=>by simp [upc_ii,getL,Cv,getM,enR,c_TSleeper]|(y+3),h=>absurd h nlt)),CvB_dead,(CvB_same nfA),cv,(CvB_same nfA),(CvB_same nfA),cv,trivial⟩
   ·obtain ⟨v2_1,v2_2⟩:=s
    unfold F29_0_L2 at H
    try dsimp only at H ⊢
    try simp only [tp]
    refine sq ctNo_ok ?_
    simp only [go_sem,Nat.reduceAdd]
    refine seqM ?_
    refine condM' rfl trivial (fun hc=>?_) (fun hc=>?_)
    ·replace H:=cond_f hc H
     refine rg ctNo_ok ?_
     simp only [go_sem]
     refine ⟨_,(Option.some.inj H).symm,?_⟩
     refine SubF_of ⟨[some 0,some 1,some 2,some 3,some 4,some 5,some 6,some 7,some 8,some 9,some 10,some 11,some 12,some 13,some 14],?_,?_,by rfl,by rfl⟩
     ·simp [CvL,Cv,getM]
     ·exact ⟨(CvB_same nfA),cv,cv,CvB_dead,cv,cv,cv,cv,(CvB_focG (i:=r4.toNat) (L:=r7.List) nr_TSleeper (fun x y hx=>by simp only [upc_ne hx]) (fun y hy=>match y,hy with|0,_=>by simp [upc_ii,getL,Cv,enR,c_TSleeper]|1,_=>by simp [upc_ii,getL,Cv,enR,c_TSleeper]|2,_=>by simp [upc_ii,getL,Cv,getM,enR,c_TSleeper]|(y+3),h=>absurd h nlt)),CvB_dead,(CvB_same nfA),cv,(CvB_same nfA),(CvB_same nfA),cv,trivial⟩
    replace H:=cond_t hc H
    refine rg ctNo_ok ?_
    simp only [go_sem]
    refine seqM ?_
    refine blkM ?_
    refine seqM ?_
    obtain ⟨f10,H⟩:=need_some.1 H
    replace f10:=inb_iff.1 f10
    refine rg ctNo_ok ?_
    simp only [go_sem,Nat.reduceLT,Nat.reduceAdd,f10]
    repeat ((with_reducible refine And.intro ?_ ?_);focus exact an6)
    refine seqM ?_
    obtain ⟨r11,e12,H⟩:=bsi H
    obtain ⟨f13,H⟩:=need_some.1 H
    replace f13:=g_iff.1 f13
    replace f13:=fun g=>inb_iff.1 (f13 g)
    refine draw_quiet shT_ok ct29_0t3_ok (by kernel_rfl) (by kernel_rfl) ?_
    simp only [go_sem,Nat.reduceLeDiff,Nat.reduceLT,Nat.reduceAdd,ct29_0t3_56,body56_0,e12]
    repeat ((with_reducible refine And.intro ?_ ?_);focus (first|(with_reducible trivial)|omega|exact f13|(intro g;have q:=f13 (by first|exact g|(rw [g];rfl)|simpa using g);first|exact q|exact ⟨q.1,q.2.1⟩|exact q.2.2|omega|exact ⟨g,q⟩|exact ⟨trivial,q⟩|exact ⟨g,q.1,q.2.1⟩|exact ⟨g,q.2.2⟩)|(intro g;(try have q0:=f13 (by first|exact g|(rw [g];rfl)|simpa using g));and_intros<;>first|(with_reducible trivial)|assumption|exact nfc|(intro g2;rw [g,g2];rfl)|(intro g2;assumption)|(simp only [g,Bool.true_and,Bool.and_true,Bool.not_false,Bool.not_true];assumption)|grind)|(and_intros<;>first|(with_reducible trivial)|omega|assumption|exact nfc|first|exact rfl|exact trivial|exact fitI|exact .inr rfl|exact .inl rfl|exact fun x hx=>absurd hx (by omega))|grind))
    refine condM rfl trivial (fun hc=>?_) (fun hc=>?_)
    ·replace H:=cond_t hc H
     refine rg ctNo_ok ?_
     simp only [go_sem]
     refine rg ctNo_ok ?_
     simp only [go_sem]
     refine ⟨_,(Option.some.inj H).symm,?_⟩
     refine SubF_of ⟨[some 0,some 1,some 2,some 3,some 4,some 5,some 6,some 7,some 8,some 9,some 10,some 11,some 12,some 13,some 14],?_,?_,by rfl,by rfl⟩
     ·simp [CvL,Cv,getM]
     ·exact ⟨(CvB_same nfA),cv,cv,CvB_dead,cv,cv,cv,cv,(CvB_focG (i:=r4.toNat) (L:=r7.List) nr_TSleeper (fun x y hx=>by simp only [upc_ne hx]) (fun y hy=>match y,hy with|0,_=>by simp [upc_ii,getL,Cv,enR,c_TSleeper]|1,_=>by simp [upc_ii,getL,Cv,enR,c_TSleeper]|2,_=>by simp [upc_ii,getL,Cv,getM,enR,c_TSleeper]|(y+3),h=>absurd h nlt)),CvB_dead,(CvB_same nfA),cv,(CvB_same nfA),(CvB_same nfA),cv,trivial⟩
    replace H:=cond_f hc H
    refine rg ctNo_ok ?_
    simp only [go_sem]
    refine rg ctNo_ok ?_
    simp only [go_sem]
    refine ⟨_,(Option.some.inj H).symm,?_⟩
    refine SubF_of ⟨[some 0,some 1,some 2,some 3,some 4,some 5,some 6,some 7,some 8,some 9,some 10,some 11,some 12,some 13,some 14],?_,?_,by rfl,by rfl⟩
    ·simp [CvL,Cv,getM]
    ·exact ⟨(CvB_same nfA),cv,cv,CvB_dead,cv,cv,cv,cv,(CvB_focG (i:=r4.toNat) (L:=r7.List) nr_TSleeper (fun x y hx=>by simp only [upc_ne hx]) (fun y hy=>match y,hy with|0,_=>by simp [upc_ii,getL,Cv,enR,c_TSleeper]|1,_=>by simp [upc_ii,getL,Cv,enR,c_TSleeper]|2,_=>by simp [upc_ii,getL,Cv,getM,enR,c_TSleeper]|(y+3),h=>absurd h nlt)),CvB_dead,(CvB_same nfA),cv,(CvB_same nfA),(CvB_same nfA),cv,trivial⟩
   ·try dsimp only at H ⊢
    try simp only [tp]
    try simp only [m_normal]
    refine seqM ?_
    refine sq ctNo_ok ?_
    simp only [go_sem]
    refine condM rfl trivial (fun hc=>?_) (fun hc=>?_)
    ·replace H:=cond_t hc H
     refine sq ctNo_ok ?_
     simp only [go_sem,Nat.reduceAdd]
     repeat ((with_reducible refine And.intro ?_ ?_);focus exact an6)
     refine rg ctNo_ok ?_
     simp only [go_sem,Nat.reduceLT,Nat.reduceAdd]
     refine cutO shT_ok ctNo_ok 6 ?_
     simp only [kO_normal,List.take_succ_cons,List.take_zero,List.drop_succ_cons,List.drop_zero,go_sem,Nat.reduceLT,Nat.reduceAdd]
     repeat ((with_reducible refine And.intro ?_ ?_);focus exact an0)
     refine endO ?_
     refine seqM ?_
     refine sq ctNo_ok ?_
     simp only [go_sem]
     refine condM rfl trivial (fun hc=>?_) (fun hc=>?_)
     rotate_left
     ·cases hc
     refine rg ctNo_ok ?_
     simp only [go_sem,Nat.reduceBEq]
     refine ⟨_,(Option.some.inj H).symm,?_⟩
     refine SubF_of ⟨[some 0,some 1,some 2,some 3,some 4,some 5,some 6,some 7,some 8,some 9,some 10,some 11,some 12,some 13],?_,?_,by rfl,by rfl⟩
     ·simp [CvL,Cv,getM]
     ·exact ⟨(CvB_same nfA),cv,CvB_dead,CvB_dead,cv,cv,cv,cv,(CvB_focG (i:=r4.toNat) (L:=r7.List) nr_TSleeper (fun x y hx=>by simp only [upc_ne hx]) (fun y hy=>match y,hy with|0,_=>by simp [upc_ii,getL,Cv,enR,c_TSleeper]|1,_=>by simp [upc_ii,getL,Cv,enR,c_TSleeper]|2,_=>by simp [upc_ii,getL,Cv,getM,enR,c_TSleeper]|(y+3),h=>absurd h nlt)),CvB_dead,(CvB_same nfA),cv,CvB_row nr_TFrame cl (fun _ _ _ _=>rfl),CvB_row nr_TStored cl (fun _ _ _ _=>rfl),trivial⟩
    replace H:=cond_f hc H
    refine rg ctNo_ok ?_
    simp only [go_sem]
    refine seqM ?_
    obtain ⟨f14,H⟩:=need_some.1 H
    replace f14:=inb_iff.1 f14
    refine rg ctNo_ok ?_
    simp only [go_sem,Nat.reduceLeDiff,Nat.reduceLT,Nat.reduceAdd,reduceCtorEq,f14]
    repeat ((with_reducible refine And.intro ?_ ?_);focus exact an6)
    refine seqM ?_
    obtain ⟨f15,H⟩:=need_some.1 H
    replace f15:=delb_iff.1 f15
    refine rg ct29_0t4_ok ?_
    simp only [go_sem,Nat.reduceLeDiff,Nat.reduceLT,Nat.reduceAdd,ct29_0t4_73,delN,f15]
    repeat ((with_reducible refine And.intro ?_ ?_);focus exact an0)
    refine seqM ?_
    obtain ⟨w16,hw17,H⟩:=bsi H
    replace hw17:=Option.some.inj hw17
    have lhw17:w16.length=v1_2.length - ((wr .i64 (w2_3+1)).toNat - w2_3.toNat):=by rw [← hw17];exact (del_len f15 cl)
    refine subF_mean (t2:=(.top::.top::.ptr 14 0 0 0::tp 4 (.ptr 15 0 0 0::tp 55 []))) (h2:=[.row 71 3 p0.List.length (enR c_TSleeper p0.List),.lit 52 [.int .i64 r7.Limit,.int .i64 r7.Stay,.sl 8 3 0 r7.List.length false,.sl 10 43 0 r7.Group.length false],.lit 23 [.int .u8 p1.Start,.int .u8 p1.Deliver,.int .i64 p1.Most],.dead,.lit 25 [.int .u8 p3.x0,.int .u8 p3.x1,.int .u8 p3.x2,.int .u8 p3.x3,.int .u8 p3.x4,.int .u8 p3.x5],.lit 25 [.int .u8 p4.x0,.int .u8 p4.x1,.int .u8 p4.x2,.int .u8 p4.x3,.int .u8 p4.x4,.int .u8 p4.x5],.lit 33 [.int .i64 p2,.sl 12 41 0 v1_1.length false],.lit 52 [.int .i64 0,.int .i64 0,.ro 0 0 true (fun _ _=>.top),.ro 0 0 true (fun _ _=>.top)],.row 71 3 r7.List.length (upc (enR c_TSleeper r7.List) r4.toNat 2 [.sl 9 43 0 (((gd r7.List r4.toNat).Held).length) false]),.dead,.row 73 43 r7.Group.length (enR c_TStored r7.Group),.lit 103 [.sl 16 43 0 w16.length false,.int .u8 p1.Deliver],.row 30 41 v1_1.length (enR c_TFrame v1_1),.dead,.lit 30 (.int .u8 0::.int .u8 0::.bool false::.bool false::.bool false::.bool false::.bool false::.bool false::.bool false::.int .i64 0::.int .u8 0::.int .u8 0::.int .u8 0::.int .u8 0::.int .u8 0::.int .u8 0::.int .u8 0::.int .u8 0::.int .u8 0::.int .u8 0::.int .u8 0::.int .u8 0::.int .u8 0::.int .u8 0::.int .u8 0::.int .u8 0::.int .u8 0::.int .u8 0::.int .u8 0::.int .u8 0::.int .u8 0::.int .u8 0::.int .u8 0::.int .u8 0::.int .i64 0::.int .i64 0::.int .i64 0::.int .u8 0::.bool false::.bool false::.ro 0 0 true (fun _ _=>.top)::[]),.lit 30 (.int .u8 ((((gd v1_2 w2_3.toNat).Frame).Head).Kind)::.int .u8 ((((gd v1_2 w2_3.toNat).Frame).Head).Sub)::.bool ((((gd v1_2 w2_3.toNat).Frame).Head).ToDs)::.bool ((((gd v1_2 w2_3.toNat).Frame).Head).FromDs)::.bool ((((gd v1_2 w2_3.toNat).Frame).Head).More)::.bool ((((gd v1_2 w2_3.toNat).Frame).Head).Retry)::.bool ((((gd v1_2 w2_3.toNat).Frame).Head).Sleep)::.bool ((((gd v1_2 w2_3.toNat).Frame).Head).MoreData)::.bool ((((gd v1_2 w2_3.toNat).Frame).Head).Protected)::.int .i64 ((((gd v1_2 w2_3.toNat).Frame).Head).Duration)::.int .u8 (((((gd v1_2 w2_3.toNat).Frame).Head).A1).x0)::.int .u8 (((((gd v1_2 w2_3.toNat).Frame).Head).A1).x1)::.int .u8 (((((gd v1_2 w2_3.toNat).Frame).Head).A1).x2)::.int .u8 (((((gd v1_2 w2_3.toNat).Frame).Head).A1).x3)::.int .u8 (((((gd v1_2 w2_3.toNat).Frame).Head).A1).x4)::.int .u8 (((((gd v1_2 w2_3.toNat).Frame).Head).A1).x5)::.int .u8 (((((gd v1_2 w2_3.toNat).Frame).Head).A2).x0)::.int .u8 (((((gd v1_2 w2_3.toNat).Frame).Head).A2).x1)::.int .u8 (((((gd v1_2 w2_3.toNat).Frame).Head).A2).x2)::.int .u8 (((((gd v1_2 w2_3.toNat).Frame).Head).A2).x3)::.int .u8 (((((gd v1_2 w2_3.toNat).Frame).Head).A2).x4)::.int .u8 (((((gd v1_2 w2_3.toNat).Frame).Head).A2).x5)::.int .u8 (((((gd v1_2 w2_3.toNat).Frame).Head).A3).x0)::.int .u8 (((((gd v1_2 w2_3.toNat).Frame).Head).A3).x1)::.int .u8 (((((gd v1_2 w2_3.toNat).Frame).Head).A3).x2)::.int .u8 (((((gd v1_2 w2_3.toNat).Frame).Head).A3).x3)::.int .u8 (((((gd v1_2 w2_3.toNat).Frame).Head).A3).x4)::.int .u8 (((((gd v1_2 w2_3.toNat).Frame).Head).A3).x5)::.int .u8 (((((gd v1_2 w2_3.toNat).Frame).Head).A4).x0)::.int .u8 (((((gd v1_2 w2_3.toNat).Frame).Head).A4).x1)::.int .u8 (((((gd v1_2 w2_3.toNat).Frame).Head).A4).x2)::.int .u8 (((((gd v1_2 w2_3.toNat).Frame).Head).A4).x3)::.int .u8 (((((gd v1_2 w2_3.toNat).Frame).Head).A4).x4)::.int .u8 (((((gd v1_2 w2_3.toNat).Frame).Head).A4).x5)::.int .i64 ((((gd v1_2 w2_3.toNat).Frame).Head).Seq)::.int .i64 ((((gd v1_2 w2_3.toNat).Frame).Head).Frag)::.int .i64 ((((gd v1_2 w2_3.toNat).Frame).Head).Tid)::.int .u8 ((((gd v1_2 w2_3.toNat).Frame).Head).Ack)::.bool ((((gd v1_2 w2_3.toNat).Frame).Head).Amsdu)::.bool ((((gd v1_2 w2_3.toNat).Frame).Head).Eosp)::.ro 1 ((((gd v1_2 w2_3.toNat).Frame).Body).length) false (enR c_u8 (((gd v1_2 w2_3.toNat).Frame).Body))::[]),.row 73 43 w16.length (enR c_TStored w16)]) ?_ ?_
    ·refine SubF_of ⟨[some 0,some 1,some 2,some 3,some 4,some 5,some 6,some 7,some 8,some 9,some 10,some 11,some 12,some 13,some 14,some 15,some 16],?_,?_,by rfl,by rfl⟩
     ·simp [CvL,Cv,getM,tp]
     ·exact ⟨CvB_row nr_TSleeper rfl (fun _ _ _ _=>rfl),(by simp [CvB,CvL,Cv,blkAt,geth,getM]),(by simp [CvB,CvL,Cv,blkAt,geth]),CvB_dead,(by simp [CvB,CvL,Cv,blkAt,geth]),(by simp [CvB,CvL,Cv,blkAt,geth]),(by simp [CvB,CvL,Cv,blkAt,geth,getM]),(by simp [CvB,CvL,Cv,blkAt,geth]),(CvB_focG (i:=r4.toNat) (L:=r7.List) nr_TSleeper (fun x y hx=>by simp only [upc_ne hx]) (fun y hy=>match y,hy with|0,_=>by simp [upc_ii,getL,Cv,enR,c_TSleeper]|1,_=>by simp [upc_ii,getL,Cv,enR,c_TSleeper]|2,_=>by simp [upc_ii,getL,Cv,getM,enR,c_TSleeper]|(y+3),h=>absurd h nlt)),CvB_dead,CvB_row nr_TStored rfl (fun _ _ _ _=>rfl),(by simp [CvB,CvL,Cv,blkAt,geth,getM,lhw17]),CvB_row nr_TFrame rfl (fun _ _ _ _=>rfl),CvB_dead,(by simp [CvB,CvL,Cv,blkAt,geth]),(by simp [CvB,CvL,Cv,blkAt,geth]),CvB_row nr_TStored lhw17 (hw17 ▸ (del_row f15 cl (fun _ _ _ _=>rfl))),trivial⟩
    simp only [tp]
    refine rg ctNo_ok ?_
    simp only [go_sem,Nat.reduceLT,Nat.reduceAdd]
    repeat ((with_reducible refine And.intro ?_ ?_);focus exact an6)
    refine rg ctNo_ok ?_
    simp only [go_sem,Nat.reduceLT,Nat.reduceAdd]
    refine cutO shT_ok ctNo_ok 6 ?_
    simp only [kO_normal,List.take_succ_cons,List.take_zero,List.drop_succ_cons,List.drop_zero,go_sem,Nat.reduceLT,Nat.reduceAdd]
    repeat ((with_reducible refine And.intro ?_ ?_);focus exact an0)
    refine endO ?_
    refine seqM ?_
    refine sq ctNo_ok ?_
    simp only [go_sem]
    refine condM rfl trivial (fun hc=>?_) (fun hc=>?_)
    ·cases hc
    refine rg ctNo_ok ?_
    simp only [go_sem]
    refine sq ctNo_ok ?_
    simp only [go_sem,Nat.reduceLeDiff,Nat.reduceAdd,reduceCtorEq]
    repeat ((with_reducible refine And.intro ?_ ?_);focus exact an6)
    obtain ⟨f18,H⟩:=need_some.1 H
    replace f18:=capb_iff.1 f18
    refine rg ctNo_ok ?_
    simp only [go_sem,Nat.reduceLeDiff,Nat.reduceLT,Nat.reduceAdd,Nat.reduceBEq,f18]
    repeat ((with_reducible refine And.intro ?_ ?_);focus exact an3)
    refine ⟨_,(Option.some.inj H).symm,?_⟩
    refine SubF_of ⟨[some 0,some 1,some 2,some 3,some 4,some 5,some 6,some 7,some 8,some 9,some 10,some 11,some 19,some 16],?_,?_,by rfl,by rfl⟩
    ·simp [CvL,Cv,getM]
    ·exact ⟨(CvB_same nfA),cv,cv,CvB_dead,cv,cv,cv,cv,(CvB_focG (i:=r4.toNat) (L:=r7.List) nr_TSleeper (fun x y hx=>by simp only [upc_ne hx]) (fun y hy=>match y,hy with|0,_=>by simp [upc_ii,getL,Cv,enR,c_TSleeper]|1,_=>by simp [upc_ii,getL,Cv,enR,c_TSleeper]|2,_=>by simp [upc_ii,getL,Cv,getM,enR,c_TSleeper]|(y+3),h=>absurd h nlt)),CvB_dead,(CvB_same nfA),cv,CvB_row nr_TFrame cl (app_row (f:=c_TFrame) v1_1 [(TFrame.mk (THeader.mk ((((gd v1_2 w2_3.toNat).Frame).Head).Kind) ((((gd v1_2 w2_3.toNat).Frame).Head).Sub) ((((gd v1_2 w2_3.toNat).Frame).Head).ToDs) ((((gd v1_2 w2_3.toNat).Frame).Head).FromDs) ((((gd v1_2 w2_3.toNat).Frame).Head).More) ((((gd v1_2 w2_3.toNat).Frame).Head).Retry) ((((gd v1_2 w2_3.toNat).Frame).Head).Sleep) true ((((gd v1_2 w2_3.toNat).Frame).Head).Protected) ((((gd v1_2 w2_3.toNat).Frame).Head).Duration) (A6u8.mk (((((gd v1_2 w2_3.toNat).Frame).Head).A1).x0) (((((gd v1_2 w2_3.toNat).Frame).Head).A1).x1) (((((gd v1_2 w2_3.toNat).Frame).Head).A1).x2) (((((gd v1_2 w2_3.toNat).Frame).Head).A1).x3) (((((gd v1_2 w2_3.toNat).Frame).Head).A1).x4) (((((gd v1_2 w2_3.toNat).Frame).Head).A1).x5)) (A6u8.mk (((((gd v1_2 w2_3.toNat).Frame).Head).A2).x0) (((((gd v1_2 w2_3.toNat).Frame).Head).A2).x1) (((((gd v1_2 w2_3.toNat).Frame).Head).A2).x2) (((((gd v1_2 w2_3.toNat).Frame).Head).A2).x3) (((((gd v1_2 w2_3.toNat).Frame).Head).A2).x4) (((((gd v1_2 w2_3.toNat).Frame).Head).A2).x5)) (A6u8.mk (((((gd v1_2 w2_3.toNat).Frame).Head).A3).x0) (((((gd v1_2 w2_3.toNat).Frame).Head).A3).x1) (((((gd v1_2 w2_3.toNat).Frame).Head).A3).x2) (((((gd v1_2 w2_3.toNat).Frame).Head).A3).x3) (((((gd v1_2 w2_3.toNat).Frame).Head).A3).x4) (((((gd v1_2 w2_3.toNat).Frame).Head).A3).x5)) (A6u8.mk (((((gd v1_2 w2_3.toNat).Frame).Head).A4).x0) (((((gd v1_2 w2_3.toNat).Frame).Head).A4).x1) (((((gd v1_2 w2_3.toNat).Frame).Head).A4).x2) (((((gd v1_2 w2_3.toNat).Frame).Head).A4).x3) (((((gd v1_2 w2_3.toNat).Frame).Head).A4).x4) (((((gd v1_2 w2_3.toNat).Frame).Head).A4).x5)) ((((gd v1_2 w2_3.toNat).Frame).Head).Seq) ((((gd v1_2 w2_3.toNat).Frame).Head).Frag) ((((gd v1_2 w2_3.toNat).Frame).Head).Tid) ((((gd v1_2 w2_3.toNat).Frame).Head).Ack) ((((gd v1_2 w2_3.toNat).Frame).Head).Amsdu) false) (((gd v1_2 w2_3.toNat).Frame).Body))] (fun _ _ _ _=>rfl) (lit_row (f:=c_TFrame) [(TFrame.mk (THeader.mk ((((gd v1_2 w2_3.toNat).Frame).Head).Kind) ((((gd v1_2 w2_3.toNat).Frame).Head).Sub) ((((gd v1_2 w2_3.toNat).Frame).Head).ToDs) ((((gd v1_2 w2_3.toNat).Frame).Head).FromDs) ((((gd v1_2 w2_3.toNat).Frame).Head).More) ((((gd v1_2 w2_3.toNat).Frame).Head).Retry) ((((gd v1_2 w2_3.toNat).Frame).Head).Sleep) true ((((gd v1_2 w2_3.toNat).Frame).Head).Protected) ((((gd v1_2 w2_3.toNat).Frame).Head).Duration) (A6u8.mk (((((gd v1_2 w2_3.toNat).Frame).Head).A1).x0) (((((gd v1_2 w2_3.toNat).Frame).Head).A1).x1) (((((gd v1_2 w2_3.toNat).Frame).Head).A1).x2) (((((gd v1_2 w2_3.toNat).Frame).Head).A1).x3) (((((gd v1_2 w2_3.toNat).Frame).Head).A1).x4) (((((gd v1_2 w2_3.toNat).Frame).Head).A1).x5)) (A6u8.mk (((((gd v1_2 w2_3.toNat).Frame).Head).A2).x0) (((((gd v1_2 w2_3.toNat).Frame).Head).A2).x1) (((((gd v1_2 w2_3.toNat).Frame).Head).A2).x2) (((((gd v1_2 w2_3.toNat).Frame).Head).A2).x3) (((((gd v1_2 w2_3.toNat).Frame).Head).A2).x4) (((((gd v1_2 w2_3.toNat).Frame).Head).A2).x5)) (A6u8.mk (((((gd v1_2 w2_3.toNat).Frame).Head).A3).x0) (((((gd v1_2 w2_3.toNat).Frame).Head).A3).x1) (((((gd v1_2 w2_3.toNat).Frame).Head).A3).x2) (((((gd v1_2 w2_3.toNat).Frame).Head).A3).x3) (((((gd v1_2 w2_3.toNat).Frame).Head).A3).x4) (((((gd v1_2 w2_3.toNat).Frame).Head).A3).x5)) (A6u8.mk (((((gd v1_2 w2_3.toNat).Frame).Head).A4).x0) (((((gd v1_2 w2_3.toNat).Frame).Head).A4).x1) (((((gd v1_2 w2_3.toNat).Frame).Head).A4).x2) (((((gd v1_2 w2_3.toNat).Frame).Head).A4).x3) (((((gd v1_2 w2_3.toNat).Frame).Head).A4).x4) (((((gd v1_2 w2_3.toNat).Frame).Head).A4).x5)) ((((gd v1_2 w2_3.toNat).Frame).Head).Seq) ((((gd v1_2 w2_3.toNat).Frame).Head).Frag) ((((gd v1_2 w2_3.toNat).Frame).Head).Tid) ((((gd v1_2 w2_3.toNat).Frame).Head).Ack) ((((gd v1_2 w2_3.toNat).Frame).Head).Amsdu) false) (((gd v1_2 w2_3.toNat).Frame).Body))] (fun _ _=>rfl) rfl)),CvB_row nr_TStored cl (fun _ _ _ _=>rfl),trivial⟩
  ·obtain ⟨w1_5,w1_6⟩:=e
   try dsimp only at H ⊢
   try simp only [tp]
   try simp only [m_normal]
   refine seqM ?_
   obtain ⟨f19,H⟩:=need_some.1 H
   replace f19:=inb_iff.1 f19
   refine draw_rule shT_ok ctNo_ok 0 (by kernel_rfl) (by kernel_rfl) ?_
   intro an han
   simp only [d_nil,d_cons,nxtD,xrD,xoD,roEq,minL,List.append_nil,refsOp,refs,mask,maskF,place,placeF,okLog,pairOk,hit,inL,slotsF,nrH,nrB,List.replicate_zero,Nat.sub_self,Nat.add_zero,Nat.zero_add,Nat.reduceSub,Nat.lt_add_one,go_sem,Nat.reduceLeDiff,Nat.reduceLT,Nat.reduceAdd,Nat.reduceSub,Nat.reduceBEq,f19]
   repeat ((with_reducible refine And.intro ?_ ?_);focus exact an2)
   refine seqM ?_
   obtain ⟨r20,e21,H⟩:=bsi H
   refine rg ct29_0t5_ok ?_
   simp only [go_sem,Nat.reduceLeDiff,Nat.reduceLT,Nat.reduceAdd,ct29_0t5_49,body49_0,e21]
   repeat ((with_reducible refine And.intro ?_ ?_);focus exact an0)
   refine seqM ?_
   refine sq ctNo_ok ?_
   simp only [go_sem,Nat.reduceLT,Nat.reduceAdd]
   repeat ((with_reducible refine And.intro ?_ ?_);focus exact an0)
   refine condM' rfl trivial (fun hc=>?_) (fun hc=>?_)
   ·replace H:=cond_f hc H
    refine rg ctNo_ok ?_
    simp only [go_sem]
    refine seqM ?_
    obtain ⟨f29,H⟩:=need_some.1 H
    replace f29:=inb_iff.1 f29
    refine rg ctNo_ok ?_
    simp only [go_sem,Nat.reduceLT,Nat.reduceAdd,reduceCtorEq,f29]
    repeat ((with_reducible refine And.intro ?_ ?_);focus exact an0)
    refine sq ctNo_ok ?_
    simp only [go_sem,Nat.reduceLeDiff,Nat.reduceAdd]
    repeat ((with_reducible refine And.intro ?_ ?_);focus exact an6)
    refine seqM ?_
    refine draw_rule shT_ok ctNo_ok 0 (by kernel_rfl) (by kernel_rfl) ?_
    intro an han
    simp only [d_nil,d_cons,nxtD,xrD,xoD,roEq,minL,List.append_nil,refsOp,refs,mask,maskF,place,placeF,okLog,pairOk,hit,inL,slotsF,nrH,nrB,nrL,nr,List.replicate_zero,Nat.sub_self,Nat.add_zero,Nat.zero_add,Nat.reduceSub,Nat.lt_add_one,go_sem,Nat.reduceLeDiff,Nat.reduceLT,Nat.reduceAdd,Nat.reduceSub,Nat.reduceBEq]
    repeat ((with_reducible refine And.intro ?_ ?_);focus exact an2)
    refine fz2_mean [13] [8] ?_ ?_
    ·simp only [go_sem,Nat.reduceBEq,Nat.reduceAdd,fzObHF2,fzObB2]
     first|exact (foc_ob (L:=r7.List) (i:=r4.toNat) (fun a y=>nrefL_getL (nr_TSleeper a) y) (fun x y hx=>by simp only [upc_ne hx]) (fun y hy=>match y,hy with|0,_=>(by (simp [upc_ii,getL,fzOb,inL,geth,rowOb,enR,c_TSleeper];all_goals (first|(with_reducible trivial)|(intros;exact nrefL_getL (NRf.h _) _)|(intros;exact nfc))))|1,_=>(by (simp [upc_ii,getL,fzOb,inL,geth,rowOb,enR,c_TSleeper];all_goals (first|(with_reducible trivial)|(intros;exact nrefL_getL (NRf.h _) _)|(intros;exact nfc))))|2,_=>(by (simp [upc_ii,getL,fzOb,inL,geth,rowOb,enR,c_TSleeper];all_goals (first|(with_reducible trivial)|(intros;exact nrefL_getL (NRf.h _) _)|(intros;exact nfc))))|(y+3),h=>absurd h nlt))|(and_intros<;>first|exact (foc_ob (L:=r7.List) (i:=r4.toNat) (fun a y=>nrefL_getL (nr_TSleeper a) y) (fun x y hx=>by simp only [upc_ne hx]) (fun y hy=>match y,hy with|0,_=>(by (simp [upc_ii,getL,fzOb,enR,c_TSleeper];all_goals (first|(with_reducible trivial)|(intros;exact nrefL_getL (NRf.h _) _)|(intros;exact nfc))))|1,_=>(by (simp [upc_ii,getL,fzOb,enR,c_TSleeper];all_goals (first|(with_reducible trivial)|(intros;exact nrefL_getL (NRf.h _) _)|(intros;exact nfc))))|2,_=>(by (simp [upc_ii,getL,fzOb,inL,geth,rowOb,enR,c_TSleeper];all_goals (first|(with_reducible trivial)|(intros;exact nrefL_getL (NRf.h _) _)|(intros;exact nfc))))|(y+3),h=>absurd h nlt))|(with_reducible trivial)|omega|exact nfc|trivial)
    simp only [go_sem,Nat.reduceBEq,Nat.reduceAdd,fzH2,fzHF2,fzB2]
    obtain ⟨w30,hw31,H⟩:=bsi H
    replace hw31:=Option.some.inj hw31
    have lhw31:w30.length=r7.List.length:=by rw [← hw31];exact (by simp only [List.length_set])
    obtain ⟨w32,hw33,H⟩:=bsi H
    replace hw33:=Option.some.inj hw33
    have lhw33:w32.length=w1_5.length:=by rw [← hw33];exact cl
    refine subF_mean (t2:=(tp 10 (.ptr 6 0 0 0::.ptr 7 0 0 0::.int .i64 0::tp 127 []))) (h2:=[.row 71 3 p0.List.length (enR c_TSleeper p0.List),.lit 52 [.int .i64 r7.Limit,.int .i64 r7.Stay,.sl 8 3 0 w30.length false,.sl 10 43 0 r7.Group.length false],.dead,.dead,.lit 25 [.int .u8 p3.x0,.int .u8 p3.x1,.int .u8 p3.x2,.int .u8 p3.x3,.int .u8 p3.x4,.int .u8 p3.x5],.lit 25 [.int .u8 p4.x0,.int .u8 p4.x1,.int .u8 p4.x2,.int .u8 p4.x3,.int .u8 p4.x4,.int .u8 p4.x5],.lit 33 [.int .i64 p2,.sl 12 41 0 w32.length false],.lit 52 [.int .i64 r7.Limit,.int .i64 r7.Stay,.sl 8 3 0 w30.length false,.sl 10 43 0 r7.Group.length false],.row 71 3 w30.length (enR c_TSleeper w30),.dead,.row 73 43 r7.Group.length (enR c_TStored r7.Group),.lit 103 [.ro 43 w1_6.length false (enR c_TStored w1_6),.int .u8 p1.Deliver],.row 30 41 w32.length (enR c_TFrame w32),.dead]) ?_ ?_
    ·refine SubF_of ⟨[some 0,some 1,some 2,some 3,some 4,some 5,some 6,some 7,some 8,some 9,some 10,some 11,some 12,some 13],?_,?_,by rfl,by rfl⟩
     ·simp [CvL,Cv,getM,tp]
     ·exact ⟨CvB_row nr_TSleeper rfl (fun _ _ _ _=>rfl),(by simp [CvB,CvL,Cv,blkAt,geth,getM,lhw31]),CvB_dead,CvB_dead,(by simp [CvB,CvL,Cv,blkAt,geth]),(by simp [CvB,CvL,Cv,blkAt,geth]),(by simp [CvB,CvL,Cv,blkAt,geth,getM,lhw33]),(by simp [CvB,CvL,Cv,blkAt,geth,getM,lhw31]),CvB_row nr_TSleeper lhw31 (hw31 ▸ (foc_row (L:=r7.List) (i:=r4.toNat) (fun a y=>nrefL_getL (nr_TSleeper a) y) (fun x y hx=>by simp only [upc_ne hx]) (fun y hy=>match y,hy with|0,_=>by simp [upc_ii,getL,fzV,enR,c_TSleeper]|1,_=>by simp [upc_ii,getL,fzV,enR,c_TSleeper]|2,_=>by simp [upc_ii,getL,fzV,inL,geth,enR,c_TSleeper,sub_enR0]|(y+3),h=>absurd h nlt))),CvB_dead,CvB_row nr_TStored rfl (fun _ _ _ _=>rfl),(by simp [CvB,CvL,Cv,blkAt,geth]),CvB_row nr_TFrame lhw33 (hw33 ▸ (upc_row (f:=c_TFrame) (w1_5.set ((wr .i64 ((w1_5.length:Nat) - 1)).toNat) (TFrame.mk (THeader.mk (((gd w1_5 ((wr .i64 ((w1_5.length:Nat) - 1)).toNat)).Head).Kind) (((gd w1_5 ((wr .i64 ((w1_5.length:Nat) - 1)).toNat)).Head).Sub) (((gd w1_5 ((wr .i64 ((w1_5.length:Nat) - 1)).toNat)).Head).ToDs) (((gd w1_5 ((wr .i64 ((w1_5.length:Nat) - 1)).toNat)).Head).FromDs) (((gd w1_5 ((wr .i64 ((w1_5.length:Nat) - 1)).toNat)).Head).More) (((gd w1_5 ((wr .i64 ((w1_5.length:Nat) - 1)).toNat)).Head).Retry) (((gd w1_5 ((wr .i64 ((w1_5.length:Nat) - 1)).toNat)).Head).Sleep) (((gd w1_5 ((wr .i64 ((w1_5.length:Nat) - 1)).toNat)).Head).MoreData) (((gd w1_5 ((wr .i64 ((w1_5.length:Nat) - 1)).toNat)).Head).Protected) (((gd w1_5 ((wr .i64 ((w1_5.length:Nat) - 1)).toNat)).Head).Duration) (A6u8.mk ((((gd w1_5 ((wr .i64 ((w1_5.length:Nat) - 1)).toNat)).Head).A1).x0) ((((gd w1_5 ((wr .i64 ((w1_5.length:Nat) - 1)).toNat)).Head).A1).x1) ((((gd w1_5 ((wr .i64 ((w1_5.length:Nat) - 1)).toNat)).Head).A1).x2) ((((gd w1_5 ((wr .i64 ((w1_5.length:Nat) - 1)).toNat)).Head).A1).x3) ((((gd w1_5 ((wr .i64 ((w1_5.length:Nat) - 1)).toNat)).Head).A1).x4) ((((gd w1_5 ((wr .i64 ((w1_5.length:Nat) - 1)).toNat)).Head).A1).x5)) (A6u8.mk ((((gd w1_5 ((wr .i64 ((w1_5.length:Nat) - 1)).toNat)).Head).A2).x0) ((((gd w1_5 ((wr .i64 ((w1_5.length:Nat) - 1)).toNat)).Head).A2).x1) ((((gd w1_5 ((wr .i64 ((w1_5.length:Nat) - 1)).toNat)).Head).A2).x2) ((((gd w1_5 ((wr .i64 ((w1_5.length:Nat) - 1)).toNat)).Head).A2).x3) ((((gd w1_5 ((wr .i64 ((w1_5.length:Nat) - 1)).toNat)).Head).A2).x4) ((((gd w1_5 ((wr .i64 ((w1_5.length:Nat) - 1)).toNat)).Head).A2).x5)) (A6u8.mk ((((gd w1_5 ((wr .i64 ((w1_5.length:Nat) - 1)).toNat)).Head).A3).x0) ((((gd w1_5 ((wr .i64 ((w1_5.length:Nat) - 1)).toNat)).Head).A3).x1) ((((gd w1_5 ((wr .i64 ((w1_5.length:Nat) - 1)).toNat)).Head).A3).x2) ((((gd w1_5 ((wr .i64 ((w1_5.length:Nat) - 1)).toNat)).Head).A3).x3) ((((gd w1_5 ((wr .i64 ((w1_5.length:Nat) - 1)).toNat)).Head).A3).x4) ((((gd w1_5 ((wr .i64 ((w1_5.length:Nat) - 1)).toNat)).Head).A3).x5)) (A6u8.mk ((((gd w1_5 ((wr .i64 ((w1_5.length:Nat) - 1)).toNat)).Head).A4).x0) ((((gd w1_5 ((wr .i64 ((w1_5.length:Nat) - 1)).toNat)).Head).A4).x1) ((((gd w1_5 ((wr .i64 ((w1_5.length:Nat) - 1)).toNat)).Head).A4).x2) ((((gd w1_5 ((wr .i64 ((w1_5.length:Nat) - 1)).toNat)).Head).A4).x3) ((((gd w1_5 ((wr .i64 ((w1_5.length:Nat) - 1)).toNat)).Head).A4).x4) ((((gd w1_5 ((wr .i64 ((w1_5.length:Nat) - 1)).toNat)).Head).A4).x5)) (((gd w1_5 ((wr .i64 ((w1_5.length:Nat) - 1)).toNat)).Head).Seq) (((gd w1_5 ((wr .i64 ((w1_5.length:Nat) - 1)).toNat)).Head).Frag) (((gd w1_5 ((wr .i64 ((w1_5.length:Nat) - 1)).toNat)).Head).Tid) (((gd w1_5 ((wr .i64 ((w1_5.length:Nat) - 1)).toNat)).Head).Ack) (((gd w1_5 ((wr .i64 ((w1_5.length:Nat) - 1)).toNat)).Head).Amsdu) true) ((gd w1_5 ((wr .i64 ((w1_5.length:Nat) - 1)).toNat)).Body))) ((wr .i64 ((w1_5.length:Nat) - 1)).toNat) 7 ((fun qq29=>(TFrame.mk (THeader.mk qq29.Head.Kind qq29.Head.Sub qq29.Head.ToDs qq29.Head.FromDs qq29.Head.More qq29.Head.Retry qq29.Head.Sleep r20 qq29.Head.Protected qq29.Head.Duration (A6u8.mk qq29.Head.A1.x0 qq29.Head.A1.x1 qq29.Head.A1.x2 qq29.Head.A1.x3 qq29.Head.A1.x4 qq29.Head.A1.x5) (A6u8.mk qq29.Head.A2.x0 qq29.Head.A2.x1 qq29.Head.A2.x2 qq29.Head.A2.x3 qq29.Head.A2.x4 qq29.Head.A2.x5) (A6u8.mk qq29.Head.A3.x0 qq29.Head.A3.x1 qq29.Head.A3.x2 qq29.Head.A3.x3 qq29.Head.A3.x4 qq29.Head.A3.x5) (A6u8.mk qq29.Head.A4.x0 qq29.Head.A4.x1 qq29.Head.A4.x2 qq29.Head.A4.x3 qq29.Head.A4.x4 qq29.Head.A4.x5) qq29.Head.Seq qq29.Head.Frag qq29.Head.Tid qq29.Head.Ack qq29.Head.Amsdu qq29.Head.Eosp) qq29.Body)) (gd (w1_5.set ((wr .i64 ((w1_5.length:Nat) - 1)).toNat) (TFrame.mk (THeader.mk (((gd w1_5 ((wr .i64 ((w1_5.length:Nat) - 1)).toNat)).Head).Kind) (((gd w1_5 ((wr .i64 ((w1_5.length:Nat) - 1)).toNat)).Head).Sub) (((gd w1_5 ((wr .i64 ((w1_5.length:Nat) - 1)).toNat)).Head).ToDs) (((gd w1_5 ((wr .i64 ((w1_5.length:Nat) - 1)).toNat)).Head).FromDs) (((gd w1_5 ((wr .i64 ((w1_5.length:Nat) - 1)).toNat)).Head).More) (((gd w1_5 ((wr .i64 ((w1_5.length:Nat) - 1)).toNat)).Head).Retry) (((gd w1_5 ((wr .i64 ((w1_5.length:Nat) - 1)).toNat)).Head).Sleep) (((gd w1_5 ((wr .i64 ((w1_5.length:Nat) - 1)).toNat)).Head).MoreData) (((gd w1_5 ((wr .i64 ((w1_5.length:Nat) - 1)).toNat)).Head).Protected) (((gd w1_5 ((wr .i64 ((w1_5.length:Nat) - 1)).toNat)).Head).Duration) (A6u8.mk ((((gd w1_5 ((wr .i64 ((w1_5.length:Nat) - 1)).toNat)).Head).A1).x0) ((((gd w1_5 ((wr .i64 ((w1_5.length:Nat) - 1)).toNat)).Head).A1).x1) ((((gd w1_5 ((wr .i64 ((w1_5.length:Nat) - 1)).toNat)).Head).A1).x2) ((((gd w1_5 ((wr .i64 ((w1_5.length:Nat) - 1)).toNat)).Head).A1).x3) ((((gd w1_5 ((wr .i64 ((w1_5.length:Nat) - 1)).toNat)).Head).A1).x4) ((((gd w1_5 ((wr .i64 ((w1_5.length:Nat) - 1)).toNat)).Head).A1).x5)) (A6u8.mk ((((gd w1_5 ((wr .i64 ((w1_5.length:Nat) - 1)).toNat)).Head).A2).x0) ((((gd w1_5 ((wr .i64 ((w1_5.length:Nat) - 1)).toNat)).Head).A2).x1) ((((gd w1_5 ((wr .i64 ((w1_5.length:Nat) - 1)).toNat)).Head).A2).x2) ((((gd w1_5 ((wr .i64 ((w1_5.length:Nat) - 1)).toNat)).Head).A2).x3) ((((gd w1_5 ((wr .i64 ((w1_5.length:Nat) - 1)).toNat)).Head).A2).x4) ((((gd w1_5 ((wr .i64 ((w1_5.length:Nat) - 1)).toNat)).Head).A2).x5)) (A6u8.mk ((((gd w1_5 ((wr .i64 ((w1_5.length:Nat) - 1)).toNat)).Head).A3).x0) ((((gd w1_5 ((wr .i64 ((w1_5.length:Nat) - 1)).toNat)).Head).A3).x1) ((((gd w1_5 ((wr .i64 ((w1_5.length:Nat) - 1)).toNat)).Head).A3).x2) ((((gd w1_5 ((wr .i64 ((w1_5.length:Nat) - 1)).toNat)).Head).A3).x3) ((((gd w1_5 ((wr .i64 ((w1_5.length:Nat) - 1)).toNat)).Head).A3).x4) ((((gd w1_5 ((wr .i64 ((w1_5.length:Nat) - 1)).toNat)).Head).A3).x5)) (A6u8.mk ((((gd w1_5 ((wr .i64 ((w1_5.length:Nat) - 1)).toNat)).Head).A4).x0) ((((gd w1_5 ((wr .i64 ((w1_5.length:Nat) - 1)).toNat)).Head).A4).x1) ((((gd w1_5 ((wr .i64 ((w1_5.length:Nat) - 1)).toNat)).Head).A4).x2) ((((gd w1_5 ((wr .i64 ((w1_5.length:Nat) - 1)).toNat)).Head).A4).x3) ((((gd w1_5 ((wr .i64 ((w1_5.length:Nat) - 1)).toNat)).Head).A4).x4) ((((gd w1_5 ((wr .i64 ((w1_5.length:Nat) - 1)).toNat)).Head).A4).x5)) (((gd w1_5 ((wr .i64 ((w1_5.length:Nat) - 1)).toNat)).Head).Seq) (((gd w1_5 ((wr .i64 ((w1_5.length:Nat) - 1)).toNat)).Head).Frag) (((gd w1_5 ((wr .i64 ((w1_5.length:Nat) - 1)).toNat)).Head).Tid) (((gd w1_5 ((wr .i64 ((w1_5.length:Nat) - 1)).toNat)).Head).Ack) (((gd w1_5 ((wr .i64 ((w1_5.length:Nat) - 1)).toNat)).Head).Amsdu) true) ((gd w1_5 ((wr .i64 ((w1_5.length:Nat) - 1)).toNat)).Body))) ((wr .i64 ((w1_5.length:Nat) - 1)).toNat))) (upc_row (f:=c_TFrame) w1_5 ((wr .i64 ((w1_5.length:Nat) - 1)).toNat) 39 (TFrame.mk (THeader.mk (((gd w1_5 ((wr .i64 ((w1_5.length:Nat) - 1)).toNat)).Head).Kind) (((gd w1_5 ((wr .i64 ((w1_5.length:Nat) - 1)).toNat)).Head).Sub) (((gd w1_5 ((wr .i64 ((w1_5.length:Nat) - 1)).toNat)).Head).ToDs) (((gd w1_5 ((wr .i64 ((w1_5.length:Nat) - 1)).toNat)).Head).FromDs) (((gd w1_5 ((wr .i64 ((w1_5.length:Nat) - 1)).toNat)).Head).More) (((gd w1_5 ((wr .i64 ((w1_5.length:Nat) - 1)).toNat)).Head).Retry) (((gd w1_5 ((wr .i64 ((w1_5.length:Nat) - 1)).toNat)).Head).Sleep) (((gd w1_5 ((wr .i64 ((w1_5.length:Nat) - 1)).toNat)).Head).MoreData) (((gd w1_5 ((wr .i64 ((w1_5.length:Nat) - 1)).toNat)).Head).Protected) (((gd w1_5 ((wr .i64 ((w1_5.length:Nat) - 1)).toNat)).Head).Duration) (A6u8.mk ((((gd w1_5 ((wr .i64 ((w1_5.length:Nat) - 1)).toNat)).Head).A1).x0) ((((gd w1_5 ((wr .i64 ((w1_5.length:Nat) - 1)).toNat)).Head).A1).x1) ((((gd w1_5 ((wr .i64 ((w1_5.length:Nat) - 1)).toNat)).Head).A1).x2) ((((gd w1_5 ((wr .i64 ((w1_5.length:Nat) - 1)).toNat)).Head).A1).x3) ((((gd w1_5 ((wr .i64 ((w1_5.length:Nat) - 1)).toNat)).Head).A1).x4) ((((gd w1_5 ((wr .i64 ((w1_5.length:Nat) - 1)).toNat)).Head).A1).x5)) (A6u8.mk ((((gd w1_5 ((wr .i64 ((w1_5.length:Nat) - 1)).toNat)).Head).A2).x0) ((((gd w1_5 ((wr .i64 ((w1_5.length:Nat) - 1)).toNat)).Head).A2).x1) ((((gd w1_5 ((wr .i64 ((w1_5.length:Nat) - 1)).toNat)).Head).A2).x2) ((((gd w1_5 ((wr .i64 ((w1_5.length:Nat) - 1)).toNat)).Head).A2).x3) ((((gd w1_5 ((wr .i64 ((w1_5.length:Nat) - 1)).toNat)).Head).A2).x4) ((((gd w1_5 ((wr .i64 ((w1_5.length:Nat) - 1)).toNat)).Head).A2).x5)) (A6u8.mk ((((gd w1_5 ((wr .i64 ((w1_5.length:Nat) - 1)).toNat)).Head).A3).x0) ((((gd w1_5 ((wr .i64 ((w1_5.length:Nat) - 1)).toNat)).Head).A3).x1) ((((gd w1_5 ((wr .i64 ((w1_5.length:Nat) - 1)).toNat)).Head).A3).x2) ((((gd w1_5 ((wr .i64 ((w1_5.length:Nat) - 1)).toNat)).Head).A3).x3) ((((gd w1_5 ((wr .i64 ((w1_5.length:Nat) - 1)).toNat)).Head).A3).x4) ((((gd w1_5 ((wr .i64 ((w1_5.length:Nat) - 1)).toNat)).Head).A3).x5)) (A6u8.mk ((((gd w1_5 ((wr .i64 ((w1_5.length:Nat) - 1)).toNat)).Head).A4).x0) ((((gd w1_5 ((wr .i64 ((w1_5.length:Nat) - 1)).toNat)).Head).A4).x1) ((((gd w1_5 ((wr .i64 ((w1_5.length:Nat) - 1)).toNat)).Head).A4).x2) ((((gd w1_5 ((wr .i64 ((w1_5.length:Nat) - 1)).toNat)).Head).A4).x3) ((((gd w1_5 ((wr .i64 ((w1_5.length:Nat) - 1)).toNat)).Head).A4).x4) ((((gd w1_5 ((wr .i64 ((w1_5.length:Nat) - 1)).toNat)).Head).A4).x5)) (((gd w1_5 ((wr .i64 ((w1_5.length:Nat) - 1)).toNat)).Head).Seq) (((gd w1_5 ((wr .i64 ((w1_5.length:Nat) - 1)).toNat)).Head).Frag) (((gd w1_5 ((wr .i64 ((w1_5.length:Nat) - 1)).toNat)).Head).Tid) (((gd w1_5 ((wr .i64 ((w1_5.length:Nat) - 1)).toNat)).Head).Ack) (((gd w1_5 ((wr .i64 ((w1_5.length:Nat) - 1)).toNat)).Head).Amsdu) true) ((gd w1_5 ((wr .i64 ((w1_5.length:Nat) - 1)).toNat)).Body)) (fun _ _ _ _=>rfl) (fun y hy=>match y,hy with|0,_=>rfl|1,_=>rfl|2,_=>rfl|3,_=>rfl|4,_=>rfl|5,_=>rfl|6,_=>rfl|7,_=>rfl|8,_=>rfl|9,_=>rfl|10,_=>rfl|11,_=>rfl|12,_=>rfl|13,_=>rfl|14,_=>rfl|15,_=>rfl|16,_=>rfl|17,_=>rfl|18,_=>rfl|19,_=>rfl|20,_=>rfl|21,_=>rfl|22,_=>rfl|23,_=>rfl|24,_=>rfl|25,_=>rfl|26,_=>rfl|27,_=>rfl|28,_=>rfl|29,_=>rfl|30,_=>rfl|31,_=>rfl|32,_=>rfl|33,_=>rfl|34,_=>rfl|35,_=>rfl|36,_=>rfl|37,_=>rfl|38,_=>rfl|39,_=>rfl|40,_=>rfl|(y+41),h=>absurd h nlt)) (fun y hy=>match y,hy with|0,_=>rfl|1,_=>rfl|2,_=>rfl|3,_=>rfl|4,_=>rfl|5,_=>rfl|6,_=>rfl|7,_=>rfl|8,_=>rfl|9,_=>rfl|10,_=>rfl|11,_=>rfl|12,_=>rfl|13,_=>rfl|14,_=>rfl|15,_=>rfl|16,_=>rfl|17,_=>rfl|18,_=>rfl|19,_=>rfl|20,_=>rfl|21,_=>rfl|22,_=>rfl|23,_=>rfl|24,_=>rfl|25,_=>rfl|26,_=>rfl|27,_=>rfl|28,_=>rfl|29,_=>rfl|30,_=>rfl|31,_=>rfl|32,_=>rfl|33,_=>rfl|34,_=>rfl|35,_=>rfl|36,_=>rfl|37,_=>rfl|38,_=>rfl|39,_=>rfl|40,_=>rfl|(y+41),h=>absurd h nlt))),CvB_dead,trivial⟩
    simp only [tp]
    refine rg ctNo_ok ?_
    simp only [go_sem,Nat.reduceLT,Nat.reduceAdd]
    obtain rfl:=Option.some.inj H
    refine RetE_mk [] [some 0,some 12,some 8,some 10] ?_ ?_ ?_ ?_ (by rfl) (by rfl)
    ·simp only [go_sem]
     try exact at0
    ·simp only [go_sem]
     try exact at0
    ·simp only [go_sem]
     exact Cv_tup (CvL_cons (by first|(simp [Cv,CvL,getM];done)|(simp [Cv,CvL,getM,gt_some];omega)) (CvL_cons (by first|(simp [Cv,CvL,getM];done)|(simp [Cv,CvL,getM,gt_some];omega)) (CvL_cons (by simp [Cv]) CvL_nil)))
    ·simp only [go_sem,CvH]
     first|exact ⟨CvB_row nr_TSleeper rfl (fun _ _ _ _=>rfl),CvB_row nr_TFrame cl (fun _ _ _ _=>rfl),CvB_row nr_TSleeper cl (fun _ _ _ _=>rfl),CvB_row nr_TStored cl (fun _ _ _ _=>rfl)⟩|trivial
   replace H:=cond_t hc H
   refine regO ?_
   obtain ⟨r22,e23,H⟩:=bsi H
   refine cutO shT_ok ct29_0t6_ok 3 ?_
   simp only [kO_normal,List.take_succ_cons,List.take_zero,List.drop_succ_cons,List.drop_zero,go_sem,Nat.reduceLT,Nat.reduceAdd,ct29_0t6_57,body57,e23]
   repeat ((with_reducible refine And.intro ?_ ?_);focus exact an4)
   refine fzO [14] ?_ ?_
   ·simp only [go_sem,Nat.reduceBEq]
    try exact at0
   simp only [go_sem,Nat.reduceBEq,Nat.reduceAdd]
   refine cutO shT_ok ctNo_ok 4 ?_
   simp only [kO_normal,List.take_succ_cons,List.take_zero,List.drop_succ_cons,List.drop_zero,go_sem,Nat.reduceLeDiff,Nat.reduceAdd]
   repeat ((with_reducible refine And.intro ?_ ?_);focus exact an4)
   refine endO ?_
   refine seqM ?_
   obtain ⟨f24,H⟩:=need_some.1 H
   replace f24:=inb_iff.1 f24
   refine rg ctNo_ok ?_
   simp only [go_sem,Nat.reduceLT,Nat.reduceAdd,reduceCtorEq,(by decide:wr IntKind.i64 ((1:Int) - 1)=0),f24]
   repeat ((with_reducible refine And.intro ?_ ?_);focus exact an4)
   refine sq ctNo_ok ?_
   simp only [go_sem,Nat.reduceLeDiff,Nat.reduceLT,Nat.reduceAdd]
   repeat ((with_reducible refine And.intro ?_ ?_);focus exact an6)
   refine seqM ?_
   refine draw_rule shT_ok ctNo_ok 0 (by kernel_rfl) (by kernel_rfl) ?_
   intro an han
   simp only [d_nil,d_cons,nxtD,xrD,xoD,roEq,minL,List.append_nil,refsOp,refs,mask,maskF,place,placeF,okLog,pairOk,hit,inL,slotsF,nrH,nrB,nrL,nr,List.replicate_zero,Nat.sub_self,Nat.add_zero,Nat.zero_add,Nat.reduceSub,Nat.lt_add_one,go_sem,Nat.reduceLeDiff,Nat.reduceLT,Nat.reduceAdd,Nat.reduceSub,Nat.reduceBEq]
   repeat ((with_reducible refine And.intro ?_ ?_);focus exact an8)
   refine fz2_mean [13] [8] ?_ ?_
   ·simp only [go_sem,Nat.reduceBEq,Nat.reduceAdd,fzObHF2,fzObB2]
    first|exact (foc_ob (L:=r7.List) (i:=r4.toNat) (fun a y=>nrefL_getL (nr_TSleeper a) y) (fun x y hx=>by simp only [upc_ne hx]) (fun y hy=>match y,hy with|0,_=>(by (simp [upc_ii,getL,fzOb,inL,geth,rowOb,enR,c_TSleeper];all_goals (first|(with_reducible trivial)|(intros;exact nrefL_getL (NRf.h _) _)|(intros;exact nfc))))|1,_=>(by (simp [upc_ii,getL,fzOb,inL,geth,rowOb,enR,c_TSleeper];all_goals (first|(with_reducible trivial)|(intros;exact nrefL_getL (NRf.h _) _)|(intros;exact nfc))))|2,_=>(by (simp [upc_ii,getL,fzOb,inL,geth,rowOb,enR,c_TSleeper];all_goals (first|(with_reducible trivial)|(intros;exact nrefL_getL (NRf.h _) _)|(intros;exact nfc))))|(y+3),h=>absurd h nlt))|(and_intros<;>first|exact (foc_ob (L:=r7.List) (i:=r4.toNat) (fun a y=>nrefL_getL (nr_TSleeper a) y) (fun x y hx=>by simp only [upc_ne hx]) (fun y hy=>match y,hy with|0,_=>(by (simp [upc_ii,getL,fzOb,enR,c_TSleeper];all_goals (first|(with_reducible trivial)|(intros;exact nrefL_getL (NRf.h _) _)|(intros;exact nfc))))|1,_=>(by (simp [upc_ii,getL,fzOb,enR,c_TSleeper];all_goals (first|(with_reducible trivial)|(intros;exact nrefL_getL (NRf.h _) _)|(intros;exact nfc))))|2,_=>(by (simp [upc_ii,getL,fzOb,inL,geth,rowOb,enR,c_TSleeper];all_goals (first|(with_reducible trivial)|(intros;exact nrefL_getL (NRf.h _) _)|(intros;exact nfc))))|(y+3),h=>absurd h nlt))|(with_reducible trivial)|omega|exact nfc|trivial)
   simp only [go_sem,Nat.reduceBEq,Nat.reduceAdd,fzH2,fzHF2,fzB2]
   obtain ⟨w25,hw26,H⟩:=bsi H
   replace hw26:=Option.some.inj hw26
   have lhw26:w25.length=r7.List.length:=by rw [← hw26];exact (by simp only [List.length_set])
   obtain ⟨w27,hw28,H⟩:=bsi H
   replace hw28:=Option.some.inj hw28
   have lhw28:w27.length=1:=by rw [← hw28];exact cl
   refine subF_mean (t2:=(tp 10 (.ptr 6 0 0 0::.ptr 7 0 0 0::.int .i64 0::tp 127 []))) (h2:=[.row 71 3 p0.List.length (enR c_TSleeper p0.List),.lit 52 [.int .i64 r7.Limit,.int .i64 r7.Stay,.sl 8 3 0 w25.length false,.sl 10 43 0 r7.Group.length false],.dead,.dead,.lit 25 [.int .u8 p3.x0,.int .u8 p3.x1,.int .u8 p3.x2,.int .u8 p3.x3,.int .u8 p3.x4,.int .u8 p3.x5],.lit 25 [.int .u8 p4.x0,.int .u8 p4.x1,.int .u8 p4.x2,.int .u8 p4.x3,.int .u8 p4.x4,.int .u8 p4.x5],.lit 33 [.int .i64 p2,.sl 15 41 0 w27.length false],.lit 52 [.int .i64 r7.Limit,.int .i64 r7.Stay,.sl 8 3 0 w25.length false,.sl 10 43 0 r7.Group.length false],.row 71 3 w25.length (enR c_TSleeper w25),.dead,.row 73 43 r7.Group.length (enR c_TStored r7.Group),.lit 103 [.ro 43 w1_6.length false (enR c_TStored w1_6),.int .u8 p1.Deliver],.row 30 41 w1_5.length (enR c_TFrame w1_5),.dead,.dead,.row 30 41 w27.length (enR c_TFrame w27)]) ?_ ?_
   ·refine SubF_of ⟨[some 0,some 1,some 2,some 3,some 4,some 5,some 6,some 7,some 8,some 9,some 10,some 11,some 12,some 13,some 14,some 15],?_,?_,by rfl,by rfl⟩
    ·simp [CvL,Cv,getM,tp]
    ·exact ⟨CvB_row nr_TSleeper rfl (fun _ _ _ _=>rfl),(by simp [CvB,CvL,Cv,blkAt,geth,getM,lhw26]),CvB_dead,CvB_dead,(by simp [CvB,CvL,Cv,blkAt,geth]),(by simp [CvB,CvL,Cv,blkAt,geth]),(by simp [CvB,CvL,Cv,blkAt,geth,getM,lhw28]),(by simp [CvB,CvL,Cv,blkAt,geth,getM,lhw26]),CvB_row nr_TSleeper lhw26 (hw26 ▸ (foc_row (L:=r7.List) (i:=r4.toNat) (fun a y=>nrefL_getL (nr_TSleeper a) y) (fun x y hx=>by simp only [upc_ne hx]) (fun y hy=>match y,hy with|0,_=>by simp [upc_ii,getL,fzV,enR,c_TSleeper]|1,_=>by simp [upc_ii,getL,fzV,enR,c_TSleeper]|2,_=>by simp [upc_ii,getL,fzV,inL,geth,enR,c_TSleeper,sub_enR0]|(y+3),h=>absurd h nlt))),CvB_dead,CvB_row nr_TStored rfl (fun _ _ _ _=>rfl),(by simp [CvB,CvL,Cv,blkAt,geth]),CvB_row nr_TFrame rfl (fun _ _ _ _=>rfl),CvB_dead,CvB_dead,CvB_row nr_TFrame lhw28 (hw28 ▸ (upc_row (f:=c_TFrame) ([r22].set 0 (TFrame.mk (THeader.mk (((gd [r22] 0).Head).Kind) (((gd [r22] 0).Head).Sub) (((gd [r22] 0).Head).ToDs) (((gd [r22] 0).Head).FromDs) (((gd [r22] 0).Head).More) (((gd [r22] 0).Head).Retry) (((gd [r22] 0).Head).Sleep) (((gd [r22] 0).Head).MoreData) (((gd [r22] 0).Head).Protected) (((gd [r22] 0).Head).Duration) (A6u8.mk ((((gd [r22] 0).Head).A1).x0) ((((gd [r22] 0).Head).A1).x1) ((((gd [r22] 0).Head).A1).x2) ((((gd [r22] 0).Head).A1).x3) ((((gd [r22] 0).Head).A1).x4) ((((gd [r22] 0).Head).A1).x5)) (A6u8.mk ((((gd [r22] 0).Head).A2).x0) ((((gd [r22] 0).Head).A2).x1) ((((gd [r22] 0).Head).A2).x2) ((((gd [r22] 0).Head).A2).x3) ((((gd [r22] 0).Head).A2).x4) ((((gd [r22] 0).Head).A2).x5)) (A6u8.mk ((((gd [r22] 0).Head).A3).x0) ((((gd [r22] 0).Head).A3).x1) ((((gd [r22] 0).Head).A3).x2) ((((gd [r22] 0).Head).A3).x3) ((((gd [r22] 0).Head).A3).x4) ((((gd [r22] 0).Head).A3).x5)) (A6u8.mk ((((gd [r22] 0).Head).A4).x0) ((((gd [r22] 0).Head).A4).x1) ((((gd [r22] 0).Head).A4).x2) ((((gd [r22] 0).Head).A4).x3) ((((gd [r22] 0).Head).A4).x4) ((((gd [r22] 0).Head).A4).x5)) (((gd [r22] 0).Head).Seq) (((gd [r22] 0).Head).Frag) (((gd [r22] 0).Head).Tid) (((gd [r22] 0).Head).Ack) (((gd [r22] 0).Head).Amsdu) true) ((gd [r22] 0).Body))) 0 7 ((fun qq24=>(TFrame.mk (THeader.mk qq24.Head.Kind qq24.Head.Sub qq24.Head.ToDs qq24.Head.FromDs qq24.Head.More qq24.Head.Retry qq24.Head.Sleep false qq24.Head.Protected qq24.Head.Duration (A6u8.mk qq24.Head.A1.x0 qq24.Head.A1.x1 qq24.Head.A1.x2 qq24.Head.A1.x3 qq24.Head.A1.x4 qq24.Head.A1.x5) (A6u8.mk qq24.Head.A2.x0 qq24.Head.A2.x1 qq24.Head.A2.x2 qq24.Head.A2.x3 qq24.Head.A2.x4 qq24.Head.A2.x5) (A6u8.mk qq24.Head.A3.x0 qq24.Head.A3.x1 qq24.Head.A3.x2 qq24.Head.A3.x3 qq24.Head.A3.x4 qq24.Head.A3.x5) (A6u8.mk qq24.Head.A4.x0 qq24.Head.A4.x1 qq24.Head.A4.x2 qq24.Head.A4.x3 qq24.Head.A4.x4 qq24.Head.A4.x5) qq24.Head.Seq qq24.Head.Frag qq24.Head.Tid qq24.Head.Ack qq24.Head.Amsdu qq24.Head.Eosp) qq24.Body)) (gd ([r22].set 0 (TFrame.mk (THeader.mk (((gd [r22] 0).Head).Kind) (((gd [r22] 0).Head).Sub) (((gd [r22] 0).Head).ToDs) (((gd [r22] 0).Head).FromDs) (((gd [r22] 0).Head).More) (((gd [r22] 0).Head).Retry) (((gd [r22] 0).Head).Sleep) (((gd [r22] 0).Head).MoreData) (((gd [r22] 0).Head).Protected) (((gd [r22] 0).Head).Duration) (A6u8.mk ((((gd [r22] 0).Head).A1).x0) ((((gd [r22] 0).Head).A1).x1) ((((gd [r22] 0).Head).A1).x2) ((((gd [r22] 0).Head).A1).x3) ((((gd [r22] 0).Head).A1).x4) ((((gd [r22] 0).Head).A1).x5)) (A6u8.mk ((((gd [r22] 0).Head).A2).x0) ((((gd [r22] 0).Head).A2).x1) ((((gd [r22] 0).Head).A2).x2) ((((gd [r22] 0).Head).A2).x3) ((((gd [r22] 0).Head).A2).x4) ((((gd [r22] 0).Head).A2).x5)) (A6u8.mk ((((gd [r22] 0).Head).A3).x0) ((((gd [r22] 0).Head).A3).x1) ((((gd [r22] 0).Head).A3).x2) ((((gd [r22] 0).Head).A3).x3) ((((gd [r22] 0).Head).A3).x4) ((((gd [r22] 0).Head).A3).x5)) (A6u8.mk ((((gd [r22] 0).Head).A4).x0) ((((gd [r22] 0).Head).A4).x1) ((((gd [r22] 0).Head).A4).x2) ((((gd [r22] 0).Head).A4).x3) ((((gd [r22] 0).Head).A4).x4) ((((gd [r22] 0).Head).A4).x5)) (((gd [r22] 0).Head).Seq) (((gd [r22] 0).Head).Frag) (((gd [r22] 0).Head).Tid) (((gd [r22] 0).Head).Ack) (((gd [r22] 0).Head).Amsdu) true) ((gd [r22] 0).Body))) 0)) (upc_row (f:=c_TFrame) [r22] 0 39 (TFrame.mk (THeader.mk (((gd [r22] 0).Head).Kind) (((gd [r22] 0).Head).Sub) (((gd [r22] 0).Head).ToDs) (((gd [r22] 0).Head).FromDs) (((gd [r22] 0).Head).More) (((gd [r22] 0).Head).Retry) (((gd [r22] 0).Head).Sleep) (((gd [r22] 0).Head).MoreData) (((gd [r22] 0).Head).Protected) (((gd [r22] 0).Head).Duration) (A6u8.mk ((((gd [r22] 0).Head).A1).x0) ((((gd [r22] 0).Head).A1).x1) ((((gd [r22] 0).Head).A1).x2) ((((gd [r22] 0).Head).A1).x3) ((((gd [r22] 0).Head).A1).x4) ((((gd [r22] 0).Head).A1).x5)) (A6u8.mk ((((gd [r22] 0).Head).A2).x0) ((((gd [r22] 0).Head).A2).x1) ((((gd [r22] 0).Head).A2).x2) ((((gd [r22] 0).Head).A2).x3) ((((gd [r22] 0).Head).A2).x4) ((((gd [r22] 0).Head).A2).x5)) (A6u8.mk ((((gd [r22] 0).Head).A3).x0) ((((gd [r22] 0).Head).A3).x1) ((((gd [r22] 0).Head).A3).x2) ((((gd [r22] 0).Head).A3).x3) ((((gd [r22] 0).Head).A3).x4) ((((gd [r22] 0).Head).A3).x5)) (A6u8.mk ((((gd [r22] 0).Head).A4).x0) ((((gd [r22] 0).Head).A4).x1) ((((gd [r22] 0).Head).A4).x2) ((((gd [r22] 0).Head).A4).x3) ((((gd [r22] 0).Head).A4).x4) ((((gd [r22] 0).Head).A4).x5)) (((gd [r22] 0).Head).Seq) (((gd [r22] 0).Head).Frag) (((gd [r22] 0).Head).Tid) (((gd [r22] 0).Head).Ack) (((gd [r22] 0).Head).Amsdu) true) ((gd [r22] 0).Body)) (lit_row (f:=c_TFrame) [r22] (fun _ _=>rfl) rfl) (fun y hy=>match y,hy with|0,_=>rfl|1,_=>rfl|2,_=>rfl|3,_=>rfl|4,_=>rfl|5,_=>rfl|6,_=>rfl|7,_=>rfl|8,_=>rfl|9,_=>rfl|10,_=>rfl|11,_=>rfl|12,_=>rfl|13,_=>rfl|14,_=>rfl|15,_=>rfl|16,_=>rfl|17,_=>rfl|18,_=>rfl|19,_=>rfl|20,_=>rfl|21,_=>rfl|22,_=>rfl|23,_=>rfl|24,_=>rfl|25,_=>rfl|26,_=>rfl|27,_=>rfl|28,_=>rfl|29,_=>rfl|30,_=>rfl|31,_=>rfl|32,_=>rfl|33,_=>rfl|34,_=>rfl|35,_=>rfl|36,_=>rfl|37,_=>rfl|38,_=>rfl|39,_=>rfl|40,_=>rfl|(y+41),h=>absurd h nlt)) (fun y hy=>match y,hy with|0,_=>rfl|1,_=>rfl|2,_=>rfl|3,_=>rfl|4,_=>rfl|5,_=>rfl|6,_=>rfl|7,_=>rfl|8,_=>rfl|9,_=>rfl|10,_=>rfl|11,_=>rfl|12,_=>rfl|13,_=>rfl|14,_=>rfl|15,_=>rfl|16,_=>rfl|17,_=>rfl|18,_=>rfl|19,_=>rfl|20,_=>rfl|21,_=>rfl|22,_=>rfl|23,_=>rfl|24,_=>rfl|25,_=>rfl|26,_=>rfl|27,_=>rfl|28,_=>rfl|29,_=>rfl|30,_=>rfl|31,_=>rfl|32,_=>rfl|33,_=>rfl|34,_=>rfl|35,_=>rfl|36,_=>rfl|37,_=>rfl|38,_=>rfl|39,_=>rfl|40,_=>rfl|(y+41),h=>absurd h nlt))),trivial⟩
   simp only [tp]
   refine rg ctNo_ok ?_
   simp only [go_sem,Nat.reduceLT,Nat.reduceAdd]
   obtain rfl:=Option.some.inj H
   refine RetE_mk [] [some 0,some 15,some 8,some 10] ?_ ?_ ?_ ?_ (by rfl) (by rfl)
   ·simp only [go_sem]
    try exact at0
   ·simp only [go_sem]
    try exact at0
   ·simp only [go_sem]
    exact Cv_tup (CvL_cons (by first|(simp [Cv,CvL,getM];done)|(simp [Cv,CvL,getM,gt_some];omega)) (CvL_cons (by first|(simp [Cv,CvL,getM];done)|(simp [Cv,CvL,getM,gt_some];omega)) (CvL_cons (by simp [Cv]) CvL_nil)))
   ·simp only [go_sem,CvH]
    first|exact ⟨CvB_row nr_TSleeper rfl (fun _ _ _ _=>rfl),CvB_row nr_TFrame cl (fun _ _ _ _=>rfl),CvB_row nr_TSleeper cl (fun _ _ _ _=>rfl),CvB_row nr_TStored cl (fun _ _ _ _=>rfl)⟩|trivial
 ·cases hb
noncomputable def F15 (p0:TFrame) (p1:TFrame):Option (Bool) :=
 need (bif (bEq p0.Head.Kind p1.Head.Kind && (bEq p0.Head.Sub p1.Head.Sub && (bB p0.Head.ToDs p1.Head.ToDs && (bB p0.Head.FromDs p1.Head.FromDs && (bB p0.Head.More p1.Head.More && (bB p0.Head.Retry p1.Head.Retry && (bB p0.Head.Sleep p1.Head.Sleep && (bB p0.Head.MoreData p1.Head.MoreData && (bB p0.Head.Protected p1.Head.Protected && (bEq p0.Head.Duration p1.Head.Duration && (bEq p0.Head.A1.x0 p1.Head.A1.x0 && (bEq p0.Head.A1.x1 p1.Head.A1.x1 && (bEq p0.Head.A1.x2 p1.Head.A1.x2 && (bEq p0.Head.A1.x3 p1.Head.A1.x3 && (bEq p0.Head.A1.x4 p1.Head.A1.x4 && (bEq p0.Head.A1.x5 p1.Head.A1.x5 && (bEq p0.Head.A2.x0 p1.Head.A2.x0 && (bEq p0.Head.A2.x1 p1.Head.A2.x1 && (bEq p0.Head.A2.x2 p1.Head.A2.x2 && (bEq p0.Head.A2.x3 p1.Head.A2.x3 && (bEq p0.Head.A2.x4 p1.Head.A2.x4 && (bEq p0.Head.A2.x5 p1.Head.A2.x5 && (bEq p0.Head.A3.x0 p1.Head.A3.x0 && (bEq p0.Head.A3.x1 p1.Head.A3.x1 && (bEq p0.Head.A3.x2 p1.Head.A3.x2 && (bEq p0.Head.A3.x3 p1.Head.A3.x3 && (bEq p0.Head.A3.x4 p1.Head.A3.x4 && (bEq p0.Head.A3.x5 p1.Head.A3.x5 && (bEq p0.Head.A4.x0 p1.Head.A4.x0 && (bEq p0.Head.A4.x1 p1.Head.A4.x1 && (bEq p0.Head.A4.x2 p1.Head.A4.x2 && (bEq p0.Head.A4.x3 p1.Head.A4.x3 && (bEq p0.Head.A4.x4 p1.Head.A4.x4 && (bEq p0.Head.A4.x5 p1.Head.A4.x5 && (bEq p0.Head.Seq p1.Head.Seq && (bEq p0.Head.Frag p1.Head.Frag && (bEq p0.Head.Tid p1.Head.Tid && (bEq p0.Head.Ack p1.Head.Ack && (bB p0.Head.Amsdu p1.Head.Amsdu && (bB p0.Head.Eosp p1.Head.Eosp)))))))))))))))))))))))))))))))))))))))) then u8b p0.Body.length (enR c_u8 p0.Body) else true) <| need (bif (bEq p0.Head.Kind p1.Head.Kind && (bEq p0.Head.Sub p1.Head.Sub && (bB p0.Head.ToDs p1.Head.ToDs && (bB p0.Head.FromDs p1.Head.FromDs && (bB p0.Head.More p1.Head.More && (bB p0.Head.Retry p1.Head.Retry && (bB p0.Head.Sleep p1.Head.Sleep && (bB p0.Head.MoreData p1.Head.MoreData && (bB p0.Head.Protected p1.Head.Protected && (bEq p0.Head.Duration p1.Head.Duration && (bEq p0.Head.A1.x0 p1.Head.A1.x0 && (bEq p0.Head.A1.x1 p1.Head.A1.x1 && (bEq p0.Head.A1.x2 p1.Head.A1.x2 && (bEq p0.Head.A1.x3 p1.Head.A1.x3 && (bEq p0.Head.A1.x4 p1.Head.A1.x4 && (bEq p0.Head.A1.x5 p1.Head.A1.x5 && (bEq p0.Head.A2.x0 p1.Head.A2.x0 && (bEq p0.Head.A2.x1 p1.Head.A2.x1 && (bEq p0.Head.A2.x2 p1.Head.A2.x2 && (bEq p0.Head.A2.x3 p1.Head.A2.x3 && (bEq p0.Head.A2.x4 p1.Head.A2.x4 && (bEq p0.Head.A2.x5 p1.Head.A2.x5 && (bEq p0.Head.A3.x0 p1.Head.A3.x0 && (bEq p0.Head.A3.x1 p1.Head.A3.x1 && (bEq p0.Head.A3.x2 p1.Head.A3.x2 && (bEq p0.Head.A3.x3 p1.Head.A3.x3 && (bEq p0.Head.A3.x4 p1.Head.A3.x4 && (bEq p0.Head.A3.x5 p1.Head.A3.x5 && (bEq p0.Head.A4.x0 p1.Head.A4.x0 && (bEq p0.Head.A4.x1 p1.Head.A4.x1 && (bEq p0.Head.A4.x2 p1.Head.A4.x2 && (bEq p0.Head.A4.x3 p1.Head.A4.x3 && (bEq p0.Head.A4.x4 p1.Head.A4.x4 && (bEq p0.Head.A4.x5 p1.Head.A4.x5 && (bEq p0.Head.Seq p1.Head.Seq && (bEq p0.Head.Frag p1.Head.Frag && (bEq p0.Head.Tid p1.Head.Tid && (bEq p0.Head.Ack p1.Head.Ack && (bB p0.Head.Amsdu p1.Head.Amsdu && (bB p0.Head.Eosp p1.Head.Eosp)))))))))))))))))))))))))))))))))))))))) then u8b p1.Body.length (enR c_u8 p1.Body) else true) <| some ((bEq p0.Head.Kind p1.Head.Kind && (bEq p0.Head.Sub p1.Head.Sub && (bB p0.Head.ToDs p1.Head.ToDs && (bB p0.Head.FromDs p1.Head.FromDs && (bB p0.Head.More p1.Head.More && (bB p0.Head.Retry p1.Head.Retry && (bB p0.Head.Sleep p1.Head.Sleep && (bB p0.Head.MoreData p1.Head.MoreData && (bB p0.Head.Protected p1.Head.Protected && (bEq p0.Head.Duration p1.Head.Duration && (bEq p0.Head.A1.x0 p1.Head.A1.x0 && (bEq p0.Head.A1.x1 p1.Head.A1.x1 && (bEq p0.Head.A1.x2 p1.Head.A1.x2 && (bEq p0.Head.A1.x3 p1.Head.A1.x3 && (bEq p0.Head.A1.x4 p1.Head.A1.x4 && (bEq p0.Head.A1.x5 p1.Head.A1.x5 && (bEq p0.Head.A2.x0 p1.Head.A2.x0 && (bEq p0.Head.A2.x1 p1.Head.A2.x1 && (bEq p0.Head.A2.x2 p1.Head.A2.x2 && (bEq p0.Head.A2.x3 p1.Head.A2.x3 && (bEq p0.Head.A2.x4 p1.Head.A2.x4 && (bEq p0.Head.A2.x5 p1.Head.A2.x5 && (bEq p0.Head.A3.x0 p1.Head.A3.x0 && (bEq p0.Head.A3.x1 p1.Head.A3.x1 && (bEq p0.Head.A3.x2 p1.Head.A3.x2 && (bEq p0.Head.A3.x3 p1.Head.A3.x3 && (bEq p0.Head.A3.x4 p1.Head.A3.x4 && (bEq p0.Head.A3.x5 p1.Head.A3.x5 && (bEq p0.Head.A4.x0 p1.Head.A4.x0 && (bEq p0.Head.A4.x1 p1.Head.A4.x1 && (bEq p0.Head.A4.x2 p1.Head.A4.x2 && (bEq p0.Head.A4.x3 p1.Head.A4.x3 && (bEq p0.Head.A4.x4 p1.Head.A4.x4 && (bEq p0.Head.A4.x5 p1.Head.A4.x5 && (bEq p0.Head.Seq p1.Head.Seq && (bEq p0.Head.Frag p1.Head.Frag && (bEq p0.Head.Tid p1.Head.Tid && (bEq p0.Head.Ack p1.Head.Ack && (bB p0.Head.Amsdu p1.Head.Amsdu && (bB p0.Head.Eosp p1.Head.Eosp)))))))))))))))))))))))))))))))))))))))) && (sEq (bytesC p0.Body.length (enR c_u8 p0.Body)) (bytesC p1.Body.length (enR c_u8 p1.Body))))
noncomputable def body15:List AV->AR
 | [v0,v1]=>.pure (aK 41 k_TFrame v0/\aK 41 k_TFrame v1/\(F15 (g_TFrame (aL v0)) (g_TFrame (aL v1))).isSome=true) (.bool (gt (F15 (g_TFrame (aL v0)) (g_TFrame (aL v1)))))
 | _=>.fail
theorem ok15:FnOk Try.prog 15 (pureC body15):=by
 refine pure_fnM body15 (rs:=[.tmp 4]) Try.func15 (by kernel_rfl) rfl rfl ?_
 intro l ob v hb hob
 unfold body15 at hb
 split at hb
 ·rename_i v0 v1
  injection hb with q1 q2;subst q1 q2
  obtain ⟨hk0_0,hk1_0,hob⟩:=hob
  obtain ⟨r,H⟩:=Option.isSome_iff_exists.1 hob
  rw [H,gt_some]
  have hw0:=wA_TFrame hk0_0
  have hw1:=wA_TFrame hk1_0
  generalize g_TFrame (aL v0)=p0 at H hw0
  generalize g_TFrame (aL v1)=p1 at H hw1
  refine ⟨[.agg (.int .u8 p0.Head.Kind::.int .u8 p0.Head.Sub::.bool p0.Head.ToDs::.bool p0.Head.FromDs::.bool p0.Head.More::.bool p0.Head.Retry::.bool p0.Head.Sleep::.bool p0.Head.MoreData::.bool p0.Head.Protected::.int .i64 p0.Head.Duration::.int .u8 p0.Head.A1.x0::.int .u8 p0.Head.A1.x1::.int .u8 p0.Head.A1.x2::.int .u8 p0.Head.A1.x3::.int .u8 p0.Head.A1.x4::.int .u8 p0.Head.A1.x5::.int .u8 p0.Head.A2.x0::.int .u8 p0.Head.A2.x1::.int .u8 p0.Head.A2.x2::.int .u8 p0.Head.A2.x3::.int .u8 p0.Head.A2.x4::.int .u8 p0.Head.A2.x5::.int .u8 p0.Head.A3.x0::.int .u8 p0.Head.A3.x1::.int .u8 p0.Head.A3.x2::.int .u8 p0.Head.A3.x3::.int .u8 p0.Head.A3.x4::.int .u8 p0.Head.A3.x5::.int .u8 p0.Head.A4.x0::.int .u8 p0.Head.A4.x1::.int .u8 p0.Head.A4.x2::.int .u8 p0.Head.A4.x3::.int .u8 p0.Head.A4.x4::.int .u8 p0.Head.A4.x5::.int .i64 p0.Head.Seq::.int .i64 p0.Head.Frag::.int .i64 p0.Head.Tid::.int .u8 p0.Head.Ack::.bool p0.Head.Amsdu::.bool p0.Head.Eosp::.ro 1 p0.Body.length false (enR c_u8 p0.Body)::[]),.agg (.int .u8 p1.Head.Kind::.int .u8 p1.Head.Sub::.bool p1.Head.ToDs::.bool p1.Head.FromDs::.bool p1.Head.More::.bool p1.Head.Retry::.bool p1.Head.Sleep::.bool p1.Head.MoreData::.bool p1.Head.Protected::.int .i64 p1.Head.Duration::.int .u8 p1.Head.A1.x0::.int .u8 p1.Head.A1.x1::.int .u8 p1.Head.A1.x2::.int .u8 p1.Head.A1.x3::.int .u8 p1.Head.A1.x4::.int .u8 p1.Head.A1.x5::.int .u8 p1.Head.A2.x0::.int .u8 p1.Head.A2.x1::.int .u8 p1.Head.A2.x2::.int .u8 p1.Head.A2.x3::.int .u8 p1.Head.A2.x4::.int .u8 p1.Head.A2.x5::.int .u8 p1.Head.A3.x0::.int .u8 p1.Head.A3.x1::.int .u8 p1.Head.A3.x2::.int .u8 p1.Head.A3.x3::.int .u8 p1.Head.A3.x4::.int .u8 p1.Head.A3.x5::.int .u8 p1.Head.A4.x0::.int .u8 p1.Head.A4.x1::.int .u8 p1.Head.A4.x2::.int .u8 p1.Head.A4.x3::.int .u8 p1.Head.A4.x4::.int .u8 p1.Head.A4.x5::.int .i64 p1.Head.Seq::.int .i64 p1.Head.Frag::.int .i64 p1.Head.Tid::.int .u8 p1.Head.Ack::.bool p1.Head.Amsdu::.bool p1.Head.Eosp::.ro 1 p1.Body.length false (enR c_u8 p1.Body)::[])],_,(fun E vs F=>FR_wk1 hw0.1 F (fun vs F=>FR_wk1 hw1.1 F (fun vs F=>F))),rfl,rfl,?_⟩
  rw [Try.ntmps15]
  simp only [List.length_cons,List.length_nil,Nat.reduceAdd,Nat.reduceSub,List.replicate_succ,List.replicate_zero,List.cons_append,List.nil_append]
  unfold F15 at H
  try dsimp only at H
  refine sq ctNo_ok ?_
  simp only [go_sem]
  refine seqM ?_
  obtain ⟨f1,H⟩:=need_some.1 H
  replace f1:=g_iff.1 f1
  replace f1:=fun g=>u8b_iff.1 (f1 g)
  obtain ⟨f2,H⟩:=need_some.1 H
  replace f2:=g_iff.1 f2
  replace f2:=fun g=>u8b_iff.1 (f2 g)
  refine rg ctNo_ok ?_
  simp only [go_sem,Nat.reduceLeDiff,Nat.reduceLT,Nat.reduceAdd,reduceCtorEq]
  repeat ((with_reducible refine And.intro ?_ ?_);focus (first|(with_reducible trivial)|omega|exact f1|exact f2|(intro g;have q:=f1 (by first|exact g|(rw [g];rfl)|simpa using g);first|exact q|exact ⟨q.1,q.2.1⟩|exact q.2.2|omega|exact ⟨g,q⟩|exact ⟨trivial,q⟩|exact ⟨g,q.1,q.2.1⟩|exact ⟨g,q.2.2⟩)|(intro g;have q:=f2 (by first|exact g|(rw [g];rfl)|simpa using g);first|exact q|exact ⟨q.1,q.2.1⟩|exact q.2.2|omega|exact ⟨g,q⟩|exact ⟨trivial,q⟩|exact ⟨g,q.1,q.2.1⟩|exact ⟨g,q.2.2⟩)|grind))
  refine rg ctNo_ok ?_
  simp only [go_sem]
  obtain rfl:=Option.some.inj H
  first|rfl|simp only [Bool.and_false,Bool.false_and,Bool.and_true,Bool.true_and]
 ·cases hb
noncomputable def ct59t0:Ct:=tab [(15,pureC body15)]
theorem ct59t0_ok:CtOk Try.prog ct59t0:=tab_cons ok15 <| tab_nil
theorem ct59t0_15 (l:List AV) (h:List ABlk):ct59t0 15 l h=pureC body15 l h:=rfl
noncomputable def F59_L1 (p0:List TStored) (p1:List TStored) (v1_1:Int):Option (Lp (Int) ((Unit) ⊕ (Bool))) :=
 bif (bLt v1_1 (p0.length:Nat)) then (need (inb v1_1 p0.length) <| need (inb v1_1 p1.length) <| need (bif (!(!bEq ((gd p0 v1_1.toNat).Cat) ((gd p1 v1_1.toNat).Cat))) then inb v1_1 p0.length else true) <| need (bif (!(!bEq ((gd p0 v1_1.toNat).Cat) ((gd p1 v1_1.toNat).Cat))) then inb v1_1 p1.length else true) <| need (bif (!((!bEq ((gd p0 v1_1.toNat).Cat) ((gd p1 v1_1.toNat).Cat)) || (!bEq ((gd p0 v1_1.toNat).At) ((gd p1 v1_1.toNat).At)))) then inb v1_1 p0.length else true) <| need (bif (!((!bEq ((gd p0 v1_1.toNat).Cat) ((gd p1 v1_1.toNat).Cat)) || (!bEq ((gd p0 v1_1.toNat).At) ((gd p1 v1_1.toNat).At)))) then inb v1_1 p1.length else true) <| need (bif (!((!bEq ((gd p0 v1_1.toNat).Cat) ((gd p1 v1_1.toNat).Cat)) || (!bEq ((gd p0 v1_1.toNat).At) ((gd p1 v1_1.toNat).At)))) then ((F15 (TFrame.mk (THeader.mk ((((gd p0 v1_1.toNat).Frame).Head).Kind) ((((gd p0 v1_1.toNat).Frame).Head).Sub) ((((gd p0 v1_1.toNat).Frame).Head).ToDs) ((((gd p0 v1_1.toNat).Frame).Head).FromDs) ((((gd p0 v1_1.toNat).Frame).Head).More) ((((gd p0 v1_1.toNat).Frame).Head).Retry) ((((gd p0 v1_1.toNat).Frame).Head).Sleep) ((((gd p0 v1_1.toNat).Frame).Head).MoreData) ((((gd p0 v1_1.toNat).Frame).Head).Protected) ((((gd p0 v1_1.toNat).Frame).Head).Duration) (A6u8.mk (((((gd p0 v1_1.toNat).Frame).Head).A1).x0) (((((gd p0 v1_1.toNat).Frame).Head).A1).x1) (((((gd p0 v1_1.toNat).Frame).Head).A1).x2) (((((gd p0 v1_1.toNat).Frame).Head).A1).x3) (((((gd p0 v1_1.toNat).Frame).Head).A1).x4) (((((gd p0 v1_1.toNat).Frame).Head).A1).x5)) (A6u8.mk (((((gd p0 v1_1.toNat).Frame).Head).A2).x0) (((((gd p0 v1_1.toNat).Frame).Head).A2).x1) (((((gd p0 v1_1.toNat).Frame).Head).A2).x2) (((((gd p0 v1_1.toNat).Frame).Head).A2).x3) (((((gd p0 v1_1.toNat).Frame).Head).A2).x4) (((((gd p0 v1_1.toNat).Frame).Head).A2).x5)) (A6u8.mk (((((gd p0 v1_1.toNat).Frame).Head).A3).x0) (((((gd p0 v1_1.toNat).Frame).Head).A3).x1) (((((gd p0 v1_1.toNat).Frame).Head).A3).x2) (((((gd p0 v1_1.toNat).Frame).Head).A3).x3) (((((gd p0 v1_1.toNat).Frame).Head).A3).x4) (((((gd p0 v1_1.toNat).Frame).Head).A3).x5)) (A6u8.mk (((((gd p0 v1_1.toNat).Frame).Head).A4).x0) (((((gd p0 v1_1.toNat).Frame).Head).A4).x1) (((((gd p0 v1_1.toNat).Frame).Head).A4).x2) (((((gd p0 v1_1.toNat).Frame).Head).A4).x3) (((((gd p0 v1_1.toNat).Frame).Head).A4).x4) (((((gd p0 v1_1.toNat).Frame).Head).A4).x5)) ((((gd p0 v1_1.toNat).Frame).Head).Seq) ((((gd p0 v1_1.toNat).Frame).Head).Frag) ((((gd p0 v1_1.toNat).Frame).Head).Tid) ((((gd p0 v1_1.toNat).Frame).Head).Ack) ((((gd p0 v1_1.toNat).Frame).Head).Amsdu) ((((gd p0 v1_1.toNat).Frame).Head).Eosp)) (((gd p0 v1_1.toNat).Frame).Body)) (TFrame.mk (THeader.mk ((((gd p1 v1_1.toNat).Frame).Head).Kind) ((((gd p1 v1_1.toNat).Frame).Head).Sub) ((((gd p1 v1_1.toNat).Frame).Head).ToDs) ((((gd p1 v1_1.toNat).Frame).Head).FromDs) ((((gd p1 v1_1.toNat).Frame).Head).More) ((((gd p1 v1_1.toNat).Frame).Head).Retry) ((((gd p1 v1_1.toNat).Frame).Head).Sleep) ((((gd p1 v1_1.toNat).Frame).Head).MoreData) ((((gd p1 v1_1.toNat).Frame).Head).Protected) ((((gd p1 v1_1.toNat).Frame).Head).Duration) (A6u8.mk (((((gd p1 v1_1.toNat).Frame).Head).A1).x0) (((((gd p1 v1_1.toNat).Frame).Head).A1).x1) (((((gd p1 v1_1.toNat).Frame).Head).A1).x2) (((((gd p1 v1_1.toNat).Frame).Head).A1).x3) (((((gd p1 v1_1.toNat).Frame).Head).A1).x4) (((((gd p1 v1_1.toNat).Frame).Head).A1).x5)) (A6u8.mk (((((gd p1 v1_1.toNat).Frame).Head).A2).x0) (((((gd p1 v1_1.toNat).Frame).Head).A2).x1) (((((gd p1 v1_1.toNat).Frame).Head).A2).x2) (((((gd p1 v1_1.toNat).Frame).Head).A2).x3) (((((gd p1 v1_1.toNat).Frame).Head).A2).x4) (((((gd p1 v1_1.toNat).Frame).Head).A2).x5)) (A6u8.mk (((((gd p1 v1_1.toNat).Frame).Head).A3).x0) (((((gd p1 v1_1.toNat).Frame).Head).A3).x1) (((((gd p1 v1_1.toNat).Frame).Head).A3).x2) (((((gd p1 v1_1.toNat).Frame).Head).A3).x3) (((((gd p1 v1_1.toNat).Frame).Head).A3).x4) (((((gd p1 v1_1.toNat).Frame).Head).A3).x5)) (A6u8.mk (((((gd p1 v1_1.toNat).Frame).Head).A4).x0) (((((gd p1 v1_1.toNat).Frame).Head).A4).x1) (((((gd p1 v1_1.toNat).Frame).Head).A4).x2) (((((gd p1 v1_1.toNat).Frame).Head).A4).x3) (((((gd p1 v1_1.toNat).Frame).Head).A4).x4) (((((gd p1 v1_1.toNat).Frame).Head).A4).x5)) ((((gd p1 v1_1.toNat).Frame).Head).Seq) ((((gd p1 v1_1.toNat).Frame).Head).Frag) ((((gd p1 v1_1.toNat).Frame).Head).Tid) ((((gd p1 v1_1.toNat).Frame).Head).Ack) ((((gd p1 v1_1.toNat).Frame).Head).Amsdu) ((((gd p1 v1_1.toNat).Frame).Head).Eosp)) (((gd p1 v1_1.toNat).Frame).Body))).isSome) else true) <| bif (((!bEq ((gd p0 v1_1.toNat).Cat) ((gd p1 v1_1.toNat).Cat)) || (!bEq ((gd p0 v1_1.toNat).At) ((gd p1 v1_1.toNat).At))) || (!(gt (F15 (TFrame.mk (THeader.mk ((((gd p0 v1_1.toNat).Frame).Head).Kind) ((((gd p0 v1_1.toNat).Frame).Head).Sub) ((((gd p0 v1_1.toNat).Frame).Head).ToDs) ((((gd p0 v1_1.toNat).Frame).Head).FromDs) ((((gd p0 v1_1.toNat).Frame).Head).More) ((((gd p0 v1_1.toNat).Frame).Head).Retry) ((((gd p0 v1_1.toNat).Frame).Head).Sleep) ((((gd p0 v1_1.toNat).Frame).Head).MoreData) ((((gd p0 v1_1.toNat).Frame).Head).Protected) ((((gd p0 v1_1.toNat).Frame).Head).Duration) (A6u8.mk (((((gd p0 v1_1.toNat).Frame).Head).A1).x0) (((((gd p0 v1_1.toNat).Frame).Head).A1).x1) (((((gd p0 v1_1.toNat).Frame).Head).A1).x2) (((((gd p0 v1_1.toNat).Frame).Head).A1).x3) (((((gd p0 v1_1.toNat).Frame).Head).A1).x4) (((((gd p0 v1_1.toNat).Frame).Head).A1).x5)) (A6u8.mk (((((gd p0 v1_1.toNat).Frame).Head).A2).x0) (((((gd p0 v1_1.toNat).Frame).Head).A2).x1) (((((gd p0 v1_1.toNat).Frame).Head).A2).x2) (((((gd p0 v1_1.toNat).Frame).Head).A2).x3) (((((gd p0 v1_1.toNat).Frame).Head).A2).x4) (((((gd p0 v1_1.toNat).Frame).Head).A2).x5)) (A6u8.mk (((((gd p0 v1_1.toNat).Frame).Head).A3).x0) (((((gd p0 v1_1.toNat).Frame).Head).A3).x1) (((((gd p0 v1_1.toNat).Frame).Head).A3).x2) (((((gd p0 v1_1.toNat).Frame).Head).A3).x3) (((((gd p0 v1_1.toNat).Frame).Head).A3).x4) (((((gd p0 v1_1.toNat).Frame).Head).A3).x5)) (A6u8.mk (((((gd p0 v1_1.toNat).Frame).Head).A4).x0) (((((gd p0 v1_1.toNat).Frame).Head).A4).x1) (((((gd p0 v1_1.toNat).Frame).Head).A4).x2) (((((gd p0 v1_1.toNat).Frame).Head).A4).x3) (((((gd p0 v1_1.toNat).Frame).Head).A4).x4) (((((gd p0 v1_1.toNat).Frame).Head).A4).x5)) ((((gd p0 v1_1.toNat).Frame).Head).Seq) ((((gd p0 v1_1.toNat).Frame).Head).Frag) ((((gd p0 v1_1.toNat).Frame).Head).Tid) ((((gd p0 v1_1.toNat).Frame).Head).Ack) ((((gd p0 v1_1.toNat).Frame).Head).Amsdu) ((((gd p0 v1_1.toNat).Frame).Head).Eosp)) (((gd p0 v1_1.toNat).Frame).Body)) (TFrame.mk (THeader.mk ((((gd p1 v1_1.toNat).Frame).Head).Kind) ((((gd p1 v1_1.toNat).Frame).Head).Sub) ((((gd p1 v1_1.toNat).Frame).Head).ToDs) ((((gd p1 v1_1.toNat).Frame).Head).FromDs) ((((gd p1 v1_1.toNat).Frame).Head).More) ((((gd p1 v1_1.toNat).Frame).Head).Retry) ((((gd p1 v1_1.toNat).Frame).Head).Sleep) ((((gd p1 v1_1.toNat).Frame).Head).MoreData) ((((gd p1 v1_1.toNat).Frame).Head).Protected) ((((gd p1 v1_1.toNat).Frame).Head).Duration) (A6u8.mk (((((gd p1 v1_1.toNat).Frame).Head).A1).x0) (((((gd p1 v1_1.toNat).Frame).Head).A1).x1) (((((gd p1 v1_1.toNat).Frame).Head).A1).x2) (((((gd p1 v1_1.toNat).Frame).Head).A1).x3) (((((gd p1 v1_1.toNat).Frame).Head).A1).x4) (((((gd p1 v1_1.toNat).Frame).Head).A1).x5)) (A6u8.mk (((((gd p1 v1_1.toNat).Frame).Head).A2).x0) (((((gd p1 v1_1.toNat).Frame).Head).A2).x1) (((((gd p1 v1_1.toNat).Frame).Head).A2).x2) (((((gd p1 v1_1.toNat).Frame).Head).A2).x3) (((((gd p1 v1_1.toNat).Frame).Head).A2).x4) (((((gd p1 v1_1.toNat).Frame).Head).A2).x5)) (A6u8.mk (((((gd p1 v1_1.toNat).Frame).Head).A3).x0) (((((gd p1 v1_1.toNat).Frame).Head).A3).x1) (((((gd p1 v1_1.toNat).Frame).Head).A3).x2) (((((gd p1 v1_1.toNat).Frame).Head).A3).x3) (((((gd p1 v1_1.toNat).Frame).Head).A3).x4) (((((gd p1 v1_1.toNat).Frame).Head).A3).x5)) (A6u8.mk (((((gd p1 v1_1.toNat).Frame).Head).A4).x0) (((((gd p1 v1_1.toNat).Frame).Head).A4).x1) (((((gd p1 v1_1.toNat).Frame).Head).A4).x2) (((((gd p1 v1_1.toNat).Frame).Head).A4).x3) (((((gd p1 v1_1.toNat).Frame).Head).A4).x4) (((((gd p1 v1_1.toNat).Frame).Head).A4).x5)) ((((gd p1 v1_1.toNat).Frame).Head).Seq) ((((gd p1 v1_1.toNat).Frame).Head).Frag) ((((gd p1 v1_1.toNat).Frame).Head).Tid) ((((gd p1 v1_1.toNat).Frame).Head).Ack) ((((gd p1 v1_1.toNat).Frame).Head).Amsdu) ((((gd p1 v1_1.toNat).Frame).Head).Eosp)) (((gd p1 v1_1.toNat).Frame).Body)))))) then (some (.done (.inr false))) else (some (.next (wr .i64 (v1_1+1))))) else (some (.done (.inl ())))
noncomputable def F59 (p0:List TStored) (p1:List TStored):Option (Bool) :=
 bif (!bEq (p0.length:Nat) (p1.length:Nat)) then (some false) else (lp (loopD (fun s=>F59_L1 p0 p1 s) 0) (fun _=>some true) some)
noncomputable def body59:List AV->AR
 | [v0,v1]=>.pure (lK k_TStored 43 v0/\lK k_TStored 43 v1/\(F59 (lA g_TStored v0) (lA g_TStored v1)).isSome=true) (.bool (gt (F59 (lA g_TStored v0) (lA g_TStored v1))))
 | _=>.fail
theorem ok59:FnOk Try.prog 59 (pureC body59):=by
 refine pure_fnM body59 (rs:=[.tmp 4]) Try.func59 (by kernel_rfl) rfl rfl ?_
 intro l ob v hb hob
 unfold body59 at hb
 split at hb
 ·rename_i v0 v1
  injection hb with q1 q2;subst q1 q2
  obtain ⟨hk0_0,hk1_0,hob⟩:=hob
  obtain ⟨r,H⟩:=Option.isSome_iff_exists.1 hob
  rw [H,gt_some]
  have hw0:=lK_wk (fun r h=>w_TStored h) hk0_0
  have hw1:=lK_wk (fun r h=>w_TStored h) hk1_0
  generalize lA g_TStored v0=p0 at H hw0
  generalize lA g_TStored v1=p1 at H hw1
  refine ⟨[.ro 43 p0.length false (enR c_TStored p0),.ro 43 p1.length false (enR c_TStored p1)],_,(fun E vs F=>FR_wk1 hw0.1 F (fun vs F=>FR_wk1 hw1.1 F (fun vs F=>F))),rfl,rfl,?_⟩
  rw [Try.ntmps59]
  simp only [List.length_cons,List.length_nil,Nat.reduceAdd,Nat.reduceSub,List.replicate_succ,List.replicate_zero,List.cons_append,List.nil_append]
  unfold F59 at H
  try dsimp only at H
  refine sq ctNo_ok ?_
  simp only [go_sem]
  refine seqM ?_
  refine sq ctNo_ok ?_
  simp only [go_sem]
  repeat ((with_reducible refine And.intro ?_ ?_);focus exact an0)
  refine condM rfl trivial (fun hc=>?_) (fun hc=>?_)
  ·replace H:=cond_t hc H
   refine sq ctNo_ok ?_
   simp only [go_sem]
   refine rg ctNo_ok ?_
   simp only [go_sem]
   obtain rfl:=Option.some.inj H
   first|rfl|simp only [Bool.and_false,Bool.false_and,Bool.and_true,Bool.true_and]
  replace H:=cond_f hc H
  refine rg ctNo_ok ?_
  simp only [go_sem]
  refine seqM ?_
  refine sq ctNo_ok ?_
  simp only [go_sem]
  refine blkM ?_
  refine loop_den (fun s:Int=>(.ro 43 p0.length false (enR c_TStored p0)::.ro 43 p1.length false (enR c_TStored p1)::.top::.top::.top::.int .i64 s::tp 49 [])) (fun s=>[]) (fun e:Unit=>(tp 55 [])) (fun e=>[]) H ?_ (fun v1_1 o H hn1_1 hn2_1=>?_) (fun e H=>?_)
  ·refine SubF_of ⟨[],?_,?_,by rfl,by rfl⟩
   ·simp [CvL,Cv,tp]
   ·trivial
  ·unfold F59_L1 at H
   try dsimp only at H ⊢
   try simp only [tp]
   refine seqM ?_
   refine sq ctNo_ok ?_
   simp only [go_sem]
   repeat ((with_reducible refine And.intro ?_ ?_);focus exact an0)
   refine condM' rfl trivial (fun hc=>?_) (fun hc=>?_)
   ·replace H:=cond_f hc H
    refine rg ctNo_ok ?_
    simp only [go_sem]
    refine ⟨_,(Option.some.inj H).symm,?_⟩
    refine SubF_of ⟨[],?_,?_,by rfl,by rfl⟩
    ·simp [CvL,Cv]
    ·trivial
   replace H:=cond_t hc H
   refine rg ctNo_ok ?_
   simp only [go_sem]
   refine seqM ?_
   refine blkM ?_
   refine seqM ?_
   obtain ⟨f1,H⟩:=need_some.1 H
   replace f1:=inb_iff.1 f1
   obtain ⟨f2,H⟩:=need_some.1 H
   replace f2:=inb_iff.1 f2
   obtain ⟨f3,H⟩:=need_some.1 H
   replace f3:=g_iff.1 f3
   replace f3:=fun g=>inb_iff.1 (f3 g)
   obtain ⟨f4,H⟩:=need_some.1 H
   replace f4:=g_iff.1 f4
   replace f4:=fun g=>inb_iff.1 (f4 g)
   obtain ⟨f5,H⟩:=need_some.1 H
   replace f5:=g_iff.1 f5
   replace f5:=fun g=>inb_iff.1 (f5 g)
   obtain ⟨f6,H⟩:=need_some.1 H
   replace f6:=g_iff.1 f6
   replace f6:=fun g=>inb_iff.1 (f6 g)
   obtain ⟨f7,H⟩:=need_some.1 H
   replace f7:=g_iff.1 f7
   refine draw_quiet shT_ok ct59t0_ok (by kernel_rfl) (by kernel_rfl) ?_
   simp only [go_sem,Nat.reduceLeDiff,Nat.reduceLT,Nat.reduceAdd,reduceCtorEq,ct59t0_15,body15,f1,f2]
   repeat ((with_reducible refine And.intro ?_ ?_);focus (first|(with_reducible trivial)|omega|exact f3|exact f4|exact f5|exact f6|exact f7|(intro g;have q:=f3 (by first|exact g|(rw [g];rfl)|simpa using g);first|exact q|exact ⟨q.1,q.2.1⟩|exact q.2.2|omega|exact ⟨g,q⟩|exact ⟨trivial,q⟩|exact ⟨g,q.1,q.2.1⟩|exact ⟨g,q.2.2⟩)|(intro g;have q:=f4 (by first|exact g|(rw [g];rfl)|simpa using g);first|exact q|exact ⟨q.1,q.2.1⟩|exact q.2.2|omega|exact ⟨g,q⟩|exact ⟨trivial,q⟩|exact ⟨g,q.1,q.2.1⟩|exact ⟨g,q.2.2⟩)|(intro g;have q:=f5 (by first|exact g|(rw [g];rfl)|simpa using g);first|exact q|exact ⟨q.1,q.2.1⟩|exact q.2.2|omega|exact ⟨g,q⟩|exact ⟨trivial,q⟩|exact ⟨g,q.1,q.2.1⟩|exact ⟨g,q.2.2⟩)|(intro g;have q:=f6 (by first|exact g|(rw [g];rfl)|simpa using g);first|exact q|exact ⟨q.1,q.2.1⟩|exact q.2.2|omega|exact ⟨g,q⟩|exact ⟨trivial,q⟩|exact ⟨g,q.1,q.2.1⟩|exact ⟨g,q.2.2⟩)|(intro g;have q:=f7 (by first|exact g|(rw [g];rfl)|simpa using g);first|exact q|exact ⟨q.1,q.2.1⟩|exact q.2.2|omega|exact ⟨g,q⟩|exact ⟨trivial,q⟩|exact ⟨g,q.1,q.2.1⟩|exact ⟨g,q.2.2⟩)|(intro g;(try have q0:=f3 (by first|exact g|(rw [g];rfl)|simpa using g));(try have q1:=f4 (by first|exact g|(rw [g];rfl)|simpa using g));(try have q2:=f5 (by first|exact g|(rw [g];rfl)|simpa using g));(try have q3:=f6 (by first|exact g|(rw [g];rfl)|simpa using g));(try have q4:=f7 (by first|exact g|(rw [g];rfl)|simpa using g));and_intros<;>first|(with_reducible trivial)|assumption|exact nfc|(intro g2;rw [g,g2];rfl)|(intro g2;assumption)|(simp only [g,Bool.true_and,Bool.and_true,Bool.not_false,Bool.not_true];assumption)|grind)|(and_intros<;>first|(with_reducible trivial)|omega|assumption|exact nfc|first|exact rfl|exact trivial|exact fitI|exact .inr rfl|exact .inl rfl|exact fun x hx=>absurd hx (by omega))|grind))
   refine condM rfl trivial (fun hc=>?_) (fun hc=>?_)
   ·replace H:=cond_t hc H
    refine sq ctNo_ok ?_
    simp only [go_sem]
    refine rg ctNo_ok ?_
    simp only [go_sem]
    have H:=hn2_1 _ (Option.some.inj H).symm
    obtain rfl:=Option.some.inj H
    first|rfl|simp only [Bool.and_false,Bool.false_and,Bool.and_true,Bool.true_and]
   replace H:=cond_f hc H
   refine rg ctNo_ok ?_
   simp only [go_sem]
   refine rg ctNo_ok ?_
   simp only [go_sem]
   refine ⟨_,(Option.some.inj H).symm,?_⟩
   refine SubF_of ⟨[],?_,?_,by rfl,by rfl⟩
   ·simp [CvL,Cv]
   ·trivial
  ·try dsimp only at H ⊢
   try simp only [tp]
   try simp only [m_normal]
   refine sq ctNo_ok ?_
   simp only [go_sem]
   refine rg ctNo_ok ?_
   simp only [go_sem]
   obtain rfl:=Option.some.inj H
   first|rfl|simp only [Bool.and_false,Bool.false_and,Bool.and_true,Bool.true_and]
 ·cases hb
noncomputable def ct31t0:Ct:=tab [(59,pureC body59)]
theorem ct31t0_ok:CtOk Try.prog ct31t0:=tab_cons ok59 <| tab_nil
theorem ct31t0_59 (l:List AV) (h:List ABlk):ct31t0 59 l h=pureC body59 l h:=rfl
noncomputable def F31_L1 (p0:TBuffer) (p1:TBuffer) (v1_1:Int):Option (Lp (Int) ((Unit) ⊕ (Bool))) :=
 bif (bLt v1_1 (p0.List.length:Nat)) then (need (inb v1_1 p0.List.length) <| need (inb v1_1 p1.List.length) <| need (bif (!(!bEq ((gd p0.List v1_1.toNat).Aid) ((gd p1.List v1_1.toNat).Aid))) then inb v1_1 p0.List.length else true) <| need (bif (!(!bEq ((gd p0.List v1_1.toNat).Aid) ((gd p1.List v1_1.toNat).Aid))) then inb v1_1 p1.List.length else true) <| need (bif (!((!bEq ((gd p0.List v1_1.toNat).Aid) ((gd p1.List v1_1.toNat).Aid)) || (!bB ((gd p0.List v1_1.toNat).Asleep) ((gd p1.List v1_1.toNat).Asleep)))) then inb v1_1 p0.List.length else true) <| need (bif (!((!bEq ((gd p0.List v1_1.toNat).Aid) ((gd p1.List v1_1.toNat).Aid)) || (!bB ((gd p0.List v1_1.toNat).Asleep) ((gd p1.List v1_1.toNat).Asleep)))) then inb v1_1 p1.List.length else true) <| need (bif (!((!bEq ((gd p0.List v1_1.toNat).Aid) ((gd p1.List v1_1.toNat).Aid)) || (!bB ((gd p0.List v1_1.toNat).Asleep) ((gd p1.List v1_1.toNat).Asleep)))) then ((F59 ((gd p0.List v1_1.toNat).Held) ((gd p1.List v1_1.toNat).Held)).isSome) else true) <| bif (((!bEq ((gd p0.List v1_1.toNat).Aid) ((gd p1.List v1_1.toNat).Aid)) || (!bB ((gd p0.List v1_1.toNat).Asleep) ((gd p1.List v1_1.toNat).Asleep))) || (!(gt (F59 ((gd p0.List v1_1.toNat).Held) ((gd p1.List v1_1.toNat).Held))))) then (some (.done (.inr false))) else (some (.next (wr .i64 (v1_1+1))))) else (some (.done (.inl ())))
noncomputable def F31 (p0:TBuffer) (p1:TBuffer):Option (Bool) :=
 need (bif (!(((!bEq p0.Limit p1.Limit) || (!bEq p0.Stay p1.Stay)) || (!bEq (p0.List.length:Nat) (p1.List.length:Nat)))) then ((F59 p0.Group p1.Group).isSome) else true) <| bif ((((!bEq p0.Limit p1.Limit) || (!bEq p0.Stay p1.Stay)) || (!bEq (p0.List.length:Nat) (p1.List.length:Nat))) || (!(gt (F59 p0.Group p1.Group)))) then (some false) else (lp (loopD (fun s=>F31_L1 p0 p1 s) 0) (fun _=>some true) some)
noncomputable def body31:List AV->AR
 | [v0,v1]=>.pure (aK 4 k_TBuffer v0/\aK 4 k_TBuffer v1/\(F31 (g_TBuffer (aL v0)) (g_TBuffer (aL v1))).isSome=true) (.bool (gt (F31 (g_TBuffer (aL v0)) (g_TBuffer (aL v1)))))
 | _=>.fail
theorem ok31:FnOk Try.prog 31 (pureC body31):=by
 refine pure_fnM body31 (rs:=[.tmp 4]) Try.func31 (by kernel_rfl) rfl rfl ?_
 intro l ob v hb hob
 unfold body31 at hb
 split at hb
 ·rename_i v0 v1
  injection hb with q1 q2;subst q1 q2
  obtain ⟨hk0_0,hk1_0,hob⟩:=hob
  obtain ⟨r,H⟩:=Option.isSome_iff_exists.1 hob
  rw [H,gt_some]
  have hw0:=wA_TBuffer hk0_0
  have hw1:=wA_TBuffer hk1_0
  generalize g_TBuffer (aL v0)=p0 at H hw0
  generalize g_TBuffer (aL v1)=p1 at H hw1
  refine ⟨[.agg [.int .i64 p0.Limit,.int .i64 p0.Stay,.ro 3 p0.List.length false (enR c_TSleeper p0.List),.ro 43 p0.Group.length false (enR c_TStored p0.Group)],.agg [.int .i64 p1.Limit,.int .i64 p1.Stay,.ro 3 p1.List.length false (enR c_TSleeper p1.List),.ro 43 p1.Group.length false (enR c_TStored p1.Group)]],_,(fun E vs F=>FR_wk1 hw0.1 F (fun vs F=>FR_wk1 hw1.1 F (fun vs F=>F))),rfl,rfl,?_⟩
  rw [Try.ntmps31]
  simp only [List.length_cons,List.length_nil,Nat.reduceAdd,Nat.reduceSub,List.replicate_succ,List.replicate_zero,List.cons_append,List.nil_append]
  unfold F31 at H
  try dsimp only at H
  refine sq ctNo_ok ?_
  simp only [go_sem]
  refine seqM ?_
  refine seqM ?_
  obtain ⟨f1,H⟩:=need_some.1 H
  replace f1:=g_iff.1 f1
  refine rg ct31t0_ok ?_
  simp only [go_sem,Nat.reduceLeDiff,Nat.reduceLT,Nat.reduceAdd,ct31t0_59,body59]
  repeat ((with_reducible refine And.intro ?_ ?_);focus (first|(with_reducible trivial)|omega|exact f1|(intro g;have q:=f1 (by first|exact g|(rw [g];rfl)|simpa using g);first|exact q|exact ⟨q.1,q.2.1⟩|exact q.2.2|omega|exact ⟨g,q⟩|exact ⟨trivial,q⟩|exact ⟨g,q.1,q.2.1⟩|exact ⟨g,q.2.2⟩)|(intro g;(try have q0:=f1 (by first|exact g|(rw [g];rfl)|simpa using g));and_intros<;>first|(with_reducible trivial)|assumption|exact nfc|(intro g2;rw [g,g2];rfl)|(intro g2;assumption)|(simp only [g,Bool.true_and,Bool.and_true,Bool.not_false,Bool.not_true];assumption)|grind)|(and_intros<;>first|(with_reducible trivial)|omega|assumption|exact nfc|first|exact rfl|exact trivial|exact fitI|exact .inr rfl|exact .inl rfl|exact fun x hx=>absurd hx (by omega))|grind))
  refine condM rfl trivial (fun hc=>?_) (fun hc=>?_)
  ·replace H:=cond_t hc H
   refine sq ctNo_ok ?_
   simp only [go_sem]
   refine rg ctNo_ok ?_
   simp only [go_sem]
   obtain rfl:=Option.some.inj H
   first|rfl|simp only [Bool.and_false,Bool.false_and,Bool.and_true,Bool.true_and]
  replace H:=cond_f hc H
  refine rg ctNo_ok ?_
  simp only [go_sem]
  refine seqM ?_
  refine sq ctNo_ok ?_
  simp only [go_sem]
  refine blkM ?_
  refine loop_den (fun s:Int=>(.top::.top::.ptr 0 0 0 0::.ptr 1 0 0 0::.top::.int .i64 s::tp 80 [])) (fun s=>[.lit 52 [.int .i64 p0.Limit,.int .i64 p0.Stay,.ro 3 p0.List.length false (enR c_TSleeper p0.List),.ro 43 p0.Group.length false (enR c_TStored p0.Group)],.lit 52 [.int .i64 p1.Limit,.int .i64 p1.Stay,.ro 3 p1.List.length false (enR c_TSleeper p1.List),.ro 43 p1.Group.length false (enR c_TStored p1.Group)]]) (fun e:Unit=>(tp 86 [])) (fun e=>[.dead,.dead]) H ?_ (fun v1_1 o H hn1_1 hn2_1=>?_) (fun e H=>?_)
  ·refine SubF_of ⟨[some 0,some 1],?_,?_,by rfl,by rfl⟩
   ·simp [CvL,Cv,getM,tp]
   ·exact ⟨cv,cv,trivial⟩
  ·unfold F31_L1 at H
   try dsimp only at H ⊢
   try simp only [tp]
   refine seqM ?_
   refine sq ctNo_ok ?_
   simp only [go_sem,Nat.reduceLeDiff,Nat.reduceLT,Nat.reduceAdd]
   repeat ((with_reducible refine And.intro ?_ ?_);focus exact an0)
   refine condM' rfl trivial (fun hc=>?_) (fun hc=>?_)
   ·replace H:=cond_f hc H
    refine rg ctNo_ok ?_
    simp only [go_sem]
    refine ⟨_,(Option.some.inj H).symm,?_⟩
    refine SubF_of ⟨[some 0,some 1],?_,?_,by rfl,by rfl⟩
    ·simp [CvL,Cv]
    ·exact ⟨CvB_dead,CvB_dead,trivial⟩
   replace H:=cond_t hc H
   refine rg ctNo_ok ?_
   simp only [go_sem]
   refine seqM ?_
   refine blkM ?_
   refine seqM ?_
   obtain ⟨f2,H⟩:=need_some.1 H
   replace f2:=inb_iff.1 f2
   obtain ⟨f3,H⟩:=need_some.1 H
   replace f3:=inb_iff.1 f3
   obtain ⟨f4,H⟩:=need_some.1 H
   replace f4:=g_iff.1 f4
   replace f4:=fun g=>inb_iff.1 (f4 g)
   obtain ⟨f5,H⟩:=need_some.1 H
   replace f5:=g_iff.1 f5
   replace f5:=fun g=>inb_iff.1 (f5 g)
   obtain ⟨f6,H⟩:=need_some.1 H
   replace f6:=g_iff.1 f6
   replace f6:=fun g=>inb_iff.1 (f6 g)
   obtain ⟨f7,H⟩:=need_some.1 H
   replace f7:=g_iff.1 f7
   replace f7:=fun g=>inb_iff.1 (f7 g)
   obtain ⟨f8,H⟩:=need_some.1 H
   replace f8:=g_iff.1 f8
   refine draw_quiet shT_ok ct31t0_ok (by kernel_rfl) (by kernel_rfl) ?_
   simp only [go_sem,Nat.reduceLeDiff,Nat.reduceLT,Nat.reduceAdd,ct31t0_59,body59,f2,f3]
   repeat ((with_reducible refine And.intro ?_ ?_);focus (first|(with_reducible trivial)|omega|exact f4|exact f5|exact f6|exact f7|exact f8|(intro g;have q:=f4 (by first|exact g|(rw [g];rfl)|simpa using g);first|exact q|exact ⟨q.1,q.2.1⟩|exact q.2.2|omega|exact ⟨g,q⟩|exact ⟨trivial,q⟩|exact ⟨g,q.1,q.2.1⟩|exact ⟨g,q.2.2⟩)|(intro g;have q:=f5 (by first|exact g|(rw [g];rfl)|simpa using g);first|exact q|exact ⟨q.1,q.2.1⟩|exact q.2.2|omega|exact ⟨g,q⟩|exact ⟨trivial,q⟩|exact ⟨g,q.1,q.2.1⟩|exact ⟨g,q.2.2⟩)|(intro g;have q:=f6 (by first|exact g|(rw [g];rfl)|simpa using g);first|exact q|exact ⟨q.1,q.2.1⟩|exact q.2.2|omega|exact ⟨g,q⟩|exact ⟨trivial,q⟩|exact ⟨g,q.1,q.2.1⟩|exact ⟨g,q.2.2⟩)|(intro g;have q:=f7 (by first|exact g|(rw [g];rfl)|simpa using g);first|exact q|exact ⟨q.1,q.2.1⟩|exact q.2.2|omega|exact ⟨g,q⟩|exact ⟨trivial,q⟩|exact ⟨g,q.1,q.2.1⟩|exact ⟨g,q.2.2⟩)|(intro g;have q:=f8 (by first|exact g|(rw [g];rfl)|simpa using g);first|exact q|exact ⟨q.1,q.2.1⟩|exact q.2.2|omega|exact ⟨g,q⟩|exact ⟨trivial,q⟩|exact ⟨g,q.1,q.2.1⟩|exact ⟨g,q.2.2⟩)|(intro g;(try have q0:=f4 (by first|exact g|(rw [g];rfl)|simpa using g));(try have q1:=f5 (by first|exact g|(rw [g];rfl)|simpa using g));(try have q2:=f6 (by first|exact g|(rw [g];rfl)|simpa using g));(try have q3:=f7 (by first|exact g|(rw [g];rfl)|simpa using g));(try have q4:=f8 (by first|exact g|(rw [g];rfl)|simpa using g));and_intros<;>first|(with_reducible trivial)|assumption|exact nfc|(intro g2;rw [g,g2];rfl)|(intro g2;assumption)|(simp only [g,Bool.true_and,Bool.and_true,Bool.not_false,Bool.not_true];assumption)|grind)|(and_intros<;>first|(with_reducible trivial)|omega|assumption|exact nfc|first|exact rfl|exact trivial|exact fitI|exact .inr rfl|exact .inl rfl|exact fun x hx=>absurd hx (by omega))|grind))
   refine condM rfl trivial (fun hc=>?_) (fun hc=>?_)
   ·replace H:=cond_t hc H
    refine sq ctNo_ok ?_
    simp only [go_sem]
    refine rg ctNo_ok ?_
    simp only [go_sem]
    have H:=hn2_1 _ (Option.some.inj H).symm
    obtain rfl:=Option.some.inj H
    first|rfl|simp only [Bool.and_false,Bool.false_and,Bool.and_true,Bool.true_and]
   replace H:=cond_f hc H
   refine rg ctNo_ok ?_
   simp only [go_sem]
   refine rg ctNo_ok ?_
   simp only [go_sem]
   refine ⟨_,(Option.some.inj H).symm,?_⟩
   refine SubF_of ⟨[some 0,some 1],?_,?_,by rfl,by rfl⟩
   ·simp [CvL,Cv,getM]
   ·exact ⟨cv,cv,trivial⟩
  ·try dsimp only at H ⊢
   try simp only [tp]
   try simp only [m_normal]
   refine sq ctNo_ok ?_
   simp only [go_sem]
   refine rg ctNo_ok ?_
   simp only [go_sem]
   obtain rfl:=Option.some.inj H
   first|rfl|simp only [Bool.and_false,Bool.false_and,Bool.and_true,Bool.true_and]
 ·cases hb
noncomputable def F36_L1 (p1:Int) (v1_1:Int) (v1_2:Int):Option (Lp (Int × Int) ((Int) ⊕ (Bool))) :=
 bif (bLt v1_2 p1) then (some (.next (wr .u8 (v1_1.tdiv 2),wr .u8 (v1_2+1)))) else (some (.done (.inl v1_1)))
noncomputable def F36 (p0:Int) (p1:Int):Option (Bool) :=
 lp (loopD (fun s=>F36_L1 p1 s.1 s.2) (p0,0)) (fun w1_3=>some (bEq (w1_3.tmod 2) 1)) some
noncomputable def body36:List AV->AR
 | [v0,v1]=>.pure (iK .u8 v0/\iK .u8 v1/\(F36 (iA v0) (iA v1)).isSome=true) (.bool (gt (F36 (iA v0) (iA v1))))
 | _=>.fail
theorem ok36:FnOk Try.prog 36 (pureC body36):=by
 refine pure_fnM body36 (rs:=[.tmp 4]) Try.func36 (by kernel_rfl) rfl rfl ?_
 intro l ob v hb hob
 unfold body36 at hb
 split at hb
 ·rename_i v0 v1
  injection hb with q1 q2;subst q1 q2
  obtain ⟨hk0_0,hk1_0,hob⟩:=hob
  obtain ⟨r,H⟩:=Option.isSome_iff_exists.1 hob
  rw [H,gt_some]
  have hw0:=iK_wk hk0_0
  have hw1:=iK_wk hk1_0
  generalize iA v0=p0 at H hw0
  generalize iA v1=p1 at H hw1
  refine ⟨[.int .u8 p0,.int .u8 p1],_,(fun E vs F=>FR_wk1 hw0.1 F (fun vs F=>FR_wk1 hw1.1 F (fun vs F=>F))),rfl,rfl,?_⟩
  rw [Try.ntmps36]
  simp only [List.length_cons,List.length_nil,Nat.reduceAdd,Nat.reduceSub,List.replicate_succ,List.replicate_zero,List.cons_append,List.nil_append]
  unfold F36 at H
  try dsimp only at H
  refine sq ctNo_ok ?_
  simp only [go_sem]
  refine seqM ?_
  refine sq ctNo_ok ?_
  simp only [go_sem]
  refine blkM ?_
  refine loop_den (fun s:Int × Int=>(.int .u8 s.1::.int .u8 p1::.top::.top::.top::.int .u8 s.2::tp 10 [])) (fun s=>[]) (fun e:Int=>(.int .u8 e::tp 15 [])) (fun e=>[]) H ?_ (fun s o H hn1_1 hn2_1=>?_) (fun w1_3 H=>?_)
  ·refine SubF_of ⟨[],?_,?_,by rfl,by rfl⟩
   ·simp [CvL,Cv,tp]
   ·trivial
  ·obtain ⟨v1_1,v1_2⟩:=s
   unfold F36_L1 at H
   try dsimp only at H ⊢
   try simp only [tp]
   refine seqM ?_
   refine sq ctNo_ok ?_
   simp only [go_sem]
   refine condM' rfl trivial (fun hc=>?_) (fun hc=>?_)
   ·replace H:=cond_f hc H
    refine rg ctNo_ok ?_
    simp only [go_sem]
    refine ⟨_,(Option.some.inj H).symm,?_⟩
    refine SubF_of ⟨[],?_,?_,by rfl,by rfl⟩
    ·simp [CvL,Cv]
    ·trivial
   replace H:=cond_t hc H
   refine rg ctNo_ok ?_
   simp only [go_sem]
   refine seqM ?_
   refine blkM ?_
   refine rg ctNo_ok ?_
   simp only [go_sem]
   repeat ((with_reducible refine And.intro ?_ ?_);focus exact an6)
   refine rg ctNo_ok ?_
   simp only [go_sem]
   refine ⟨_,(Option.some.inj H).symm,?_⟩
   refine SubF_of ⟨[],?_,?_,by rfl,by rfl⟩
   ·simp [CvL,Cv]
   ·trivial
  ·try dsimp only at H ⊢
   try simp only [tp]
   try simp only [m_normal]
   refine sq ctNo_ok ?_
   simp only [go_sem]
   repeat ((with_reducible refine And.intro ?_ ?_);focus exact an6)
   refine rg ctNo_ok ?_
   simp only [go_sem]
   obtain rfl:=Option.some.inj H
   first|rfl|simp only [Bool.and_false,Bool.false_and,Bool.and_true,Bool.true_and]
 ·cases hb
noncomputable def ct35t0:Ct:=tab [(36,pureC body36)]
theorem ct35t0_ok:CtOk Try.prog ct35t0:=tab_cons ok36 <| tab_nil
theorem ct35t0_36 (l:List AV) (h:List ABlk):ct35t0 36 l h=pureC body36 l h:=rfl
noncomputable def F35_L1 (p0:List TStored) (p1:Int) (v1_1:Int) (v1_2:Int):Option (Lp (Int × Int) ((Int) ⊕ (Int))) :=
 bif (bLt v1_2 (p0.length:Nat)) then (need (inb v1_2 p0.length) <| (F36 p1 ((gd p0 v1_2.toNat).Cat)).bind fun r2=>bif r2 then (some (.next (wr .i64 (v1_1+1),wr .i64 (v1_2+1)))) else (some (.next (v1_1,wr .i64 (v1_2+1))))) else (some (.done (.inl v1_1)))
noncomputable def F35 (p0:List TStored) (p1:Int):Option (Int) :=
 lp (loopD (fun s=>F35_L1 p0 p1 s.1 s.2) (0,0)) (fun w1_3=>some w1_3) some
noncomputable def body35:List AV->AR
 | [v0,v1]=>.pure (lK k_TStored 43 v0/\iK .u8 v1/\(F35 (lA g_TStored v0) (iA v1)).isSome=true) (.int .i64 (gt (F35 (lA g_TStored v0) (iA v1))))
 | _=>.fail
theorem ok35:FnOk Try.prog 35 (pureC body35):=by
 refine pure_fnM body35 (rs:=[.tmp 4]) Try.func35 (by kernel_rfl) rfl rfl ?_
 intro l ob v hb hob
 unfold body35 at hb
 split at hb
 ·rename_i v0 v1
  injection hb with q1 q2;subst q1 q2
  obtain ⟨hk0_0,hk1_0,hob⟩:=hob
  obtain ⟨r,H⟩:=Option.isSome_iff_exists.1 hob
  rw [H,gt_some]
  have hw0:=lK_wk (fun r h=>w_TStored h) hk0_0
  have hw1:=iK_wk hk1_0
  generalize lA g_TStored v0=p0 at H hw0
  generalize iA v1=p1 at H hw1
  refine ⟨[.ro 43 p0.length false (enR c_TStored p0),.int .u8 p1],_,(fun E vs F=>FR_wk1 hw0.1 F (fun vs F=>FR_wk1 hw1.1 F (fun vs F=>F))),rfl,rfl,?_⟩
  rw [Try.ntmps35]
  simp only [List.length_cons,List.length_nil,Nat.reduceAdd,Nat.reduceSub,List.replicate_succ,List.replicate_zero,List.cons_append,List.nil_append]
  unfold F35 at H
  try dsimp only at H
  refine sq ctNo_ok ?_
  simp only [go_sem]
  refine sq ctNo_ok ?_
  simp only [go_sem]
  refine seqM ?_
  refine sq ctNo_ok ?_
  simp only [go_sem]
  refine blkM ?_
  refine loop_den (fun s:Int × Int=>(.ro 43 p0.length false (enR c_TStored p0)::.int .u8 p1::.top::.top::.top::.int .i64 s.1::.int .i64 s.2::tp 16 [])) (fun s=>[]) (fun e:Int=>(tp 5 (.int .i64 e::tp 17 []))) (fun e=>[]) H ?_ (fun s o H hn1_1 hn2_1=>?_) (fun w1_3 H=>?_)
  ·refine SubF_of ⟨[],?_,?_,by rfl,by rfl⟩
   ·simp [CvL,Cv,tp]
   ·trivial
  ·obtain ⟨v1_1,v1_2⟩:=s
   unfold F35_L1 at H
   try dsimp only at H ⊢
   try simp only [tp]
   refine seqM ?_
   refine sq ctNo_ok ?_
   simp only [go_sem]
   repeat ((with_reducible refine And.intro ?_ ?_);focus exact an0)
   refine condM' rfl trivial (fun hc=>?_) (fun hc=>?_)
   ·replace H:=cond_f hc H
    refine rg ctNo_ok ?_
    simp only [go_sem]
    refine ⟨_,(Option.some.inj H).symm,?_⟩
    refine SubF_of ⟨[],?_,?_,by rfl,by rfl⟩
    ·simp [CvL,Cv]
    ·trivial
   replace H:=cond_t hc H
   refine rg ctNo_ok ?_
   simp only [go_sem]
   refine seqM ?_
   refine blkM ?_
   refine seqM ?_
   obtain ⟨f1,H⟩:=need_some.1 H
   replace f1:=inb_iff.1 f1
   obtain ⟨r2,e3,H⟩:=bsi H
   refine rg ct35t0_ok ?_
   simp only [go_sem,Nat.reduceLeDiff,Nat.reduceLT,ct35t0_36,body36,f1,e3]
   repeat ((with_reducible refine And.intro ?_ ?_);focus exact an0)
   refine condM rfl trivial (fun hc=>?_) (fun hc=>?_)
   ·replace H:=cond_t hc H
    refine rg ctNo_ok ?_
    simp only [go_sem]
    refine rg ctNo_ok ?_
    simp only [go_sem]
    refine ⟨_,(Option.some.inj H).symm,?_⟩
    refine SubF_of ⟨[],?_,?_,by rfl,by rfl⟩
    ·simp [CvL,Cv]
    ·trivial
   replace H:=cond_f hc H
   refine rg ctNo_ok ?_
   simp only [go_sem]
   refine rg ctNo_ok ?_
   simp only [go_sem]
   refine ⟨_,(Option.some.inj H).symm,?_⟩
   refine SubF_of ⟨[],?_,?_,by rfl,by rfl⟩
   ·simp [CvL,Cv]
   ·trivial
  ·try dsimp only at H ⊢
   try simp only [tp]
   try simp only [m_normal]
   refine sq ctNo_ok ?_
   simp only [go_sem]
   refine rg ctNo_ok ?_
   simp only [go_sem]
   obtain rfl:=Option.some.inj H
   first|rfl|simp only [Bool.and_false,Bool.false_and,Bool.and_true,Bool.true_and]
 ·cases hb
end Go.Proofs.Ytnclkplbeenmdaa
