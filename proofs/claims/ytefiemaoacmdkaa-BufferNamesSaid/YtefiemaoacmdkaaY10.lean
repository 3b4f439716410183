/-
  What BufferNames reaches.
-/
import Derived.Test.YtefiemaoacmdkaaY10p6
namespace Go.Proofs.Ytefiemaoacmdkaa
open Go.Am
set_option maxHeartbeats 4000000
set_option maxRecDepth 20000
set_option linter.unusedVariables false
set_option linter.unusedSimpArgs false
noncomputable def ct10t0:Ct:=tab [(39,genC body39)]
theorem ct10t0_ok:CtOk Try.prog ct10t0:=tab_cons ok39 <| tab_nil
theorem ct10t0_39 (l:List AV) (h:List ABlk):ct10t0 39 l h=genC body39 l h:=rfl
noncomputable def ct10t1:Ct:=tab [(12,genC body12)]
theorem ct10t1_ok:CtOk Try.prog ct10t1:=tab_cons ok12 <| tab_nil
theorem ct10t1_12 (l:List AV) (h:List ABlk):ct10t1 12 l h=genC body12 l h:=rfl
noncomputable def ct10t2:Ct:=tab [(40,genC body40)]
theorem ct10t2_ok:CtOk Try.prog ct10t2:=tab_cons ok40 <| tab_nil
theorem ct10t2_40 (l:List AV) (h:List ABlk):ct10t2 40 l h=genC body40 l h:=rfl
noncomputable def ct10t3:Ct:=tab [(21,genC body21)]
theorem ct10t3_ok:CtOk Try.prog ct10t3:=tab_cons ok21 <| tab_nil
theorem ct10t3_21 (l:List AV) (h:List ABlk):ct10t3 21 l h=genC body21 l h:=rfl
noncomputable def ct10t4:Ct:=tab [(23,genC body23)]
theorem ct10t4_ok:CtOk Try.prog ct10t4:=tab_cons ok23 <| tab_nil
theorem ct10t4_23 (l:List AV) (h:List ABlk):ct10t4 23 l h=genC body23 l h:=rfl
noncomputable def ct10t5:Ct:=tab [(24,frC (genC body24)),(37,edC body37)]
theorem ct10t5_ok:CtOk Try.prog ct10t5:=tab_cons (fr_ok ok24) <| tab_cons ok37 <| tab_nil
theorem ct10t5_24 (l:List AV) (h:List ABlk):ct10t5 24 l h=frC (genC body24) l h:=rfl
theorem ct10t5_37 (l:List AV) (h:List ABlk):ct10t5 37 l h=edC body37 l h:=rfl
noncomputable def ct10t6:Ct:=tab [(37,edC body37),(41,frC (genC body41))]
theorem ct10t6_ok:CtOk Try.prog ct10t6:=tab_cons ok37 <| tab_cons (fr_ok ok41) <| tab_nil
theorem ct10t6_37 (l:List AV) (h:List ABlk):ct10t6 37 l h=edC body37 l h:=rfl
theorem ct10t6_41 (l:List AV) (h:List ABlk):ct10t6 41 l h=frC (genC body41) l h:=rfl
noncomputable def ct10t7:Ct:=tab [(14,edC body14)]
theorem ct10t7_ok:CtOk Try.prog ct10t7:=tab_cons ok14 <| tab_nil
theorem ct10t7_14 (l:List AV) (h:List ABlk):ct10t7 14 l h=edC body14 l h:=rfl
noncomputable def ct10t8:Ct:=tab [(25,genC body25)]
theorem ct10t8_ok:CtOk Try.prog ct10t8:=tab_cons ok25 <| tab_nil
theorem ct10t8_25 (l:List AV) (h:List ABlk):ct10t8 25 l h=genC body25 l h:=rfl
noncomputable def ct10t9:Ct:=tab [(42,genC body42)]
theorem ct10t9_ok:CtOk Try.prog ct10t9:=tab_cons ok42 <| tab_nil
theorem ct10t9_42 (l:List AV) (h:List ABlk):ct10t9 42 l h=genC body42 l h:=rfl
noncomputable def ct10t10:Ct:=tab [(38,pureC body38)]
theorem ct10t10_ok:CtOk Try.prog ct10t10:=tab_cons ok38 <| tab_nil
theorem ct10t10_38 (l:List AV) (h:List ABlk):ct10t10 38 l h=pureC body38 l h:=rfl
noncomputable def ct10t11:Ct:=tab [(18,pureC body18)]
theorem ct10t11_ok:CtOk Try.prog ct10t11:=tab_cons ok18 <| tab_nil
theorem ct10t11_18 (l:List AV) (h:List ABlk):ct10t11 18 l h=pureC body18 l h:=rfl
noncomputable def ct10t12:Ct:=tab [(20,pureC body20)]
theorem ct10t12_ok:CtOk Try.prog ct10t12:=tab_cons ok20 <| tab_nil
theorem ct10t12_20 (l:List AV) (h:List ABlk):ct10t12 20 l h=pureC body20 l h:=rfl
noncomputable def F10_c15 (r1:TBuffer × Bool) (x77:Bool) (x86:Bool) (x87:Bool) (r101:Int) (r103:Bool):Option (Bool) :=
 some (((((r103 && r1.2) && x77) && x86) && x87) && (bEq r101 8))
theorem ok10_c15 (r1:TBuffer × Bool) (x77:Bool) (x86:Bool) (x87:Bool) (r101:Int) (r103:Bool) (r:Bool) (H:F10_c15 r1 x77 x86 x87 r101 r103=some r):Mean Try.prog (ctl 30 (bdy Try.f10)) (kRet Try.prog [.tmp 0] (fun v' _=>v' = .bool r)) (.bool (((((r103 && r1.2) && x77) && x86) && x87) && (bEq r101 8))::tpg 480 []) (.dead::.dead::.dead::.dead::.dead::.dead::.dead::.dead::.dead::.dead::.dead::.dead::.dead::.dead::.dead::.dead::.dead::.dead::.dead::.dead::.dead::.dead::.dead::.dead::.dead::.dead::.dead::.dead::.dead::.dead::.dead::.dead::.dead::.dead::.dead::[]):=by
 conv=>arg 2;whnf
 unfold F10_c15 at H
 try dsimp only at H
 refine rg ctNo_ok ?_
 simp only [go_sem]
 obtain rfl:=Option.some.inj H
 first|rfl|simp only [Bool.and_false,Bool.false_and,Bool.and_true,Bool.true_and]
noncomputable def F10_c16 (r1:TBuffer × Bool) (x77:Bool) (x86:Bool) (x87:Bool) (r105:Bool):Option (Bool) :=
 some (((((r105 && r1.2) && x77) && x86) && x87) && false)
theorem ok10_c16 (r1:TBuffer × Bool) (x77:Bool) (x86:Bool) (x87:Bool) (r105:Bool) (r:Bool) (H:F10_c16 r1 x77 x86 x87 r105=some r):Mean Try.prog (ctl 30 (bdy Try.f10)) (kRet Try.prog [.tmp 0] (fun v' _=>v' = .bool r)) (.bool (((((r105 && r1.2) && x77) && x86) && x87) && false)::tpg 480 []) (.dead::.dead::.dead::.dead::.dead::.dead::.dead::.dead::.dead::.dead::.dead::.dead::.dead::.dead::.dead::.dead::.dead::.dead::.dead::.dead::.dead::.dead::.dead::.dead::.dead::.dead::.dead::.dead::.dead::.dead::.dead::.dead::.dead::[]):=by
 conv=>arg 2;whnf
 unfold F10_c16 at H
 try dsimp only at H
 refine rg ctNo_ok ?_
 simp only [go_sem]
 obtain rfl:=Option.some.inj H
 first|rfl|simp only [Bool.and_false]
noncomputable def F10_c17 (r1:TBuffer × Bool) (x77:Bool) (x86:Bool) (x87:Bool) (r107:Bool):Option (Bool) :=
 some (((((r107 && r1.2) && x77) && x86) && x87) && false)
theorem ok10_c17 (r1:TBuffer × Bool) (x77:Bool) (x86:Bool) (x87:Bool) (r107:Bool) (r:Bool) (H:F10_c17 r1 x77 x86 x87 r107=some r):Mean Try.prog (ctl 30 (bdy Try.f10)) (kRet Try.prog [.tmp 0] (fun v' _=>v' = .bool r)) (.bool (((((r107 && r1.2) && x77) && x86) && x87) && false)::tpg 480 []) (.dead::.dead::.dead::.dead::.dead::.dead::.dead::.dead::.dead::.dead::.dead::.dead::.dead::.dead::.dead::.dead::.dead::.dead::.dead::.dead::.dead::.dead::.dead::.dead::.dead::.dead::.dead::.dead::.dead::.dead::.dead::.dead::[]):=by
 conv=>arg 2;whnf
 unfold F10_c17 at H
 try dsimp only at H
 refine rg ctNo_ok ?_
 simp only [go_sem]
 obtain rfl:=Option.some.inj H
 first|rfl|simp only [Bool.and_false]
noncomputable def F10_c18 (r1:TBuffer × Bool) (x77:Bool) (x86:Bool) (x87:Bool) (r109:Bool):Option (Bool) :=
 some (((((r109 && r1.2) && x77) && x86) && x87) && false)
theorem ok10_c18 (r1:TBuffer × Bool) (x77:Bool) (x86:Bool) (x87:Bool) (r109:Bool) (r:Bool) (H:F10_c18 r1 x77 x86 x87 r109=some r):Mean Try.prog (ctl 30 (bdy Try.f10)) (kRet Try.prog [.tmp 0] (fun v' _=>v' = .bool r)) (.bool (((((r109 && r1.2) && x77) && x86) && x87) && false)::tpg 480 []) (.dead::.dead::.dead::.dead::.dead::.dead::.dead::.dead::.dead::.dead::.dead::.dead::.dead::.dead::.dead::.dead::.dead::.dead::.dead::.dead::.dead::.dead::.dead::.dead::.dead::.dead::.dead::.dead::.dead::.dead::.dead::[]):=by
 conv=>arg 2;whnf
 unfold F10_c18 at H
 try dsimp only at H
 refine rg ctNo_ok ?_
 simp only [go_sem]
 obtain rfl:=Option.some.inj H
 first|rfl|simp only [Bool.and_false]
noncomputable def F10_c14 (r1:TBuffer × Bool) (x77:Bool) (x86:Bool) (x87:Bool):Option (Bool) :=
 (F18 (TBuffer.mk 0 0 [] [])).bind fun r88=>bif (bEq r88 8) then ((F18 (TBuffer.mk 1 1 [] ([(TStored.mk 0 0 (TFrame.mk (THeader.mk 0 0 false false false false false false false 0 (A6u8.mk 0 0 0 0 0 0) (A6u8.mk 0 0 0 0 0 0) (A6u8.mk 0 0 0 0 0 0) (A6u8.mk 0 0 0 0 0 0) 0 0 0 0 false false) ([]:List Int)))]))).bind fun r90=>bif (bEq r90 8) then ((F18 (TBuffer.mk 1 1 ([(TSleeper.mk 2 false ([]:List TStored)),(TSleeper.mk 2 false ([]:List TStored))]) [])).bind fun r92=>bif (bEq r92 8) then ((some ([(TStored.mk 0 0 (TFrame.mk (THeader.mk 0 0 false false false false false false false 0 (A6u8.mk 0 0 0 0 0 0) (A6u8.mk 0 0 0 0 0 0) (A6u8.mk 0 0 0 0 0 0) (A6u8.mk 0 0 0 0 0 0) 0 0 0 0 false false) ([]:List Int)))])).bind fun w95=>(some ([(TSleeper.mk 2 false ([]:List TStored)),(TSleeper.mk 2 false ([]:List TStored))])).bind fun w97=>(some ([(TStored.mk 0 0 (TFrame.mk (THeader.mk 0 0 false false false false false false false 0 (A6u8.mk 0 0 0 0 0 0) (A6u8.mk 0 0 0 0 0 0) (A6u8.mk 0 0 0 0 0 0) (A6u8.mk 0 0 0 0 0 0) 0 0 0 0 false false) ([]:List Int)))])).bind fun w99=>(F18 (TBuffer.mk 1 1 [(TSleeper.mk 2 false w99)] [])).bind fun r101=>(F20).bind fun r103=>F10_c15 r1 x77 x86 x87 r101 r103) else ((F20).bind fun r105=>F10_c16 r1 x77 x86 x87 r105)) else ((F20).bind fun r107=>F10_c17 r1 x77 x86 x87 r107)) else ((F20).bind fun r109=>F10_c18 r1 x77 x86 x87 r109)
theorem ok10_c14 (r1:TBuffer × Bool) (x77:Bool) (x86:Bool) (x87:Bool) (r:Bool) (H:F10_c14 r1 x77 x86 x87=some r):Mean Try.prog (ctl 28 (bdy Try.f10)) (kRet Try.prog [.tmp 0] (fun v' _=>v' = .bool r)) (.top::.top::.bool r1.2::tpg 66 (.bool x77::.bool x86::.bool x87::.top::tpg 363 (tp 45 []))) (.dead::.dead::.dead::.dead::.dead::.dead::.dead::.dead::.dead::.dead::.dead::.dead::.dead::.dead::.dead::.dead::.dead::.dead::.dead::.dead::.dead::.dead::.dead::.dead::.dead::.dead::.dead::.dead::.dead::.dead::.dead::[]):=by
 conv=>arg 2;whnf
 simp only [tp]
 unfold F10_c14 at H
 try dsimp only at H
 refine seqM ?_
 refine regO ?_
 obtain ⟨r88,e89,H⟩:=bsi H
 refine cutO shT_ok ct10t11_ok 5 ?_
 simp only [kO_normal,List.take_succ_cons,List.take_zero,List.drop_succ_cons,List.drop_zero,go_sem,Nat.reduceLeDiff,Nat.reduceAdd,Nat.reduceSub,reduceCtorEq,ct10t11_18,body18,e89]
 repeat ((with_reducible refine And.intro ?_ ?_);focus exact an4)
 refine subO (t2:=(.top::.top::.bool r1.2::tpg 66 (.bool x77::.bool x86::.bool x87::.top::tpg 363 (.agg [.int .i64 0,.int .i64 0,.ro 3 (([]:List TSleeper).length) false (enR c_TSleeper ([]:List TSleeper)),.ro 43 (([]:List TStored).length) false (enR c_TStored ([]:List TStored))]::.int .i64 r88::.bool (bEq r88 8)::.bool (bEq r88 8)::.opt (bEq r88 8) (.agg (.int .u8 0::.int .i64 0::.int .u8 0::.int .u8 0::.bool false::.bool false::.bool false::.bool false::.bool false::.bool false::.bool false::.int .i64 0::.int .u8 0::.int .u8 0::.int .u8 0::.int .u8 0::.int .u8 0::.int .u8 0::.int .u8 0::.int .u8 0::.int .u8 0::.int .u8 0::.int .u8 0::.int .u8 0::.int .u8 0::.int .u8 0::.int .u8 0::.int .u8 0::.int .u8 0::.int .u8 0::.int .u8 0::.int .u8 0::.int .u8 0::.int .u8 0::.int .u8 0::.int .u8 0::.int .i64 0::.int .i64 0::.int .i64 0::.int .u8 0::.bool false::.bool false::.ro 1 (([]:List Int).length) false (enR c_u8 ([]:List Int))::[]))::tp 40 [])))) (h2:=(.dead::.dead::.dead::.dead::.dead::.dead::.dead::.dead::.dead::.dead::.dead::.dead::.dead::.dead::.dead::.dead::.dead::.dead::.dead::.dead::.dead::.dead::.dead::.dead::.dead::.dead::.dead::.dead::.dead::.dead::.dead::[])) ?_ ?_
 ·refine SubF_of ⟨[some 0,some 1,some 2,some 3,some 4,some 5,some 6,some 7,some 8,some 9,some 10,some 11,some 12,some 13,some 14,some 15,some 16,some 17,some 18,some 19,some 20,some 21,some 22,some 23,some 24,some 25,some 26,some 27,some 28,some 29,some 30],?_,?_,by rfl,by rfl⟩
  ·simp [CvL,Cv,tp,tp,tpg]
  ·(repeat (first|refine And.intro (by first|exact CvB_dead|exact CvB_same nfA|(simp [CvB,CvL,Cv,blkAt,geth,getM];done)) ?_|trivial))
 simp only [tp]
 refine bif_split (c:=(bEq r88 8)) (fun hg90=>?_) (fun hg90=>?_)
 ·replace H:=cond_t hg90 H
  obtain ⟨r90,e91,H⟩:=bsi H
  refine cutO shT_ok ct10t11_ok 8 ?_
  simp only [kO_normal,List.take_succ_cons,List.take_zero,List.drop_succ_cons,List.drop_zero,go_sem,Nat.reduceLeDiff,Nat.reduceAdd,Nat.reduceSub,reduceCtorEq,ct10t11_18,body18,hg90,e91]
  repeat ((with_reducible refine And.intro ?_ ?_);focus exact an4)
  refine subO (t2:=(.top::.top::.bool r1.2::tpg 66 (.bool x77::.bool x86::.bool x87::.top::tpg 363 (.agg [.int .i64 0,.int .i64 0,.ro 3 (([]:List TSleeper).length) false (enR c_TSleeper ([]:List TSleeper)),.ro 43 (([]:List TStored).length) false (enR c_TStored ([]:List TStored))]::.int .i64 r88::.bool (bEq r88 8)::.bool (bEq r88 8)::.opt (bEq r88 8) (.agg (.int .u8 0::.int .i64 0::.int .u8 0::.int .u8 0::.bool false::.bool false::.bool false::.bool false::.bool false::.bool false::.bool false::.int .i64 0::.int .u8 0::.int .u8 0::.int .u8 0::.int .u8 0::.int .u8 0::.int .u8 0::.int .u8 0::.int .u8 0::.int .u8 0::.int .u8 0::.int .u8 0::.int .u8 0::.int .u8 0::.int .u8 0::.int .u8 0::.int .u8 0::.int .u8 0::.int .u8 0::.int .u8 0::.int .u8 0::.int .u8 0::.int .u8 0::.int .u8 0::.int .u8 0::.int .i64 0::.int .i64 0::.int .i64 0::.int .u8 0::.bool false::.bool false::.ro 1 (([]:List Int).length) false (enR c_u8 ([]:List Int))::[]))::.opt true (.sl 31 43 0 1 false)::.opt true (.agg [.int .i64 1,.int .i64 1,.ro 3 (([]:List TSleeper).length) false (enR c_TSleeper ([]:List TSleeper)),.sl 31 43 0 1 false])::.opt true (.int .i64 r90)::.opt true (.bool (bEq r90 8))::.bool (bEq r90 8)::.bool (bEq r90 8)::.opt (bEq r90 8) (.agg [.int .i64 2,.bool false,.ro 43 (([]:List TStored).length) false (enR c_TStored ([]:List TStored))])::.opt (bEq r90 8) (.agg [.int .i64 2,.bool false,.ro 43 (([]:List TStored).length) false (enR c_TStored ([]:List TStored))])::tp 32 [])))) (h2:=(.dead::.dead::.dead::.dead::.dead::.dead::.dead::.dead::.dead::.dead::.dead::.dead::.dead::.dead::.dead::.dead::.dead::.dead::.dead::.dead::.dead::.dead::.dead::.dead::.dead::.dead::.dead::.dead::.dead::.dead::.dead::.row 61 43 1 (litC 43 (.int .u8 0::.int .i64 0::.int .u8 0::.int .u8 0::.bool false::.bool false::.bool false::.bool false::.bool false::.bool false::.bool false::.int .i64 0::.int .u8 0::.int .u8 0::.int .u8 0::.int .u8 0::.int .u8 0::.int .u8 0::.int .u8 0::.int .u8 0::.int .u8 0::.int .u8 0::.int .u8 0::.int .u8 0::.int .u8 0::.int .u8 0::.int .u8 0::.int .u8 0::.int .u8 0::.int .u8 0::.int .u8 0::.int .u8 0::.int .u8 0::.int .u8 0::.int .u8 0::.int .u8 0::.int .i64 0::.int .i64 0::.int .i64 0::.int .u8 0::.bool false::.bool false::.ro 1 (([]:List Int).length) false (enR c_u8 ([]:List Int))::[]))::[])) ?_ ?_
  ·refine SubF_of ⟨[some 0,some 1,some 2,some 3,some 4,some 5,some 6,some 7,some 8,some 9,some 10,some 11,some 12,some 13,some 14,some 15,some 16,some 17,some 18,some 19,some 20,some 21,some 22,some 23,some 24,some 25,some 26,some 27,some 28,some 29,some 30,some 31],?_,?_,by rfl,by rfl⟩
   ·simp [CvL,Cv,getM,tp,tp,tpg,hg90]
   ·(repeat (first|refine And.intro (by first|exact CvB_dead|exact CvB_same nfA|(simp [CvB,CvL,Cv,blkAt,geth,getM];done)) ?_|trivial))
  simp only [tp]
  refine bif_split (c:=(bEq r90 8)) (fun hg92=>?_) (fun hg92=>?_)
  ·replace H:=cond_t hg92 H
   obtain ⟨r92,e93,H⟩:=bsi H
   refine cutO shT_ok ct10t11_ok 7 ?_
   simp only [kO_normal,List.take_succ_cons,List.take_zero,List.drop_succ_cons,List.drop_zero,go_sem,Nat.reduceLeDiff,Nat.reduceAdd,Nat.reduceMul,Nat.reduceSub,reduceCtorEq,ct10t11_18,body18,hg90,hg92,e93]
   repeat ((with_reducible refine And.intro ?_ ?_);focus exact an4)
   refine subO (t2:=(.top::.top::.bool r1.2::tpg 66 (.bool x77::.bool x86::.bool x87::.top::tpg 363 (.agg [.int .i64 0,.int .i64 0,.ro 3 (([]:List TSleeper).length) false (enR c_TSleeper ([]:List TSleeper)),.ro 43 (([]:List TStored).length) false (enR c_TStored ([]:List TStored))]::.int .i64 r88::.bool (bEq r88 8)::.bool (bEq r88 8)::.opt (bEq r88 8) (.agg (.int .u8 0::.int .i64 0::.int .u8 0::.int .u8 0::.bool false::.bool false::.bool false::.bool false::.bool false::.bool false::.bool false::.int .i64 0::.int .u8 0::.int .u8 0::.int .u8 0::.int .u8 0::.int .u8 0::.int .u8 0::.int .u8 0::.int .u8 0::.int .u8 0::.int .u8 0::.int .u8 0::.int .u8 0::.int .u8 0::.int .u8 0::.int .u8 0::.int .u8 0::.int .u8 0::.int .u8 0::.int .u8 0::.int .u8 0::.int .u8 0::.int .u8 0::.int .u8 0::.int .u8 0::.int .i64 0::.int .i64 0::.int .i64 0::.int .u8 0::.bool false::.bool false::.ro 1 (([]:List Int).length) false (enR c_u8 ([]:List Int))::[]))::.opt true (.sl 31 43 0 1 false)::.opt true (.agg [.int .i64 1,.int .i64 1,.ro 3 (([]:List TSleeper).length) false (enR c_TSleeper ([]:List TSleeper)),.sl 31 43 0 1 false])::.opt true (.int .i64 r90)::.opt true (.bool (bEq r90 8))::.bool (bEq r90 8)::.bool (bEq r90 8)::.opt (bEq r90 8) (.agg [.int .i64 2,.bool false,.ro 43 (([]:List TStored).length) false (enR c_TStored ([]:List TStored))])::.opt (bEq r90 8) (.agg [.int .i64 2,.bool false,.ro 43 (([]:List TStored).length) false (enR c_TStored ([]:List TStored))])::.opt true (.sl 32 3 0 2 false)::.opt true (.agg [.int .i64 1,.int .i64 1,.sl 32 3 0 2 false,.ro 43 (([]:List TStored).length) false (enR c_TStored ([]:List TStored))])::.opt true (.int .i64 r92)::.opt true (.bool (bEq r92 8))::.bool (bEq r92 8)::.bool (bEq r92 8)::.opt (bEq r92 8) (.agg (.int .u8 0::.int .i64 0::.int .u8 0::.int .u8 0::.bool false::.bool false::.bool false::.bool false::.bool false::.bool false::.bool false::.int .i64 0::.int .u8 0::.int .u8 0::.int .u8 0::.int .u8 0::.int .u8 0::.int .u8 0::.int .u8 0::.int .u8 0::.int .u8 0::.int .u8 0::.int .u8 0::.int .u8 0::.int .u8 0::.int .u8 0::.int .u8 0::.int .u8 0::.int .u8 0::.int .u8 0::.int .u8 0::.int .u8 0::.int .u8 0::.int .u8 0::.int .u8 0::.int .u8 0::.int .i64 0::.int .i64 0::.int .i64 0::.int .u8 0::.bool false::.bool false::.ro 1 (([]:List Int).length) false (enR c_u8 ([]:List Int))::[]))::tp 25 [])))) (h2:=(.dead::.dead::.dead::.dead::.dead::.dead::.dead::.dead::.dead::.dead::.dead::.dead::.dead::.dead::.dead::.dead::.dead::.dead::.dead::.dead::.dead::.dead::.dead::.dead::.dead::.dead::.dead::.dead::.dead::.dead::.dead::.row 61 43 1 (litC 43 (.int .u8 0::.int .i64 0::.int .u8 0::.int .u8 0::.bool false::.bool false::.bool false::.bool false::.bool false::.bool false::.bool false::.int .i64 0::.int .u8 0::.int .u8 0::.int .u8 0::.int .u8 0::.int .u8 0::.int .u8 0::.int .u8 0::.int .u8 0::.int .u8 0::.int .u8 0::.int .u8 0::.int .u8 0::.int .u8 0::.int .u8 0::.int .u8 0::.int .u8 0::.int .u8 0::.int .u8 0::.int .u8 0::.int .u8 0::.int .u8 0::.int .u8 0::.int .u8 0::.int .u8 0::.int .i64 0::.int .i64 0::.int .i64 0::.int .u8 0::.bool false::.bool false::.ro 1 (([]:List Int).length) false (enR c_u8 ([]:List Int))::[]))::.row 57 3 2 (litC 3 [.int .i64 2,.bool false,.ro 43 (([]:List TStored).length) false (enR c_TStored ([]:List TStored)),.int .i64 2,.bool false,.ro 43 (([]:List TStored).length) false (enR c_TStored ([]:List TStored))])::[])) ?_ ?_
   ·refine SubF_of ⟨[some 0,some 1,some 2,some 3,some 4,some 5,some 6,some 7,some 8,some 9,some 10,some 11,some 12,some 13,some 14,some 15,some 16,some 17,some 18,some 19,some 20,some 21,some 22,some 23,some 24,some 25,some 26,some 27,some 28,some 29,some 30,some 31,some 32],?_,?_,by rfl,by rfl⟩
    ·simp [CvL,Cv,getM,tp,tp,tpg,hg90,hg92]
    ·(repeat (first|refine And.intro (by first|exact CvB_dead|exact CvB_same nfA|(simp [CvB,CvL,Cv,blkAt,geth,getM];done)) ?_|trivial))
   simp only [tp]
   refine bif_split (c:=(bEq r92 8)) (fun hg94=>?_) (fun hg94=>?_)
   ·replace H:=cond_t hg94 H
    refine cutO shT_ok ctNo_ok 2 ?_
    simp only [kO_normal,List.take_succ_cons,List.take_zero,List.drop_succ_cons,List.drop_zero,go_sem,Nat.reduceLeDiff,Nat.reduceAdd,Nat.reduceSub,hg90,hg92,hg94]
    repeat ((with_reducible refine And.intro ?_ ?_);focus exact an4)
    obtain ⟨w95,hw96,H⟩:=bsi H
    replace hw96:=Option.some.inj hw96
    have lhw96:w95.length=1:=by rw [← hw96];exact cl
    obtain ⟨w97,hw98,H⟩:=bsi H
    replace hw98:=Option.some.inj hw98
    have lhw98:w97.length=2:=by rw [← hw98];exact cl
    obtain ⟨w99,hw100,H⟩:=bsi H
    replace hw100:=Option.some.inj hw100
    have lhw100:w99.length=1:=by rw [← hw100];exact cl
    refine subO (t2:=(.top::.top::.bool r1.2::tpg 66 (.bool x77::.bool x86::.bool x87::.top::tpg 363 (tp 18 (.bool (bEq r92 8)::.top::.top::.opt true (.agg [.int .i64 2,.bool false,.sl 33 43 0 w99.length false])::tp 23 []))))) (h2:=(.dead::.dead::.dead::.dead::.dead::.dead::.dead::.dead::.dead::.dead::.dead::.dead::.dead::.dead::.dead::.dead::.dead::.dead::.dead::.dead::.dead::.dead::.dead::.dead::.dead::.dead::.dead::.dead::.dead::.dead::.dead::.row 61 43 w95.length (enR c_TStored w95)::.row 57 3 w97.length (enR c_TSleeper w97)::.row 61 43 w99.length (enR c_TStored w99)::[])) ?_ ?_
    ·refine SubF_of ⟨[some 0,some 1,some 2,some 3,some 4,some 5,some 6,some 7,some 8,some 9,some 10,some 11,some 12,some 13,some 14,some 15,some 16,some 17,some 18,some 19,some 20,some 21,some 22,some 23,some 24,some 25,some 26,some 27,some 28,some 29,some 30,some 31,some 32,some 33],?_,?_,by rfl,by rfl⟩
     ·simp [CvL,Cv,getM,tp,tp,tpg,hg94,lhw100]
     ·exact ⟨CvB_dead,CvB_dead,CvB_dead,CvB_dead,CvB_dead,CvB_dead,CvB_dead,CvB_dead,CvB_dead,CvB_dead,CvB_dead,CvB_dead,CvB_dead,CvB_dead,CvB_dead,CvB_dead,CvB_dead,CvB_dead,CvB_dead,CvB_dead,CvB_dead,CvB_dead,CvB_dead,CvB_dead,CvB_dead,CvB_dead,CvB_dead,CvB_dead,CvB_dead,CvB_dead,CvB_dead,CvB_row nr_TStored lhw96 (hw96 ▸ (lit_row (f:=c_TStored) ([(TStored.mk 0 0 (TFrame.mk (THeader.mk 0 0 false false false false false false false 0 (A6u8.mk 0 0 0 0 0 0) (A6u8.mk 0 0 0 0 0 0) (A6u8.mk 0 0 0 0 0 0) (A6u8.mk 0 0 0 0 0 0) 0 0 0 0 false false) ([]:List Int)))]) (fun _ _=>rfl) rfl)),CvB_row nr_TSleeper lhw98 (hw98 ▸ (lit_row (f:=c_TSleeper) ([(TSleeper.mk 2 false ([]:List TStored)),(TSleeper.mk 2 false ([]:List TStored))]) (fun _ _=>rfl) rfl)),CvB_row nr_TStored lhw100 (hw100 ▸ (lit_row (f:=c_TStored) ([(TStored.mk 0 0 (TFrame.mk (THeader.mk 0 0 false false false false false false false 0 (A6u8.mk 0 0 0 0 0 0) (A6u8.mk 0 0 0 0 0 0) (A6u8.mk 0 0 0 0 0 0) (A6u8.mk 0 0 0 0 0 0) 0 0 0 0 false false) ([]:List Int)))]) (fun _ _=>rfl) rfl)),trivial⟩
    simp only [tp]
    refine fzO [33] ?_ ?_
    ·simp only [go_sem]
     try exact at0
    simp only [go_sem,Nat.reduceBEq,Nat.reduceAdd]
    obtain ⟨r101,e102,H⟩:=bsi H
    refine cutO shT_ok ct10t11_ok 6 ?_
    simp only [kO_normal,List.take_succ_cons,List.take_zero,List.drop_succ_cons,List.drop_zero,go_sem,Nat.reduceLeDiff,Nat.reduceAdd,Nat.reduceSub,reduceCtorEq,ct10t11_18,body18,hg94,e102]
    repeat ((with_reducible refine And.intro ?_ ?_);focus exact an4)
    refine endO ?_
    refine seqM ?_
    obtain ⟨r103,e104,H⟩:=bsi H
    refine rg ct10t12_ok ?_
    simp only [go_sem,Nat.reduceLeDiff,Nat.reduceSub,ct10t12_20,body20,e104]
    repeat ((with_reducible refine And.intro ?_ ?_);focus exact an4)
    refine subF_mean (t2:=(.bool (((((r103 && r1.2) && x77) && x86) && x87) && (bEq r101 8))::tpg 480 [])) (h2:=(.dead::.dead::.dead::.dead::.dead::.dead::.dead::.dead::.dead::.dead::.dead::.dead::.dead::.dead::.dead::.dead::.dead::.dead::.dead::.dead::.dead::.dead::.dead::.dead::.dead::.dead::.dead::.dead::.dead::.dead::.dead::.dead::.dead::.dead::.dead::[])) ?_ ?_
    ·refine SubF_of ⟨[some 0,some 1,some 2,some 3,some 4,some 5,some 6,some 7,some 8,some 9,some 10,some 11,some 12,some 13,some 14,some 15,some 16,some 17,some 18,some 19,some 20,some 21,some 22,some 23,some 24,some 25,some 26,some 27,some 28,some 29,some 30,some 31,some 32,some 33,some 34],?_,?_,by rfl,by rfl⟩
     ·simp [CvL,Cv,tp,tpg]
     ·(repeat (first|refine And.intro (by first|exact CvB_dead|exact CvB_same nfA|(simp [CvB,CvL,Cv,blkAt,geth,getM];done)) ?_|trivial))
    exact ok10_c15 r1 x77 x86 x87 r101 r103 _ H
   replace H:=cond_f hg94 H
   refine cutO shT_ok ctNo_ok 8 ?_
   simp only [kO_normal,List.take_succ_cons,List.take_zero,List.drop_succ_cons,List.drop_zero,go_sem,Nat.reduceLeDiff,Nat.reduceAdd,Nat.reduceSub,Nat.reduceBEq,hg90,hg92,hg94]
   repeat ((with_reducible refine And.intro ?_ ?_);focus exact an4)
   refine endO ?_
   refine seqM ?_
   obtain ⟨r105,e106,H⟩:=bsi H
   refine rg ct10t12_ok ?_
   simp only [go_sem,Nat.reduceLeDiff,Nat.reduceSub,ct10t12_20,body20,e106]
   repeat ((with_reducible refine And.intro ?_ ?_);focus exact an4)
   refine subF_mean (t2:=(.bool (((((r105 && r1.2) && x77) && x86) && x87) && false)::tpg 480 [])) (h2:=(.dead::.dead::.dead::.dead::.dead::.dead::.dead::.dead::.dead::.dead::.dead::.dead::.dead::.dead::.dead::.dead::.dead::.dead::.dead::.dead::.dead::.dead::.dead::.dead::.dead::.dead::.dead::.dead::.dead::.dead::.dead::.dead::.dead::[])) ?_ ?_
   ·refine SubF_of ⟨[some 0,some 1,some 2,some 3,some 4,some 5,some 6,some 7,some 8,some 9,some 10,some 11,some 12,some 13,some 14,some 15,some 16,some 17,some 18,some 19,some 20,some 21,some 22,some 23,some 24,some 25,some 26,some 27,some 28,some 29,some 30,some 31,some 32],?_,?_,by rfl,by rfl⟩
    ·simp [CvL,Cv,tp,tpg]
    ·(repeat (first|refine And.intro (by first|exact CvB_dead|exact CvB_same nfA|(simp [CvB,CvL,Cv,blkAt,geth,getM];done)) ?_|trivial))
   exact ok10_c16 r1 x77 x86 x87 r105 _ H
  replace H:=cond_f hg92 H
  refine cutO shT_ok ct10t11_ok 15 ?_
  simp only [kO_normal,List.take_succ_cons,List.take_zero,List.drop_succ_cons,List.drop_zero,go_sem,Nat.reduceLeDiff,Nat.reduceAdd,Nat.reduceMul,Nat.reduceSub,Nat.reduceBEq,reduceCtorEq,ct10t11_18,body18,hg90,hg92]
  repeat ((with_reducible refine And.intro ?_ ?_);focus exact an4)
  refine endO ?_
  refine seqM ?_
  obtain ⟨r107,e108,H⟩:=bsi H
  refine rg ct10t12_ok ?_
  simp only [go_sem,Nat.reduceLeDiff,Nat.reduceSub,ct10t12_20,body20,e108]
  repeat ((with_reducible refine And.intro ?_ ?_);focus exact an4)
  refine subF_mean (t2:=(.bool (((((r107 && r1.2) && x77) && x86) && x87) && false)::tpg 480 [])) (h2:=(.dead::.dead::.dead::.dead::.dead::.dead::.dead::.dead::.dead::.dead::.dead::.dead::.dead::.dead::.dead::.dead::.dead::.dead::.dead::.dead::.dead::.dead::.dead::.dead::.dead::.dead::.dead::.dead::.dead::.dead::.dead::.dead::[])) ?_ ?_
  ·refine SubF_of ⟨[some 0,some 1,some 2,some 3,some 4,some 5,some 6,some 7,some 8,some 9,some 10,some 11,some 12,some 13,some 14,some 15,some 16,some 17,some 18,some 19,some 20,some 21,some 22,some 23,some 24,some 25,some 26,some 27,some 28,some 29,some 30,some 31],?_,?_,by rfl,by rfl⟩
   ·simp [CvL,Cv,tp,tpg]
   ·(repeat (first|refine And.intro (by first|exact CvB_dead|exact CvB_same nfA|(simp [CvB,CvL,Cv,blkAt,geth,getM];done)) ?_|trivial))
  exact ok10_c17 r1 x77 x86 x87 r107 _ H
 replace H:=cond_f hg90 H
 refine cutO shT_ok ct10t11_ok 23 ?_
 simp only [kO_normal,List.take_succ_cons,List.take_zero,List.drop_succ_cons,List.drop_zero,go_sem,Nat.reduceLeDiff,Nat.reduceAdd,Nat.reduceMul,Nat.reduceSub,Nat.reduceBEq,reduceCtorEq,ct10t11_18,body18,hg90]
 repeat ((with_reducible refine And.intro ?_ ?_);focus exact an4)
 refine endO ?_
 refine seqM ?_
 obtain ⟨r109,e110,H⟩:=bsi H
 refine rg ct10t12_ok ?_
 simp only [go_sem,Nat.reduceLeDiff,Nat.reduceSub,ct10t12_20,body20,e110]
 repeat ((with_reducible refine And.intro ?_ ?_);focus exact an8)
 refine subF_mean (t2:=(.bool (((((r109 && r1.2) && x77) && x86) && x87) && false)::tpg 480 [])) (h2:=(.dead::.dead::.dead::.dead::.dead::.dead::.dead::.dead::.dead::.dead::.dead::.dead::.dead::.dead::.dead::.dead::.dead::.dead::.dead::.dead::.dead::.dead::.dead::.dead::.dead::.dead::.dead::.dead::.dead::.dead::.dead::[])) ?_ ?_
 ·refine SubF_of ⟨[some 0,some 1,some 2,some 3,some 4,some 5,some 6,some 7,some 8,some 9,some 10,some 11,some 12,some 13,some 14,some 15,some 16,some 17,some 18,some 19,some 20,some 21,some 22,some 23,some 24,some 25,some 26,some 27,some 28,some 29,some 30],?_,?_,by rfl,by rfl⟩
  ·simp [CvL,Cv,tp,tpg]
  ·(repeat (first|refine And.intro (by first|exact CvB_dead|exact CvB_same nfA|(simp [CvB,CvL,Cv,blkAt,geth,getM];done)) ?_|trivial))
 exact ok10_c18 r1 x77 x86 x87 r109 _ H
noncomputable def F10_c13 (r1:TBuffer × Bool) (r29:(List TFrame) × (List TFrame) × TBuffer × Int) (r33:(List TFrame) × (List TFrame) × TBuffer × Int) (r41:(List TFrame) × (List TFrame) × TBuffer × Int) (r45:(List TFrame) × (List TFrame) × TBuffer × Int) (r49:(List TFrame) × (List TFrame) × TBuffer × Int) (r53:(List TFrame) × (List TFrame) × TBuffer × Int) (r57:(List TFrame) × (List TFrame) × TBuffer × Int) (r59:TTraffic × Int) (r61:(List TFrame) × TBuffer × Int) (r63:(List TFrame) × TBuffer × Int) (r65:(List TFrame) × TBuffer × Int) (x76:Bool) (x77:Bool):Option (Bool) :=
 need (bif ((((((((bEq r29.2.2.2 0) && (bEq (r29.1.length:Nat) 1)) && (bEq (r29.2.1.length:Nat) 0)) && (bEq r33.2.2.2 0)) && (bEq r41.2.2.2 0)) && (bEq r45.2.2.2 0)) && (bEq r49.2.2.2 0)) && (bEq (r49.2.1.length:Nat) 1)) then inb 0 r49.2.1.length else true) <| need (bif ((((((((bEq r29.2.2.2 0) && (bEq (r29.1.length:Nat) 1)) && (bEq (r29.2.1.length:Nat) 0)) && (bEq r33.2.2.2 0)) && (bEq r41.2.2.2 0)) && (bEq r45.2.2.2 0)) && (bEq r49.2.2.2 0)) && (bEq (r49.2.1.length:Nat) 1)) then ((F38 (eF (gd r49.2.1 0))).isSome) else true) <| need (bif (((bEq r59.2 0) && r59.1.Group) && (bEq (r59.1.Aids.length:Nat) 1)) then inb 0 r59.1.Aids.length else true) <| need (bif ((((((bEq r59.2 0) && r59.1.Group) && (bEq (r59.1.Aids.length:Nat) 1)) && (bEq (gd r59.1.Aids 0) 1)) && (bEq r61.2.2 0)) && (bEq (r61.1.length:Nat) 2)) then inb 0 r61.1.length else true) <| need (bif ((((((bEq r59.2 0) && r59.1.Group) && (bEq (r59.1.Aids.length:Nat) 1)) && (bEq (gd r59.1.Aids 0) 1)) && (bEq r61.2.2 0)) && (bEq (r61.1.length:Nat) 2)) then ((F38 (eF (gd r61.1 0))).isSome) else true) <| need (bif (((((((bEq r59.2 0) && r59.1.Group) && (bEq (r59.1.Aids.length:Nat) 1)) && (bEq (gd r59.1.Aids 0) 1)) && (bEq r61.2.2 0)) && (bEq (r61.1.length:Nat) 2)) && (bEq (gt (F38 (eF (gd r61.1 0)))) 5)) then inb 1 r61.1.length else true) <| need (bif (((((((bEq r59.2 0) && r59.1.Group) && (bEq (r59.1.Aids.length:Nat) 1)) && (bEq (gd r59.1.Aids 0) 1)) && (bEq r61.2.2 0)) && (bEq (r61.1.length:Nat) 2)) && (bEq (gt (F38 (eF (gd r61.1 0)))) 5)) then ((F38 (eF (gd r61.1 1))).isSome) else true) <| need (bif (((((((((((((bEq r59.2 0) && r59.1.Group) && (bEq (r59.1.Aids.length:Nat) 1)) && (bEq (gd r59.1.Aids 0) 1)) && (bEq r61.2.2 0)) && (bEq (r61.1.length:Nat) 2)) && (bEq (gt (F38 (eF (gd r61.1 0)))) 5)) && (bEq (gt (F38 (eF (gd r61.1 1)))) 6)) && (bEq r63.2.2 0)) && x76) && (bEq (r63.2.1.Group.length:Nat) 0)) && (bEq r65.2.2 0)) && (bEq (r65.1.length:Nat) 5)) then inb 0 r65.1.length else true) <| F10_c14 r1 x77 (((((((((((bEq r29.2.2.2 0) && (bEq (r29.1.length:Nat) 1)) && (bEq (r29.2.1.length:Nat) 0)) && (bEq r33.2.2.2 0)) && (bEq r41.2.2.2 0)) && (bEq r45.2.2.2 0)) && (bEq r49.2.2.2 0)) && (bEq (r49.2.1.length:Nat) 1)) && (bEq (gt (F38 (eF (gd r49.2.1 0)))) 8)) && (bEq r53.2.2.2 0)) && (bEq r57.2.2.2 0)) ((((((((((((((bEq r59.2 0) && r59.1.Group) && (bEq (r59.1.Aids.length:Nat) 1)) && (bEq (gd r59.1.Aids 0) 1)) && (bEq r61.2.2 0)) && (bEq (r61.1.length:Nat) 2)) && (bEq (gt (F38 (eF (gd r61.1 0)))) 5)) && (bEq (gt (F38 (eF (gd r61.1 1)))) 6)) && (bEq r63.2.2 0)) && x76) && (bEq (r63.2.1.Group.length:Nat) 0)) && (bEq r65.2.2 0)) && (bEq (r65.1.length:Nat) 5)) && (!(((gd r65.1 0).Head).MoreData)))
theorem ok10_c13 (r1:TBuffer × Bool) (r29:(List TFrame) × (List TFrame) × TBuffer × Int) (r33:(List TFrame) × (List TFrame) × TBuffer × Int) (r41:(List TFrame) × (List TFrame) × TBuffer × Int) (r45:(List TFrame) × (List TFrame) × TBuffer × Int) (r49:(List TFrame) × (List TFrame) × TBuffer × Int) (r53:(List TFrame) × (List TFrame) × TBuffer × Int) (r57:(List TFrame) × (List TFrame) × TBuffer × Int) (r59:TTraffic × Int) (r61:(List TFrame) × TBuffer × Int) (r63:(List TFrame) × TBuffer × Int) (r65:(List TFrame) × TBuffer × Int) (x76:Bool) (x77:Bool) (r:Bool) (H:F10_c13 r1 r29 r33 r41 r45 r49 r53 r57 r59 r61 r63 r65 x76 x77=some r):Mean Try.prog (ctl 26 (bdy Try.f10)) (kRet Try.prog [.tmp 0] (fun v' _=>v' = .bool r)) (.top::.top::.bool r1.2::tpg 27 (.ro 41 r29.1.length false (enR c_TFrame r29.1)::.ro 41 r29.2.1.length false (enR c_TFrame r29.2.1)::.top::.int .i64 r29.2.2.2::.top::.top::.top::.int .i64 r33.2.2.2::tp 6 (.int .i64 r41.2.2.2::.top::.top::.int .i64 r45.2.2.2::.top::.ro 41 r49.2.1.length false (enR c_TFrame r49.2.1)::.int .i64 r49.2.2.2::.top::.top::.int .i64 r53.2.2.2::.top::.top::.int .i64 r57.2.2.2::.ptr 27 0 0 0::.int .i64 r59.2::.ro 41 r61.1.length false (enR c_TFrame r61.1)::.top::.int .i64 r61.2.2::.top::.ptr 29 0 0 0::.int .i64 r63.2.2::.ro 41 r65.1.length false (enR c_TFrame r65.1)::.top::.int .i64 r65.2.2::.bool x76::.bool x77::.top::.top::tpg 244 (tp 120 (tpg 45 []))))) (.dead::.dead::.dead::.dead::.dead::.dead::.dead::.dead::.dead::.dead::.dead::.dead::.dead::.dead::.dead::.dead::.dead::.dead::.dead::.dead::.dead::.dead::.dead::.dead::.dead::.dead::.row 3 1 r59.1.Aids.length (enR c_i64 r59.1.Aids)::.lit 41 [.bool r59.1.Group,.sl 26 1 0 r59.1.Aids.length false]::.dead::.lit 25 [.int .i64 r63.2.1.Limit,.int .i64 r63.2.1.Stay,.ro 3 r63.2.1.List.length false (enR c_TSleeper r63.2.1.List),.ro 43 r63.2.1.Group.length false (enR c_TStored r63.2.1.Group)]::.dead::[]):=by
 conv=>arg 2;whnf
 simp only [tp]
 unfold F10_c13 at H
 delta eF at H
 try dsimp only at H
 refine seqM ?_
 obtain ⟨f78,H⟩:=need_some.1 H
 replace f78:=g_iff.1 f78
 replace f78:=fun g=>inb_iff.1 (f78 g)
 obtain ⟨f79,H⟩:=need_some.1 H
 replace f79:=g_iff.1 f79
 refine rg ct10t10_ok ?_
 simp only [go_sem,Nat.reduceLeDiff,Nat.reduceLT,Nat.reduceAdd,Nat.reduceSub,ct10t10_38,body38]
 repeat ((with_reducible refine And.intro ?_ ?_);focus (first|(with_reducible trivial)|omega|exact f78|exact f79|(intro g;have q:=f78 (by first|exact g|(rw [g];rfl)|simpa using g);first|exact q|exact ⟨q.1,q.2.1⟩|exact q.2.2|omega|exact ⟨g,q⟩|exact ⟨trivial,q⟩|exact ⟨g,q.1,q.2.1⟩|exact ⟨g,q.2.2⟩)|(intro g;have q:=f79 (by first|exact g|(rw [g];rfl)|simpa using g);first|exact q|exact ⟨q.1,q.2.1⟩|exact q.2.2|omega|exact ⟨g,q⟩|exact ⟨trivial,q⟩|exact ⟨g,q.1,q.2.1⟩|exact ⟨g,q.2.2⟩)|(intro g;(try have q0:=f78 (by first|exact g|(rw [g];rfl)|simpa using g));(try have q1:=f79 (by first|exact g|(rw [g];rfl)|simpa using g));and_intros<;>first|(with_reducible trivial)|assumption|exact nfc|(intro g2;rw [g,g2];rfl)|(intro g2;assumption)|(simp only [g,Bool.true_and,Bool.and_true,Bool.not_false,Bool.not_true];assumption)|grind)|(and_intros<;>first|(with_reducible trivial)|omega|assumption|exact nfc|first|exact rfl|exact trivial|exact fitI|exact .inr rfl|exact .inl rfl|exact fun x hx=>absurd hx (by omega))|grind))
 refine seqM ?_
 obtain ⟨f80,H⟩:=need_some.1 H
 replace f80:=g_iff.1 f80
 replace f80:=fun g=>inb_iff.1 (f80 g)
 obtain ⟨f81,H⟩:=need_some.1 H
 replace f81:=g_iff.1 f81
 replace f81:=fun g=>inb_iff.1 (f81 g)
 obtain ⟨f82,H⟩:=need_some.1 H
 replace f82:=g_iff.1 f82
 obtain ⟨f83,H⟩:=need_some.1 H
 replace f83:=g_iff.1 f83
 replace f83:=fun g=>inb_iff.1 (f83 g)
 obtain ⟨f84,H⟩:=need_some.1 H
 replace f84:=g_iff.1 f84
 obtain ⟨f85,H⟩:=need_some.1 H
 replace f85:=g_iff.1 f85
 replace f85:=fun g=>inb_iff.1 (f85 g)
 refine rg ct10t10_ok ?_
 simp (maxSteps:=3000000) only [go_sem,Nat.reduceLeDiff,Nat.reduceLT,Nat.reduceAdd,Nat.reduceSub,Int.reduceToNat,reduceCtorEq,ct10t10_38,body38,List.append_eq,List.cons_append,List.nil_append]
 repeat ((with_reducible refine And.intro ?_ ?_);focus (first|(with_reducible trivial)|omega|exact f80|exact f81|exact f82|exact f83|exact f84|exact f85|(intro g;have q:=f80 (by first|exact g|(rw [g];rfl)|simpa using g);first|exact q|exact ⟨q.1,q.2.1⟩|exact q.2.2|omega|exact ⟨g,q⟩|exact ⟨trivial,q⟩|exact ⟨g,q.1,q.2.1⟩|exact ⟨g,q.2.2⟩)|(intro g;have q:=f81 (by first|exact g|(rw [g];rfl)|simpa using g);first|exact q|exact ⟨q.1,q.2.1⟩|exact q.2.2|omega|exact ⟨g,q⟩|exact ⟨trivial,q⟩|exact ⟨g,q.1,q.2.1⟩|exact ⟨g,q.2.2⟩)|(intro g;have q:=f82 (by first|exact g|(rw [g];rfl)|simpa using g);first|exact q|exact ⟨q.1,q.2.1⟩|exact q.2.2|omega|exact ⟨g,q⟩|exact ⟨trivial,q⟩|exact ⟨g,q.1,q.2.1⟩|exact ⟨g,q.2.2⟩)|(intro g;have q:=f83 (by first|exact g|(rw [g];rfl)|simpa using g);first|exact q|exact ⟨q.1,q.2.1⟩|exact q.2.2|omega|exact ⟨g,q⟩|exact ⟨trivial,q⟩|exact ⟨g,q.1,q.2.1⟩|exact ⟨g,q.2.2⟩)|(intro g;have q:=f84 (by first|exact g|(rw [g];rfl)|simpa using g);first|exact q|exact ⟨q.1,q.2.1⟩|exact q.2.2|omega|exact ⟨g,q⟩|exact ⟨trivial,q⟩|exact ⟨g,q.1,q.2.1⟩|exact ⟨g,q.2.2⟩)|(intro g;have q:=f85 (by first|exact g|(rw [g];rfl)|simpa using g);first|exact q|exact ⟨q.1,q.2.1⟩|exact q.2.2|omega|exact ⟨g,q⟩|exact ⟨trivial,q⟩|exact ⟨g,q.1,q.2.1⟩|exact ⟨g,q.2.2⟩)|(intro g;(try have q0:=f80 (by first|exact g|(rw [g];rfl)|simpa using g));(try have q1:=f81 (by first|exact g|(rw [g];rfl)|simpa using g));(try have q2:=f82 (by first|exact g|(rw [g];rfl)|simpa using g));(try have q3:=f83 (by first|exact g|(rw [g];rfl)|simpa using g));(try have q4:=f84 (by first|exact g|(rw [g];rfl)|simpa using g));(try have q5:=f85 (by first|exact g|(rw [g];rfl)|simpa using g));and_intros<;>first|(with_reducible trivial)|assumption|exact nfc|(intro g2;rw [g,g2];rfl)|(intro g2;assumption)|(simp only [g,Bool.true_and,Bool.and_true,Bool.not_false,Bool.not_true];assumption)|grind)|(and_intros<;>first|(with_reducible trivial)|omega|assumption|exact nfc|first|exact rfl|exact trivial|exact fitI|exact .inr rfl|exact .inl rfl|exact fun x hx=>absurd hx (by omega))|grind))
 refine subF_mean (t2:=(.top::.top::.bool r1.2::tpg 66 (.bool x77::.bool (((((((((((bEq r29.2.2.2 0) && (bEq (r29.1.length:Nat) 1)) && (bEq (r29.2.1.length:Nat) 0)) && (bEq r33.2.2.2 0)) && (bEq r41.2.2.2 0)) && (bEq r45.2.2.2 0)) && (bEq r49.2.2.2 0)) && (bEq (r49.2.1.length:Nat) 1)) && (bEq (gt (F38 (eF (gd r49.2.1 0)))) 8)) && (bEq r53.2.2.2 0)) && (bEq r57.2.2.2 0))::.bool ((((((((((((((bEq r59.2 0) && r59.1.Group) && (bEq (r59.1.Aids.length:Nat) 1)) && (bEq (gd r59.1.Aids 0) 1)) && (bEq r61.2.2 0)) && (bEq (r61.1.length:Nat) 2)) && (bEq (gt (F38 (eF (gd r61.1 0)))) 5)) && (bEq (gt (F38 (eF (gd r61.1 1)))) 6)) && (bEq r63.2.2 0)) && x76) && (bEq (r63.2.1.Group.length:Nat) 0)) && (bEq r65.2.2 0)) && (bEq (r65.1.length:Nat) 5)) && (!(((gd r65.1 0).Head).MoreData)))::.top::tpg 363 (tp 45 [])))) (h2:=(.dead::.dead::.dead::.dead::.dead::.dead::.dead::.dead::.dead::.dead::.dead::.dead::.dead::.dead::.dead::.dead::.dead::.dead::.dead::.dead::.dead::.dead::.dead::.dead::.dead::.dead::.dead::.dead::.dead::.dead::.dead::[])) ?_ ?_
 ·refine SubF_of ⟨[some 0,some 1,some 2,some 3,some 4,some 5,some 6,some 7,some 8,some 9,some 10,some 11,some 12,some 13,some 14,some 15,some 16,some 17,some 18,some 19,some 20,some 21,some 22,some 23,some 24,some 25,some 26,some 27,some 28,some 29,some 30],?_,?_,by rfl,by rfl⟩
  ·simp [CvL,Cv,tp,tp,tpg]
  ·(repeat (first|refine And.intro (by first|exact CvB_dead|exact CvB_same nfA|(simp [CvB,CvL,Cv,blkAt,geth,getM];done)) ?_|trivial))
 exact ok10_c14 r1 x77 (((((((((((bEq r29.2.2.2 0) && (bEq (r29.1.length:Nat) 1)) && (bEq (r29.2.1.length:Nat) 0)) && (bEq r33.2.2.2 0)) && (bEq r41.2.2.2 0)) && (bEq r45.2.2.2 0)) && (bEq r49.2.2.2 0)) && (bEq (r49.2.1.length:Nat) 1)) && (bEq (gt (F38 (eF (gd r49.2.1 0)))) 8)) && (bEq r53.2.2.2 0)) && (bEq r57.2.2.2 0)) ((((((((((((((bEq r59.2 0) && r59.1.Group) && (bEq (r59.1.Aids.length:Nat) 1)) && (bEq (gd r59.1.Aids 0) 1)) && (bEq r61.2.2 0)) && (bEq (r61.1.length:Nat) 2)) && (bEq (gt (F38 (eF (gd r61.1 0)))) 5)) && (bEq (gt (F38 (eF (gd r61.1 1)))) 6)) && (bEq r63.2.2 0)) && x76) && (bEq (r63.2.1.Group.length:Nat) 0)) && (bEq r65.2.2 0)) && (bEq (r65.1.length:Nat) 5)) && (!(((gd r65.1 0).Head).MoreData))) _ H
noncomputable def F10_c12 (r1:TBuffer × Bool) (r3:TBuffer × Int) (r5:TBuffer × Int) (r7:TBuffer × Int) (r9:TBuffer × Int) (r11:TBuffer × Int) (r13:(List TFrame) × TBuffer × Int) (r15:TFrame × TBuffer × Int) (r17:TFrame × TBuffer × Int) (r21:(List TFrame) × (List TFrame) × TBuffer × Int) (r25:(List TFrame) × (List TFrame) × TBuffer × Int) (r29:(List TFrame) × (List TFrame) × TBuffer × Int) (r33:(List TFrame) × (List TFrame) × TBuffer × Int) (r37:(List TFrame) × (List TFrame) × TBuffer × Int) (r41:(List TFrame) × (List TFrame) × TBuffer × Int) (r45:(List TFrame) × (List TFrame) × TBuffer × Int) (r49:(List TFrame) × (List TFrame) × TBuffer × Int) (r53:(List TFrame) × (List TFrame) × TBuffer × Int) (r57:(List TFrame) × (List TFrame) × TBuffer × Int) (r59:TTraffic × Int) (r61:(List TFrame) × TBuffer × Int) (r63:(List TFrame) × TBuffer × Int) (r65:(List TFrame) × TBuffer × Int):Option (Bool) :=
 need (bif (bEq (r63.1.length:Nat) 5) then inb 0 r63.1.length else true) <| need (bif ((bEq (r63.1.length:Nat) 5) && ((gd r63.1 0).Head).MoreData) then inb 1 r63.1.length else true) <| need (bif (((bEq (r63.1.length:Nat) 5) && ((gd r63.1 0).Head).MoreData) && ((gd r63.1 1).Head).MoreData) then inb 2 r63.1.length else true) <| need (bif ((((bEq (r63.1.length:Nat) 5) && ((gd r63.1 0).Head).MoreData) && ((gd r63.1 1).Head).MoreData) && (!(((gd r63.1 2).Head).MoreData))) then inb 3 r63.1.length else true) <| need (bif (((((bEq (r63.1.length:Nat) 5) && ((gd r63.1 0).Head).MoreData) && ((gd r63.1 1).Head).MoreData) && (!(((gd r63.1 2).Head).MoreData))) && ((gd r63.1 3).Head).MoreData) then inb 4 r63.1.length else true) <| need (bif ((((((bEq (r63.1.length:Nat) 5) && ((gd r63.1 0).Head).MoreData) && ((gd r63.1 1).Head).MoreData) && (!(((gd r63.1 2).Head).MoreData))) && ((gd r63.1 3).Head).MoreData) && (!(((gd r63.1 4).Head).MoreData))) then inb 2 r63.1.length else true) <| need (bif ((((((bEq (r63.1.length:Nat) 5) && ((gd r63.1 0).Head).MoreData) && ((gd r63.1 1).Head).MoreData) && (!(((gd r63.1 2).Head).MoreData))) && ((gd r63.1 3).Head).MoreData) && (!(((gd r63.1 4).Head).MoreData))) then ((F38 (eF (gd r63.1 2))).isSome) else true) <| need (bif (((((((bEq (r63.1.length:Nat) 5) && ((gd r63.1 0).Head).MoreData) && ((gd r63.1 1).Head).MoreData) && (!(((gd r63.1 2).Head).MoreData))) && ((gd r63.1 3).Head).MoreData) && (!(((gd r63.1 4).Head).MoreData))) && (bEq (gt (F38 (eF (gd r63.1 2)))) 7)) then inb 4 r63.1.length else true) <| need (bif (((((((bEq (r63.1.length:Nat) 5) && ((gd r63.1 0).Head).MoreData) && ((gd r63.1 1).Head).MoreData) && (!(((gd r63.1 2).Head).MoreData))) && ((gd r63.1 3).Head).MoreData) && (!(((gd r63.1 4).Head).MoreData))) && (bEq (gt (F38 (eF (gd r63.1 2)))) 7)) then ((F38 (eF (gd r63.1 4))).isSome) else true) <| F10_c13 r1 r29 r33 r41 r45 r49 r53 r57 r59 r61 r63 r65 ((((((((bEq (r63.1.length:Nat) 5) && ((gd r63.1 0).Head).MoreData) && ((gd r63.1 1).Head).MoreData) && (!(((gd r63.1 2).Head).MoreData))) && ((gd r63.1 3).Head).MoreData) && (!(((gd r63.1 4).Head).MoreData))) && (bEq (gt (F38 (eF (gd r63.1 2)))) 7)) && (bEq (gt (F38 (eF (gd r63.1 4)))) 10)) (((((((((((bEq r3.2 2) && (bEq r5.2 2)) && (bEq r7.2 2)) && (bEq r9.2 20)) && (bEq r11.2 2)) && (bEq r13.2.2 6)) && (bEq r15.2.2 20)) && (bEq r17.2.2 6)) && (bEq r21.2.2.2 2)) && (bEq r25.2.2.2 2)) && (bEq r37.2.2.2 20))
theorem ok10_c12 (r1:TBuffer × Bool) (r3:TBuffer × Int) (r5:TBuffer × Int) (r7:TBuffer × Int) (r9:TBuffer × Int) (r11:TBuffer × Int) (r13:(List TFrame) × TBuffer × Int) (r15:TFrame × TBuffer × Int) (r17:TFrame × TBuffer × Int) (r21:(List TFrame) × (List TFrame) × TBuffer × Int) (r25:(List TFrame) × (List TFrame) × TBuffer × Int) (r29:(List TFrame) × (List TFrame) × TBuffer × Int) (r33:(List TFrame) × (List TFrame) × TBuffer × Int) (r37:(List TFrame) × (List TFrame) × TBuffer × Int) (r41:(List TFrame) × (List TFrame) × TBuffer × Int) (r45:(List TFrame) × (List TFrame) × TBuffer × Int) (r49:(List TFrame) × (List TFrame) × TBuffer × Int) (r53:(List TFrame) × (List TFrame) × TBuffer × Int) (r57:(List TFrame) × (List TFrame) × TBuffer × Int) (r59:TTraffic × Int) (r61:(List TFrame) × TBuffer × Int) (r63:(List TFrame) × TBuffer × Int) (r65:(List TFrame) × TBuffer × Int) (r:Bool) (H:F10_c12 r1 r3 r5 r7 r9 r11 r13 r15 r17 r21 r25 r29 r33 r37 r41 r45 r49 r53 r57 r59 r61 r63 r65=some r):Mean Try.prog (ctl 24 (bdy Try.f10)) (kRet Try.prog [.tmp 0] (fun v' _=>v' = .bool r)) (.top::.top::.bool r1.2::.top::.int .i64 r3.2::.top::.int .i64 r5.2::.top::.int .i64 r7.2::.top::.int .i64 r9.2::.top::.int .i64 r11.2::.top::.top::.int .i64 r13.2.2::.top::.top::.int .i64 r15.2.2::.top::.top::.int .i64 r17.2.2::.top::.top::.top::.int .i64 r21.2.2.2::.top::.top::.top::.int .i64 r25.2.2.2::.ro 41 r29.1.length false (enR c_TFrame r29.1)::.ro 41 r29.2.1.length false (enR c_TFrame r29.2.1)::.top::.int .i64 r29.2.2.2::.top::.top::.top::.int .i64 r33.2.2.2::.top::.top::.top::.int .i64 r37.2.2.2::.top::.top::.int .i64 r41.2.2.2::.top::.top::.int .i64 r45.2.2.2::.top::.ro 41 r49.2.1.length false (enR c_TFrame r49.2.1)::.int .i64 r49.2.2.2::.top::.top::.int .i64 r53.2.2.2::.top::.top::.int .i64 r57.2.2.2::.ptr 27 0 0 0::.int .i64 r59.2::.ro 41 r61.1.length false (enR c_TFrame r61.1)::.top::.int .i64 r61.2.2::.ro 41 r63.1.length false (enR c_TFrame r63.1)::.ptr 29 0 0 0::.int .i64 r63.2.2::.ro 41 r65.1.length false (enR c_TFrame r65.1)::.top::.int .i64 r65.2.2::.top::.top::tpg 150 (tp 96 (tpg 165 []))) (.dead::.dead::.dead::.dead::.dead::.dead::.dead::.dead::.dead::.dead::.dead::.dead::.dead::.dead::.dead::.dead::.dead::.dead::.dead::.dead::.dead::.dead::.dead::.dead::.dead::.dead::.row 3 1 r59.1.Aids.length (enR c_i64 r59.1.Aids)::.lit 41 [.bool r59.1.Group,.sl 26 1 0 r59.1.Aids.length false]::.dead::.lit 25 [.int .i64 r63.2.1.Limit,.int .i64 r63.2.1.Stay,.ro 3 r63.2.1.List.length false (enR c_TSleeper r63.2.1.List),.ro 43 r63.2.1.Group.length false (enR c_TStored r63.2.1.Group)]::.dead::[]):=by
 conv=>arg 2;whnf
 simp only [tp]
 unfold F10_c12 at H
 delta eF at H
 try dsimp only at H
 refine seqM ?_
 obtain ⟨f67,H⟩:=need_some.1 H
 replace f67:=g_iff.1 f67
 replace f67:=fun g=>inb_iff.1 (f67 g)
 obtain ⟨f68,H⟩:=need_some.1 H
 replace f68:=g_iff.1 f68
 replace f68:=fun g=>inb_iff.1 (f68 g)
 obtain ⟨f69,H⟩:=need_some.1 H
 replace f69:=g_iff.1 f69
 replace f69:=fun g=>inb_iff.1 (f69 g)
 obtain ⟨f70,H⟩:=need_some.1 H
 replace f70:=g_iff.1 f70
 replace f70:=fun g=>inb_iff.1 (f70 g)
 obtain ⟨f71,H⟩:=need_some.1 H
 replace f71:=g_iff.1 f71
 replace f71:=fun g=>inb_iff.1 (f71 g)
 obtain ⟨f72,H⟩:=need_some.1 H
 replace f72:=g_iff.1 f72
 replace f72:=fun g=>inb_iff.1 (f72 g)
 obtain ⟨f73,H⟩:=need_some.1 H
 replace f73:=g_iff.1 f73
 obtain ⟨f74,H⟩:=need_some.1 H
 replace f74:=g_iff.1 f74
 replace f74:=fun g=>inb_iff.1 (f74 g)
 obtain ⟨f75,H⟩:=need_some.1 H
 replace f75:=g_iff.1 f75
 refine rg ct10t10_ok ?_
 simp only [go_sem,Nat.reduceLeDiff,Nat.reduceLT,Nat.reduceAdd,Nat.reduceSub,Int.reduceToNat,reduceCtorEq,ct10t10_38,body38]
 repeat ((with_reducible refine And.intro ?_ ?_);focus (first|(with_reducible trivial)|omega|exact f67|exact f68|exact f69|exact f70|exact f71|exact f72|exact f73|exact f74|exact f75|(intro g;have q:=f67 (by first|exact g|(rw [g];rfl)|simpa using g);first|exact q|exact ⟨q.1,q.2.1⟩|exact q.2.2|omega|exact ⟨g,q⟩|exact ⟨trivial,q⟩|exact ⟨g,q.1,q.2.1⟩|exact ⟨g,q.2.2⟩)|(intro g;have q:=f68 (by first|exact g|(rw [g];rfl)|simpa using g);first|exact q|exact ⟨q.1,q.2.1⟩|exact q.2.2|omega|exact ⟨g,q⟩|exact ⟨trivial,q⟩|exact ⟨g,q.1,q.2.1⟩|exact ⟨g,q.2.2⟩)|(intro g;have q:=f69 (by first|exact g|(rw [g];rfl)|simpa using g);first|exact q|exact ⟨q.1,q.2.1⟩|exact q.2.2|omega|exact ⟨g,q⟩|exact ⟨trivial,q⟩|exact ⟨g,q.1,q.2.1⟩|exact ⟨g,q.2.2⟩)|(intro g;have q:=f70 (by first|exact g|(rw [g];rfl)|simpa using g);first|exact q|exact ⟨q.1,q.2.1⟩|exact q.2.2|omega|exact ⟨g,q⟩|exact ⟨trivial,q⟩|exact ⟨g,q.1,q.2.1⟩|exact ⟨g,q.2.2⟩)|(intro g;have q:=f71 (by first|exact g|(rw [g];rfl)|simpa using g);first|exact q|exact ⟨q.1,q.2.1⟩|exact q.2.2|omega|exact ⟨g,q⟩|exact ⟨trivial,q⟩|exact ⟨g,q.1,q.2.1⟩|exact ⟨g,q.2.2⟩)|(intro g;have q:=f72 (by first|exact g|(rw [g];rfl)|simpa using g);first|exact q|exact ⟨q.1,q.2.1⟩|exact q.2.2|omega|exact ⟨g,q⟩|exact ⟨trivial,q⟩|exact ⟨g,q.1,q.2.1⟩|exact ⟨g,q.2.2⟩)|(intro g;have q:=f73 (by first|exact g|(rw [g];rfl)|simpa using g);first|exact q|exact ⟨q.1,q.2.1⟩|exact q.2.2|omega|exact ⟨g,q⟩|exact ⟨trivial,q⟩|exact ⟨g,q.1,q.2.1⟩|exact ⟨g,q.2.2⟩)|(intro g;have q:=f74 (by first|exact g|(rw [g];rfl)|simpa using g);first|exact q|exact ⟨q.1,q.2.1⟩|exact q.2.2|omega|exact ⟨g,q⟩|exact ⟨trivial,q⟩|exact ⟨g,q.1,q.2.1⟩|exact ⟨g,q.2.2⟩)|(intro g;have q:=f75 (by first|exact g|(rw [g];rfl)|simpa using g);first|exact q|exact ⟨q.1,q.2.1⟩|exact q.2.2|omega|exact ⟨g,q⟩|exact ⟨trivial,q⟩|exact ⟨g,q.1,q.2.1⟩|exact ⟨g,q.2.2⟩)|(intro g;(try have q0:=f67 (by first|exact g|(rw [g];rfl)|simpa using g));(try have q1:=f68 (by first|exact g|(rw [g];rfl)|simpa using g));(try have q2:=f69 (by first|exact g|(rw [g];rfl)|simpa using g));(try have q3:=f70 (by first|exact g|(rw [g];rfl)|simpa using g));(try have q4:=f71 (by first|exact g|(rw [g];rfl)|simpa using g));(try have q5:=f72 (by first|exact g|(rw [g];rfl)|simpa using g));(try have q6:=f73 (by first|exact g|(rw [g];rfl)|simpa using g));(try have q7:=f74 (by first|exact g|(rw [g];rfl)|simpa using g));(try have q8:=f75 (by first|exact g|(rw [g];rfl)|simpa using g));and_intros<;>first|(with_reducible trivial)|assumption|exact nfc|(intro g2;rw [g,g2];rfl)|(intro g2;assumption)|(simp only [g,Bool.true_and,Bool.and_true,Bool.not_false,Bool.not_true];assumption)|grind)|(and_intros<;>first|(with_reducible trivial)|omega|assumption|exact nfc|first|exact rfl|exact trivial|exact fitI|exact .inr rfl|exact .inl rfl|exact fun x hx=>absurd hx (by omega))|grind))
 refine sq ctNo_ok ?_
 simp only [go_sem,Nat.reduceLeDiff,Nat.reduceSub]
 repeat ((with_reducible refine And.intro ?_ ?_);focus exact an6)
 refine subF_mean (t2:=(.top::.top::.bool r1.2::tpg 27 (.ro 41 r29.1.length false (enR c_TFrame r29.1)::.ro 41 r29.2.1.length false (enR c_TFrame r29.2.1)::.top::.int .i64 r29.2.2.2::.top::.top::.top::.int .i64 r33.2.2.2::tp 6 (.int .i64 r41.2.2.2::.top::.top::.int .i64 r45.2.2.2::.top::.ro 41 r49.2.1.length false (enR c_TFrame r49.2.1)::.int .i64 r49.2.2.2::.top::.top::.int .i64 r53.2.2.2::.top::.top::.int .i64 r57.2.2.2::.ptr 27 0 0 0::.int .i64 r59.2::.ro 41 r61.1.length false (enR c_TFrame r61.1)::.top::.int .i64 r61.2.2::.top::.ptr 29 0 0 0::.int .i64 r63.2.2::.ro 41 r65.1.length false (enR c_TFrame r65.1)::.top::.int .i64 r65.2.2::.bool ((((((((bEq (r63.1.length:Nat) 5) && ((gd r63.1 0).Head).MoreData) && ((gd r63.1 1).Head).MoreData) && (!(((gd r63.1 2).Head).MoreData))) && ((gd r63.1 3).Head).MoreData) && (!(((gd r63.1 4).Head).MoreData))) && (bEq (gt (F38 (eF (gd r63.1 2)))) 7)) && (bEq (gt (F38 (eF (gd r63.1 4)))) 10))::.bool (((((((((((bEq r3.2 2) && (bEq r5.2 2)) && (bEq r7.2 2)) && (bEq r9.2 20)) && (bEq r11.2 2)) && (bEq r13.2.2 6)) && (bEq r15.2.2 20)) && (bEq r17.2.2 6)) && (bEq r21.2.2.2 2)) && (bEq r25.2.2.2 2)) && (bEq r37.2.2.2 20))::.top::.top::tpg 244 (tp 120 (tpg 45 [])))))) (h2:=(.dead::.dead::.dead::.dead::.dead::.dead::.dead::.dead::.dead::.dead::.dead::.dead::.dead::.dead::.dead::.dead::.dead::.dead::.dead::.dead::.dead::.dead::.dead::.dead::.dead::.dead::.row 3 1 r59.1.Aids.length (enR c_i64 r59.1.Aids)::.lit 41 [.bool r59.1.Group,.sl 26 1 0 r59.1.Aids.length false]::.dead::.lit 25 [.int .i64 r63.2.1.Limit,.int .i64 r63.2.1.Stay,.ro 3 r63.2.1.List.length false (enR c_TSleeper r63.2.1.List),.ro 43 r63.2.1.Group.length false (enR c_TStored r63.2.1.Group)]::.dead::[])) ?_ ?_
 ·refine SubF_of ⟨[some 0,some 1,some 2,some 3,some 4,some 5,some 6,some 7,some 8,some 9,some 10,some 11,some 12,some 13,some 14,some 15,some 16,some 17,some 18,some 19,some 20,some 21,some 22,some 23,some 24,some 25,some 26,some 27,some 28,some 29,some 30],?_,?_,by rfl,by rfl⟩
  ·simp [CvL,Cv,getM,tp,tp,tpg]
  ·(repeat (first|refine And.intro (by first|exact CvB_dead|exact CvB_same nfA|(simp [CvB,CvL,Cv,blkAt,geth,getM];done)) ?_|trivial))
 exact ok10_c13 r1 r29 r33 r41 r45 r49 r53 r57 r59 r61 r63 r65 ((((((((bEq (r63.1.length:Nat) 5) && ((gd r63.1 0).Head).MoreData) && ((gd r63.1 1).Head).MoreData) && (!(((gd r63.1 2).Head).MoreData))) && ((gd r63.1 3).Head).MoreData) && (!(((gd r63.1 4).Head).MoreData))) && (bEq (gt (F38 (eF (gd r63.1 2)))) 7)) && (bEq (gt (F38 (eF (gd r63.1 4)))) 10)) (((((((((((bEq r3.2 2) && (bEq r5.2 2)) && (bEq r7.2 2)) && (bEq r9.2 20)) && (bEq r11.2 2)) && (bEq r13.2.2 6)) && (bEq r15.2.2 20)) && (bEq r17.2.2 6)) && (bEq r21.2.2.2 2)) && (bEq r25.2.2.2 2)) && (bEq r37.2.2.2 20)) _ H
noncomputable def F10_c11 (r1:TBuffer × Bool) (r3:TBuffer × Int) (r5:TBuffer × Int) (r7:TBuffer × Int) (r9:TBuffer × Int) (r11:TBuffer × Int) (r13:(List TFrame) × TBuffer × Int) (r15:TFrame × TBuffer × Int) (r17:TFrame × TBuffer × Int) (r21:(List TFrame) × (List TFrame) × TBuffer × Int) (r25:(List TFrame) × (List TFrame) × TBuffer × Int) (r29:(List TFrame) × (List TFrame) × TBuffer × Int) (r33:(List TFrame) × (List TFrame) × TBuffer × Int) (r37:(List TFrame) × (List TFrame) × TBuffer × Int) (r41:(List TFrame) × (List TFrame) × TBuffer × Int) (r45:(List TFrame) × (List TFrame) × TBuffer × Int) (r49:(List TFrame) × (List TFrame) × TBuffer × Int) (r53:(List TFrame) × (List TFrame) × TBuffer × Int) (r57:(List TFrame) × (List TFrame) × TBuffer × Int) (r59:TTraffic × Int) (r61:(List TFrame) × TBuffer × Int):Option (Bool) :=
 (F21 r57.2.2.1 1).bind fun r63=>(F42 r57.2.2.1 1).bind fun r65=>F10_c12 r1 r3 r5 r7 r9 r11 r13 r15 r17 r21 r25 r29 r33 r37 r41 r45 r49 r53 r57 r59 r61 r63 r65
theorem ok10_c11 (r1:TBuffer × Bool) (r3:TBuffer × Int) (r5:TBuffer × Int) (r7:TBuffer × Int) (r9:TBuffer × Int) (r11:TBuffer × Int) (r13:(List TFrame) × TBuffer × Int) (r15:TFrame × TBuffer × Int) (r17:TFrame × TBuffer × Int) (r21:(List TFrame) × (List TFrame) × TBuffer × Int) (r25:(List TFrame) × (List TFrame) × TBuffer × Int) (r29:(List TFrame) × (List TFrame) × TBuffer × Int) (r33:(List TFrame) × (List TFrame) × TBuffer × Int) (r37:(List TFrame) × (List TFrame) × TBuffer × Int) (r41:(List TFrame) × (List TFrame) × TBuffer × Int) (r45:(List TFrame) × (List TFrame) × TBuffer × Int) (r49:(List TFrame) × (List TFrame) × TBuffer × Int) (r53:(List TFrame) × (List TFrame) × TBuffer × Int) (r57:(List TFrame) × (List TFrame) × TBuffer × Int) (r59:TTraffic × Int) (r61:(List TFrame) × TBuffer × Int) (r:Bool) (H:F10_c11 r1 r3 r5 r7 r9 r11 r13 r15 r17 r21 r25 r29 r33 r37 r41 r45 r49 r53 r57 r59 r61=some r):Mean Try.prog (ctl 22 (bdy Try.f10)) (kRet Try.prog [.tmp 0] (fun v' _=>v' = .bool r)) (.top::.top::.bool r1.2::.top::.int .i64 r3.2::.top::.int .i64 r5.2::.top::.int .i64 r7.2::.top::.int .i64 r9.2::.top::.int .i64 r11.2::.top::.top::.int .i64 r13.2.2::.top::.top::.int .i64 r15.2.2::.top::.top::.int .i64 r17.2.2::.top::.top::.top::.int .i64 r21.2.2.2::.top::.top::.top::.int .i64 r25.2.2.2::.ro 41 r29.1.length false (enR c_TFrame r29.1)::.ro 41 r29.2.1.length false (enR c_TFrame r29.2.1)::.top::.int .i64 r29.2.2.2::.top::.top::.ptr 18 0 0 0::.int .i64 r33.2.2.2::.top::.top::.top::.int .i64 r37.2.2.2::.top::.top::.int .i64 r41.2.2.2::.top::.top::.int .i64 r45.2.2.2::.top::.ro 41 r49.2.1.length false (enR c_TFrame r49.2.1)::.int .i64 r49.2.2.2::.top::.top::.int .i64 r53.2.2.2::.top::.top::.int .i64 r57.2.2.2::.ptr 27 0 0 0::.int .i64 r59.2::.ro 41 r61.1.length false (enR c_TFrame r61.1)::.top::.int .i64 r61.2.2::tp 6 (tpg 140 (tp 12 (tpg 261 [])))) [.dead,.dead,.dead,.dead,.dead,.dead,.dead,.dead,.dead,.dead,.dead,.dead,.dead,.dead,.dead,.dead,.dead,.dead,.lit 25 [.int .i64 r57.2.2.1.Limit,.int .i64 r57.2.2.1.Stay,.ro 3 r57.2.2.1.List.length false (enR c_TSleeper r57.2.2.1.List),.ro 43 r57.2.2.1.Group.length false (enR c_TStored r57.2.2.1.Group)],.dead,.dead,.dead,.dead,.dead,.dead,.dead,.row 3 1 r59.1.Aids.length (enR c_i64 r59.1.Aids),.lit 41 [.bool r59.1.Group,.sl 26 1 0 r59.1.Aids.length false],.dead]:=by
 conv=>arg 2;whnf
 simp only [tp]
 unfold F10_c11 at H
 try dsimp only at H
 refine seqM ?_
 obtain ⟨r63,e64,H⟩:=bsi H
 refine rg ct10t3_ok ?_
 simp only [go_sem,Nat.reduceLeDiff,Nat.reduceLT,Nat.reduceAdd,Nat.reduceSub,ct10t3_21,body21,e64]
 repeat ((with_reducible refine And.intro ?_ ?_);focus exact an0)
 refine seqM ?_
 obtain ⟨r65,e66,H⟩:=bsi H
 refine rg ct10t9_ok ?_
 simp only [go_sem,Nat.reduceLeDiff,Nat.reduceLT,Nat.reduceAdd,Nat.reduceSub,ct10t9_42,body42,e66]
 repeat ((with_reducible refine And.intro ?_ ?_);focus exact an0)
 refine subF_mean (t2:=(.top::.top::.bool r1.2::.top::.int .i64 r3.2::.top::.int .i64 r5.2::.top::.int .i64 r7.2::.top::.int .i64 r9.2::.top::.int .i64 r11.2::.top::.top::.int .i64 r13.2.2::.top::.top::.int .i64 r15.2.2::.top::.top::.int .i64 r17.2.2::.top::.top::.top::.int .i64 r21.2.2.2::.top::.top::.top::.int .i64 r25.2.2.2::.ro 41 r29.1.length false (enR c_TFrame r29.1)::.ro 41 r29.2.1.length false (enR c_TFrame r29.2.1)::.top::.int .i64 r29.2.2.2::.top::.top::.top::.int .i64 r33.2.2.2::.top::.top::.top::.int .i64 r37.2.2.2::.top::.top::.int .i64 r41.2.2.2::.top::.top::.int .i64 r45.2.2.2::.top::.ro 41 r49.2.1.length false (enR c_TFrame r49.2.1)::.int .i64 r49.2.2.2::.top::.top::.int .i64 r53.2.2.2::.top::.top::.int .i64 r57.2.2.2::.ptr 27 0 0 0::.int .i64 r59.2::.ro 41 r61.1.length false (enR c_TFrame r61.1)::.top::.int .i64 r61.2.2::.ro 41 r63.1.length false (enR c_TFrame r63.1)::.ptr 29 0 0 0::.int .i64 r63.2.2::.ro 41 r65.1.length false (enR c_TFrame r65.1)::.top::.int .i64 r65.2.2::.top::.top::tpg 150 (tp 96 (tpg 165 [])))) (h2:=(.dead::.dead::.dead::.dead::.dead::.dead::.dead::.dead::.dead::.dead::.dead::.dead::.dead::.dead::.dead::.dead::.dead::.dead::.dead::.dead::.dead::.dead::.dead::.dead::.dead::.dead::.row 3 1 r59.1.Aids.length (enR c_i64 r59.1.Aids)::.lit 41 [.bool r59.1.Group,.sl 26 1 0 r59.1.Aids.length false]::.dead::.lit 25 [.int .i64 r63.2.1.Limit,.int .i64 r63.2.1.Stay,.ro 3 r63.2.1.List.length false (enR c_TSleeper r63.2.1.List),.ro 43 r63.2.1.Group.length false (enR c_TStored r63.2.1.Group)]::.dead::[])) ?_ ?_
 ·refine SubF_of ⟨[some 0,some 1,some 2,some 3,some 4,some 5,some 6,some 7,some 8,some 9,some 10,some 11,some 12,some 13,some 14,some 15,some 16,some 17,some 18,some 19,some 20,some 21,some 22,some 23,some 24,some 25,some 26,some 27,some 28,some 29,some 30],?_,?_,by rfl,by rfl⟩
  ·simp [CvL,Cv,getM,tp,tp,tpg]
  ·(repeat (first|refine And.intro (by first|exact CvB_dead|exact CvB_same nfA|(simp [CvB,CvL,Cv,blkAt,geth,getM];done)) ?_|trivial))
 exact ok10_c12 r1 r3 r5 r7 r9 r11 r13 r15 r17 r21 r25 r29 r33 r37 r41 r45 r49 r53 r57 r59 r61 r63 r65 _ H
noncomputable def F10_c10 (r1:TBuffer × Bool) (r3:TBuffer × Int) (r5:TBuffer × Int) (r7:TBuffer × Int) (r9:TBuffer × Int) (r11:TBuffer × Int) (r13:(List TFrame) × TBuffer × Int) (r15:TFrame × TBuffer × Int) (r17:TFrame × TBuffer × Int) (r21:(List TFrame) × (List TFrame) × TBuffer × Int) (r25:(List TFrame) × (List TFrame) × TBuffer × Int) (r29:(List TFrame) × (List TFrame) × TBuffer × Int) (r33:(List TFrame) × (List TFrame) × TBuffer × Int) (r37:(List TFrame) × (List TFrame) × TBuffer × Int) (r41:(List TFrame) × (List TFrame) × TBuffer × Int) (r45:(List TFrame) × (List TFrame) × TBuffer × Int) (r49:(List TFrame) × (List TFrame) × TBuffer × Int) (r53:(List TFrame) × (List TFrame) × TBuffer × Int) (r57:(List TFrame) × (List TFrame) × TBuffer × Int):Option (Bool) :=
 (F14 r57.2.2.1).bind fun r59=>(F25 r57.2.2.1 60).bind fun r61=>F10_c11 r1 r3 r5 r7 r9 r11 r13 r15 r17 r21 r25 r29 r33 r37 r41 r45 r49 r53 r57 r59 r61
theorem ok10_c10 (r1:TBuffer × Bool) (r3:TBuffer × Int) (r5:TBuffer × Int) (r7:TBuffer × Int) (r9:TBuffer × Int) (r11:TBuffer × Int) (r13:(List TFrame) × TBuffer × Int) (r15:TFrame × TBuffer × Int) (r17:TFrame × TBuffer × Int) (r21:(List TFrame) × (List TFrame) × TBuffer × Int) (r25:(List TFrame) × (List TFrame) × TBuffer × Int) (r29:(List TFrame) × (List TFrame) × TBuffer × Int) (r33:(List TFrame) × (List TFrame) × TBuffer × Int) (r37:(List TFrame) × (List TFrame) × TBuffer × Int) (r41:(List TFrame) × (List TFrame) × TBuffer × Int) (r45:(List TFrame) × (List TFrame) × TBuffer × Int) (r49:(List TFrame) × (List TFrame) × TBuffer × Int) (r53:(List TFrame) × (List TFrame) × TBuffer × Int) (r57:(List TFrame) × (List TFrame) × TBuffer × Int) (r:Bool) (H:F10_c10 r1 r3 r5 r7 r9 r11 r13 r15 r17 r21 r25 r29 r33 r37 r41 r45 r49 r53 r57=some r):Mean Try.prog (ctl 20 (bdy Try.f10)) (kRet Try.prog [.tmp 0] (fun v' _=>v' = .bool r)) (.top::.top::.bool r1.2::.top::.int .i64 r3.2::.top::.int .i64 r5.2::.top::.int .i64 r7.2::.top::.int .i64 r9.2::.top::.int .i64 r11.2::.top::.top::.int .i64 r13.2.2::.top::.top::.int .i64 r15.2.2::.top::.top::.int .i64 r17.2.2::.top::.top::.top::.int .i64 r21.2.2.2::.top::.top::.top::.int .i64 r25.2.2.2::.ro 41 r29.1.length false (enR c_TFrame r29.1)::.ro 41 r29.2.1.length false (enR c_TFrame r29.2.1)::.top::.int .i64 r29.2.2.2::.top::.top::.ptr 18 0 0 0::.int .i64 r33.2.2.2::.top::.top::.top::.int .i64 r37.2.2.2::.top::.top::.int .i64 r41.2.2.2::.top::.top::.int .i64 r45.2.2.2::.top::.ro 41 r49.2.1.length false (enR c_TFrame r49.2.1)::.int .i64 r49.2.2.2::.top::.top::.int .i64 r53.2.2.2::.top::.top::.int .i64 r57.2.2.2::tp 5 (tpg 135 (tp 11 (tpg 273 [])))) [.dead,.dead,.dead,.dead,.dead,.dead,.dead,.dead,.dead,.dead,.dead,.dead,.dead,.dead,.dead,.dead,.dead,.dead,.lit 25 [.int .i64 r57.2.2.1.Limit,.int .i64 r57.2.2.1.Stay,.ro 3 r57.2.2.1.List.length false (enR c_TSleeper r57.2.2.1.List),.ro 43 r57.2.2.1.Group.length false (enR c_TStored r57.2.2.1.Group)],.dead,.dead,.dead,.dead,.dead,.dead,.dead]:=by
 conv=>arg 2;whnf
 simp only [tp]
 unfold F10_c10 at H
 try dsimp only at H
 refine seqM ?_
 obtain ⟨r59,e60,H⟩:=bsi H
 refine rg ct10t7_ok ?_
 simp only [go_sem,Nat.reduceLeDiff,Nat.reduceLT,Nat.reduceAdd,Nat.reduceSub,ct10t7_14,body14,e60]
 repeat ((with_reducible refine And.intro ?_ ?_);focus exact an0)
 refine seqM ?_
 obtain ⟨r61,e62,H⟩:=bsi H
 refine rg ct10t8_ok ?_
 simp only [go_sem,Nat.reduceLeDiff,Nat.reduceLT,Nat.reduceAdd,Nat.reduceSub,ct10t8_25,body25,e62]
 repeat ((with_reducible refine And.intro ?_ ?_);focus exact an0)
 refine subF_mean (t2:=(.top::.top::.bool r1.2::.top::.int .i64 r3.2::.top::.int .i64 r5.2::.top::.int .i64 r7.2::.top::.int .i64 r9.2::.top::.int .i64 r11.2::.top::.top::.int .i64 r13.2.2::.top::.top::.int .i64 r15.2.2::.top::.top::.int .i64 r17.2.2::.top::.top::.top::.int .i64 r21.2.2.2::.top::.top::.top::.int .i64 r25.2.2.2::.ro 41 r29.1.length false (enR c_TFrame r29.1)::.ro 41 r29.2.1.length false (enR c_TFrame r29.2.1)::.top::.int .i64 r29.2.2.2::.top::.top::.ptr 18 0 0 0::.int .i64 r33.2.2.2::.top::.top::.top::.int .i64 r37.2.2.2::.top::.top::.int .i64 r41.2.2.2::.top::.top::.int .i64 r45.2.2.2::.top::.ro 41 r49.2.1.length false (enR c_TFrame r49.2.1)::.int .i64 r49.2.2.2::.top::.top::.int .i64 r53.2.2.2::.top::.top::.int .i64 r57.2.2.2::.ptr 27 0 0 0::.int .i64 r59.2::.ro 41 r61.1.length false (enR c_TFrame r61.1)::.top::.int .i64 r61.2.2::tp 6 (tpg 140 (tp 12 (tpg 261 []))))) (h2:=[.dead,.dead,.dead,.dead,.dead,.dead,.dead,.dead,.dead,.dead,.dead,.dead,.dead,.dead,.dead,.dead,.dead,.dead,.lit 25 [.int .i64 r57.2.2.1.Limit,.int .i64 r57.2.2.1.Stay,.ro 3 r57.2.2.1.List.length false (enR c_TSleeper r57.2.2.1.List),.ro 43 r57.2.2.1.Group.length false (enR c_TStored r57.2.2.1.Group)],.dead,.dead,.dead,.dead,.dead,.dead,.dead,.row 3 1 r59.1.Aids.length (enR c_i64 r59.1.Aids),.lit 41 [.bool r59.1.Group,.sl 26 1 0 r59.1.Aids.length false],.dead]) ?_ ?_
 ·refine SubF_of ⟨[some 0,some 1,some 2,some 3,some 4,some 5,some 6,some 7,some 8,some 9,some 10,some 11,some 12,some 13,some 14,some 15,some 16,some 17,some 18,some 19,some 20,some 21,some 22,some 23,some 24,some 25,some 26,some 27,some 28],?_,?_,by rfl,by rfl⟩
  ·simp [CvL,Cv,getM,tp,tp,tpg]
  ·(repeat (first|refine And.intro (by first|exact CvB_dead|exact CvB_same nfA|(simp [CvB,CvL,Cv,blkAt,geth,getM];done)) ?_|trivial))
 exact ok10_c11 r1 r3 r5 r7 r9 r11 r13 r15 r17 r21 r25 r29 r33 r37 r41 r45 r49 r53 r57 r59 r61 _ H
noncomputable def F10_c9 (r1:TBuffer × Bool) (r3:TBuffer × Int) (r5:TBuffer × Int) (r7:TBuffer × Int) (r9:TBuffer × Int) (r11:TBuffer × Int) (r13:(List TFrame) × TBuffer × Int) (r15:TFrame × TBuffer × Int) (r17:TFrame × TBuffer × Int) (r21:(List TFrame) × (List TFrame) × TBuffer × Int) (r25:(List TFrame) × (List TFrame) × TBuffer × Int) (r29:(List TFrame) × (List TFrame) × TBuffer × Int) (r33:(List TFrame) × (List TFrame) × TBuffer × Int) (r37:(List TFrame) × (List TFrame) × TBuffer × Int) (r41:(List TFrame) × (List TFrame) × TBuffer × Int) (r45:(List TFrame) × (List TFrame) × TBuffer × Int) (r49:(List TFrame) × (List TFrame) × TBuffer × Int):Option (Bool) :=
 (F37 9).bind fun r51=>(F41 r49.2.2.1 (eF r51) 30).bind fun r53=>(F37 10).bind fun r55=>(F41 r53.2.2.1 (eF r55) 31).bind fun r57=>F10_c10 r1 r3 r5 r7 r9 r11 r13 r15 r17 r21 r25 r29 r33 r37 r41 r45 r49 r53 r57
theorem ok10_c9 (r1:TBuffer × Bool) (r3:TBuffer × Int) (r5:TBuffer × Int) (r7:TBuffer × Int) (r9:TBuffer × Int) (r11:TBuffer × Int) (r13:(List TFrame) × TBuffer × Int) (r15:TFrame × TBuffer × Int) (r17:TFrame × TBuffer × Int) (r21:(List TFrame) × (List TFrame) × TBuffer × Int) (r25:(List TFrame) × (List TFrame) × TBuffer × Int) (r29:(List TFrame) × (List TFrame) × TBuffer × Int) (r33:(List TFrame) × (List TFrame) × TBuffer × Int) (r37:(List TFrame) × (List TFrame) × TBuffer × Int) (r41:(List TFrame) × (List TFrame) × TBuffer × Int) (r45:(List TFrame) × (List TFrame) × TBuffer × Int) (r49:(List TFrame) × (List TFrame) × TBuffer × Int) (r:Bool) (H:F10_c9 r1 r3 r5 r7 r9 r11 r13 r15 r17 r21 r25 r29 r33 r37 r41 r45 r49=some r):Mean Try.prog (ctl 18 (bdy Try.f10)) (kRet Try.prog [.tmp 0] (fun v' _=>v' = .bool r)) (.top::.top::.bool r1.2::.top::.int .i64 r3.2::.top::.int .i64 r5.2::.top::.int .i64 r7.2::.top::.int .i64 r9.2::.top::.int .i64 r11.2::.top::.top::.int .i64 r13.2.2::.top::.top::.int .i64 r15.2.2::.top::.top::.int .i64 r17.2.2::.top::.top::.top::.int .i64 r21.2.2.2::.top::.top::.top::.int .i64 r25.2.2.2::.ro 41 r29.1.length false (enR c_TFrame r29.1)::.ro 41 r29.2.1.length false (enR c_TFrame r29.2.1)::.top::.int .i64 r29.2.2.2::.top::.top::.ptr 18 0 0 0::.int .i64 r33.2.2.2::.top::.top::.top::.int .i64 r37.2.2.2::.top::.top::.int .i64 r41.2.2.2::.top::.top::.int .i64 r45.2.2.2::.top::.ro 41 r49.2.1.length false (enR c_TFrame r49.2.1)::.int .i64 r49.2.2.2::tp 6 (tpg 124 (tp 16 (tpg 284 [])))) [.dead,.dead,.dead,.dead,.dead,.dead,.dead,.dead,.dead,.dead,.dead,.dead,.dead,.dead,.dead,.dead,.dead,.dead,.lit 25 [.int .i64 r49.2.2.1.Limit,.int .i64 r49.2.2.1.Stay,.ro 3 r49.2.2.1.List.length false (enR c_TSleeper r49.2.2.1.List),.ro 43 r49.2.2.1.Group.length false (enR c_TStored r49.2.2.1.Group)],.dead,.dead,.dead,.dead,.dead]:=by
 conv=>arg 2;whnf
 simp only [tp]
 unfold F10_c9 at H
 delta eF at H
 try dsimp only at H
 refine seqM ?_
 obtain ⟨r51,e52,H⟩:=bsi H
 obtain ⟨r53,e54,H⟩:=bsi H
 refine draw_rule shT_ok ct10t6_ok 1 (by kernel_rfl) (by kernel_rfl) ?_
 intro an han
 simp only [d_nil,d_cons,nxtD,xrD,xoD,roEq,minL,List.append_nil,refsOp,refs,refsL,mask,maskF,place,placeF,okLog,pairOk,hit,inL,slotsF,ren,renL,rnN,nrH,nrB,nrL,nr,List.replicate_zero,List.replicate_succ,Nat.sub_self,Nat.add_zero,Nat.zero_add,Nat.reduceSub,Nat.lt_add_one,go_sem,Nat.reduceLeDiff,Nat.reduceLT,Nat.reduceAdd,Nat.reduceSub,Nat.reduceBEq,frC,obR,fzL,fzV,fzH,fzHF,fzB,fzOb,fzObL,fzObH,fzObB,rowOb,refsL,refs,inL,ct10t6_37,body37,ct10t6_41,body41,e52,e54]
 repeat ((with_reducible refine And.intro ?_ ?_);focus exact an5)
 refine seqM ?_
 obtain ⟨r55,e56,H⟩:=bsi H
 obtain ⟨r57,e58,H⟩:=bsi H
 refine draw_rule shT_ok ct10t6_ok 1 (by kernel_rfl) (by kernel_rfl) ?_
 intro an han
 simp only [d_nil,d_cons,nxtD,xrD,xoD,roEq,minL,List.append_nil,refsOp,refs,refsL,mask,maskF,place,placeF,okLog,pairOk,hit,inL,slotsF,ren,renL,rnN,nrH,nrB,nrL,nr,List.replicate_zero,List.replicate_succ,Nat.sub_self,Nat.add_zero,Nat.zero_add,Nat.reduceSub,Nat.lt_add_one,go_sem,Nat.reduceLeDiff,Nat.reduceLT,Nat.reduceAdd,Nat.reduceSub,Nat.reduceBEq,frC,obR,fzL,fzV,fzH,fzHF,fzB,fzOb,fzObL,fzObH,fzObB,rowOb,refsL,refs,inL,ct10t6_37,body37,ct10t6_41,body41,e56,e58]
 repeat ((with_reducible refine And.intro ?_ ?_);focus exact an5)
 refine subF_mean (t2:=(.top::.top::.bool r1.2::.top::.int .i64 r3.2::.top::.int .i64 r5.2::.top::.int .i64 r7.2::.top::.int .i64 r9.2::.top::.int .i64 r11.2::.top::.top::.int .i64 r13.2.2::.top::.top::.int .i64 r15.2.2::.top::.top::.int .i64 r17.2.2::.top::.top::.top::.int .i64 r21.2.2.2::.top::.top::.top::.int .i64 r25.2.2.2::.ro 41 r29.1.length false (enR c_TFrame r29.1)::.ro 41 r29.2.1.length false (enR c_TFrame r29.2.1)::.top::.int .i64 r29.2.2.2::.top::.top::.ptr 18 0 0 0::.int .i64 r33.2.2.2::.top::.top::.top::.int .i64 r37.2.2.2::.top::.top::.int .i64 r41.2.2.2::.top::.top::.int .i64 r45.2.2.2::.top::.ro 41 r49.2.1.length false (enR c_TFrame r49.2.1)::.int .i64 r49.2.2.2::.top::.top::.int .i64 r53.2.2.2::.top::.top::.int .i64 r57.2.2.2::tp 5 (tpg 135 (tp 11 (tpg 273 []))))) (h2:=[.dead,.dead,.dead,.dead,.dead,.dead,.dead,.dead,.dead,.dead,.dead,.dead,.dead,.dead,.dead,.dead,.dead,.dead,.lit 25 [.int .i64 r57.2.2.1.Limit,.int .i64 r57.2.2.1.Stay,.ro 3 r57.2.2.1.List.length false (enR c_TSleeper r57.2.2.1.List),.ro 43 r57.2.2.1.Group.length false (enR c_TStored r57.2.2.1.Group)],.dead,.dead,.dead,.dead,.dead,.dead,.dead]) ?_ ?_
 ·refine SubF_of ⟨[some 0,some 1,some 2,some 3,some 4,some 5,some 6,some 7,some 8,some 9,some 10,some 11,some 12,some 13,some 14,some 15,some 16,some 17,some 18,some 19,some 20,some 21,some 22,some 23,some 24,some 25],?_,?_,by rfl,by rfl⟩
  ·simp [CvL,Cv,getM,tp,tp,tpg]
  ·(repeat (first|refine And.intro (by first|exact CvB_dead|exact CvB_same nfA|(simp [CvB,CvL,Cv,blkAt,geth];done)) ?_|trivial))
 exact ok10_c10 r1 r3 r5 r7 r9 r11 r13 r15 r17 r21 r25 r29 r33 r37 r41 r45 r49 r53 r57 _ H
noncomputable def F10_c8 (r1:TBuffer × Bool) (r3:TBuffer × Int) (r5:TBuffer × Int) (r7:TBuffer × Int) (r9:TBuffer × Int) (r11:TBuffer × Int) (r13:(List TFrame) × TBuffer × Int) (r15:TFrame × TBuffer × Int) (r17:TFrame × TBuffer × Int) (r21:(List TFrame) × (List TFrame) × TBuffer × Int) (r25:(List TFrame) × (List TFrame) × TBuffer × Int) (r29:(List TFrame) × (List TFrame) × TBuffer × Int) (r33:(List TFrame) × (List TFrame) × TBuffer × Int) (r37:(List TFrame) × (List TFrame) × TBuffer × Int) (r41:(List TFrame) × (List TFrame) × TBuffer × Int):Option (Bool) :=
 (F37 7).bind fun r43=>(F24 r41.2.2.1 1 3 (eF r43) 20).bind fun r45=>(F37 8).bind fun r47=>(F24 r45.2.2.1 1 2 (eF r47) 30).bind fun r49=>F10_c9 r1 r3 r5 r7 r9 r11 r13 r15 r17 r21 r25 r29 r33 r37 r41 r45 r49
theorem ok10_c8 (r1:TBuffer × Bool) (r3:TBuffer × Int) (r5:TBuffer × Int) (r7:TBuffer × Int) (r9:TBuffer × Int) (r11:TBuffer × Int) (r13:(List TFrame) × TBuffer × Int) (r15:TFrame × TBuffer × Int) (r17:TFrame × TBuffer × Int) (r21:(List TFrame) × (List TFrame) × TBuffer × Int) (r25:(List TFrame) × (List TFrame) × TBuffer × Int) (r29:(List TFrame) × (List TFrame) × TBuffer × Int) (r33:(List TFrame) × (List TFrame) × TBuffer × Int) (r37:(List TFrame) × (List TFrame) × TBuffer × Int) (r41:(List TFrame) × (List TFrame) × TBuffer × Int) (r:Bool) (H:F10_c8 r1 r3 r5 r7 r9 r11 r13 r15 r17 r21 r25 r29 r33 r37 r41=some r):Mean Try.prog (ctl 16 (bdy Try.f10)) (kRet Try.prog [.tmp 0] (fun v' _=>v' = .bool r)) (.top::.top::.bool r1.2::.top::.int .i64 r3.2::.top::.int .i64 r5.2::.top::.int .i64 r7.2::.top::.int .i64 r9.2::.top::.int .i64 r11.2::.top::.top::.int .i64 r13.2.2::.top::.top::.int .i64 r15.2.2::.top::.top::.int .i64 r17.2.2::.top::.top::.top::.int .i64 r21.2.2.2::.top::.top::.top::.int .i64 r25.2.2.2::.ro 41 r29.1.length false (enR c_TFrame r29.1)::.ro 41 r29.2.1.length false (enR c_TFrame r29.2.1)::.top::.int .i64 r29.2.2.2::.top::.top::.ptr 18 0 0 0::.int .i64 r33.2.2.2::.top::.top::.top::.int .i64 r37.2.2.2::.top::.top::.int .i64 r41.2.2.2::tp 6 (tpg 114 (tp 16 (tpg 300 [])))) [.dead,.dead,.dead,.dead,.dead,.dead,.dead,.dead,.dead,.dead,.dead,.dead,.dead,.dead,.dead,.dead,.dead,.dead,.lit 25 [.int .i64 r41.2.2.1.Limit,.int .i64 r41.2.2.1.Stay,.ro 3 r41.2.2.1.List.length false (enR c_TSleeper r41.2.2.1.List),.ro 43 r41.2.2.1.Group.length false (enR c_TStored r41.2.2.1.Group)],.dead,.dead,.dead]:=by
 conv=>arg 2;whnf
 simp only [tp]
 unfold F10_c8 at H
 delta eF at H
 try dsimp only at H
 refine seqM ?_
 obtain ⟨r43,e44,H⟩:=bsi H
 obtain ⟨r45,e46,H⟩:=bsi H
 refine draw_rule shT_ok ct10t5_ok 1 (by kernel_rfl) (by kernel_rfl) ?_
 intro an han
 simp only [d_nil,d_cons,nxtD,xrD,xoD,roEq,minL,List.append_nil,refsOp,refs,refsL,mask,maskF,place,placeF,okLog,pairOk,hit,inL,slotsF,ren,renL,rnN,nrH,nrB,nrL,nr,List.replicate_zero,List.replicate_succ,Nat.sub_self,Nat.add_zero,Nat.zero_add,Nat.reduceSub,Nat.lt_add_one,go_sem,Nat.reduceLeDiff,Nat.reduceLT,Nat.reduceAdd,Nat.reduceSub,Nat.reduceBEq,frC,obR,fzL,fzV,fzH,fzHF,fzB,fzOb,fzObL,fzObH,fzObB,rowOb,refsL,refs,inL,ct10t5_24,body24,ct10t5_37,body37,e44,e46]
 repeat ((with_reducible refine And.intro ?_ ?_);focus exact an5)
 refine seqM ?_
 obtain ⟨r47,e48,H⟩:=bsi H
 obtain ⟨r49,e50,H⟩:=bsi H
 refine draw_rule shT_ok ct10t5_ok 1 (by kernel_rfl) (by kernel_rfl) ?_
 intro an han
 simp only [d_nil,d_cons,nxtD,xrD,xoD,roEq,minL,List.append_nil,refsOp,refs,refsL,mask,maskF,place,placeF,okLog,pairOk,hit,inL,slotsF,ren,renL,rnN,nrH,nrB,nrL,nr,List.replicate_zero,List.replicate_succ,Nat.sub_self,Nat.add_zero,Nat.zero_add,Nat.reduceSub,Nat.lt_add_one,go_sem,Nat.reduceLeDiff,Nat.reduceLT,Nat.reduceAdd,Nat.reduceSub,Nat.reduceBEq,frC,obR,fzL,fzV,fzH,fzHF,fzB,fzOb,fzObL,fzObH,fzObB,rowOb,refsL,refs,inL,ct10t5_24,body24,ct10t5_37,body37,e48,e50]
 repeat ((with_reducible refine And.intro ?_ ?_);focus exact an5)
 refine subF_mean (t2:=(.top::.top::.bool r1.2::.top::.int .i64 r3.2::.top::.int .i64 r5.2::.top::.int .i64 r7.2::.top::.int .i64 r9.2::.top::.int .i64 r11.2::.top::.top::.int .i64 r13.2.2::.top::.top::.int .i64 r15.2.2::.top::.top::.int .i64 r17.2.2::.top::.top::.top::.int .i64 r21.2.2.2::.top::.top::.top::.int .i64 r25.2.2.2::.ro 41 r29.1.length false (enR c_TFrame r29.1)::.ro 41 r29.2.1.length false (enR c_TFrame r29.2.1)::.top::.int .i64 r29.2.2.2::.top::.top::.ptr 18 0 0 0::.int .i64 r33.2.2.2::.top::.top::.top::.int .i64 r37.2.2.2::.top::.top::.int .i64 r41.2.2.2::.top::.top::.int .i64 r45.2.2.2::.top::.ro 41 r49.2.1.length false (enR c_TFrame r49.2.1)::.int .i64 r49.2.2.2::tp 6 (tpg 124 (tp 16 (tpg 284 []))))) (h2:=[.dead,.dead,.dead,.dead,.dead,.dead,.dead,.dead,.dead,.dead,.dead,.dead,.dead,.dead,.dead,.dead,.dead,.dead,.lit 25 [.int .i64 r49.2.2.1.Limit,.int .i64 r49.2.2.1.Stay,.ro 3 r49.2.2.1.List.length false (enR c_TSleeper r49.2.2.1.List),.ro 43 r49.2.2.1.Group.length false (enR c_TStored r49.2.2.1.Group)],.dead,.dead,.dead,.dead,.dead]) ?_ ?_
 ·refine SubF_of ⟨[some 0,some 1,some 2,some 3,some 4,some 5,some 6,some 7,some 8,some 9,some 10,some 11,some 12,some 13,some 14,some 15,some 16,some 17,some 18,some 19,some 20,some 21,some 22,some 23],?_,?_,by rfl,by rfl⟩
  ·simp [CvL,Cv,getM,tp,tp,tpg]
  ·(repeat (first|refine And.intro (by first|exact CvB_dead|exact CvB_same nfA|(simp [CvB,CvL,Cv,blkAt,geth];done)) ?_|trivial))
 exact ok10_c9 r1 r3 r5 r7 r9 r11 r13 r15 r17 r21 r25 r29 r33 r37 r41 r45 r49 _ H
noncomputable def F10_c7 (r1:TBuffer × Bool) (r3:TBuffer × Int) (r5:TBuffer × Int) (r7:TBuffer × Int) (r9:TBuffer × Int) (r11:TBuffer × Int) (r13:(List TFrame) × TBuffer × Int) (r15:TFrame × TBuffer × Int) (r17:TFrame × TBuffer × Int) (r21:(List TFrame) × (List TFrame) × TBuffer × Int) (r25:(List TFrame) × (List TFrame) × TBuffer × Int) (r29:(List TFrame) × (List TFrame) × TBuffer × Int) (r33:(List TFrame) × (List TFrame) × TBuffer × Int):Option (Bool) :=
 (F37 6).bind fun r35=>(F24 r33.2.2.1 1 3 (eF r35) 9).bind fun r37=>(F37 6).bind fun r39=>(F24 r33.2.2.1 1 3 (eF r39) 10).bind fun r41=>F10_c8 r1 r3 r5 r7 r9 r11 r13 r15 r17 r21 r25 r29 r33 r37 r41
theorem ok10_c7 (r1:TBuffer × Bool) (r3:TBuffer × Int) (r5:TBuffer × Int) (r7:TBuffer × Int) (r9:TBuffer × Int) (r11:TBuffer × Int) (r13:(List TFrame) × TBuffer × Int) (r15:TFrame × TBuffer × Int) (r17:TFrame × TBuffer × Int) (r21:(List TFrame) × (List TFrame) × TBuffer × Int) (r25:(List TFrame) × (List TFrame) × TBuffer × Int) (r29:(List TFrame) × (List TFrame) × TBuffer × Int) (r33:(List TFrame) × (List TFrame) × TBuffer × Int) (r:Bool) (H:F10_c7 r1 r3 r5 r7 r9 r11 r13 r15 r17 r21 r25 r29 r33=some r):Mean Try.prog (ctl 14 (bdy Try.f10)) (kRet Try.prog [.tmp 0] (fun v' _=>v' = .bool r)) (.top::.top::.bool r1.2::.top::.int .i64 r3.2::.top::.int .i64 r5.2::.top::.int .i64 r7.2::.top::.int .i64 r9.2::.top::.int .i64 r11.2::.top::.top::.int .i64 r13.2.2::.top::.top::.int .i64 r15.2.2::.top::.top::.int .i64 r17.2.2::.top::.top::.top::.int .i64 r21.2.2.2::.top::.top::.top::.int .i64 r25.2.2.2::.ro 41 r29.1.length false (enR c_TFrame r29.1)::.ro 41 r29.2.1.length false (enR c_TFrame r29.2.1)::.top::.int .i64 r29.2.2.2::.top::.top::.ptr 18 0 0 0::.int .i64 r33.2.2.2::tp 7 (tpg 104 (tp 16 (tpg 316 [])))) [.dead,.dead,.dead,.dead,.dead,.dead,.dead,.dead,.dead,.dead,.dead,.dead,.dead,.dead,.dead,.dead,.dead,.dead,.lit 25 [.int .i64 r33.2.2.1.Limit,.int .i64 r33.2.2.1.Stay,.ro 3 r33.2.2.1.List.length false (enR c_TSleeper r33.2.2.1.List),.ro 43 r33.2.2.1.Group.length false (enR c_TStored r33.2.2.1.Group)]]:=by
 conv=>arg 2;whnf
 simp only [tp]
 unfold F10_c7 at H
 delta eF at H
 try dsimp only at H
 refine seqM ?_
 obtain ⟨r35,e36,H⟩:=bsi H
 obtain ⟨r37,e38,H⟩:=bsi H
 refine draw_rule shT_ok ct10t5_ok 2 (by kernel_rfl) (by kernel_rfl) ?_
 intro an han
 simp only [d_nil,d_cons,nxtD,xrD,xoD,roEq,minL,List.append_nil,refsOp,refs,refsL,mask,maskF,place,placeF,okLog,pairOk,hit,inL,slotsF,ren,renL,rnN,nrH,nrB,nrL,nr,List.replicate_zero,List.replicate_succ,Nat.sub_self,Nat.add_zero,Nat.zero_add,Nat.reduceSub,Nat.lt_add_one,go_sem,Nat.reduceLeDiff,Nat.reduceLT,Nat.reduceAdd,Nat.reduceSub,Nat.reduceBEq,frC,obR,fzL,fzV,fzH,fzHF,fzB,fzOb,fzObL,fzObH,fzObB,rowOb,refsL,refs,inL,ct10t5_24,body24,ct10t5_37,body37,e36,e38]
 repeat ((with_reducible refine And.intro ?_ ?_);focus exact an5)
 refine seqM ?_
 obtain ⟨r39,e40,H⟩:=bsi H
 obtain ⟨r41,e42,H⟩:=bsi H
 refine draw_rule shT_ok ct10t5_ok 1 (by kernel_rfl) (by kernel_rfl) ?_
 intro an han
 simp only [d_nil,d_cons,nxtD,xrD,xoD,roEq,minL,List.append_nil,refsOp,refs,refsL,mask,maskF,place,placeF,okLog,pairOk,hit,inL,slotsF,ren,renL,rnN,nrH,nrB,nrL,nr,List.replicate_zero,List.replicate_succ,Nat.sub_self,Nat.add_zero,Nat.zero_add,Nat.reduceSub,Nat.lt_add_one,go_sem,Nat.reduceLeDiff,Nat.reduceLT,Nat.reduceAdd,Nat.reduceSub,Nat.reduceBEq,frC,obR,fzL,fzV,fzH,fzHF,fzB,fzOb,fzObL,fzObH,fzObB,rowOb,refsL,refs,inL,ct10t5_24,body24,ct10t5_37,body37,e40,e42]
 repeat ((with_reducible refine And.intro ?_ ?_);focus exact an5)
 refine subF_mean (t2:=(.top::.top::.bool r1.2::.top::.int .i64 r3.2::.top::.int .i64 r5.2::.top::.int .i64 r7.2::.top::.int .i64 r9.2::.top::.int .i64 r11.2::.top::.top::.int .i64 r13.2.2::.top::.top::.int .i64 r15.2.2::.top::.top::.int .i64 r17.2.2::.top::.top::.top::.int .i64 r21.2.2.2::.top::.top::.top::.int .i64 r25.2.2.2::.ro 41 r29.1.length false (enR c_TFrame r29.1)::.ro 41 r29.2.1.length false (enR c_TFrame r29.2.1)::.top::.int .i64 r29.2.2.2::.top::.top::.ptr 18 0 0 0::.int .i64 r33.2.2.2::.top::.top::.top::.int .i64 r37.2.2.2::.top::.top::.int .i64 r41.2.2.2::tp 6 (tpg 114 (tp 16 (tpg 300 []))))) (h2:=[.dead,.dead,.dead,.dead,.dead,.dead,.dead,.dead,.dead,.dead,.dead,.dead,.dead,.dead,.dead,.dead,.dead,.dead,.lit 25 [.int .i64 r41.2.2.1.Limit,.int .i64 r41.2.2.1.Stay,.ro 3 r41.2.2.1.List.length false (enR c_TSleeper r41.2.2.1.List),.ro 43 r41.2.2.1.Group.length false (enR c_TStored r41.2.2.1.Group)],.dead,.dead,.dead]) ?_ ?_
 ·refine SubF_of ⟨[some 0,some 1,some 2,some 3,some 4,some 5,some 6,some 7,some 8,some 9,some 10,some 11,some 12,some 13,some 14,some 15,some 16,some 17,some 18,some 19,some 20,some 21],?_,?_,by rfl,by rfl⟩
  ·simp [CvL,Cv,getM,tp,tp,tpg]
  ·(repeat (first|refine And.intro (by first|exact CvB_dead|exact CvB_same nfA|(simp [CvB,CvL,Cv,blkAt,geth];done)) ?_|trivial))
 exact ok10_c8 r1 r3 r5 r7 r9 r11 r13 r15 r17 r21 r25 r29 r33 r37 r41 _ H
noncomputable def F10_c6 (r1:TBuffer × Bool) (r3:TBuffer × Int) (r5:TBuffer × Int) (r7:TBuffer × Int) (r9:TBuffer × Int) (r11:TBuffer × Int) (r13:(List TFrame) × TBuffer × Int) (r15:TFrame × TBuffer × Int) (r17:TFrame × TBuffer × Int) (r21:(List TFrame) × (List TFrame) × TBuffer × Int) (r25:(List TFrame) × (List TFrame) × TBuffer × Int):Option (Bool) :=
 (F37 1).bind fun r27=>(F24 r1.1 2 0 (eF r27) 0).bind fun r29=>(F37 5).bind fun r31=>(F24 r1.1 1 3 (eF r31) 10).bind fun r33=>F10_c7 r1 r3 r5 r7 r9 r11 r13 r15 r17 r21 r25 r29 r33
theorem ok10_c6 (r1:TBuffer × Bool) (r3:TBuffer × Int) (r5:TBuffer × Int) (r7:TBuffer × Int) (r9:TBuffer × Int) (r11:TBuffer × Int) (r13:(List TFrame) × TBuffer × Int) (r15:TFrame × TBuffer × Int) (r17:TFrame × TBuffer × Int) (r21:(List TFrame) × (List TFrame) × TBuffer × Int) (r25:(List TFrame) × (List TFrame) × TBuffer × Int) (r:Bool) (H:F10_c6 r1 r3 r5 r7 r9 r11 r13 r15 r17 r21 r25=some r):Mean Try.prog (ctl 12 (bdy Try.f10)) (kRet Try.prog [.tmp 0] (fun v' _=>v' = .bool r)) (.top::.ptr 0 0 0 0::.bool r1.2::.top::.int .i64 r3.2::.top::.int .i64 r5.2::.top::.int .i64 r7.2::.top::.int .i64 r9.2::.top::.int .i64 r11.2::.top::.top::.int .i64 r13.2.2::.top::.top::.int .i64 r15.2.2::.top::.top::.int .i64 r17.2.2::.top::.top::.top::.int .i64 r21.2.2.2::.top::.top::.top::.int .i64 r25.2.2.2::tp 8 (tpg 95 (tp 16 (tpg 332 [])))) [.lit 25 [.int .i64 r1.1.Limit,.int .i64 r1.1.Stay,.ro 3 r1.1.List.length false (enR c_TSleeper r1.1.List),.ro 43 r1.1.Group.length false (enR c_TStored r1.1.Group)],.dead,.dead,.dead,.dead,.dead,.dead,.dead,.dead,.dead,.dead,.dead,.dead,.dead,.dead]:=by
 conv=>arg 2;whnf
 simp only [tp]
 unfold F10_c6 at H
 delta eF at H
 try dsimp only at H
 refine seqM ?_
 obtain ⟨r27,e28,H⟩:=bsi H
 obtain ⟨r29,e30,H⟩:=bsi H
 refine draw_rule shT_ok ct10t5_ok 2 (by kernel_rfl) (by kernel_rfl) ?_
 intro an han
 simp only [d_nil,d_cons,nxtD,xrD,xoD,roEq,minL,List.append_nil,refsOp,refs,refsL,mask,maskF,place,placeF,okLog,pairOk,hit,inL,slotsF,ren,renL,rnN,nrH,nrB,nrL,nr,List.replicate_zero,List.replicate_succ,Nat.sub_self,Nat.add_zero,Nat.zero_add,Nat.reduceSub,Nat.lt_add_one,go_sem,Nat.reduceLeDiff,Nat.reduceLT,Nat.reduceAdd,Nat.reduceSub,Nat.reduceBEq,frC,obR,fzL,fzV,fzH,fzHF,fzB,fzOb,fzObL,fzObH,fzObB,rowOb,refsL,refs,inL,ct10t5_24,body24,ct10t5_37,body37,e28,e30]
 repeat ((with_reducible refine And.intro ?_ ?_);focus exact an5)
 refine seqM ?_
 obtain ⟨r31,e32,H⟩:=bsi H
 obtain ⟨r33,e34,H⟩:=bsi H
 refine draw_rule shT_ok ct10t5_ok 2 (by kernel_rfl) (by kernel_rfl) ?_
 intro an han
 simp only [d_nil,d_cons,nxtD,xrD,xoD,roEq,minL,List.append_nil,refsOp,refs,refsL,mask,maskF,place,placeF,okLog,pairOk,hit,inL,slotsF,ren,renL,rnN,nrH,nrB,nrL,nr,List.replicate_zero,List.replicate_succ,Nat.sub_self,Nat.add_zero,Nat.zero_add,Nat.reduceSub,Nat.lt_add_one,go_sem,Nat.reduceLeDiff,Nat.reduceLT,Nat.reduceAdd,Nat.reduceSub,Nat.reduceBEq,frC,obR,fzL,fzV,fzH,fzHF,fzB,fzOb,fzObL,fzObH,fzObB,rowOb,refsL,refs,inL,ct10t5_24,body24,ct10t5_37,body37,e32,e34]
 repeat ((with_reducible refine And.intro ?_ ?_);focus exact an5)
 refine subF_mean (t2:=(.top::.top::.bool r1.2::.top::.int .i64 r3.2::.top::.int .i64 r5.2::.top::.int .i64 r7.2::.top::.int .i64 r9.2::.top::.int .i64 r11.2::.top::.top::.int .i64 r13.2.2::.top::.top::.int .i64 r15.2.2::.top::.top::.int .i64 r17.2.2::.top::.top::.top::.int .i64 r21.2.2.2::.top::.top::.top::.int .i64 r25.2.2.2::.ro 41 r29.1.length false (enR c_TFrame r29.1)::.ro 41 r29.2.1.length false (enR c_TFrame r29.2.1)::.top::.int .i64 r29.2.2.2::.top::.top::.ptr 18 0 0 0::.int .i64 r33.2.2.2::tp 7 (tpg 104 (tp 16 (tpg 316 []))))) (h2:=[.dead,.dead,.dead,.dead,.dead,.dead,.dead,.dead,.dead,.dead,.dead,.dead,.dead,.dead,.dead,.dead,.dead,.dead,.lit 25 [.int .i64 r33.2.2.1.Limit,.int .i64 r33.2.2.1.Stay,.ro 3 r33.2.2.1.List.length false (enR c_TSleeper r33.2.2.1.List),.ro 43 r33.2.2.1.Group.length false (enR c_TStored r33.2.2.1.Group)]]) ?_ ?_
 ·refine SubF_of ⟨[some 0,some 1,some 2,some 3,some 4,some 5,some 6,some 7,some 8,some 9,some 10,some 11,some 12,some 13,some 14,some 15,some 16,some 17,some 18],?_,?_,by rfl,by rfl⟩
  ·simp [CvL,Cv,getM,tp,tp,tpg]
  ·(repeat (first|refine And.intro (by first|exact CvB_dead|exact CvB_same nfA|(simp [CvB,CvL,Cv,blkAt,geth];done)) ?_|trivial))
 exact ok10_c7 r1 r3 r5 r7 r9 r11 r13 r15 r17 r21 r25 r29 r33 _ H
noncomputable def F10_c5 (r1:TBuffer × Bool) (r3:TBuffer × Int) (r5:TBuffer × Int) (r7:TBuffer × Int) (r9:TBuffer × Int) (r11:TBuffer × Int) (r13:(List TFrame) × TBuffer × Int) (r15:TFrame × TBuffer × Int) (r17:TFrame × TBuffer × Int):Option (Bool) :=
 (F37 1).bind fun r19=>(F24 r1.1 1 4 (eF r19) 0).bind fun r21=>(F37 1).bind fun r23=>(F24 r1.1 1 0 (eF r23) (-1)).bind fun r25=>F10_c6 r1 r3 r5 r7 r9 r11 r13 r15 r17 r21 r25
theorem ok10_c5 (r1:TBuffer × Bool) (r3:TBuffer × Int) (r5:TBuffer × Int) (r7:TBuffer × Int) (r9:TBuffer × Int) (r11:TBuffer × Int) (r13:(List TFrame) × TBuffer × Int) (r15:TFrame × TBuffer × Int) (r17:TFrame × TBuffer × Int) (r:Bool) (H:F10_c5 r1 r3 r5 r7 r9 r11 r13 r15 r17=some r):Mean Try.prog (ctl 10 (bdy Try.f10)) (kRet Try.prog [.tmp 0] (fun v' _=>v' = .bool r)) (.top::.ptr 0 0 0 0::.bool r1.2::.top::.int .i64 r3.2::.top::.int .i64 r5.2::.top::.int .i64 r7.2::.top::.int .i64 r9.2::.top::.int .i64 r11.2::.top::.top::.int .i64 r13.2.2::.top::.top::.int .i64 r15.2.2::.top::.top::.int .i64 r17.2.2::tp 8 (tpg 87 (tp 16 (tpg 348 [])))) [.lit 25 [.int .i64 r1.1.Limit,.int .i64 r1.1.Stay,.ro 3 r1.1.List.length false (enR c_TSleeper r1.1.List),.ro 43 r1.1.Group.length false (enR c_TStored r1.1.Group)],.dead,.dead,.dead,.dead,.dead,.dead,.dead,.dead,.dead,.dead]:=by
 conv=>arg 2;whnf
 simp only [tp]
 unfold F10_c5 at H
 delta eF at H
 try dsimp only at H
 refine seqM ?_
 obtain ⟨r19,e20,H⟩:=bsi H
 obtain ⟨r21,e22,H⟩:=bsi H
 refine draw_rule shT_ok ct10t5_ok 2 (by kernel_rfl) (by kernel_rfl) ?_
 intro an han
 simp only [d_nil,d_cons,nxtD,xrD,xoD,roEq,minL,List.append_nil,refsOp,refs,refsL,mask,maskF,place,placeF,okLog,pairOk,hit,inL,slotsF,ren,renL,rnN,nrH,nrB,nrL,nr,List.replicate_zero,List.replicate_succ,Nat.sub_self,Nat.add_zero,Nat.zero_add,Nat.reduceSub,Nat.lt_add_one,go_sem,Nat.reduceLeDiff,Nat.reduceLT,Nat.reduceAdd,Nat.reduceSub,Nat.reduceBEq,frC,obR,fzL,fzV,fzH,fzHF,fzB,fzOb,fzObL,fzObH,fzObB,rowOb,refsL,refs,inL,ct10t5_24,body24,ct10t5_37,body37,e20,e22]
 repeat ((with_reducible refine And.intro ?_ ?_);focus exact an5)
 refine seqM ?_
 obtain ⟨r23,e24,H⟩:=bsi H
 obtain ⟨r25,e26,H⟩:=bsi H
 refine draw_rule shT_ok ct10t5_ok 2 (by kernel_rfl) (by kernel_rfl) ?_
 intro an han
 simp only [d_nil,d_cons,nxtD,xrD,xoD,roEq,minL,List.append_nil,refsOp,refs,refsL,mask,maskF,place,placeF,okLog,pairOk,hit,inL,slotsF,ren,renL,rnN,nrH,nrB,nrL,nr,List.replicate_zero,List.replicate_succ,Nat.sub_self,Nat.add_zero,Nat.zero_add,Nat.reduceSub,Nat.lt_add_one,go_sem,Nat.reduceLeDiff,Nat.reduceLT,Nat.reduceAdd,Nat.reduceSub,Nat.reduceBEq,frC,obR,fzL,fzV,fzH,fzHF,fzB,fzOb,fzObL,fzObH,fzObB,rowOb,refsL,refs,inL,ct10t5_24,body24,ct10t5_37,body37,e24,e26]
 repeat ((with_reducible refine And.intro ?_ ?_);focus exact an5)
 refine subF_mean (t2:=(.top::.ptr 0 0 0 0::.bool r1.2::.top::.int .i64 r3.2::.top::.int .i64 r5.2::.top::.int .i64 r7.2::.top::.int .i64 r9.2::.top::.int .i64 r11.2::.top::.top::.int .i64 r13.2.2::.top::.top::.int .i64 r15.2.2::.top::.top::.int .i64 r17.2.2::.top::.top::.top::.int .i64 r21.2.2.2::.top::.top::.top::.int .i64 r25.2.2.2::tp 8 (tpg 95 (tp 16 (tpg 332 []))))) (h2:=[.lit 25 [.int .i64 r1.1.Limit,.int .i64 r1.1.Stay,.ro 3 r1.1.List.length false (enR c_TSleeper r1.1.List),.ro 43 r1.1.Group.length false (enR c_TStored r1.1.Group)],.dead,.dead,.dead,.dead,.dead,.dead,.dead,.dead,.dead,.dead,.dead,.dead,.dead,.dead]) ?_ ?_
 ·refine SubF_of ⟨[some 0,some 1,some 2,some 3,some 4,some 5,some 6,some 7,some 8,some 9,some 10,some 11,some 12,some 13,some 14],?_,?_,by rfl,by rfl⟩
  ·simp [CvL,Cv,getM,tp,tp,tpg]
  ·(repeat (first|refine And.intro (by first|exact CvB_dead|exact CvB_same nfA|(simp [CvB,CvL,Cv,blkAt,geth];done)) ?_|trivial))
 exact ok10_c6 r1 r3 r5 r7 r9 r11 r13 r15 r17 r21 r25 _ H
noncomputable def F10_c4 (r1:TBuffer × Bool) (r3:TBuffer × Int) (r5:TBuffer × Int) (r7:TBuffer × Int) (r9:TBuffer × Int) (r11:TBuffer × Int) (r13:(List TFrame) × TBuffer × Int):Option (Bool) :=
 (F23 r1.1 2).bind fun r15=>(F23 r1.1 1).bind fun r17=>F10_c5 r1 r3 r5 r7 r9 r11 r13 r15 r17
theorem ok10_c4 (r1:TBuffer × Bool) (r3:TBuffer × Int) (r5:TBuffer × Int) (r7:TBuffer × Int) (r9:TBuffer × Int) (r11:TBuffer × Int) (r13:(List TFrame) × TBuffer × Int) (r:Bool) (H:F10_c4 r1 r3 r5 r7 r9 r11 r13=some r):Mean Try.prog (ctl 8 (bdy Try.f10)) (kRet Try.prog [.tmp 0] (fun v' _=>v' = .bool r)) (.top::.ptr 0 0 0 0::.bool r1.2::.top::.int .i64 r3.2::.top::.int .i64 r5.2::.top::.int .i64 r7.2::.top::.int .i64 r9.2::.top::.int .i64 r11.2::.top::.top::.int .i64 r13.2.2::tp 6 (tpg 83 (tp 12 (tpg 364 [])))) [.lit 25 [.int .i64 r1.1.Limit,.int .i64 r1.1.Stay,.ro 3 r1.1.List.length false (enR c_TSleeper r1.1.List),.ro 43 r1.1.Group.length false (enR c_TStored r1.1.Group)],.dead,.dead,.dead,.dead,.dead,.dead]:=by
 conv=>arg 2;whnf
 simp only [tp]
 unfold F10_c4 at H
 try dsimp only at H
 refine seqM ?_
 obtain ⟨r15,e16,H⟩:=bsi H
 refine rg ct10t4_ok ?_
 simp only [go_sem,Nat.reduceLeDiff,Nat.reduceLT,Nat.reduceAdd,Nat.reduceSub,ct10t4_23,body23,e16]
 repeat ((with_reducible refine And.intro ?_ ?_);focus exact an0)
 refine seqM ?_
 obtain ⟨r17,e18,H⟩:=bsi H
 refine rg ct10t4_ok ?_
 simp only [go_sem,Nat.reduceLeDiff,Nat.reduceLT,Nat.reduceAdd,Nat.reduceSub,ct10t4_23,body23,e18]
 repeat ((with_reducible refine And.intro ?_ ?_);focus exact an0)
 refine subF_mean (t2:=(.top::.ptr 0 0 0 0::.bool r1.2::.top::.int .i64 r3.2::.top::.int .i64 r5.2::.top::.int .i64 r7.2::.top::.int .i64 r9.2::.top::.int .i64 r11.2::.top::.top::.int .i64 r13.2.2::.top::.top::.int .i64 r15.2.2::.top::.top::.int .i64 r17.2.2::tp 8 (tpg 87 (tp 16 (tpg 348 []))))) (h2:=[.lit 25 [.int .i64 r1.1.Limit,.int .i64 r1.1.Stay,.ro 3 r1.1.List.length false (enR c_TSleeper r1.1.List),.ro 43 r1.1.Group.length false (enR c_TStored r1.1.Group)],.dead,.dead,.dead,.dead,.dead,.dead,.dead,.dead,.dead,.dead]) ?_ ?_
 ·refine SubF_of ⟨[some 0,some 1,some 2,some 3,some 4,some 5,some 6,some 7,some 8,some 9,some 10],?_,?_,by rfl,by rfl⟩
  ·simp [CvL,Cv,getM,tp,tp,tpg]
  ·(repeat (first|refine And.intro (by first|exact CvB_dead|exact CvB_same nfA|(simp [CvB,CvL,Cv,blkAt,geth];done)) ?_|trivial))
 exact ok10_c5 r1 r3 r5 r7 r9 r11 r13 r15 r17 _ H
noncomputable def F10_c3 (r1:TBuffer × Bool) (r3:TBuffer × Int) (r5:TBuffer × Int) (r7:TBuffer × Int) (r9:TBuffer × Int):Option (Bool) :=
 (F40 r1.1 256).bind fun r11=>(F21 r1.1 3).bind fun r13=>F10_c4 r1 r3 r5 r7 r9 r11 r13
theorem ok10_c3 (r1:TBuffer × Bool) (r3:TBuffer × Int) (r5:TBuffer × Int) (r7:TBuffer × Int) (r9:TBuffer × Int) (r:Bool) (H:F10_c3 r1 r3 r5 r7 r9=some r):Mean Try.prog (ctl 6 (bdy Try.f10)) (kRet Try.prog [.tmp 0] (fun v' _=>v' = .bool r)) (.top::.ptr 0 0 0 0::.bool r1.2::.top::.int .i64 r3.2::.top::.int .i64 r5.2::.top::.int .i64 r7.2::.top::.int .i64 r9.2::tp 5 (tpg 78 (tp 11 (tpg 376 [])))) [.lit 25 [.int .i64 r1.1.Limit,.int .i64 r1.1.Stay,.ro 3 r1.1.List.length false (enR c_TSleeper r1.1.List),.ro 43 r1.1.Group.length false (enR c_TStored r1.1.Group)],.dead,.dead,.dead,.dead]:=by
 conv=>arg 2;whnf
 simp only [tp]
 unfold F10_c3 at H
 try dsimp only at H
 refine seqM ?_
 obtain ⟨r11,e12,H⟩:=bsi H
 refine rg ct10t2_ok ?_
 simp only [go_sem,Nat.reduceLeDiff,Nat.reduceLT,Nat.reduceAdd,Nat.reduceSub,ct10t2_40,body40,e12]
 repeat ((with_reducible refine And.intro ?_ ?_);focus exact an0)
 refine seqM ?_
 obtain ⟨r13,e14,H⟩:=bsi H
 refine rg ct10t3_ok ?_
 simp only [go_sem,Nat.reduceLeDiff,Nat.reduceLT,Nat.reduceAdd,Nat.reduceSub,ct10t3_21,body21,e14]
 repeat ((with_reducible refine And.intro ?_ ?_);focus exact an0)
 refine subF_mean (t2:=(.top::.ptr 0 0 0 0::.bool r1.2::.top::.int .i64 r3.2::.top::.int .i64 r5.2::.top::.int .i64 r7.2::.top::.int .i64 r9.2::.top::.int .i64 r11.2::.top::.top::.int .i64 r13.2.2::tp 6 (tpg 83 (tp 12 (tpg 364 []))))) (h2:=[.lit 25 [.int .i64 r1.1.Limit,.int .i64 r1.1.Stay,.ro 3 r1.1.List.length false (enR c_TSleeper r1.1.List),.ro 43 r1.1.Group.length false (enR c_TStored r1.1.Group)],.dead,.dead,.dead,.dead,.dead,.dead]) ?_ ?_
 ·refine SubF_of ⟨[some 0,some 1,some 2,some 3,some 4,some 5,some 6],?_,?_,by rfl,by rfl⟩
  ·simp [CvL,Cv,getM,tp,tp,tpg]
  ·(repeat (first|refine And.intro (by first|exact CvB_dead|exact CvB_same nfA|(simp [CvB,CvL,Cv,blkAt,geth];done)) ?_|trivial))
 exact ok10_c4 r1 r3 r5 r7 r9 r11 r13 _ H
noncomputable def F10_c2 (r1:TBuffer × Bool) (r3:TBuffer × Int) (r5:TBuffer × Int):Option (Bool) :=
 (F12 1 1073741825).bind fun r7=>(F40 r1.1 1).bind fun r9=>F10_c3 r1 r3 r5 r7 r9
theorem ok10_c2 (r1:TBuffer × Bool) (r3:TBuffer × Int) (r5:TBuffer × Int) (r:Bool) (H:F10_c2 r1 r3 r5=some r):Mean Try.prog (ctl 4 (bdy Try.f10)) (kRet Try.prog [.tmp 0] (fun v' _=>v' = .bool r)) (.top::.ptr 0 0 0 0::.bool r1.2::.top::.int .i64 r3.2::.top::.int .i64 r5.2::tp 4 (tpg 74 (tp 9 (tpg 387 [])))) [.lit 25 [.int .i64 r1.1.Limit,.int .i64 r1.1.Stay,.ro 3 r1.1.List.length false (enR c_TSleeper r1.1.List),.ro 43 r1.1.Group.length false (enR c_TStored r1.1.Group)],.dead,.dead]:=by
 conv=>arg 2;whnf
 simp only [tp]
 unfold F10_c2 at H
 try dsimp only at H
 refine seqM ?_
 obtain ⟨r7,e8,H⟩:=bsi H
 refine rg ct10t1_ok ?_
 simp only [go_sem,Nat.reduceLeDiff,Nat.reduceLT,Nat.reduceAdd,Nat.reduceSub,ct10t1_12,body12,e8]
 repeat ((with_reducible refine And.intro ?_ ?_);focus exact an0)
 refine seqM ?_
 obtain ⟨r9,e10,H⟩:=bsi H
 refine rg ct10t2_ok ?_
 simp only [go_sem,Nat.reduceLeDiff,Nat.reduceLT,Nat.reduceAdd,Nat.reduceSub,ct10t2_40,body40,e10]
 repeat ((with_reducible refine And.intro ?_ ?_);focus exact an0)
 refine subF_mean (t2:=(.top::.ptr 0 0 0 0::.bool r1.2::.top::.int .i64 r3.2::.top::.int .i64 r5.2::.top::.int .i64 r7.2::.top::.int .i64 r9.2::tp 5 (tpg 78 (tp 11 (tpg 376 []))))) (h2:=[.lit 25 [.int .i64 r1.1.Limit,.int .i64 r1.1.Stay,.ro 3 r1.1.List.length false (enR c_TSleeper r1.1.List),.ro 43 r1.1.Group.length false (enR c_TStored r1.1.Group)],.dead,.dead,.dead,.dead]) ?_ ?_
 ·refine SubF_of ⟨[some 0,some 1,some 2,some 3,some 4],?_,?_,by rfl,by rfl⟩
  ·simp [CvL,Cv,getM,tp,tp,tpg]
  ·(repeat (first|refine And.intro (by first|exact CvB_dead|exact CvB_same nfA|(simp [CvB,CvL,Cv,blkAt,geth];done)) ?_|trivial))
 exact ok10_c3 r1 r3 r5 r7 r9 _ H
noncomputable def F10_c1 (r1:TBuffer × Bool):Option (Bool) :=
 (F12 0 1).bind fun r3=>(F12 65 1).bind fun r5=>F10_c2 r1 r3 r5
theorem ok10_c1 (r1:TBuffer × Bool) (r:Bool) (H:F10_c1 r1=some r):Mean Try.prog (ctl 2 (bdy Try.f10)) (kRet Try.prog [.tmp 0] (fun v' _=>v' = .bool r)) (.top::.ptr 0 0 0 0::.bool r1.2::tp 4 (tpg 70 (tp 8 (tpg 396 [])))) [.lit 25 [.int .i64 r1.1.Limit,.int .i64 r1.1.Stay,.ro 3 r1.1.List.length false (enR c_TSleeper r1.1.List),.ro 43 r1.1.Group.length false (enR c_TStored r1.1.Group)]]:=by
 conv=>arg 2;whnf
 simp only [tp]
 unfold F10_c1 at H
 try dsimp only at H
 refine seqM ?_
 obtain ⟨r3,e4,H⟩:=bsi H
 refine rg ct10t1_ok ?_
 simp only [go_sem,Nat.reduceLeDiff,Nat.reduceLT,Nat.reduceAdd,Nat.reduceSub,ct10t1_12,body12,e4]
 repeat ((with_reducible refine And.intro ?_ ?_);focus exact an0)
 refine seqM ?_
 obtain ⟨r5,e6,H⟩:=bsi H
 refine rg ct10t1_ok ?_
 simp only [go_sem,Nat.reduceLeDiff,Nat.reduceLT,Nat.reduceAdd,Nat.reduceSub,ct10t1_12,body12,e6]
 repeat ((with_reducible refine And.intro ?_ ?_);focus exact an0)
 refine subF_mean (t2:=(.top::.ptr 0 0 0 0::.bool r1.2::.top::.int .i64 r3.2::.top::.int .i64 r5.2::tp 4 (tpg 74 (tp 9 (tpg 387 []))))) (h2:=[.lit 25 [.int .i64 r1.1.Limit,.int .i64 r1.1.Stay,.ro 3 r1.1.List.length false (enR c_TSleeper r1.1.List),.ro 43 r1.1.Group.length false (enR c_TStored r1.1.Group)],.dead,.dead]) ?_ ?_
 ·refine SubF_of ⟨[some 0,some 1,some 2],?_,?_,by rfl,by rfl⟩
  ·simp [CvL,Cv,getM,tp,tp,tpg]
  ·exact ⟨cv,CvB_dead,CvB_dead,trivial⟩
 exact ok10_c2 r1 r3 r5 _ H
noncomputable def F10:Option (Bool) :=
 (F39 3 50).bind fun r1=>F10_c1 r1
noncomputable def body10:List AV->AR
 | []=>.pure ((F10).isSome=true) (.bool (gt F10))
 | _=>.fail
theorem ok10:FnOk Try.prog 10 (pureC body10):=by
 refine pure_fnM body10 (rs:=[.tmp 0]) Try.func10 (by kernel_rfl) rfl rfl ?_
 intro l ob v hb hob
 unfold body10 at hb
 split at hb
 ·injection hb with q1 q2;subst q1 q2
  obtain ⟨r,H⟩:=Option.isSome_iff_exists.1 hob
  rw [H,gt_some]
  refine ⟨[],_,(fun E vs F=>F),rfl,rfl,?_⟩
  rw [Try.ntmps10]
  simp only [List.length_nil,Nat.reduceSub,List.replicate_succ,List.replicate_zero,List.nil_append]
  unfold F10 at H
  try dsimp only at H
  refine sq ctNo_ok ?_
  simp only [go_sem]
  refine seqM ?_
  obtain ⟨r1,e2,H⟩:=bsi H
  refine rg ct10t0_ok ?_
  simp only [go_sem,Nat.reduceLT,Nat.reduceAdd,ct10t0_39,body39,e2]
  repeat ((with_reducible refine And.intro ?_ ?_);focus exact an0)
  refine subF_mean (t2:=(.top::.ptr 0 0 0 0::.bool r1.2::tp 4 (tpg 70 (tp 8 (tpg 396 []))))) (h2:=[.lit 25 [.int .i64 r1.1.Limit,.int .i64 r1.1.Stay,.ro 3 r1.1.List.length false (enR c_TSleeper r1.1.List),.ro 43 r1.1.Group.length false (enR c_TStored r1.1.Group)]]) ?_ ?_
  ·refine SubF_of ⟨[some 0],?_,?_,by rfl,by rfl⟩
   ·simp [CvL,Cv,getM,tp,tp,tpg]
   ·exact ⟨cv,trivial⟩
  exact ok10_c1 r1 _ H
 ·cases hb
end Go.Proofs.Ytefiemaoacmdkaa
