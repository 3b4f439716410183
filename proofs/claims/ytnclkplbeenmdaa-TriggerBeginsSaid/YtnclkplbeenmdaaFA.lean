/-
  Contracts of functions: each computes its partial function.
-/
import Derived.Test.YtnclkplbeenmdaaDB
namespace Go.Proofs.Ytnclkplbeenmdaa
open Go.Am
set_option maxHeartbeats 4000000
set_option maxRecDepth 20000
set_option linter.unusedVariables false
set_option linter.unusedSimpArgs false
attribute [go_sem] w_skip w_label w_goto w_scope k_goto b_goto l_goto s_normal s_exit s_ret s_goto w_region w_draw w_seq w_cond w_block w_exit w_ret w_loop k_normal k_exit k_ret b_normal b_exit b_ret l_normal l_exit l_ret m_normal m_exit m_ret m_goto kL_normal kL_exit kL_ret kJ_normal kJ_exit kJ_ret kJR_normal kJR_ret kS_normal kS_exit kS_ret kS_goto r_normal r_ret o_nil o_cons q_nil q_cons nxt gval gvd gvl gvw dstOf evO ogOp ogC og ogL ogP ogO rho rhoO strip optOk getL setL setT absC absV absL pO hO evLoad ldB geth seth evStore stRes stB evBox evAlloc evFieldAddr evField evIndexAddr evBin2 binI binB binNR binU nilR_isEmpty nilR_t nilR_0 nilR_s evInt evStr evUn evConv cvO evPick mrg evExtract evNil evCall mapR evBuiltin evLen2 vcells vcOk atom tabF cnd retK resFin resL resA resC resCons evBuild evBuildP placeS placeA fillA fillOk putL getP nxtQ pureC_eq pureR genC_eq genR roV roL roOb roObL roW roWL roWOb roWObL nref nrefL binA binN eqSh eqRes evIndex evIndex2 evIndexS evSlice evSlice2 evSliceS evBound evConv2 cvS evAppend appRes srcOf evMake evBuildSlice repL evFn evMin evMax freshC freshR sub_enR0 evClear evClearR evCopy evCopyR lenS cutS Bool.or_false Bool.false_or Bool.or_true Bool.true_or Bool.and_false Bool.false_and Option.map_some Option.map_none Option.getD_some Option.getD_none Option.bind_some Option.bind_none Option.or_some Option.or_none Option.none_or Option.isSome_none Option.isNone_none Option.isNone_some List.nil_append List.cons_append List.append_nil cond_true cond_false List.length_cons List.length_nil beq_self_eq_true Bool.and_true Bool.true_and Bool.not_true Bool.not_false true_and and_true and_self true_implies implies_true ne_eq not_false_eq_true Bool.false_eq_true Bool.true_eq_false false_implies Nat.lt_irrefl Nat.le_refl Nat.succ_ne_self imp_self Bool.cond_false_right Bool.cond_true_left decide_true decide_false Bool.not_eq_true' Bool.not_eq_false' Bool.not_not Nat.zero_mul Nat.zero_add Nat.add_zero Nat.mul_one Nat.one_mul Bool.cond_self tsz3 tby3 tagg3 tslice3 tarr3 tzero3 tzn3 tplaces3 tint3 tstr3 tnoint3 tbool3 tany3 tintk3 tbytes3 tsz4 tby4 tagg4 tslice4 tarr4 tzero4 tzn4 tplaces4 tint4 tstr4 tnoint4 tbool4 tany4 tintk4 tbytes4 tsz5 tby5 tagg5 tslice5 tarr5 tzero5 tzn5 tplaces5 tint5 tstr5 tnoint5 tbool5 tany5 tintk5 tbytes5 tsz9 tby9 tagg9 tslice9 tarr9 tzero9 tzn9 tplaces9 tint9 tstr9 tnoint9 tbool9 tany9 tintk9 tbytes9 tsz23 tby23 tagg23 tslice23 tarr23 tzero23 tzn23 tplaces23 tint23 tstr23 tnoint23 tbool23 tany23 tintk23 tbytes23 tfld23_0 tfld23_1 tfld23_2 tsz25 tby25 tagg25 tslice25 tarr25 tzero25 tzn25 tplaces25 tint25 tstr25 tnoint25 tbool25 tany25 tintk25 tbytes25 tsz27 tby27 tagg27 tslice27 tarr27 tzero27 tzn27 tplaces27 tint27 tstr27 tnoint27 tbool27 tany27 tintk27 tbytes27 tfld27_0 tfld27_1 tfld27_2 tfld27_3 tfld27_4 tfld27_5 tfld27_6 tfld27_7 tfld27_8 tfld27_9 tfld27_10 tfld27_11 tfld27_12 tfld27_13 tfld27_14 tfld27_15 tfld27_16 tfld27_17 tfld27_18 tfld27_19 tsz28 tby28 tagg28 tslice28 tarr28 tzero28 tzn28 tplaces28 tint28 tstr28 tnoint28 tbool28 tany28 tintk28 tbytes28 tsz30 tby30 tagg30 tslice30 tarr30 tzero30 tzn30 tplaces30 tint30 tstr30 tnoint30 tbool30 tany30 tintk30 tbytes30 tfld30_0 tfld30_1 tsz31 tby31 tagg31 tslice31 tarr31 tzero31 tzn31 tplaces31 tint31 tstr31 tnoint31 tbool31 tany31 tintk31 tbytes31 tsz33 tby33 tagg33 tslice33 tarr33 tzero33 tzn33 tplaces33 tint33 tstr33 tnoint33 tbool33 tany33 tintk33 tbytes33 tfld33_0 tfld33_1 tsz36 tby36 tagg36 tslice36 tarr36 tzero36 tzn36 tplaces36 tint36 tstr36 tnoint36 tbool36 tany36 tintk36 tbytes36 tsz49 tby49 tagg49 tslice49 tarr49 tzero49 tzn49 tplaces49 tint49 tstr49 tnoint49 tbool49 tany49 tintk49 tbytes49 tsz50 tby50 tagg50 tslice50 tarr50 tzero50 tzn50 tplaces50 tint50 tstr50 tnoint50 tbool50 tany50 tintk50 tbytes50 tsz52 tby52 tagg52 tslice52 tarr52 tzero52 tzn52 tplaces52 tint52 tstr52 tnoint52 tbool52 tany52 tintk52 tbytes52 tfld52_0 tfld52_1 tfld52_2 tfld52_3 tsz53 tby53 tagg53 tslice53 tarr53 tzero53 tzn53 tplaces53 tint53 tstr53 tnoint53 tbool53 tany53 tintk53 tbytes53 tsz55 tby55 tagg55 tslice55 tarr55 tzero55 tzn55 tplaces55 tint55 tstr55 tnoint55 tbool55 tany55 tintk55 tbytes55 tsz57 tby57 tagg57 tslice57 tarr57 tzero57 tzn57 tplaces57 tint57 tstr57 tnoint57 tbool57 tany57 tintk57 tbytes57 tfld57_0 tfld57_1 tsz71 tby71 tagg71 tslice71 tarr71 tzero71 tzn71 tplaces71 tint71 tstr71 tnoint71 tbool71 tany71 tintk71 tbytes71 tfld71_0 tfld71_1 tfld71_2 tsz73 tby73 tagg73 tslice73 tarr73 tzero73 tzn73 tplaces73 tint73 tstr73 tnoint73 tbool73 tany73 tintk73 tbytes73 tfld73_0 tfld73_1 tfld73_2 tsz78 tby78 tagg78 tslice78 tarr78 tzero78 tzn78 tplaces78 tint78 tstr78 tnoint78 tbool78 tany78 tintk78 tbytes78 tsz95 tby95 tagg95 tslice95 tarr95 tzero95 tzn95 tplaces95 tint95 tstr95 tnoint95 tbool95 tany95 tintk95 tbytes95 tsz98 tby98 tagg98 tslice98 tarr98 tzero98 tzn98 tplaces98 tint98 tstr98 tnoint98 tbool98 tany98 tintk98 tbytes98 tsz100 tby100 tagg100 tslice100 tarr100 tzero100 tzn100 tplaces100 tint100 tstr100 tnoint100 tbool100 tany100 tintk100 tbytes100 tsz101 tby101 tagg101 tslice101 tarr101 tzero101 tzn101 tplaces101 tint101 tstr101 tnoint101 tbool101 tany101 tintk101 tbytes101 tsz103 tby103 tagg103 tslice103 tarr103 tzero103 tzn103 tplaces103 tint103 tstr103 tnoint103 tbool103 tany103 tintk103 tbytes103 tfld103_0 tfld103_1 tsz106 tby106 tagg106 tslice106 tarr106 tzero106 tzn106 tplaces106 tint106 tstr106 tnoint106 tbool106 tany106 tintk106 tbytes106 tsz111 tby111 tagg111 tslice111 tarr111 tzero111 tzn111 tplaces111 tint111 tstr111 tnoint111 tbool111 tany111 tintk111 tbytes111 tsz112 tby112 tagg112 tslice112 tarr112 tzero112 tzn112 tplaces112 tint112 tstr112 tnoint112 tbool112 tany112 tintk112 tbytes112 tsz118 tby118 tagg118 tslice118 tarr118 tzero118 tzn118 tplaces118 tint118 tstr118 tnoint118 tbool118 tany118 tintk118 tbytes118 tsz129 tby129 tagg129 tslice129 tarr129 tzero129 tzn129 tplaces129 tint129 tstr129 tnoint129 tbool129 tany129 tintk129 tbytes129 tsz130 tby130 tagg130 tslice130 tarr130 tzero130 tzn130 tplaces130 tint130 tstr130 tnoint130 tbool130 tany130 tintk130 tbytes130 e_u8_0 fit_u8 de_u8 g_u8 k_u8 e_i64_0 fit_i64 de_i64 g_i64 k_i64 e_b_0 fit_b de_b g_b k_b e_s_0 fit_s de_s g_s k_s e_TTriggerPlan_0 e_TTriggerPlan_1 e_TTriggerPlan_2 fit_TTriggerPlan de_TTriggerPlan g_TTriggerPlan k_TTriggerPlan eta_TTriggerPlan e_A6u8_0 e_A6u8_1 e_A6u8_2 e_A6u8_3 e_A6u8_4 e_A6u8_5 fit_A6u8 de_A6u8 g_A6u8 k_A6u8 eta_A6u8 e_THeader_0 e_THeader_1 e_THeader_2 e_THeader_3 e_THeader_4 e_THeader_5 e_THeader_6 e_THeader_7 e_THeader_8 e_THeader_9 e_THeader_10 e_THeader_11 e_THeader_12 e_THeader_13 e_THeader_14 e_THeader_15 e_THeader_16 e_THeader_17 e_THeader_18 e_THeader_19 e_THeader_20 e_THeader_21 e_THeader_22 e_THeader_23 e_THeader_24 e_THeader_25 e_THeader_26 e_THeader_27 e_THeader_28 e_THeader_29 e_THeader_30 e_THeader_31 e_THeader_32 e_THeader_33 e_THeader_34 e_THeader_35 e_THeader_36 e_THeader_37 e_THeader_38 e_THeader_39 fit_THeader de_THeader g_THeader k_THeader eta_THeader e_lu8_0 fit_lu8 de_lu8 g_lu8 k_lu8 e_TFrame_0 e_TFrame_1 e_TFrame_2 e_TFrame_3 e_TFrame_4 e_TFrame_5 e_TFrame_6 e_TFrame_7 e_TFrame_8 e_TFrame_9 e_TFrame_10 e_TFrame_11 e_TFrame_12 e_TFrame_13 e_TFrame_14 e_TFrame_15 e_TFrame_16 e_TFrame_17 e_TFrame_18 e_TFrame_19 e_TFrame_20 e_TFrame_21 e_TFrame_22 e_TFrame_23 e_TFrame_24 e_TFrame_25 e_TFrame_26 e_TFrame_27 e_TFrame_28 e_TFrame_29 e_TFrame_30 e_TFrame_31 e_TFrame_32 e_TFrame_33 e_TFrame_34 e_TFrame_35 e_TFrame_36 e_TFrame_37 e_TFrame_38 e_TFrame_39 e_TFrame_40 fit_TFrame de_TFrame g_TFrame k_TFrame eta_TFrame e_lTFrame_0 fit_lTFrame de_lTFrame g_lTFrame k_lTFrame e_TPeriod_0 e_TPeriod_1 fit_TPeriod de_TPeriod g_TPeriod k_TPeriod eta_TPeriod e_TStored_0 e_TStored_1 e_TStored_2 e_TStored_3 e_TStored_4 e_TStored_5 e_TStored_6 e_TStored_7 e_TStored_8 e_TStored_9 e_TStored_10 e_TStored_11 e_TStored_12 e_TStored_13 e_TStored_14 e_TStored_15 e_TStored_16 e_TStored_17 e_TStored_18 e_TStored_19 e_TStored_20 e_TStored_21 e_TStored_22 e_TStored_23 e_TStored_24 e_TStored_25 e_TStored_26 e_TStored_27 e_TStored_28 e_TStored_29 e_TStored_30 e_TStored_31 e_TStored_32 e_TStored_33 e_TStored_34 e_TStored_35 e_TStored_36 e_TStored_37 e_TStored_38 e_TStored_39 e_TStored_40 e_TStored_41 e_TStored_42 fit_TStored de_TStored g_TStored k_TStored eta_TStored e_lTStored_0 fit_lTStored de_lTStored g_lTStored k_lTStored e_TSleeper_0 e_TSleeper_1 e_TSleeper_2 fit_TSleeper de_TSleeper g_TSleeper k_TSleeper eta_TSleeper e_lTSleeper_0 fit_lTSleeper de_lTSleeper g_lTSleeper k_lTSleeper e_TBuffer_0 e_TBuffer_1 e_TBuffer_2 e_TBuffer_3 fit_TBuffer de_TBuffer g_TBuffer k_TBuffer eta_TBuffer e_lTTriggerPlan_0 fit_lTTriggerPlan de_lTTriggerPlan g_lTTriggerPlan k_lTTriggerPlan e_li64_0 fit_li64 de_li64 g_li64 k_li64 e_TTraffic_0 e_TTraffic_1 fit_TTraffic de_TTraffic g_TTraffic k_TTraffic eta_TTraffic e_Tqueue_0 e_Tqueue_1 fit_Tqueue de_Tqueue g_Tqueue k_Tqueue eta_Tqueue e_A8u8_0 e_A8u8_1 e_A8u8_2 e_A8u8_3 e_A8u8_4 e_A8u8_5 e_A8u8_6 e_A8u8_7 fit_A8u8 de_A8u8 g_A8u8 k_A8u8 eta_A8u8 e_u64_0 fit_u64 de_u64 g_u64 k_u64 deR_0 deR_1 deR_2 deR_3 deR_4 deR_5 deR_6 deR_7 deR_8 deR_9 deR_10 deR_11 deR_12 litC_x0 litC_x1 litC_x2 litC_x3 litC_x4 litC_x5 litC_x6 litC_x7 litC_x8 litC_x9 litC_x10 litC_x11 strE_u8 Fit_0 Option.isSome_some gt_some gd_one evCopyL evLookup evLk_mp evLk_val evLkM findMb_same findMb_lit findMb_row findMb_dead mapC_nil tabR sub_enR List.drop_zero xrD xoD roEq minL rK rM rG aL aK iK bK sK lK iA bA sA lA or_true true_or Int.toNat_natCast shT_23 shT_25 shT_27 shT_118 Int.toNat_zero Int.cast_ofNat_Int aLs roD roDOb deadL edC edR nodupB rnm rnmL rnmB rnmC_en rnmC_upc rnmH rnm_bif rnmB_bif putH dropH rhoN ptB slN litL celL pK isLit oS isRow inL fzV fzL fzOb fzObL fzH fzHF fzB fzObB fzObH rowOb
noncomputable def F74 (p0:Int):Option (Bool) :=
 some ((bLe 0 p0) && (bLe p0 1099511627776))
noncomputable def body74:List AV->AR
 | [v0]=>.pure (iK .i64 v0/\(F74 (iA v0)).isSome=true) (.bool (gt (F74 (iA v0))))
 | _=>.fail
theorem ok74:FnOk Try.prog 74 (pureC body74):=by
 refine pure_fnM body74 (rs:=[.tmp 2]) Try.func74 (by kernel_rfl) rfl rfl ?_
 intro l ob v hb hob
 unfold body74 at hb
 split at hb
 ·rename_i v0
  injection hb with q1 q2;subst q1 q2
  obtain ⟨hk0_0,hob⟩:=hob
  obtain ⟨r,H⟩:=Option.isSome_iff_exists.1 hob
  rw [H,gt_some]
  have hw0:=iK_wk hk0_0
  generalize iA v0=p0 at H hw0
  refine ⟨[.int .i64 p0],_,(fun E vs F=>FR_wk1 hw0.1 F (fun vs F=>F)),rfl,rfl,?_⟩
  rw [Try.ntmps74]
  simp only [List.length_cons,List.length_nil,Nat.reduceAdd,Nat.reduceSub,List.replicate_succ,List.replicate_zero,List.cons_append,List.nil_append]
  unfold F74 at H
  try dsimp only at H
  refine sq ctNo_ok ?_
  simp only [go_sem]
  refine sq ctNo_ok ?_
  simp only [go_sem]
  repeat ((with_reducible refine And.intro ?_ ?_);focus (first|(with_reducible trivial)|omega|grind))
  refine rg ctNo_ok ?_
  simp only [go_sem]
  obtain rfl:=Option.some.inj H
  first|rfl|simp only [Bool.and_false,Bool.false_and,Bool.and_true,Bool.true_and]
 ·cases hb
noncomputable def ct60t0:Ct:=tab [(74,pureC body74)]
theorem ct60t0_ok:CtOk Try.prog ct60t0:=tab_cons ok74 <| tab_nil
theorem ct60t0_74 (l:List AV) (h:List ABlk):ct60t0 74 l h=pureC body74 l h:=rfl
noncomputable def F60_L1 (p0:List TStored) (p2:Int) (v1_1:Int):Option (Lp (Int) ((Unit) ⊕ (Bool))) :=
 bif (bLt v1_1 (p0.length:Nat)) then (need (inb v1_1 p0.length) <| need (bif (!(bLt p2 ((gd p0 v1_1.toNat).Cat))) then ((F74 ((gd p0 v1_1.toNat).At)).isSome) else true) <| need (bif ((!((bLt p2 ((gd p0 v1_1.toNat).Cat)) || (!(gt (F74 ((gd p0 v1_1.toNat).At)))))) && (bLt 0 v1_1)) then inb (wr .i64 (v1_1 - 1)) p0.length else true) <| bif (((bLt p2 ((gd p0 v1_1.toNat).Cat)) || (!(gt (F74 ((gd p0 v1_1.toNat).At))))) || ((bLt 0 v1_1) && (bLt ((gd p0 v1_1.toNat).At) ((gd p0 ((wr .i64 (v1_1 - 1)).toNat)).At)))) then (some (.done (.inr false))) else (some (.next (wr .i64 (v1_1+1))))) else (some (.done (.inl ())))
noncomputable def F60 (p0:List TStored) (p1:Int) (p2:Int):Option (Bool) :=
 bif (bLt p1 (p0.length:Nat)) then (some false) else (lp (loopD (fun s=>F60_L1 p0 p2 s) 0) (fun _=>some true) some)
noncomputable def body60:List AV->AR
 | [v0,v1,v2]=>.pure (lK k_TStored 43 v0/\iK .i64 v1/\iK .u8 v2/\(F60 (lA g_TStored v0) (iA v1) (iA v2)).isSome=true) (.bool (gt (F60 (lA g_TStored v0) (iA v1) (iA v2))))
 | _=>.fail
theorem ok60:FnOk Try.prog 60 (pureC body60):=by
 refine pure_fnM body60 (rs:=[.tmp 6]) Try.func60 (by kernel_rfl) rfl rfl ?_
 intro l ob v hb hob
 unfold body60 at hb
 split at hb
 ·rename_i v0 v1 v2
  injection hb with q1 q2;subst q1 q2
  obtain ⟨hk0_0,hk1_0,hk2_0,hob⟩:=hob
  obtain ⟨r,H⟩:=Option.isSome_iff_exists.1 hob
  rw [H,gt_some]
  have hw0:=lK_wk (fun r h=>w_TStored h) hk0_0
  have hw1:=iK_wk hk1_0
  have hw2:=iK_wk hk2_0
  generalize lA g_TStored v0=p0 at H hw0
  generalize iA v1=p1 at H hw1
  generalize iA v2=p2 at H hw2
  refine ⟨[.ro 43 p0.length false (enR c_TStored p0),.int .i64 p1,.int .u8 p2],_,(fun E vs F=>FR_wk1 hw0.1 F (fun vs F=>FR_wk1 hw1.1 F (fun vs F=>FR_wk1 hw2.1 F (fun vs F=>F)))),rfl,rfl,?_⟩
  rw [Try.ntmps60]
  simp only [List.length_cons,List.length_nil,Nat.reduceAdd,Nat.reduceSub,List.replicate_succ,List.replicate_zero,List.cons_append,List.nil_append]
  unfold F60 at H
  try dsimp only at H
  refine sq ctNo_ok ?_
  simp only [go_sem]
  refine seqM ?_
  refine sq ctNo_ok ?_
  simp only [go_sem]
  repeat ((with_reducible refine And.intro ?_ ?_);focus (first|(and_intros<;>first|(with_reducible trivial)|omega|assumption|exact nfc|first|exact rfl|exact trivial|exact fitI|exact .inr rfl|exact .inl rfl|exact fun x hx=>absurd hx (by omega))|grind))
  refine condM rfl trivial (fun hc=>?_) (fun hc=>?_)
  ·replace H:=cond_t hc H
   refine sq ctNo_ok ?_
   simp only [go_sem]
   refine rg ctNo_ok ?_
   simp only [go_sem]
   obtain rfl:=Option.some.inj H
   first|rfl|simp only [Bool.and_false,Bool.false_and,Bool.and_true,Bool.true_and]
  replace H:=cond_f hc H
  refine rg ctNo_ok ?_
  simp only [go_sem]
  refine seqM ?_
  refine sq ctNo_ok ?_
  simp only [go_sem]
  repeat ((with_reducible refine And.intro ?_ ?_);focus (first|(and_intros<;>first|(with_reducible trivial)|omega|assumption|exact nfc|first|exact rfl|exact trivial|exact fitI|exact .inr rfl|exact .inl rfl|exact fun x hx=>absurd hx (by omega))|grind))
  refine blkM ?_
  refine loop_den (fun s:Int=>(.ro 43 p0.length false (enR c_TStored p0)::.top::.int .u8 p2::tp 10 (.ro 43 p0.length false (enR c_TStored p0)::.int .i64 (p0.length:Nat)::.int .i64 s::tp 30 []))) (fun s=>[]) (fun e:Unit=>(tp 46 [])) (fun e=>[]) H ?_ (fun v1_1 o H hn1_1 hn2_1=>?_) (fun e H=>?_)
  ·refine SubF_of ⟨[],?_,?_,by rfl,by rfl⟩
   ·simp [CvL,Cv,tp]
   ·trivial
  ·unfold F60_L1 at H
   try dsimp only at H ⊢
   try simp only [tp]
   refine sq ctNo_ok ?_
   simp only [go_sem]
   refine seqM ?_
   refine condM' rfl trivial (fun hc=>?_) (fun hc=>?_)
   ·replace H:=cond_f hc H
    refine rg ctNo_ok ?_
    simp only [go_sem]
    refine ⟨_,(Option.some.inj H).symm,?_⟩
    refine SubF_of ⟨[],?_,?_,by rfl,by rfl⟩
    ·simp [CvL,Cv]
    ·trivial
   replace H:=cond_t hc H
   refine rg ctNo_ok ?_
   simp only [go_sem]
   refine seqM ?_
   refine blkM ?_
   refine seqM ?_
   obtain ⟨f1,H⟩:=need_some.1 H
   replace f1:=inb_iff.1 f1
   refine rg ctNo_ok ?_
   simp only [go_sem,Nat.reduceLT,Nat.reduceAdd,f1]
   repeat ((with_reducible refine And.intro ?_ ?_);focus (first|(with_reducible trivial)|omega|grind))
   refine seqM ?_
   obtain ⟨f2,H⟩:=need_some.1 H
   replace f2:=g_iff.1 f2
   obtain ⟨f3,H⟩:=need_some.1 H
   replace f3:=g_iff.1 f3
   replace f3:=fun g=>inb_iff.1 (f3 g)
   refine draw_quiet shT_ok ct60t0_ok (by kernel_rfl) (by kernel_rfl) ?_
   simp only [go_sem,Nat.reduceLeDiff,Nat.reduceLT,Nat.reduceAdd,ct60t0_74,body74]
   repeat ((with_reducible refine And.intro ?_ ?_);focus (first|(with_reducible trivial)|omega|exact f2|exact f3|(intro g;have q:=f2 (by first|exact g|(rw [g];rfl)|simpa using g);first|exact q|exact ⟨q.1,q.2.1⟩|exact q.2.2|omega|exact ⟨g,q⟩|exact ⟨trivial,q⟩|exact ⟨g,q.1,q.2.1⟩|exact ⟨g,q.2.2⟩)|(intro g;have q:=f3 (by first|exact g|(rw [g];rfl)|simpa using g);first|exact q|exact ⟨q.1,q.2.1⟩|exact q.2.2|omega|exact ⟨g,q⟩|exact ⟨trivial,q⟩|exact ⟨g,q.1,q.2.1⟩|exact ⟨g,q.2.2⟩)|(intro g;(try have q0:=f2 (by first|exact g|(rw [g];rfl)|simpa using g));(try have q1:=f3 (by first|exact g|(rw [g];rfl)|simpa using g));and_intros<;>first|(with_reducible trivial)|assumption|exact nfc|(intro g2;rw [g,g2];rfl)|(intro g2;assumption)|(simp only [g,Bool.true_and,Bool.and_true,Bool.not_false,Bool.not_true];assumption)|grind)|(and_intros<;>first|(with_reducible trivial)|omega|assumption|exact nfc|first|exact rfl|exact trivial|exact fitI|exact .inr rfl|exact .inl rfl|exact fun x hx=>absurd hx (by omega))|grind))
   refine condM rfl trivial (fun hc=>?_) (fun hc=>?_)
   ·replace H:=cond_t hc H
    refine sq ctNo_ok ?_
    simp only [go_sem]
    refine rg ctNo_ok ?_
    simp only [go_sem]
    have H:=hn2_1 _ (Option.some.inj H).symm
    obtain rfl:=Option.some.inj H
    first|rfl|simp only [Bool.and_false,Bool.false_and,Bool.and_true,Bool.true_and]
   replace H:=cond_f hc H
   refine rg ctNo_ok ?_
   simp only [go_sem]
   refine rg ctNo_ok ?_
   simp only [go_sem]
   refine ⟨_,(Option.some.inj H).symm,?_⟩
   refine SubF_of ⟨[],?_,?_,by rfl,by rfl⟩
   ·simp [CvL,Cv]
   ·trivial
  ·try dsimp only at H ⊢
   try simp only [tp]
   try simp only [m_normal]
   refine sq ctNo_ok ?_
   simp only [go_sem]
   refine rg ctNo_ok ?_
   simp only [go_sem]
   obtain rfl:=Option.some.inj H
   first|rfl|simp only [Bool.and_false,Bool.false_and,Bool.and_true,Bool.true_and]
 ·cases hb
noncomputable def F76 (p0:TSleeper):Option (Bool) :=
 some p0.Asleep
noncomputable def body76:List AV->AR
 | [v0]=>.pure (aK 3 k_TSleeper v0/\(F76 (g_TSleeper (aL v0))).isSome=true) (.bool (gt (F76 (g_TSleeper (aL v0)))))
 | _=>.fail
theorem ok76:FnOk Try.prog 76 (pureC body76):=by
 refine pure_fnM body76 (rs:=[.tmp 2]) Try.func76 (by kernel_rfl) rfl rfl ?_
 intro l ob v hb hob
 unfold body76 at hb
 split at hb
 ·rename_i v0
  injection hb with q1 q2;subst q1 q2
  obtain ⟨hk0_0,hob⟩:=hob
  obtain ⟨r,H⟩:=Option.isSome_iff_exists.1 hob
  rw [H,gt_some]
  have hw0:=wA_TSleeper hk0_0
  generalize g_TSleeper (aL v0)=p0 at H hw0
  refine ⟨[.agg [.int .i64 p0.Aid,.bool p0.Asleep,.ro 43 p0.Held.length false (enR c_TStored p0.Held)]],_,(fun E vs F=>FR_wk1 hw0.1 F (fun vs F=>F)),rfl,rfl,?_⟩
  rw [Try.ntmps76]
  simp only [List.length_cons,List.length_nil,Nat.reduceAdd,Nat.reduceSub,List.replicate_succ,List.replicate_zero,List.cons_append,List.nil_append]
  unfold F76 at H
  try dsimp only at H
  refine sq ctNo_ok ?_
  simp only [go_sem]
  refine sq ctNo_ok ?_
  simp only [go_sem,Nat.reduceLeDiff,Nat.reduceLT,Nat.reduceAdd]
  repeat ((with_reducible refine And.intro ?_ ?_);focus (first|(with_reducible trivial)|omega|grind))
  refine rg ctNo_ok ?_
  simp only [go_sem]
  obtain rfl:=Option.some.inj H
  first|rfl|simp only [Bool.and_false,Bool.false_and,Bool.and_true,Bool.true_and]
 ·cases hb
noncomputable def ct52_0t0:Ct:=tab [(76,pureC body76)]
theorem ct52_0t0_ok:CtOk Try.prog ct52_0t0:=tab_cons ok76 <| tab_nil
theorem ct52_0t0_76 (l:List AV) (h:List ABlk):ct52_0t0 76 l h=pureC body76 l h:=rfl
noncomputable def F52_0_L1 (p0:List TSleeper) (v1_1:Int):Option (Lp (Int) ((Unit) ⊕ (Int))) :=
 bif (bLt v1_1 (p0.length:Nat)) then (need (inb v1_1 p0.length) <| (F76 (gd p0 v1_1.toNat)).bind fun r2=>bif r2 then (some (.done (.inr v1_1))) else (some (.next (wr .i64 (v1_1+1))))) else (some (.done (.inl ())))
noncomputable def F52_0 (p0:List TSleeper):Option (Int) :=
 lp (loopD (fun s=>F52_0_L1 p0 s) 0) (fun _=>some (-1)) some
noncomputable def body52_0:List AV->AR
 | [v0,.fn 76 []]=>.pure (lK k_TSleeper 3 v0/\(F52_0 (lA g_TSleeper v0)).isSome=true) (.int .i64 (gt (F52_0 (lA g_TSleeper v0))))
 | _=>.fail
theorem ok52_0:FnOk Try.prog 52 (pureC body52_0):=by
 refine pure_fnM body52_0 (rs:=[.tmp 4]) Try.func52 (by kernel_rfl) rfl rfl ?_
 intro l ob v hb hob
 unfold body52_0 at hb
 split at hb
 ·rename_i v0
  injection hb with q1 q2;subst q1 q2
  obtain ⟨hk0_0,hob⟩:=hob
  obtain ⟨r,H⟩:=Option.isSome_iff_exists.1 hob
  rw [H,gt_some]
  have hw0:=lK_wk (fun r h=>w_TSleeper h) hk0_0
  generalize lA g_TSleeper v0=p0 at H hw0
  refine ⟨[.ro 3 p0.length false (enR c_TSleeper p0),.fn 76 []],_,(fun E vs F=>FR_wk1 hw0.1 F (fun vs F=>FR_wk1 (fn_wk LW_nil) F (fun vs F=>F))),rfl,rfl,?_⟩
  rw [Try.ntmps52]
  simp only [List.length_cons,List.length_nil,Nat.reduceAdd,Nat.reduceSub,List.replicate_succ,List.replicate_zero,List.cons_append,List.nil_append]
  unfold F52_0 at H
  try dsimp only at H
  refine sq ctNo_ok ?_
  simp only [go_sem]
  refine seqM ?_
  refine sq ctNo_ok ?_
  simp only [go_sem]
  repeat ((with_reducible refine And.intro ?_ ?_);focus (first|(and_intros<;>first|(with_reducible trivial)|omega|assumption|exact nfc|first|exact rfl|exact trivial|exact fitI|exact .inr rfl|exact .inl rfl|exact fun x hx=>absurd hx (by omega))|grind))
  refine blkM ?_
  refine loop_den (fun s:Int=>(.ro 3 p0.length false (enR c_TSleeper p0)::.fn 76 []::tp 5 (.int .i64 (p0.length:Nat)::.int .i64 s::tp 10 []))) (fun s=>[]) (fun e:Unit=>(tp 19 [])) (fun e=>[]) H ?_ (fun v1_1 o H hn1_1 hn2_1=>?_) (fun e H=>?_)
  ·refine SubF_of ⟨[],?_,?_,by rfl,by rfl⟩
   ·simp [CvL,Cv,tp]
   ·trivial
  ·unfold F52_0_L1 at H
   try dsimp only at H ⊢
   try simp only [tp]
   refine sq ctNo_ok ?_
   simp only [go_sem]
   refine seqM ?_
   refine condM' rfl trivial (fun hc=>?_) (fun hc=>?_)
   ·replace H:=cond_f hc H
    refine rg ctNo_ok ?_
    simp only [go_sem]
    refine ⟨_,(Option.some.inj H).symm,?_⟩
    refine SubF_of ⟨[],?_,?_,by rfl,by rfl⟩
    ·simp [CvL,Cv]
    ·trivial
   replace H:=cond_t hc H
   refine rg ctNo_ok ?_
   simp only [go_sem]
   refine seqM ?_
   refine blkM ?_
   refine sq ctNo_ok ?_
   simp only [go_sem]
   refine seqM ?_
   obtain ⟨f1,H⟩:=need_some.1 H
   replace f1:=inb_iff.1 f1
   obtain ⟨r2,e3,H⟩:=bsi H
   refine rg ct52_0t0_ok ?_
   simp only [go_sem,Nat.reduceLT,Nat.reduceAdd,ct52_0t0_76,body76,f1,e3]
   repeat ((with_reducible refine And.intro ?_ ?_);focus (first|(and_intros<;>first|(with_reducible trivial)|omega|assumption|exact nfc|first|exact rfl|exact trivial|exact fitI|exact .inr rfl|exact .inl rfl|exact fun x hx=>absurd hx (by omega))|grind))
   refine condM rfl trivial (fun hc=>?_) (fun hc=>?_)
   ·replace H:=cond_t hc H
    refine sq ctNo_ok ?_
    simp only [go_sem]
    refine rg ctNo_ok ?_
    simp only [go_sem]
    have H:=hn2_1 _ (Option.some.inj H).symm
    obtain rfl:=Option.some.inj H
    first|rfl|simp only [Bool.and_false,Bool.false_and,Bool.and_true,Bool.true_and]
   replace H:=cond_f hc H
   refine rg ctNo_ok ?_
   simp only [go_sem]
   refine rg ctNo_ok ?_
   simp only [go_sem]
   refine ⟨_,(Option.some.inj H).symm,?_⟩
   refine SubF_of ⟨[],?_,?_,by rfl,by rfl⟩
   ·simp [CvL,Cv]
   ·trivial
  ·try dsimp only at H ⊢
   try simp only [tp]
   try simp only [m_normal]
   refine sq ctNo_ok ?_
   simp only [go_sem]
   refine rg ctNo_ok ?_
   simp only [go_sem]
   obtain rfl:=Option.some.inj H
   first|rfl|simp only [Bool.and_false,Bool.false_and,Bool.and_true,Bool.true_and]
 ·cases hb
noncomputable def ct75_0t0:Ct:=tab [(52,pureC body52_0)]
theorem ct75_0t0_ok:CtOk Try.prog ct75_0t0:=tab_cons ok52_0 <| tab_nil
theorem ct75_0t0_52 (l:List AV) (h:List ABlk):ct75_0t0 52 l h=pureC body52_0 l h:=rfl
noncomputable def F75_0 (p0:List TSleeper):Option (Bool) :=
 (F52_0 p0).bind fun r1=>some (bLe 0 r1)
noncomputable def body75_0:List AV->AR
 | [v0,.fn 76 []]=>.pure (lK k_TSleeper 3 v0/\(F75_0 (lA g_TSleeper v0)).isSome=true) (.bool (gt (F75_0 (lA g_TSleeper v0))))
 | _=>.fail
theorem ok75_0:FnOk Try.prog 75 (pureC body75_0):=by
 refine pure_fnM body75_0 (rs:=[.tmp 4]) Try.func75 (by kernel_rfl) rfl rfl ?_
 intro l ob v hb hob
 unfold body75_0 at hb
 split at hb
 ·rename_i v0
  injection hb with q1 q2;subst q1 q2
  obtain ⟨hk0_0,hob⟩:=hob
  obtain ⟨r,H⟩:=Option.isSome_iff_exists.1 hob
  rw [H,gt_some]
  have hw0:=lK_wk (fun r h=>w_TSleeper h) hk0_0
  generalize lA g_TSleeper v0=p0 at H hw0
  refine ⟨[.ro 3 p0.length false (enR c_TSleeper p0),.fn 76 []],_,(fun E vs F=>FR_wk1 hw0.1 F (fun vs F=>FR_wk1 (fn_wk LW_nil) F (fun vs F=>F))),rfl,rfl,?_⟩
  rw [Try.ntmps75]
  simp only [List.length_cons,List.length_nil,Nat.reduceAdd,Nat.reduceSub,List.replicate_succ,List.replicate_zero,List.cons_append,List.nil_append]
  unfold F75_0 at H
  try dsimp only at H
  refine sq ctNo_ok ?_
  simp only [go_sem]
  refine seqM ?_
  obtain ⟨r1,e2,H⟩:=bsi H
  refine rg ct75_0t0_ok ?_
  simp only [go_sem,ct75_0t0_52,body52_0,e2]
  repeat ((with_reducible refine And.intro ?_ ?_);focus (first|(and_intros<;>first|(with_reducible trivial)|omega|assumption|exact nfc|first|exact rfl|exact trivial|exact fitI|exact .inr rfl|exact .inl rfl|exact fun x hx=>absurd hx (by omega))|grind))
  refine rg ctNo_ok ?_
  simp only [go_sem]
  obtain rfl:=Option.some.inj H
  first|rfl|simp only [Bool.and_false,Bool.false_and,Bool.and_true,Bool.true_and]
 ·cases hb
noncomputable def ct61t0:Ct:=tab [(75,pureC body75_0)]
theorem ct61t0_ok:CtOk Try.prog ct61t0:=tab_cons ok75_0 <| tab_nil
theorem ct61t0_75 (l:List AV) (h:List ABlk):ct61t0 75 l h=pureC body75_0 l h:=rfl
noncomputable def F61 (p0:TBuffer):Option (Bool) :=
 (F75_0 p0.List).bind fun r1=>some r1
noncomputable def body61:List AV->AR
 | [v0]=>.pure (aK 4 k_TBuffer v0/\(F61 (g_TBuffer (aL v0))).isSome=true) (.bool (gt (F61 (g_TBuffer (aL v0)))))
 | _=>.fail
theorem ok61:FnOk Try.prog 61 (pureC body61):=by
 refine pure_fnM body61 (rs:=[.tmp 2]) Try.func61 (by kernel_rfl) rfl rfl ?_
 intro l ob v hb hob
 unfold body61 at hb
 split at hb
 ·rename_i v0
  injection hb with q1 q2;subst q1 q2
  obtain ⟨hk0_0,hob⟩:=hob
  obtain ⟨r,H⟩:=Option.isSome_iff_exists.1 hob
  rw [H,gt_some]
  have hw0:=wA_TBuffer hk0_0
  generalize g_TBuffer (aL v0)=p0 at H hw0
  refine ⟨[.agg [.int .i64 p0.Limit,.int .i64 p0.Stay,.ro 3 p0.List.length false (enR c_TSleeper p0.List),.ro 43 p0.Group.length false (enR c_TStored p0.Group)]],_,(fun E vs F=>FR_wk1 hw0.1 F (fun vs F=>F)),rfl,rfl,?_⟩
  rw [Try.ntmps61]
  simp only [List.length_cons,List.length_nil,Nat.reduceAdd,Nat.reduceSub,List.replicate_succ,List.replicate_zero,List.cons_append,List.nil_append]
  unfold F61 at H
  try dsimp only at H
  refine sq ctNo_ok ?_
  simp only [go_sem]
  refine seqM ?_
  obtain ⟨r1,e2,H⟩:=bsi H
  refine rg ct61t0_ok ?_
  simp only [go_sem,Nat.reduceLeDiff,Nat.reduceLT,Nat.reduceAdd,ct61t0_75,body75_0,e2]
  repeat ((with_reducible refine And.intro ?_ ?_);focus (first|(and_intros<;>first|(with_reducible trivial)|omega|assumption|exact nfc|first|exact rfl|exact trivial|exact fitI|exact .inr rfl|exact .inl rfl|exact fun x hx=>absurd hx (by omega))|grind))
  refine rg ctNo_ok ?_
  simp only [go_sem]
  obtain rfl:=Option.some.inj H
  first|rfl|simp only [Bool.and_false,Bool.false_and,Bool.and_true,Bool.true_and]
 ·cases hb
noncomputable def ct34t0:Ct:=tab [(60,pureC body60)]
theorem ct34t0_ok:CtOk Try.prog ct34t0:=tab_cons ok60 <| tab_nil
theorem ct34t0_60 (l:List AV) (h:List ABlk):ct34t0 60 l h=pureC body60 l h:=rfl
noncomputable def ct34t1:Ct:=tab [(60,pureC body60),(61,pureC body61)]
theorem ct34t1_ok:CtOk Try.prog ct34t1:=tab_cons ok60 <| tab_cons ok61 <| tab_nil
theorem ct34t1_60 (l:List AV) (h:List ABlk):ct34t1 60 l h=pureC body60 l h:=rfl
theorem ct34t1_61 (l:List AV) (h:List ABlk):ct34t1 61 l h=pureC body61 l h:=rfl
noncomputable def F34_L1 (p0:TBuffer) (v1_1:Bool) (v1_2:Int) (v1_3:Int):Option (Lp (Bool × Int × Int) ((Bool) ⊕ (Int))) :=
 bif (bLt v1_3 (p0.List.length:Nat)) then (need (inb v1_3 p0.List.length) <| need (bif ((v1_1 && (bLt v1_2 ((gd p0.List v1_3.toNat).Aid))) && (bLe ((gd p0.List v1_3.toNat).Aid) 255)) then ((F60 ((gd p0.List v1_3.toNat).Held) p0.Limit 3).isSome) else true) <| some (.next (((((v1_1 && (bLt v1_2 ((gd p0.List v1_3.toNat).Aid))) && (bLe ((gd p0.List v1_3.toNat).Aid) 255)) && (gt (F60 ((gd p0.List v1_3.toNat).Held) p0.Limit 3))) && ((gd p0.List v1_3.toNat).Asleep || (bEq (((gd p0.List v1_3.toNat).Held).length:Nat) 0))),(gd p0.List v1_3.toNat).Aid,wr .i64 (v1_3+1)))) else (some (.done (.inl v1_1)))
noncomputable def F34 (p0:TBuffer):Option (Int) :=
 lp (loopD (fun s=>F34_L1 p0 s.1 s.2.1 s.2.2) ((((((bLe 1 p0.Limit) && (bLe p0.Limit 64)) && (bLe 1 p0.Stay)) && (bLe p0.Stay 1073741824)) && (bLe (p0.List.length:Nat) 32)),0,0)) (fun w1_4=>need (bif (!(!w1_4)) then ((F60 p0.Group p0.Limit 0).isSome) else true) <| need (bif ((!((!w1_4) || (!(gt (F60 p0.Group p0.Limit 0))))) && (bLt 0 (p0.Group.length:Nat))) then ((F61 p0).isSome) else true) <| bif (((!w1_4) || (!(gt (F60 p0.Group p0.Limit 0)))) || ((bLt 0 (p0.Group.length:Nat)) && (!(gt (F61 p0))))) then (some 8) else (some 0)) some
noncomputable def body34:List AV->AR
 | [v0]=>.pure (aK 4 k_TBuffer v0/\(F34 (g_TBuffer (aL v0))).isSome=true) (.int .i64 (gt (F34 (g_TBuffer (aL v0)))))
 | _=>.fail
theorem ok34:FnOk Try.prog 34 (pureC body34):=by
 refine pure_fnM body34 (rs:=[.tmp 2]) Try.func34 (by kernel_rfl) rfl rfl ?_
 intro l ob v hb hob
 unfold body34 at hb
 split at hb
 ·rename_i v0
  injection hb with q1 q2;subst q1 q2
  obtain ⟨hk0_0,hob⟩:=hob
  obtain ⟨r,H⟩:=Option.isSome_iff_exists.1 hob
  rw [H,gt_some]
  have hw0:=wA_TBuffer hk0_0
  generalize g_TBuffer (aL v0)=p0 at H hw0
  refine ⟨[.agg [.int .i64 p0.Limit,.int .i64 p0.Stay,.ro 3 p0.List.length false (enR c_TSleeper p0.List),.ro 43 p0.Group.length false (enR c_TStored p0.Group)]],_,(fun E vs F=>FR_wk1 hw0.1 F (fun vs F=>F)),rfl,rfl,?_⟩
  rw [Try.ntmps34]
  simp only [List.length_cons,List.length_nil,Nat.reduceAdd,Nat.reduceSub,List.replicate_succ,List.replicate_zero,List.cons_append,List.nil_append]
  unfold F34 at H
  try dsimp only at H
  refine sq ctNo_ok ?_
  simp only [go_sem]
  refine sq ctNo_ok ?_
  simp only [go_sem,Nat.reduceLeDiff,Nat.reduceLT,Nat.reduceAdd]
  repeat ((with_reducible refine And.intro ?_ ?_);focus (first|(with_reducible trivial)|omega|(intro g;and_intros<;>first|(with_reducible trivial)|assumption|exact nfc|(intro g2;rw [g,g2];rfl)|(intro g2;assumption)|(simp only [g,Bool.true_and,Bool.and_true,Bool.not_false,Bool.not_true];assumption)|grind)|(and_intros<;>first|(with_reducible trivial)|omega|assumption|exact nfc|first|exact rfl|exact trivial|exact fitI|exact .inr rfl|exact .inl rfl|exact fun x hx=>absurd hx (by omega))|grind))
  refine sq ctNo_ok ?_
  simp only [go_sem]
  refine seqM ?_
  refine sq ctNo_ok ?_
  simp only [go_sem,Nat.reduceLeDiff,Nat.reduceLT,Nat.reduceAdd]
  repeat ((with_reducible refine And.intro ?_ ?_);focus (first|(and_intros<;>first|(with_reducible trivial)|omega|assumption|exact nfc|first|exact rfl|exact trivial|exact fitI|exact .inr rfl|exact .inl rfl|exact fun x hx=>absurd hx (by omega))|grind))
  refine blkM ?_
  refine loop_den (fun s:Bool × Int × Int=>(.top::.ptr 0 0 0 0::.top::.bool s.1::.int .i64 s.2.1::tp 27 (.ro 3 p0.List.length false (enR c_TSleeper p0.List)::.int .i64 (p0.List.length:Nat)::.int .i64 s.2.2::tp 56 []))) (fun s=>[.lit 52 [.int .i64 p0.Limit,.int .i64 p0.Stay,.ro 3 p0.List.length false (enR c_TSleeper p0.List),.ro 43 p0.Group.length false (enR c_TStored p0.Group)]]) (fun e:Bool=>(.top::.ptr 0 0 0 0::.top::.bool e::tp 87 [])) (fun e=>[.lit 52 [.int .i64 p0.Limit,.int .i64 p0.Stay,.ro 3 p0.List.length false (enR c_TSleeper p0.List),.ro 43 p0.Group.length false (enR c_TStored p0.Group)]]) H ?_ (fun s o H hn1_1 hn2_1=>?_) (fun w1_4 H=>?_)
  ·refine SubF_of ⟨[some 0],?_,?_,by rfl,by rfl⟩
   ·simp [CvL,Cv,getM,tp]
   ·exact ⟨(by simp [CvB,CvL,Cv,blkAt,geth]),trivial⟩
  ·obtain ⟨v1_1,v1_2,v1_3⟩:=s
   unfold F34_L1 at H
   try dsimp only at H ⊢
   try simp only [tp]
   refine sq ctNo_ok ?_
   simp only [go_sem]
   refine seqM ?_
   refine condM' rfl trivial (fun hc=>?_) (fun hc=>?_)
   ·replace H:=cond_f hc H
    refine rg ctNo_ok ?_
    simp only [go_sem]
    refine ⟨_,(Option.some.inj H).symm,?_⟩
    refine SubF_of ⟨[some 0],?_,?_,by rfl,by rfl⟩
    ·simp [CvL,Cv,getM]
    ·exact ⟨(by simp [CvB,CvL,Cv,blkAt,geth]),trivial⟩
   replace H:=cond_t hc H
   refine rg ctNo_ok ?_
   simp only [go_sem]
   refine seqM ?_
   refine blkM ?_
   refine seqM ?_
   obtain ⟨f1,H⟩:=need_some.1 H
   replace f1:=inb_iff.1 f1
   refine rg ctNo_ok ?_
   simp only [go_sem,Nat.reduceLT,Nat.reduceAdd,f1]
   repeat ((with_reducible refine And.intro ?_ ?_);focus (first|(with_reducible trivial)|omega|grind))
   refine seqM ?_
   obtain ⟨f2,H⟩:=need_some.1 H
   replace f2:=g_iff.1 f2
   refine rg ct34t0_ok ?_
   simp only [go_sem,Nat.reduceLeDiff,Nat.reduceLT,Nat.reduceAdd,ct34t0_60,body60]
   repeat ((with_reducible refine And.intro ?_ ?_);focus (first|(with_reducible trivial)|omega|exact f2|(intro g;have q:=f2 (by first|exact g|(rw [g];rfl)|simpa using g);first|exact q|exact ⟨q.1,q.2.1⟩|exact q.2.2|omega|exact ⟨g,q⟩|exact ⟨trivial,q⟩|exact ⟨g,q.1,q.2.1⟩|exact ⟨g,q.2.2⟩)|(intro g;(try have q0:=f2 (by first|exact g|(rw [g];rfl)|simpa using g));and_intros<;>first|(with_reducible trivial)|assumption|exact nfc|(intro g2;rw [g,g2];rfl)|(intro g2;assumption)|(simp only [g,Bool.true_and,Bool.and_true,Bool.not_false,Bool.not_true];assumption)|grind)|(and_intros<;>first|(with_reducible trivial)|omega|assumption|exact nfc|first|exact rfl|exact trivial|exact fitI|exact .inr rfl|exact .inl rfl|exact fun x hx=>absurd hx (by omega))|grind))
   refine rg ctNo_ok ?_
   simp only [go_sem,Nat.reduceLeDiff,Nat.reduceLT,Nat.reduceAdd]
   repeat ((with_reducible refine And.intro ?_ ?_);focus (first|(with_reducible trivial)|omega|grind))
   refine rg ctNo_ok ?_
   simp only [go_sem]
   refine ⟨_,(Option.some.inj H).symm,?_⟩
   refine SubF_of ⟨[some 0],?_,?_,by rfl,by rfl⟩
   ·simp [CvL,Cv,getM]
   ·exact ⟨(by simp [CvB,CvL,Cv,blkAt,geth]),trivial⟩
  ·try dsimp only at H ⊢
   try simp only [tp]
   try simp only [m_normal]
   refine seqM ?_
   refine seqM ?_
   obtain ⟨f3,H⟩:=need_some.1 H
   replace f3:=g_iff.1 f3
   obtain ⟨f4,H⟩:=need_some.1 H
   replace f4:=g_iff.1 f4
   refine rg ct34t1_ok ?_
   simp only [go_sem,Nat.reduceLeDiff,Nat.reduceLT,Nat.reduceAdd,ct34t1_60,body60,ct34t1_61,body61]
   repeat ((with_reducible refine And.intro ?_ ?_);focus (first|(with_reducible trivial)|omega|exact f3|exact f4|(intro g;have q:=f3 (by first|exact g|(rw [g];rfl)|simpa using g);first|exact q|exact ⟨q.1,q.2.1⟩|exact q.2.2|omega|exact ⟨g,q⟩|exact ⟨trivial,q⟩|exact ⟨g,q.1,q.2.1⟩|exact ⟨g,q.2.2⟩)|(intro g;have q:=f4 (by first|exact g|(rw [g];rfl)|simpa using g);first|exact q|exact ⟨q.1,q.2.1⟩|exact q.2.2|omega|exact ⟨g,q⟩|exact ⟨trivial,q⟩|exact ⟨g,q.1,q.2.1⟩|exact ⟨g,q.2.2⟩)|(intro g;(try have q0:=f3 (by first|exact g|(rw [g];rfl)|simpa using g));(try have q1:=f4 (by first|exact g|(rw [g];rfl)|simpa using g));and_intros<;>first|(with_reducible trivial)|assumption|exact nfc|(intro g2;rw [g,g2];rfl)|(intro g2;assumption)|(simp only [g,Bool.true_and,Bool.and_true,Bool.not_false,Bool.not_true];assumption)|grind)|(and_intros<;>first|(with_reducible trivial)|omega|assumption|exact nfc|first|exact rfl|exact trivial|exact fitI|exact .inr rfl|exact .inl rfl|exact fun x hx=>absurd hx (by omega))|grind))
   refine condM rfl trivial (fun hc=>?_) (fun hc=>?_)
   ·replace H:=cond_t hc H
    refine sq ctNo_ok ?_
    simp only [go_sem]
    refine rg ctNo_ok ?_
    simp only [go_sem]
    obtain rfl:=Option.some.inj H
    first|rfl|simp only [Bool.and_false,Bool.false_and,Bool.and_true,Bool.true_and]
   replace H:=cond_f hc H
   refine rg ctNo_ok ?_
   simp only [go_sem]
   refine sq ctNo_ok ?_
   simp only [go_sem]
   refine rg ctNo_ok ?_
   simp only [go_sem]
   obtain rfl:=Option.some.inj H
   first|rfl|simp only [Bool.and_false,Bool.false_and,Bool.and_true,Bool.true_and]
 ·cases hb
noncomputable def F20 (p0:TTriggerPlan):Option (Int) :=
 bif ((((bLt 15 p0.Start) || (bLt 15 p0.Deliver)) || (bLt p0.Most 0)) || (bLt 16 p0.Most)) then (some 8) else (some 0)
noncomputable def body20:List AV->AR
 | [v0]=>.pure (aK 3 k_TTriggerPlan v0/\(F20 (g_TTriggerPlan (aL v0))).isSome=true) (.int .i64 (gt (F20 (g_TTriggerPlan (aL v0)))))
 | _=>.fail
theorem ok20:FnOk Try.prog 20 (pureC body20):=by
 refine pure_fnM body20 (rs:=[.tmp 2]) Try.func20 (by kernel_rfl) rfl rfl ?_
 intro l ob v hb hob
 unfold body20 at hb
 split at hb
 ·rename_i v0
  injection hb with q1 q2;subst q1 q2
  obtain ⟨hk0_0,hob⟩:=hob
  obtain ⟨r,H⟩:=Option.isSome_iff_exists.1 hob
  rw [H,gt_some]
  have hw0:=wA_TTriggerPlan hk0_0
  generalize g_TTriggerPlan (aL v0)=p0 at H hw0
  refine ⟨[.agg [.int .u8 p0.Start,.int .u8 p0.Deliver,.int .i64 p0.Most]],_,(fun E vs F=>FR_wk1 hw0.1 F (fun vs F=>F)),rfl,rfl,?_⟩
  rw [Try.ntmps20]
  simp only [List.length_cons,List.length_nil,Nat.reduceAdd,Nat.reduceSub,List.replicate_succ,List.replicate_zero,List.cons_append,List.nil_append]
  unfold F20 at H
  try dsimp only at H
  refine sq ctNo_ok ?_
  simp only [go_sem]
  refine seqM ?_
  refine sq ctNo_ok ?_
  simp only [go_sem,Nat.reduceLeDiff,Nat.reduceLT,Nat.reduceAdd]
  repeat ((with_reducible refine And.intro ?_ ?_);focus (first|(with_reducible trivial)|omega|grind))
  refine condM rfl trivial (fun hc=>?_) (fun hc=>?_)
  ·replace H:=cond_t hc H
   refine sq ctNo_ok ?_
   simp only [go_sem]
   refine rg ctNo_ok ?_
   simp only [go_sem]
   obtain rfl:=Option.some.inj H
   first|rfl|simp only [Bool.and_false,Bool.false_and,Bool.and_true,Bool.true_and]
  replace H:=cond_f hc H
  refine rg ctNo_ok ?_
  simp only [go_sem]
  refine sq ctNo_ok ?_
  simp only [go_sem]
  refine rg ctNo_ok ?_
  simp only [go_sem]
  obtain rfl:=Option.some.inj H
  first|rfl|simp only [Bool.and_false,Bool.false_and,Bool.and_true,Bool.true_and]
 ·cases hb
noncomputable def F53_0 (p0:TSleeper) (p1:Int):Option (Bool) :=
 some (bEq p0.Aid p1)
noncomputable def body53_0:List AV->AR
 | [v0,v1]=>.pure (aK 3 k_TSleeper v0/\rK 1 k_i64 v1/\(F53_0 (g_TSleeper (aL v0)) (g_i64 (rG v1))).isSome=true) (.bool (gt (F53_0 (g_TSleeper (aL v0)) (g_i64 (rG v1)))))
 | _=>.fail
theorem ok53_0:FnOk Try.prog 53 (pureC body53_0):=by
 refine pure_fnM body53_0 (rs:=[.tmp 3]) Try.func53 (by kernel_rfl) rfl rfl ?_
 intro l ob v hb hob
 unfold body53_0 at hb
 split at hb
 ·rename_i v0 v1
  injection hb with q1 q2;subst q1 q2
  obtain ⟨hk0_0,hk1_0,hob⟩:=hob
  obtain ⟨r,H⟩:=Option.isSome_iff_exists.1 hob
  rw [H,gt_some]
  have hw0:=wA_TSleeper hk0_0
  have hw1:=rK_wk (f:=c_i64) (g:=g_i64) (fun r h=>w_i64 h) hk1_0
  generalize g_TSleeper (aL v0)=p0 at H hw0
  generalize g_i64 (rG v1)=p1 at H hw1
  refine ⟨[.agg [.int .i64 p0.Aid,.bool p0.Asleep,.ro 43 p0.Held.length false (enR c_TStored p0.Held)],.rptr 1 1 0 0 (enR c_i64 [p1])],_,(fun E vs F=>FR_wk1 hw0.1 F (fun vs F=>FR_wk1 hw1.1 F (fun vs F=>F))),rfl,rfl,?_⟩
  rw [Try.ntmps53]
  simp only [List.length_cons,List.length_nil,Nat.reduceAdd,Nat.reduceSub,List.replicate_succ,List.replicate_zero,List.cons_append,List.nil_append]
  unfold F53_0 at H
  try dsimp only at H
  refine sq ctNo_ok ?_
  simp only [go_sem]
  refine sq ctNo_ok ?_
  simp only [go_sem,Nat.reduceLeDiff,Nat.reduceLT,Nat.reduceAdd]
  repeat ((with_reducible refine And.intro ?_ ?_);focus (first|(with_reducible trivial)|omega|grind))
  refine rg ctNo_ok ?_
  simp only [go_sem]
  obtain rfl:=Option.some.inj H
  first|rfl|simp only [Bool.and_false,Bool.false_and,Bool.and_true,Bool.true_and]
 ·cases hb
noncomputable def ct52_1t0:Ct:=tab [(53,pureC body53_0)]
theorem ct52_1t0_ok:CtOk Try.prog ct52_1t0:=tab_cons ok53_0 <| tab_nil
theorem ct52_1t0_53 (l:List AV) (h:List ABlk):ct52_1t0 53 l h=pureC body53_0 l h:=rfl
noncomputable def F52_1_L1 (p0:List TSleeper) (p1:Int) (v1_1:Int):Option (Lp (Int) ((Unit) ⊕ (Int))) :=
 bif (bLt v1_1 (p0.length:Nat)) then (need (inb v1_1 p0.length) <| (F53_0 (gd p0 v1_1.toNat) p1).bind fun r2=>bif r2 then (some (.done (.inr v1_1))) else (some (.next (wr .i64 (v1_1+1))))) else (some (.done (.inl ())))
noncomputable def F52_1 (p0:List TSleeper) (p1:Int):Option (Int) :=
 lp (loopD (fun s=>F52_1_L1 p0 p1 s) 0) (fun _=>some (-1)) some
noncomputable def body52_1:List AV->AR
 | [v0,.fn 53 [v1]]=>.pure (lK k_TSleeper 3 v0/\rK 1 k_i64 v1/\(F52_1 (lA g_TSleeper v0) (g_i64 (rG v1))).isSome=true) (.int .i64 (gt (F52_1 (lA g_TSleeper v0) (g_i64 (rG v1)))))
 | _=>.fail
theorem ok52_1:FnOk Try.prog 52 (pureC body52_1):=by
 refine pure_fnM body52_1 (rs:=[.tmp 4]) Try.func52 (by kernel_rfl) rfl rfl ?_
 intro l ob v hb hob
 unfold body52_1 at hb
 split at hb
 ·rename_i v0 v1
  injection hb with q1 q2;subst q1 q2
  obtain ⟨hk0_0,hk1_0,hob⟩:=hob
  obtain ⟨r,H⟩:=Option.isSome_iff_exists.1 hob
  rw [H,gt_some]
  have hw0:=lK_wk (fun r h=>w_TSleeper h) hk0_0
  have hw1:=rK_wk (f:=c_i64) (g:=g_i64) (fun r h=>w_i64 h) hk1_0
  generalize lA g_TSleeper v0=p0 at H hw0
  generalize g_i64 (rG v1)=p1 at H hw1
  refine ⟨[.ro 3 p0.length false (enR c_TSleeper p0),.fn 53 [.rptr 1 1 0 0 (enR c_i64 [p1])]],_,(fun E vs F=>FR_wk1 hw0.1 F (fun vs F=>FR_wk1 (fn_wk (LW_cons hw1.1 LW_nil)) F (fun vs F=>F))),rfl,rfl,?_⟩
  rw [Try.ntmps52]
  simp only [List.length_cons,List.length_nil,Nat.reduceAdd,Nat.reduceSub,List.replicate_succ,List.replicate_zero,List.cons_append,List.nil_append]
  unfold F52_1 at H
  try dsimp only at H
  refine sq ctNo_ok ?_
  simp only [go_sem]
  refine seqM ?_
  refine sq ctNo_ok ?_
  simp only [go_sem]
  repeat ((with_reducible refine And.intro ?_ ?_);focus (first|(and_intros<;>first|(with_reducible trivial)|omega|assumption|exact nfc|first|exact rfl|exact trivial|exact fitI|exact .inr rfl|exact .inl rfl|exact fun x hx=>absurd hx (by omega))|grind))
  refine blkM ?_
  refine loop_den (fun s:Int=>(.ro 3 p0.length false (enR c_TSleeper p0)::.fn 53 [.rptr 1 1 0 0 (enR c_i64 [p1])]::tp 5 (.int .i64 (p0.length:Nat)::.int .i64 s::tp 10 []))) (fun s=>[]) (fun e:Unit=>(tp 19 [])) (fun e=>[]) H ?_ (fun v1_1 o H hn1_1 hn2_1=>?_) (fun e H=>?_)
  ·refine SubF_of ⟨[],?_,?_,by rfl,by rfl⟩
   ·simp [CvL,Cv,tp]
   ·trivial
  ·unfold F52_1_L1 at H
   try dsimp only at H ⊢
   try simp only [tp]
   refine sq ctNo_ok ?_
   simp only [go_sem]
   refine seqM ?_
   refine condM' rfl trivial (fun hc=>?_) (fun hc=>?_)
   ·replace H:=cond_f hc H
    refine rg ctNo_ok ?_
    simp only [go_sem]
    refine ⟨_,(Option.some.inj H).symm,?_⟩
    refine SubF_of ⟨[],?_,?_,by rfl,by rfl⟩
    ·simp [CvL,Cv]
    ·trivial
   replace H:=cond_t hc H
   refine rg ctNo_ok ?_
   simp only [go_sem]
   refine seqM ?_
   refine blkM ?_
   refine sq ctNo_ok ?_
   simp only [go_sem]
   refine seqM ?_
   obtain ⟨f1,H⟩:=need_some.1 H
   replace f1:=inb_iff.1 f1
   obtain ⟨r2,e3,H⟩:=bsi H
   refine rg ct52_1t0_ok ?_
   simp only [go_sem,Nat.reduceLT,Nat.reduceAdd,ct52_1t0_53,body53_0,f1,e3]
   repeat ((with_reducible refine And.intro ?_ ?_);focus (first|(and_intros<;>first|(with_reducible trivial)|omega|assumption|exact nfc|first|exact rfl|exact trivial|exact fitI|exact .inr rfl|exact .inl rfl|exact fun x hx=>absurd hx (by omega))|grind))
   refine condM rfl trivial (fun hc=>?_) (fun hc=>?_)
   ·replace H:=cond_t hc H
    refine sq ctNo_ok ?_
    simp only [go_sem]
    refine rg ctNo_ok ?_
    simp only [go_sem]
    have H:=hn2_1 _ (Option.some.inj H).symm
    obtain rfl:=Option.some.inj H
    first|rfl|simp only [Bool.and_false,Bool.false_and,Bool.and_true,Bool.true_and]
   replace H:=cond_f hc H
   refine rg ctNo_ok ?_
   simp only [go_sem]
   refine rg ctNo_ok ?_
   simp only [go_sem]
   refine ⟨_,(Option.some.inj H).symm,?_⟩
   refine SubF_of ⟨[],?_,?_,by rfl,by rfl⟩
   ·simp [CvL,Cv]
   ·trivial
  ·try dsimp only at H ⊢
   try simp only [tp]
   try simp only [m_normal]
   refine sq ctNo_ok ?_
   simp only [go_sem]
   refine rg ctNo_ok ?_
   simp only [go_sem]
   obtain rfl:=Option.some.inj H
   first|rfl|simp only [Bool.and_false,Bool.false_and,Bool.and_true,Bool.true_and]
 ·cases hb
noncomputable def F72 (p0:List TSleeper):Option (List TSleeper) :=
 need (capb 40 p0.length) <| some p0
noncomputable def body72:List AV->Nat->AR
 | [v0],s=>.heap (lK k_TSleeper 3 v0/\(F72 (lA g_TSleeper v0)).isSome=true) (.sl s 3 0 (gt (F72 (lA g_TSleeper v0))).length false) [.row 71 3 (gt (F72 (lA g_TSleeper v0))).length (enR c_TSleeper (gt (F72 (lA g_TSleeper v0))))]
 | _,_=>.fail
theorem ok72:FnOk Try.prog 72 (genC body72):=by
 refine gen_fn body72 (rs:=[.tmp 2]) Try.func72 (by kernel_rfl) rfl rfl ?_
 intro l s ob v ns hb hob
 rcases hb with ⟨hb,rfl⟩|hb
 ·unfold body72 at hb
  split at hb<;>cases hb
 ·unfold body72 at hb
  split at hb
  ·rename_i v0
   injection hb with q1 q2 q3;subst q1 q2 q3
   obtain ⟨hk0,hob⟩:=hob
   obtain ⟨r,H⟩:=Option.isSome_iff_exists.1 hob
   rw [H,gt_some]
   have hw0:=lK_wk (fun r h=>w_TSleeper h) hk0
   generalize lA g_TSleeper v0=p0 at H hw0
   unfold F72 at H
   obtain ⟨f1,H⟩:=need_some.1 H
   replace f1:=capb_iff.1 f1
   obtain rfl:=Option.some.inj H
   refine ⟨[.ro 3 p0.length false (enR c_TSleeper p0)],.sl 0 3 0 p0.length false,[.row 71 3 p0.length (enR c_TSleeper p0)],(fun E vs F=>FR_wk1 hw0.1 F (fun vs F=>F)),by simp only [ren,rnN_0],⟨⟨rfl,rfl,rfl,fun x y _ _=>ren_nref _ (nfR_en nr_TSleeper)⟩,trivial⟩,?_⟩
   rw [Try.ntmps72]
   simp only [List.length_cons,List.length_nil,Nat.reduceAdd,Nat.reduceSub,List.replicate_succ,List.replicate_zero,List.cons_append,List.nil_append]
   refine rg ctNo_ok ?_
   have nfs:∀ x y,nref (enR c_TSleeper p0 x y):=fun x y=>nfR_en nr_TSleeper
   generalize hc:enR c_TSleeper p0=c at nfs hw0
   cases hn:p0.length with
   | zero =>
    simp only [go_sem,Nat.reduceLeDiff,Nat.reduceAdd]
    have hp:p0=[]:=List.eq_nil_of_length_eq_zero hn
    subst hp;subst hc
    refine ⟨?_,?_⟩
    ·refine ⟨[],?_,?_,[none],?_,?_,rfl⟩
     ·simp only [fzOb]
     ·simp only [fzObH]
     ·simp [fzV,Cv]
     ·simp only [fzH,fzHF,and_true,CvH,and_true];exact CvB_none
    ·refine ⟨by omega,[],?_,?_,[some 1],?_,?_,rfl⟩
     ·simp only [Nat.add_zero,fzOb,inL,rowOb,geth,cond_false,true_and,Nat.zero_add,Nat.le_refl]
     ·simp only [fzObB,fzObH,and_self]
     ·simp [fzV,inL,Cv,getM]
     ·simp only [fzH,fzHF,fzB,inL,cond_false,and_true,CvH,and_true];exact CvB_row0 nr_TSleeper
   | succ m =>
    simp only [go_sem,Nat.reduceLeDiff,Nat.reduceAdd,reduceCtorEq]
    refine ⟨by omega,[],?_,?_,[some 1],?_,?_,rfl⟩
    ·simp only [fzOb,inL,rowOb,geth,cond_false,true_and,Nat.zero_add,Nat.le_refl]
    ·simp only [fzObB,fzObH,and_self]
    ·simp [fzV,inL,Cv,getM]
    ·simp only [fzH,fzHF,fzB,inL,cond_false,and_true,CvH,and_true];rw [← hn,← hc];exact CvB_row nr_TSleeper rfl (fun x y hx hy=>by simp only [appC,Nat.not_lt_zero,if_false,Nat.sub_zero])
  ·cases hb
noncomputable def F56_0 (p0_1:Int) (p1:TStored):Option (Bool) :=
 need (bLe 0 p1.Cat) <| some (bEq (andI .u8 (shrI .u8 p0_1 p1.Cat) 1) 1)
noncomputable def body56_0:List AV->AR
 | [v0,v1]=>.pure (rM 2 v0/\iK .u8 (rG v0 1)/\aK 43 k_TStored v1/\(F56_0 (iA (rG v0 1)) (g_TStored (aL v1))).isSome=true) (.bool (gt (F56_0 (iA (rG v0 1)) (g_TStored (aL v1)))))
 | _=>.fail
theorem ok56_0:FnOk Try.prog 56 (pureC body56_0):=by
 refine pure_fnM body56_0 (rs:=[.tmp 4]) Try.func56 (by kernel_rfl) rfl rfl ?_
 intro l ob v hb hob
 unfold body56_0 at hb
 split at hb
 ·rename_i v0 v1
  injection hb with q1 q2;subst q1 q2
  obtain ⟨hk0_0,hk0_1,hk1_0,hob⟩:=hob
  obtain ⟨r,H⟩:=Option.isSome_iff_exists.1 hob
  rw [H,gt_some]
  have hw0:=(rM_wk (cells:=[AV.top,AV.int .u8 (iA (rG v0 1))]) hk0_0 (fun y hy=>match y,hy with|0,_=>top_wk|1,_=>iK_wk hk0_1|y+2,hy=>absurd hy (by omega)))
  have hw1:=wA_TStored hk1_0
  generalize iA (rG v0 1)=p0_1 at H hw0
  generalize g_TStored (aL v1)=p1 at H hw1
  refine ⟨[.rptr 2 1 0 0 (fun _ y=>getL [.top,.int .u8 p0_1] y),.agg (.int .u8 p1.Cat::.int .i64 p1.At::.int .u8 p1.Frame.Head.Kind::.int .u8 p1.Frame.Head.Sub::.bool p1.Frame.Head.ToDs::.bool p1.Frame.Head.FromDs::.bool p1.Frame.Head.More::.bool p1.Frame.Head.Retry::.bool p1.Frame.Head.Sleep::.bool p1.Frame.Head.MoreData::.bool p1.Frame.Head.Protected::.int .i64 p1.Frame.Head.Duration::.int .u8 p1.Frame.Head.A1.x0::.int .u8 p1.Frame.Head.A1.x1::.int .u8 p1.Frame.Head.A1.x2::.int .u8 p1.Frame.Head.A1.x3::.int .u8 p1.Frame.Head.A1.x4::.int .u8 p1.Frame.Head.A1.x5::.int .u8 p1.Frame.Head.A2.x0::.int .u8 p1.Frame.Head.A2.x1::.int .u8 p1.Frame.Head.A2.x2::.int .u8 p1.Frame.Head.A2.x3::.int .u8 p1.Frame.Head.A2.x4::.int .u8 p1.Frame.Head.A2.x5::.int .u8 p1.Frame.Head.A3.x0::.int .u8 p1.Frame.Head.A3.x1::.int .u8 p1.Frame.Head.A3.x2::.int .u8 p1.Frame.Head.A3.x3::.int .u8 p1.Frame.Head.A3.x4::.int .u8 p1.Frame.Head.A3.x5::.int .u8 p1.Frame.Head.A4.x0::.int .u8 p1.Frame.Head.A4.x1::.int .u8 p1.Frame.Head.A4.x2::.int .u8 p1.Frame.Head.A4.x3::.int .u8 p1.Frame.Head.A4.x4::.int .u8 p1.Frame.Head.A4.x5::.int .i64 p1.Frame.Head.Seq::.int .i64 p1.Frame.Head.Frag::.int .i64 p1.Frame.Head.Tid::.int .u8 p1.Frame.Head.Ack::.bool p1.Frame.Head.Amsdu::.bool p1.Frame.Head.Eosp::.ro 1 p1.Frame.Body.length false (enR c_u8 p1.Frame.Body)::[])],_,(fun E vs F=>FR_wk1 hw0.1 F (fun vs F=>FR_wk1 hw1.1 F (fun vs F=>F))),rfl,rfl,?_⟩
  rw [Try.ntmps56]
  simp only [List.length_cons,List.length_nil,Nat.reduceAdd,Nat.reduceSub,List.replicate_succ,List.replicate_zero,List.cons_append,List.nil_append]
  unfold F56_0 at H
  try dsimp only at H
  refine sq ctNo_ok ?_
  simp only [go_sem]
  refine seqM ?_
  obtain ⟨f1,H⟩:=need_some.1 H
  replace f1:=bLe_iff.1 f1
  refine draw_quiet shT_ok ctNo_ok (by kernel_rfl) (by kernel_rfl) ?_
  simp only [go_sem,Nat.reduceLeDiff,Nat.reduceLT,Nat.reduceAdd,f1]
  repeat ((with_reducible refine And.intro ?_ ?_);focus (first|(with_reducible trivial)|omega|grind))
  refine rg ctNo_ok ?_
  simp only [go_sem]
  obtain rfl:=Option.some.inj H
  first|rfl|simp only [Bool.and_false,Bool.false_and,Bool.and_true,Bool.true_and]
 ·cases hb
theorem tik73_0:tintk Try.prog 2=true:=by kernel_rfl
theorem tik73_1:tintk Try.prog 50=false:=by kernel_rfl
theorem okF73:FnOk Try.prog 73 (delF 73 43):=by
 refine edit1_fn (sh:=fun _=>none) (fun _ _ h=>by cases h) ctNo_ok (delF 73 43) (rs:=[.tmp 6]) Try.func73 (by kernel_rfl) rfl rfl delF_np ?_
 intro E h l vs ob v h' H F hc hob
 unfold delF at hc
 split at hc
 ·rename_i b es' i n nl p q
  split at hc
  ·rename_i e' es2 NN c hb
   injection hc with q1 q2 q3
   subst q1 q2 q3
   obtain ⟨rfl,rfl,rfl,hN,hpq,hqn,hfl⟩:=hob
   have hx:=F
   obtain ⟨vs⟩:=vs
   match vs,F.1 with
   | [u1,u2,u3],_ =>
    obtain ⟨cap,hcap,hV⟩:=csl_of_sl (only_sl (F.2 0 _ u1 rfl rfl))
    have g2:=F.2 1 _ u2 rfl rfl
    have g3:=F.2 2 _ u3 rfl rfl
    obtain rfl:=VR_int g2
    obtain rfl:=VR_int g3
    refine ⟨b,73,43,NN,c,n - (q - p),delA i p (q - p) c,[.csl 0 43 i n cap,.int .i64 p,.int .i64 q],hb,fun x y hx hy=>(hfl x y hx hy).1,fun x y hx hy=>?_,rfl,rfl,?_,?_⟩
    ·unfold delA
     split<;>exact hfl _ _ (by omega) hy
    ·refine ⟨rfl,fun j a w ha hw=>?_⟩
     match j with
     | 0=>simp at ha hw;subst ha hw;exact hV
     | 1=>simp at ha hw;subst ha hw;exact .int _ _
     | 2=>simp at ha hw;subst ha hw;exact .int _ _
     | j+3=>simp at ha
    ·rw [Try.ntmps73]
     show wpC _ _ _ _ _ (.csl 0 43 i n cap::.int .i64 p::.int .i64 q::.top::.top::.top::.top::.top::.top::.top::.top::.top::.top::.top::.top::.top::.top::.top::.top::.top::.top::.top::.top::.top::.top::.top::.top::.top::.top::.top::.top::.top::.top::[]) _
     have hpq':((p:Int) == (q:Int))=false:=by simp;omega
     simp only [go_sem,bEq,Option.isSome_some,Option.isNone_some,Int.toNat_natCast,hpq']
     refine ⟨by omega,?_⟩
     refine draw_rule (sh:=fun _=>none) (fun _ _ h=>by cases h) ctNo_ok 0 (by kernel_rfl) (by kernel_rfl) ?_
     intro an han
     have hdc:decide (p+(n - q) <= cap)=true:=by simp;omega
     simp only [go_sem,Nat.reduceLeDiff,Nat.reduceAdd,Nat.reduceSub,evClear,evClearR,evAppZ,tik73_1,Option.isNone_some,Option.isSome_none,Option.isNone_none,Int.toNat_natCast,hdc,Nat.sub_zero,d_nil,d_cons,nxtD,refsOp,refs,refsL,mask,maskF,place,placeF,okLog,pairOk,hit,inL,slotsF,ren,rnN,nrH,nrB,List.replicate_zero,Bool.or_false,Bool.or_true,Bool.true_or,Bool.and_false,Bool.false_and,Nat.sub_self,Nat.add_zero,Nat.zero_add,Nat.reduceSub,Nat.lt_add_one]
     have hm:p+(n - q)=n - (q - p):=by omega
     refine ⟨by omega,by omega,by omega,by omega,by omega,?_⟩
     rw [hm]
     refine conv_move (b:=0) rfl (by omega) (by omega) fun x y hx hy=>?_
     unfold ovwC delA subC
     rw [if_neg (by omega)]
     by_cases hxp:x < p
     ·rw [if_neg (by omega),if_pos hxp]
     ·rw [if_pos (by omega),if_neg hxp]
      congr 1
      omega
  ·cases hc
 ·cases hc
theorem ok73:FnOk Try.prog 73 (delN 73 43):=delN_ok okF73
noncomputable def ct68_0t0:Ct:=tab [(56,pureC body56_0)]
theorem ct68_0t0_ok:CtOk Try.prog ct68_0t0:=tab_cons ok56_0 <| tab_nil
theorem ct68_0t0_56 (l:List AV) (h:List ABlk):ct68_0t0 56 l h=pureC body56_0 l h:=rfl
noncomputable def F68_0_L1 (p0:List TStored) (p1_1:Int) (v1_1:Int):Option (Lp (Int) ((Unit) ⊕ (Int))) :=
 bif (bLt v1_1 (p0.length:Nat)) then (need (inb v1_1 p0.length) <| (F56_0 p1_1 (TStored.mk ((gd p0 v1_1.toNat).Cat) ((gd p0 v1_1.toNat).At) (TFrame.mk (THeader.mk ((((gd p0 v1_1.toNat).Frame).Head).Kind) ((((gd p0 v1_1.toNat).Frame).Head).Sub) ((((gd p0 v1_1.toNat).Frame).Head).ToDs) ((((gd p0 v1_1.toNat).Frame).Head).FromDs) ((((gd p0 v1_1.toNat).Frame).Head).More) ((((gd p0 v1_1.toNat).Frame).Head).Retry) ((((gd p0 v1_1.toNat).Frame).Head).Sleep) ((((gd p0 v1_1.toNat).Frame).Head).MoreData) ((((gd p0 v1_1.toNat).Frame).Head).Protected) ((((gd p0 v1_1.toNat).Frame).Head).Duration) (A6u8.mk (((((gd p0 v1_1.toNat).Frame).Head).A1).x0) (((((gd p0 v1_1.toNat).Frame).Head).A1).x1) (((((gd p0 v1_1.toNat).Frame).Head).A1).x2) (((((gd p0 v1_1.toNat).Frame).Head).A1).x3) (((((gd p0 v1_1.toNat).Frame).Head).A1).x4) (((((gd p0 v1_1.toNat).Frame).Head).A1).x5)) (A6u8.mk (((((gd p0 v1_1.toNat).Frame).Head).A2).x0) (((((gd p0 v1_1.toNat).Frame).Head).A2).x1) (((((gd p0 v1_1.toNat).Frame).Head).A2).x2) (((((gd p0 v1_1.toNat).Frame).Head).A2).x3) (((((gd p0 v1_1.toNat).Frame).Head).A2).x4) (((((gd p0 v1_1.toNat).Frame).Head).A2).x5)) (A6u8.mk (((((gd p0 v1_1.toNat).Frame).Head).A3).x0) (((((gd p0 v1_1.toNat).Frame).Head).A3).x1) (((((gd p0 v1_1.toNat).Frame).Head).A3).x2) (((((gd p0 v1_1.toNat).Frame).Head).A3).x3) (((((gd p0 v1_1.toNat).Frame).Head).A3).x4) (((((gd p0 v1_1.toNat).Frame).Head).A3).x5)) (A6u8.mk (((((gd p0 v1_1.toNat).Frame).Head).A4).x0) (((((gd p0 v1_1.toNat).Frame).Head).A4).x1) (((((gd p0 v1_1.toNat).Frame).Head).A4).x2) (((((gd p0 v1_1.toNat).Frame).Head).A4).x3) (((((gd p0 v1_1.toNat).Frame).Head).A4).x4) (((((gd p0 v1_1.toNat).Frame).Head).A4).x5)) ((((gd p0 v1_1.toNat).Frame).Head).Seq) ((((gd p0 v1_1.toNat).Frame).Head).Frag) ((((gd p0 v1_1.toNat).Frame).Head).Tid) ((((gd p0 v1_1.toNat).Frame).Head).Ack) ((((gd p0 v1_1.toNat).Frame).Head).Amsdu) ((((gd p0 v1_1.toNat).Frame).Head).Eosp)) (((gd p0 v1_1.toNat).Frame).Body)))).bind fun r2=>bif r2 then (some (.done (.inr v1_1))) else (some (.next (wr .i64 (v1_1+1))))) else (some (.done (.inl ())))
noncomputable def F68_0 (p0:List TStored) (p1_1:Int):Option (Int) :=
 lp (loopD (fun s=>F68_0_L1 p0 p1_1 s) 0) (fun _=>some (-1)) some
noncomputable def body68_0:List AV->AR
 | [v0,.mfn 56 [v1]]=>.pure (lK k_TStored 43 v0/\rM 2 v1/\iK .u8 (rG v1 1)/\(F68_0 (lA g_TStored v0) (iA (rG v1 1))).isSome=true) (.int .i64 (gt (F68_0 (lA g_TStored v0) (iA (rG v1 1)))))
 | _=>.fail
theorem ok68_0:FnOk Try.prog 68 (pureC body68_0):=by
 refine pure_fnM body68_0 (rs:=[.tmp 4]) Try.func68 (by kernel_rfl) rfl rfl ?_
 intro l ob v hb hob
 unfold body68_0 at hb
 split at hb
 ·rename_i v0 v1
  injection hb with q1 q2;subst q1 q2
  obtain ⟨hk0_0,hk1_0,hk1_1,hob⟩:=hob
  obtain ⟨r,H⟩:=Option.isSome_iff_exists.1 hob
  rw [H,gt_some]
  have hw0:=lK_wk (fun r h=>w_TStored h) hk0_0
  have hw1:=(rM_wk (cells:=[AV.top,AV.int .u8 (iA (rG v1 1))]) hk1_0 (fun y hy=>match y,hy with|0,_=>top_wk|1,_=>iK_wk hk1_1|y+2,hy=>absurd hy (by omega)))
  generalize lA g_TStored v0=p0 at H hw0
  generalize iA (rG v1 1)=p1_1 at H hw1
  refine ⟨[.ro 43 p0.length false (enR c_TStored p0),.mfn 56 [.rptr 2 1 0 0 (fun _ y=>getL [.top,.int .u8 p1_1] y)]],_,(fun E vs F=>FR_wk1 hw0.1 F (fun vs F=>FR_wk1 (mfn_wk (LW_cons hw1.1 LW_nil)) F (fun vs F=>F))),rfl,rfl,?_⟩
  rw [Try.ntmps68]
  simp only [List.length_cons,List.length_nil,Nat.reduceAdd,Nat.reduceSub,List.replicate_succ,List.replicate_zero,List.cons_append,List.nil_append]
  unfold F68_0 at H
  try dsimp only at H
  refine sq ctNo_ok ?_
  simp only [go_sem]
  refine seqM ?_
  refine sq ctNo_ok ?_
  simp only [go_sem]
  repeat ((with_reducible refine And.intro ?_ ?_);focus (first|(and_intros<;>first|(with_reducible trivial)|omega|assumption|exact nfc|first|exact rfl|exact trivial|exact fitI|exact .inr rfl|exact .inl rfl|exact fun x hx=>absurd hx (by omega)|(intro x hx;(repeat (first|(and_intros<;>(first|exact rfl|exact trivial|exact fitI|exact .inr rfl|exact .inl rfl|exact fun x hx=>absurd hx (by omega)))|(exfalso;omega)|(rcases x with _|x)));done))|grind))
  refine blkM ?_
  refine loop_den (fun s:Int=>(.ro 43 p0.length false (enR c_TStored p0)::.mfn 56 [.rptr 2 1 0 0 (fun _ y=>getL [.top,.int .u8 p1_1] y)]::tp 5 (.int .i64 (p0.length:Nat)::.int .i64 s::tp 10 []))) (fun s=>[]) (fun e:Unit=>(tp 19 [])) (fun e=>[]) H ?_ (fun v1_1 o H hn1_1 hn2_1=>?_) (fun e H=>?_)
  ·refine SubF_of ⟨[],?_,?_,by rfl,by rfl⟩
   ·simp [CvL,Cv,tp]
   ·trivial
  ·unfold F68_0_L1 at H
   try dsimp only at H ⊢
   try simp only [tp]
   refine sq ctNo_ok ?_
   simp only [go_sem]
   refine seqM ?_
   refine condM' rfl trivial (fun hc=>?_) (fun hc=>?_)
   ·replace H:=cond_f hc H
    refine rg ctNo_ok ?_
    simp only [go_sem]
    refine ⟨_,(Option.some.inj H).symm,?_⟩
    refine SubF_of ⟨[],?_,?_,by rfl,by rfl⟩
    ·simp [CvL,Cv]
    ·trivial
   replace H:=cond_t hc H
   refine rg ctNo_ok ?_
   simp only [go_sem]
   refine seqM ?_
   refine blkM ?_
   refine sq ctNo_ok ?_
   simp only [go_sem]
   refine seqM ?_
   obtain ⟨f1,H⟩:=need_some.1 H
   replace f1:=inb_iff.1 f1
   obtain ⟨r2,e3,H⟩:=bsi H
   refine rg ct68_0t0_ok ?_
   simp only [go_sem,Nat.reduceLT,Nat.reduceAdd,ct68_0t0_56,body56_0,f1,e3]
   repeat ((with_reducible refine And.intro ?_ ?_);focus (first|(and_intros<;>first|(with_reducible trivial)|omega|assumption|exact nfc|first|exact rfl|exact trivial|exact fitI|exact .inr rfl|exact .inl rfl|exact fun x hx=>absurd hx (by omega)|(intro x hx;(repeat (first|(and_intros<;>(first|exact rfl|exact trivial|exact fitI|exact .inr rfl|exact .inl rfl|exact fun x hx=>absurd hx (by omega)))|(exfalso;omega)|(rcases x with _|x)));done))|grind))
   refine condM rfl trivial (fun hc=>?_) (fun hc=>?_)
   ·replace H:=cond_t hc H
    refine sq ctNo_ok ?_
    simp only [go_sem]
    refine rg ctNo_ok ?_
    simp only [go_sem]
    have H:=hn2_1 _ (Option.some.inj H).symm
    obtain rfl:=Option.some.inj H
    first|rfl|simp only [Bool.and_false,Bool.false_and,Bool.and_true,Bool.true_and]
   replace H:=cond_f hc H
   refine rg ctNo_ok ?_
   simp only [go_sem]
   refine rg ctNo_ok ?_
   simp only [go_sem]
   refine ⟨_,(Option.some.inj H).symm,?_⟩
   refine SubF_of ⟨[],?_,?_,by rfl,by rfl⟩
   ·simp [CvL,Cv]
   ·trivial
  ·try dsimp only at H ⊢
   try simp only [tp]
   try simp only [m_normal]
   refine sq ctNo_ok ?_
   simp only [go_sem]
   refine rg ctNo_ok ?_
   simp only [go_sem]
   obtain rfl:=Option.some.inj H
   first|rfl|simp only [Bool.and_false,Bool.false_and,Bool.and_true,Bool.true_and]
 ·cases hb
noncomputable def ct49_0t0:Ct:=tab [(68,pureC body68_0)]
theorem ct49_0t0_ok:CtOk Try.prog ct49_0t0:=tab_cons ok68_0 <| tab_nil
theorem ct49_0t0_68 (l:List AV) (h:List ABlk):ct49_0t0 68 l h=pureC body68_0 l h:=rfl
noncomputable def F49_0 (p0:List TStored) (p1_1:Int):Option (Bool) :=
 (F68_0 p0 p1_1).bind fun r1=>some (bLe 0 r1)
noncomputable def body49_0:List AV->AR
 | [v0,.mfn 56 [v1]]=>.pure (lK k_TStored 43 v0/\rM 2 v1/\iK .u8 (rG v1 1)/\(F49_0 (lA g_TStored v0) (iA (rG v1 1))).isSome=true) (.bool (gt (F49_0 (lA g_TStored v0) (iA (rG v1 1)))))
 | _=>.fail
theorem ok49_0:FnOk Try.prog 49 (pureC body49_0):=by
 refine pure_fnM body49_0 (rs:=[.tmp 4]) Try.func49 (by kernel_rfl) rfl rfl ?_
 intro l ob v hb hob
 unfold body49_0 at hb
 split at hb
 ·rename_i v0 v1
  injection hb with q1 q2;subst q1 q2
  obtain ⟨hk0_0,hk1_0,hk1_1,hob⟩:=hob
  obtain ⟨r,H⟩:=Option.isSome_iff_exists.1 hob
  rw [H,gt_some]
  have hw0:=lK_wk (fun r h=>w_TStored h) hk0_0
  have hw1:=(rM_wk (cells:=[AV.top,AV.int .u8 (iA (rG v1 1))]) hk1_0 (fun y hy=>match y,hy with|0,_=>top_wk|1,_=>iK_wk hk1_1|y+2,hy=>absurd hy (by omega)))
  generalize lA g_TStored v0=p0 at H hw0
  generalize iA (rG v1 1)=p1_1 at H hw1
  refine ⟨[.ro 43 p0.length false (enR c_TStored p0),.mfn 56 [.rptr 2 1 0 0 (fun _ y=>getL [.top,.int .u8 p1_1] y)]],_,(fun E vs F=>FR_wk1 hw0.1 F (fun vs F=>FR_wk1 (mfn_wk (LW_cons hw1.1 LW_nil)) F (fun vs F=>F))),rfl,rfl,?_⟩
  rw [Try.ntmps49]
  simp only [List.length_cons,List.length_nil,Nat.reduceAdd,Nat.reduceSub,List.replicate_succ,List.replicate_zero,List.cons_append,List.nil_append]
  unfold F49_0 at H
  try dsimp only at H
  refine sq ctNo_ok ?_
  simp only [go_sem]
  refine seqM ?_
  obtain ⟨r1,e2,H⟩:=bsi H
  refine rg ct49_0t0_ok ?_
  simp only [go_sem,Nat.reduceLT,ct49_0t0_68,body68_0,e2]
  repeat ((with_reducible refine And.intro ?_ ?_);focus (first|(and_intros<;>first|(with_reducible trivial)|omega|assumption|exact nfc|first|exact rfl|exact trivial|exact fitI|exact .inr rfl|exact .inl rfl|exact fun x hx=>absurd hx (by omega)|(intro x hx;(repeat (first|(and_intros<;>(first|exact rfl|exact trivial|exact fitI|exact .inr rfl|exact .inl rfl|exact fun x hx=>absurd hx (by omega)))|(exfalso;omega)|(rcases x with _|x)));done))|grind))
  refine rg ctNo_ok ?_
  simp only [go_sem]
  obtain rfl:=Option.some.inj H
  first|rfl|simp only [Bool.and_false,Bool.false_and,Bool.and_true,Bool.true_and]
 ·cases hb
end Go.Proofs.Ytnclkplbeenmdaa
