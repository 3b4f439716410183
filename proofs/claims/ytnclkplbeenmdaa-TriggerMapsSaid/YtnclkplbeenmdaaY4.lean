/-
  What TriggerMaps reaches.
-/
import Derived.Test.YtnclkplbeenmdaaY4p1
namespace Go.Proofs.Ytnclkplbeenmdaa
open Go.Am
set_option linter.unusedVariables false
set_option linter.unusedSimpArgs false
attribute [local go_sem] w_skip w_label w_goto w_scope k_goto b_goto l_goto s_normal s_exit s_ret s_goto w_region w_draw w_seq w_cond w_block w_exit w_ret w_loop k_normal k_exit k_ret b_normal b_exit b_ret l_normal l_exit l_ret m_normal m_exit m_ret m_goto kL_normal kL_exit kL_ret kS_normal kS_exit kS_ret kS_goto r_normal r_ret o_nil o_cons q_nil q_cons nxt gval gvd gvl gvw dstOf evO ogOp ogC og ogL ogP ogO rho rhoO strip optOk getL setL setT absC absV absL pO hO evLoad ldB geth seth evStore stRes stB evBox evAlloc evFieldAddr evField evIndexAddr evBin2 binI binB binNR binU nilR_isEmpty nilR_t nilR_0 nilR_s evInt evStr evUn evConv cvO evPick mrg evExtract evNil evCall mapR evBuiltin evLen2 vcells vcOk atom tabF cnd retK resFin resL resA resC resCons evBuild evBuildP placeS placeA fillA fillOk putL getP nxtQ pureC_eq pureR genC_eq genR roV roL roOb roObL roW roWL roWOb roWObL nref nrefL binA binN eqSh eqRes evIndex evIndex2 evIndexS evSlice evSlice2 evSliceS evBound evConv2 cvS evAppend appRes srcOf evMake evBuildSlice repL evFn evMin evMax freshC freshR sub_enR0 evClear evClearR evCopy evCopyR lenS cutS Bool.or_false Bool.false_or Bool.or_true Bool.true_or Bool.and_false Bool.false_and Option.map_some Option.map_none Option.getD_some Option.getD_none Option.bind_some Option.bind_none Option.or_some Option.or_none Option.none_or Option.isSome_none Option.isNone_none Option.isNone_some List.nil_append List.cons_append List.append_nil cond_true cond_false List.length_cons List.length_nil beq_self_eq_true Bool.and_true Bool.true_and Bool.not_true Bool.not_false true_and and_true and_self true_implies implies_true ne_eq not_false_eq_true Bool.false_eq_true Bool.true_eq_false false_implies Nat.lt_irrefl Nat.le_refl Nat.succ_ne_self imp_self Bool.cond_false_right Bool.cond_true_left decide_true decide_false Bool.not_eq_true' Bool.not_eq_false' Bool.not_not Nat.zero_mul Nat.zero_add Nat.add_zero Nat.mul_one Nat.one_mul Bool.cond_self tsz3 tby3 tagg3 tslice3 tarr3 tzero3 tzn3 tplaces3 tint3 tstr3 tnoint3 tbool3 tany3 tintk3 tbytes3 tsz4 tby4 tagg4 tslice4 tarr4 tzero4 tzn4 tplaces4 tint4 tstr4 tnoint4 tbool4 tany4 tintk4 tbytes4 tsz5 tby5 tagg5 tslice5 tarr5 tzero5 tzn5 tplaces5 tint5 tstr5 tnoint5 tbool5 tany5 tintk5 tbytes5 tsz9 tby9 tagg9 tslice9 tarr9 tzero9 tzn9 tplaces9 tint9 tstr9 tnoint9 tbool9 tany9 tintk9 tbytes9 tsz23 tby23 tagg23 tslice23 tarr23 tzero23 tzn23 tplaces23 tint23 tstr23 tnoint23 tbool23 tany23 tintk23 tbytes23 tfld23_0 tfld23_1 tfld23_2 tsz25 tby25 tagg25 tslice25 tarr25 tzero25 tzn25 tplaces25 tint25 tstr25 tnoint25 tbool25 tany25 tintk25 tbytes25 tsz27 tby27 tagg27 tslice27 tarr27 tzero27 tzn27 tplaces27 tint27 tstr27 tnoint27 tbool27 tany27 tintk27 tbytes27 tfld27_0 tfld27_1 tfld27_2 tfld27_3 tfld27_4 tfld27_5 tfld27_6 tfld27_7 tfld27_8 tfld27_9 tfld27_10 tfld27_11 tfld27_12 tfld27_13 tfld27_14 tfld27_15 tfld27_16 tfld27_17 tfld27_18 tfld27_19 tsz28 tby28 tagg28 tslice28 tarr28 tzero28 tzn28 tplaces28 tint28 tstr28 tnoint28 tbool28 tany28 tintk28 tbytes28 tsz30 tby30 tagg30 tslice30 tarr30 tzero30 tzn30 tplaces30 tint30 tstr30 tnoint30 tbool30 tany30 tintk30 tbytes30 tfld30_0 tfld30_1 tsz31 tby31 tagg31 tslice31 tarr31 tzero31 tzn31 tplaces31 tint31 tstr31 tnoint31 tbool31 tany31 tintk31 tbytes31 tsz33 tby33 tagg33 tslice33 tarr33 tzero33 tzn33 tplaces33 tint33 tstr33 tnoint33 tbool33 tany33 tintk33 tbytes33 tfld33_0 tfld33_1 tsz36 tby36 tagg36 tslice36 tarr36 tzero36 tzn36 tplaces36 tint36 tstr36 tnoint36 tbool36 tany36 tintk36 tbytes36 tsz49 tby49 tagg49 tslice49 tarr49 tzero49 tzn49 tplaces49 tint49 tstr49 tnoint49 tbool49 tany49 tintk49 tbytes49 tsz50 tby50 tagg50 tslice50 tarr50 tzero50 tzn50 tplaces50 tint50 tstr50 tnoint50 tbool50 tany50 tintk50 tbytes50 tsz52 tby52 tagg52 tslice52 tarr52 tzero52 tzn52 tplaces52 tint52 tstr52 tnoint52 tbool52 tany52 tintk52 tbytes52 tfld52_0 tfld52_1 tfld52_2 tfld52_3 tsz53 tby53 tagg53 tslice53 tarr53 tzero53 tzn53 tplaces53 tint53 tstr53 tnoint53 tbool53 tany53 tintk53 tbytes53 tsz55 tby55 tagg55 tslice55 tarr55 tzero55 tzn55 tplaces55 tint55 tstr55 tnoint55 tbool55 tany55 tintk55 tbytes55 tsz57 tby57 tagg57 tslice57 tarr57 tzero57 tzn57 tplaces57 tint57 tstr57 tnoint57 tbool57 tany57 tintk57 tbytes57 tfld57_0 tfld57_1 tsz71 tby71 tagg71 tslice71 tarr71 tzero71 tzn71 tplaces71 tint71 tstr71 tnoint71 tbool71 tany71 tintk71 tbytes71 tfld71_0 tfld71_1 tfld71_2 tsz73 tby73 tagg73 tslice73 tarr73 tzero73 tzn73 tplaces73 tint73 tstr73 tnoint73 tbool73 tany73 tintk73 tbytes73 tfld73_0 tfld73_1 tfld73_2 tsz78 tby78 tagg78 tslice78 tarr78 tzn78 tplaces78 tint78 tstr78 tnoint78 tbool78 tany78 tintk78 tbytes78 tsz95 tby95 tagg95 tslice95 tarr95 tzero95 tzn95 tplaces95 tint95 tstr95 tnoint95 tbool95 tany95 tintk95 tbytes95 tsz98 tby98 tagg98 tslice98 tarr98 tzero98 tzn98 tplaces98 tint98 tstr98 tnoint98 tbool98 tany98 tintk98 tbytes98 tsz100 tby100 tagg100 tslice100 tarr100 tzero100 tzn100 tplaces100 tint100 tstr100 tnoint100 tbool100 tany100 tintk100 tbytes100 tsz101 tby101 tagg101 tslice101 tarr101 tzero101 tzn101 tplaces101 tint101 tstr101 tnoint101 tbool101 tany101 tintk101 tbytes101 tsz103 tby103 tagg103 tslice103 tarr103 tzero103 tzn103 tplaces103 tint103 tstr103 tnoint103 tbool103 tany103 tintk103 tbytes103 tfld103_0 tfld103_1 tsz106 tby106 tagg106 tslice106 tarr106 tzero106 tzn106 tplaces106 tint106 tstr106 tnoint106 tbool106 tany106 tintk106 tbytes106 tsz111 tby111 tagg111 tslice111 tarr111 tzero111 tzn111 tplaces111 tint111 tstr111 tnoint111 tbool111 tany111 tintk111 tbytes111 tsz112 tby112 tagg112 tslice112 tarr112 tzero112 tzn112 tplaces112 tint112 tstr112 tnoint112 tbool112 tany112 tintk112 tbytes112 tsz118 tby118 tagg118 tslice118 tarr118 tzero118 tzn118 tplaces118 tint118 tstr118 tnoint118 tbool118 tany118 tintk118 tbytes118 tsz129 tby129 tagg129 tslice129 tarr129 tzero129 tzn129 tplaces129 tint129 tstr129 tnoint129 tbool129 tany129 tintk129 tbytes129 tsz130 tby130 tagg130 tslice130 tarr130 tzero130 tzn130 tplaces130 tint130 tstr130 tnoint130 tbool130 tany130 tintk130 tbytes130 e_u8_0 fit_u8 de_u8 g_u8 k_u8 e_i64_0 fit_i64 de_i64 g_i64 k_i64 e_b_0 fit_b de_b g_b k_b e_s_0 fit_s de_s g_s k_s e_TTriggerPlan_0 e_TTriggerPlan_1 e_TTriggerPlan_2 fit_TTriggerPlan de_TTriggerPlan g_TTriggerPlan k_TTriggerPlan eta_TTriggerPlan e_A6u8_0 e_A6u8_1 e_A6u8_2 e_A6u8_3 e_A6u8_4 e_A6u8_5 fit_A6u8 de_A6u8 g_A6u8 k_A6u8 eta_A6u8 e_THeader_0 e_THeader_1 e_THeader_2 e_THeader_3 e_THeader_4 e_THeader_5 e_THeader_6 e_THeader_7 e_THeader_8 e_THeader_9 e_THeader_10 e_THeader_11 e_THeader_12 e_THeader_13 e_THeader_14 e_THeader_15 e_THeader_16 e_THeader_17 e_THeader_18 e_THeader_19 e_THeader_20 e_THeader_21 e_THeader_22 e_THeader_23 e_THeader_24 e_THeader_25 e_THeader_26 e_THeader_27 e_THeader_28 e_THeader_29 e_THeader_30 e_THeader_31 e_THeader_32 e_THeader_33 e_THeader_34 e_THeader_35 e_THeader_36 e_THeader_37 e_THeader_38 e_THeader_39 fit_THeader de_THeader g_THeader k_THeader eta_THeader e_lu8_0 fit_lu8 de_lu8 g_lu8 k_lu8 e_TFrame_0 e_TFrame_1 e_TFrame_2 e_TFrame_3 e_TFrame_4 e_TFrame_5 e_TFrame_6 e_TFrame_7 e_TFrame_8 e_TFrame_9 e_TFrame_10 e_TFrame_11 e_TFrame_12 e_TFrame_13 e_TFrame_14 e_TFrame_15 e_TFrame_16 e_TFrame_17 e_TFrame_18 e_TFrame_19 e_TFrame_20 e_TFrame_21 e_TFrame_22 e_TFrame_23 e_TFrame_24 e_TFrame_25 e_TFrame_26 e_TFrame_27 e_TFrame_28 e_TFrame_29 e_TFrame_30 e_TFrame_31 e_TFrame_32 e_TFrame_33 e_TFrame_34 e_TFrame_35 e_TFrame_36 e_TFrame_37 e_TFrame_38 e_TFrame_39 e_TFrame_40 fit_TFrame de_TFrame g_TFrame k_TFrame eta_TFrame e_lTFrame_0 fit_lTFrame de_lTFrame g_lTFrame k_lTFrame e_TPeriod_0 e_TPeriod_1 fit_TPeriod de_TPeriod g_TPeriod k_TPeriod eta_TPeriod e_TStored_0 e_TStored_1 e_TStored_2 e_TStored_3 e_TStored_4 e_TStored_5 e_TStored_6 e_TStored_7 e_TStored_8 e_TStored_9 e_TStored_10 e_TStored_11 e_TStored_12 e_TStored_13 e_TStored_14 e_TStored_15 e_TStored_16 e_TStored_17 e_TStored_18 e_TStored_19 e_TStored_20 e_TStored_21 e_TStored_22 e_TStored_23 e_TStored_24 e_TStored_25 e_TStored_26 e_TStored_27 e_TStored_28 e_TStored_29 e_TStored_30 e_TStored_31 e_TStored_32 e_TStored_33 e_TStored_34 e_TStored_35 e_TStored_36 e_TStored_37 e_TStored_38 e_TStored_39 e_TStored_40 e_TStored_41 e_TStored_42 fit_TStored de_TStored g_TStored k_TStored eta_TStored e_lTStored_0 fit_lTStored de_lTStored g_lTStored k_lTStored e_TSleeper_0 e_TSleeper_1 e_TSleeper_2 fit_TSleeper de_TSleeper g_TSleeper k_TSleeper eta_TSleeper e_lTSleeper_0 fit_lTSleeper de_lTSleeper g_lTSleeper k_lTSleeper e_TBuffer_0 e_TBuffer_1 e_TBuffer_2 e_TBuffer_3 fit_TBuffer de_TBuffer g_TBuffer k_TBuffer eta_TBuffer e_lTTriggerPlan_0 fit_lTTriggerPlan de_lTTriggerPlan g_lTTriggerPlan k_lTTriggerPlan e_li64_0 fit_li64 de_li64 g_li64 k_li64 e_TTraffic_0 e_TTraffic_1 fit_TTraffic de_TTraffic g_TTraffic k_TTraffic eta_TTraffic e_Tqueue_0 e_Tqueue_1 fit_Tqueue de_Tqueue g_Tqueue k_Tqueue eta_Tqueue e_A8u8_0 e_A8u8_1 e_A8u8_2 e_A8u8_3 e_A8u8_4 e_A8u8_5 e_A8u8_6 e_A8u8_7 fit_A8u8 de_A8u8 g_A8u8 k_A8u8 eta_A8u8 e_u64_0 fit_u64 de_u64 g_u64 k_u64 deR_0 deR_1 deR_2 deR_3 deR_4 deR_5 deR_6 deR_7 deR_8 deR_9 deR_10 deR_11 deR_12 litC_x0 litC_x1 litC_x2 litC_x3 litC_x4 litC_x5 litC_x6 litC_x7 litC_x8 litC_x9 litC_x10 litC_x11 strE_u8 Fit_0 Option.isSome_some gt_some gd_one rK rG aL aK iK bK sK lK iA bA sA lA or_true true_or Int.toNat_natCast shT_23 shT_25 shT_27 shT_118 Int.toNat_zero Int.cast_ofNat_Int
/-! hotspot/hotspotref35.Bit -/
noncomputable def F36_L1 (p1 : Int) (v1_1 : Int) (v1_2 : Int) : Option (Lp (Int × Int) ((Int) ⊕ (Bool))) :=
  bif (bLt v1_2 p1) then (some (.next (wr .u8 (v1_1.tdiv 2), wr .u8 (v1_2 + 1)))) else (some (.done (.inl v1_1)))
noncomputable def F36 (p0 : Int) (p1 : Int) : Option (Bool) :=
  lp (loopD (fun s => F36_L1 p1 s.1 s.2) (p0, 0)) (fun w1_3 => some (bEq (w1_3.tmod 2) 1)) some
noncomputable def body36 : List AV → AR
  | [v0, v1] => .pure (iK .u8 v0 ∧ iK .u8 v1 ∧ (F36 (iA v0) (iA v1)).isSome = true) (.bool (gt (F36 (iA v0) (iA v1))))
  | _ => .fail
set_option maxHeartbeats 4000000 in
set_option maxRecDepth 20000 in
theorem ok36 : FnOk Try.prog 36 (pureC body36) := by
  refine pure_fnM body36 (rs := [.tmp 4]) Try.func36 (by kernel_rfl) rfl rfl ?_
  intro l ob v hb hob
  unfold body36 at hb
  split at hb
  · rename_i v0 v1
    injection hb with q1 q2; subst q1 q2
    obtain ⟨hk0, hk1, hob⟩ := hob
    obtain ⟨r, H⟩ := Option.isSome_iff_exists.1 hob
    rw [H, gt_some]
    have hw0 := iK_wk hk0
    have hw1 := iK_wk hk1
    generalize iA v0 = p0 at H hw0
    generalize iA v1 = p1 at H hw1
    refine ⟨[.int .u8 p0, .int .u8 p1], _, (fun E vs F => FR_wk1 hw0.1 F (fun vs F => FR_wk1 hw1.1 F (fun vs F => F))), rfl, rfl, ?_⟩
    rw [Try.ntmps36]
    simp only [List.length_cons, List.length_nil, Nat.reduceAdd, Nat.reduceSub, List.replicate_succ, List.replicate_zero, List.cons_append, List.nil_append]
    unfold F36 at H
    try dsimp only at H
    refine sq ctNo_ok ?_
    simp only [go_sem, Nat.reduceLeDiff, Nat.reduceLT, Nat.reduceAdd, Nat.reduceMul, Nat.reduceSub, Nat.reduceEqDiff, Nat.reduceBEq, Int.reduceToNat, reduceCtorEq]
    refine seqM ?_
    refine sq ctNo_ok ?_
    simp only [go_sem, Nat.reduceLeDiff, Nat.reduceLT, Nat.reduceAdd, Nat.reduceMul, Nat.reduceSub, Nat.reduceEqDiff, Nat.reduceBEq, Int.reduceToNat, reduceCtorEq]
    refine blkM ?_
    refine loop_den (fun s : Int × Int => [.int .u8 s.1, .int .u8 p1, .top, .top, .top, .int .u8 s.2, .top, .top, .top, .top, .top, .top, .top, .top, .top, .top]) (fun s => []) (fun e : Int => [.int .u8 e, .top, .top, .top, .top, .top, .top, .top, .top, .top, .top, .top, .top, .top, .top, .top]) (fun e => []) H ?_ (fun s o H hn1_1 hn2_1 => ?_) (fun w1_3 H => ?_)
    · refine SubF_of ⟨[], ?_, ?_, by rfl, by rfl⟩
      · simp [CvL, Cv, getM]
      · trivial
    · obtain ⟨v1_1, v1_2⟩ := s
      unfold F36_L1 at H
      try dsimp only at H ⊢
      refine seqM ?_
      refine sq ctNo_ok ?_
      simp only [go_sem, Nat.reduceLeDiff, Nat.reduceLT, Nat.reduceAdd, Nat.reduceMul, Nat.reduceSub, Nat.reduceEqDiff, Nat.reduceBEq, Int.reduceToNat, reduceCtorEq]
      refine condM' rfl trivial (fun hc => ?_) (fun hc => ?_)
      · replace H := cond_f hc H
        refine rg ctNo_ok ?_
        simp only [go_sem, Nat.reduceLeDiff, Nat.reduceLT, Nat.reduceAdd, Nat.reduceMul, Nat.reduceSub, Nat.reduceEqDiff, Nat.reduceBEq, Int.reduceToNat, reduceCtorEq]
        refine ⟨_, (Option.some.inj H).symm, ?_⟩
        refine SubF_of ⟨[], ?_, ?_, by rfl, by rfl⟩
        · simp [CvL, Cv, getM]
        · trivial
      replace H := cond_t hc H
      refine rg ctNo_ok ?_
      simp only [go_sem, Nat.reduceLeDiff, Nat.reduceLT, Nat.reduceAdd, Nat.reduceMul, Nat.reduceSub, Nat.reduceEqDiff, Nat.reduceBEq, Int.reduceToNat, reduceCtorEq]
      refine seqM ?_
      refine blkM ?_
      refine rg ctNo_ok ?_
      simp only [go_sem, Nat.reduceLeDiff, Nat.reduceLT, Nat.reduceAdd, Nat.reduceMul, Nat.reduceSub, Nat.reduceEqDiff, Nat.reduceBEq, Int.reduceToNat, reduceCtorEq]
      repeat ((with_reducible refine And.intro ?_ ?_); focus (first | (with_reducible trivial) | omega | grind))
      refine rg ctNo_ok ?_
      simp only [go_sem, Nat.reduceLeDiff, Nat.reduceLT, Nat.reduceAdd, Nat.reduceMul, Nat.reduceSub, Nat.reduceEqDiff, Nat.reduceBEq, Int.reduceToNat, reduceCtorEq]
      refine ⟨_, (Option.some.inj H).symm, ?_⟩
      refine SubF_of ⟨[], ?_, ?_, by rfl, by rfl⟩
      · simp [CvL, Cv, getM]
      · trivial
    · try dsimp only at H ⊢
      try simp only [m_normal, k_normal, b_normal, kL_normal, r_normal]
      refine sq ctNo_ok ?_
      simp only [go_sem, Nat.reduceLeDiff, Nat.reduceLT, Nat.reduceAdd, Nat.reduceMul, Nat.reduceSub, Nat.reduceEqDiff, Nat.reduceBEq, Int.reduceToNat, reduceCtorEq]
      repeat ((with_reducible refine And.intro ?_ ?_); focus (first | (with_reducible trivial) | omega | grind))
      refine rg ctNo_ok ?_
      simp only [go_sem, Nat.reduceLeDiff, Nat.reduceLT, Nat.reduceAdd, Nat.reduceMul, Nat.reduceSub, Nat.reduceEqDiff, Nat.reduceBEq, Int.reduceToNat, reduceCtorEq]
      obtain rfl := Option.some.inj H
      first | rfl | simp only [Bool.and_false, Bool.false_and, Bool.and_true, Bool.true_and]
  · cases hb
/-! hotspot/hotspotref35.Count -/
noncomputable def ct35t0 : Ct := tab [(36, pureC body36)]
theorem ct35t0_ok : CtOk Try.prog ct35t0 := tab_cons ok36 <| tab_nil
theorem ct35t0_36 (l : List AV) (h : List ABlk) : ct35t0 36 l h = pureC body36 l h := rfl
noncomputable def F35_L1 (p0 : List TStored) (p1 : Int) (v1_1 : Int) (v1_2 : Int) : Option (Lp (Int × Int) ((Int) ⊕ (Int))) :=
  bif (bLt v1_2 (p0.length : Nat)) then (need (inb v1_2 p0.length) <| (F36 p1 ((gd p0 v1_2.toNat).Cat)).bind fun r2 => bif r2 then (some (.next (wr .i64 (v1_1 + 1), wr .i64 (v1_2 + 1)))) else (some (.next (v1_1, wr .i64 (v1_2 + 1))))) else (some (.done (.inl v1_1)))
noncomputable def F35 (p0 : List TStored) (p1 : Int) : Option (Int) :=
  lp (loopD (fun s => F35_L1 p0 p1 s.1 s.2) (0, 0)) (fun w1_3 => some w1_3) some
noncomputable def body35 : List AV → AR
  | [v0, v1] => .pure (lK k_TStored 43 v0 ∧ iK .u8 v1 ∧ (F35 (lA g_TStored v0) (iA v1)).isSome = true) (.int .i64 (gt (F35 (lA g_TStored v0) (iA v1))))
  | _ => .fail
set_option maxHeartbeats 4000000 in
set_option maxRecDepth 20000 in
theorem ok35 : FnOk Try.prog 35 (pureC body35) := by
  refine pure_fnM body35 (rs := [.tmp 4]) Try.func35 (by kernel_rfl) rfl rfl ?_
  intro l ob v hb hob
  unfold body35 at hb
  split at hb
  · rename_i v0 v1
    injection hb with q1 q2; subst q1 q2
    obtain ⟨hk0, hk1, hob⟩ := hob
    obtain ⟨r, H⟩ := Option.isSome_iff_exists.1 hob
    rw [H, gt_some]
    have hw0 := lK_wk (fun r h => w_TStored h) hk0
    have hw1 := iK_wk hk1
    generalize lA g_TStored v0 = p0 at H hw0
    generalize iA v1 = p1 at H hw1
    refine ⟨[.ro 43 p0.length false (enR c_TStored p0), .int .u8 p1], _, (fun E vs F => FR_wk1 hw0.1 F (fun vs F => FR_wk1 hw1.1 F (fun vs F => F))), rfl, rfl, ?_⟩
    rw [Try.ntmps35]
    simp only [List.length_cons, List.length_nil, Nat.reduceAdd, Nat.reduceSub, List.replicate_succ, List.replicate_zero, List.cons_append, List.nil_append]
    unfold F35 at H
    try dsimp only at H
    refine sq ctNo_ok ?_
    simp only [go_sem, Nat.reduceLeDiff, Nat.reduceLT, Nat.reduceAdd, Nat.reduceMul, Nat.reduceSub, Nat.reduceEqDiff, Nat.reduceBEq, Int.reduceToNat, reduceCtorEq]
    refine sq ctNo_ok ?_
    simp only [go_sem, Nat.reduceLeDiff, Nat.reduceLT, Nat.reduceAdd, Nat.reduceMul, Nat.reduceSub, Nat.reduceEqDiff, Nat.reduceBEq, Int.reduceToNat, reduceCtorEq]
    refine seqM ?_
    refine sq ctNo_ok ?_
    simp only [go_sem, Nat.reduceLeDiff, Nat.reduceLT, Nat.reduceAdd, Nat.reduceMul, Nat.reduceSub, Nat.reduceEqDiff, Nat.reduceBEq, Int.reduceToNat, reduceCtorEq]
    refine blkM ?_
    refine loop_den (fun s : Int × Int => [.ro 43 p0.length false (enR c_TStored p0), .int .u8 p1, .top, .top, .top, .int .i64 s.1, .int .i64 s.2, .top, .top, .top, .top, .top, .top, .top, .top, .top, .top, .top, .top, .top, .top, .top, .top]) (fun s => []) (fun e : Int => [.top, .top, .top, .top, .top, .int .i64 e, .top, .top, .top, .top, .top, .top, .top, .top, .top, .top, .top, .top, .top, .top, .top, .top, .top]) (fun e => []) H ?_ (fun s o H hn1_1 hn2_1 => ?_) (fun w1_3 H => ?_)
    · refine SubF_of ⟨[], ?_, ?_, by rfl, by rfl⟩
      · simp [CvL, Cv, getM]
      · trivial
    · obtain ⟨v1_1, v1_2⟩ := s
      unfold F35_L1 at H
      try dsimp only at H ⊢
      refine seqM ?_
      refine sq ctNo_ok ?_
      simp only [go_sem, Nat.reduceLeDiff, Nat.reduceLT, Nat.reduceAdd, Nat.reduceMul, Nat.reduceSub, Nat.reduceEqDiff, Nat.reduceBEq, Int.reduceToNat, reduceCtorEq]
      repeat ((with_reducible refine And.intro ?_ ?_); focus (first | (with_reducible trivial) | omega | (intro x y _ _; (repeat (first | exact nfR_enI | exact nfR_lit (by simp only [nrefL, nref, and_self]) | (refine nfR_app (fun x y => ?_) (fun x y => ?_)) | (refine nfR_ins (fun x y => ?_) (fun x y => ?_)) | (refine nfR_del (fun x y => ?_)) | (refine nfR_upc (fun x y => ?_) (by simp only [nrefL, nref, and_self])) | (refine nfR_ovw (fun x y => ?_) (fun x y => ?_)) | exact nfR_getL (by simp only [nrefL, nref, and_self]))); done) | (intro x hx; (repeat (first | (exfalso; omega) | (rcases x with _ | x; first | (and_intros <;> (first | exact rfl | exact trivial | exact ⟨Or.inr rfl, Fit_enI⟩ | exact Fit_enI | exact Or.inr rfl | exact Or.inl rfl | exact fun x hx => absurd hx (by omega) | exact ⟨Or.inl rfl, fun x hx => absurd hx (by omega)⟩)) | (first | exact rfl | exact trivial | exact ⟨Or.inr rfl, Fit_enI⟩ | exact Fit_enI | exact Or.inr rfl | exact Or.inl rfl | exact fun x hx => absurd hx (by omega) | exact ⟨Or.inl rfl, fun x hx => absurd hx (by omega)⟩)))); done) | (and_intros <;> first | (with_reducible trivial) | omega | assumption | (intro x y _ _; (repeat (first | exact nfR_enI | exact nfR_lit (by simp only [nrefL, nref, and_self]) | (refine nfR_app (fun x y => ?_) (fun x y => ?_)) | (refine nfR_ins (fun x y => ?_) (fun x y => ?_)) | (refine nfR_del (fun x y => ?_)) | (refine nfR_upc (fun x y => ?_) (by simp only [nrefL, nref, and_self])) | (refine nfR_ovw (fun x y => ?_) (fun x y => ?_)) | exact nfR_getL (by simp only [nrefL, nref, and_self]))); done) | (intro x hx; (repeat (first | (exfalso; omega) | (rcases x with _ | x; first | (and_intros <;> (first | exact rfl | exact trivial | exact ⟨Or.inr rfl, Fit_enI⟩ | exact Fit_enI | exact Or.inr rfl | exact Or.inl rfl | exact fun x hx => absurd hx (by omega) | exact ⟨Or.inl rfl, fun x hx => absurd hx (by omega)⟩)) | (first | exact rfl | exact trivial | exact ⟨Or.inr rfl, Fit_enI⟩ | exact Fit_enI | exact Or.inr rfl | exact Or.inl rfl | exact fun x hx => absurd hx (by omega) | exact ⟨Or.inl rfl, fun x hx => absurd hx (by omega)⟩)))); done)) | grind))
      refine condM' rfl trivial (fun hc => ?_) (fun hc => ?_)
      · replace H := cond_f hc H
        refine rg ctNo_ok ?_
        simp only [go_sem, Nat.reduceLeDiff, Nat.reduceLT, Nat.reduceAdd, Nat.reduceMul, Nat.reduceSub, Nat.reduceEqDiff, Nat.reduceBEq, Int.reduceToNat, reduceCtorEq]
        refine ⟨_, (Option.some.inj H).symm, ?_⟩
        refine SubF_of ⟨[], ?_, ?_, by rfl, by rfl⟩
        · simp [CvL, Cv, getM]
        · trivial
      replace H := cond_t hc H
      refine rg ctNo_ok ?_
      simp only [go_sem, Nat.reduceLeDiff, Nat.reduceLT, Nat.reduceAdd, Nat.reduceMul, Nat.reduceSub, Nat.reduceEqDiff, Nat.reduceBEq, Int.reduceToNat, reduceCtorEq]
      refine seqM ?_
      refine blkM ?_
      refine seqM ?_
      obtain ⟨f1, H⟩ := need_some.1 H
      replace f1 := inb_iff.1 f1
      obtain ⟨r2, e3, H⟩ := Option.bind_eq_some_iff.1 H
      refine rg ct35t0_ok ?_
      simp only [go_sem, Nat.reduceLeDiff, Nat.reduceLT, Nat.reduceAdd, Nat.reduceMul, Nat.reduceSub, Nat.reduceEqDiff, Nat.reduceBEq, Int.reduceToNat, reduceCtorEq, ct35t0_36, body36, f1, e3]
      repeat ((with_reducible refine And.intro ?_ ?_); focus (first | (with_reducible trivial) | omega | (intro x y _ _; (repeat (first | exact nfR_enI | exact nfR_lit (by simp only [nrefL, nref, and_self]) | (refine nfR_app (fun x y => ?_) (fun x y => ?_)) | (refine nfR_ins (fun x y => ?_) (fun x y => ?_)) | (refine nfR_del (fun x y => ?_)) | (refine nfR_upc (fun x y => ?_) (by simp only [nrefL, nref, and_self])) | (refine nfR_ovw (fun x y => ?_) (fun x y => ?_)) | exact nfR_getL (by simp only [nrefL, nref, and_self]))); done) | (intro x hx; (repeat (first | (exfalso; omega) | (rcases x with _ | x; first | (and_intros <;> (first | exact rfl | exact trivial | exact ⟨Or.inr rfl, Fit_enI⟩ | exact Fit_enI | exact Or.inr rfl | exact Or.inl rfl | exact fun x hx => absurd hx (by omega) | exact ⟨Or.inl rfl, fun x hx => absurd hx (by omega)⟩)) | (first | exact rfl | exact trivial | exact ⟨Or.inr rfl, Fit_enI⟩ | exact Fit_enI | exact Or.inr rfl | exact Or.inl rfl | exact fun x hx => absurd hx (by omega) | exact ⟨Or.inl rfl, fun x hx => absurd hx (by omega)⟩)))); done) | (and_intros <;> first | (with_reducible trivial) | omega | assumption | (intro x y _ _; (repeat (first | exact nfR_enI | exact nfR_lit (by simp only [nrefL, nref, and_self]) | (refine nfR_app (fun x y => ?_) (fun x y => ?_)) | (refine nfR_ins (fun x y => ?_) (fun x y => ?_)) | (refine nfR_del (fun x y => ?_)) | (refine nfR_upc (fun x y => ?_) (by simp only [nrefL, nref, and_self])) | (refine nfR_ovw (fun x y => ?_) (fun x y => ?_)) | exact nfR_getL (by simp only [nrefL, nref, and_self]))); done) | (intro x hx; (repeat (first | (exfalso; omega) | (rcases x with _ | x; first | (and_intros <;> (first | exact rfl | exact trivial | exact ⟨Or.inr rfl, Fit_enI⟩ | exact Fit_enI | exact Or.inr rfl | exact Or.inl rfl | exact fun x hx => absurd hx (by omega) | exact ⟨Or.inl rfl, fun x hx => absurd hx (by omega)⟩)) | (first | exact rfl | exact trivial | exact ⟨Or.inr rfl, Fit_enI⟩ | exact Fit_enI | exact Or.inr rfl | exact Or.inl rfl | exact fun x hx => absurd hx (by omega) | exact ⟨Or.inl rfl, fun x hx => absurd hx (by omega)⟩)))); done)) | grind))
      refine condM rfl trivial (fun hc => ?_) (fun hc => ?_)
      · replace H := cond_t hc H
        refine rg ctNo_ok ?_
        simp only [go_sem, Nat.reduceLeDiff, Nat.reduceLT, Nat.reduceAdd, Nat.reduceMul, Nat.reduceSub, Nat.reduceEqDiff, Nat.reduceBEq, Int.reduceToNat, reduceCtorEq]
        refine rg ctNo_ok ?_
        simp only [go_sem, Nat.reduceLeDiff, Nat.reduceLT, Nat.reduceAdd, Nat.reduceMul, Nat.reduceSub, Nat.reduceEqDiff, Nat.reduceBEq, Int.reduceToNat, reduceCtorEq]
        refine ⟨_, (Option.some.inj H).symm, ?_⟩
        refine SubF_of ⟨[], ?_, ?_, by rfl, by rfl⟩
        · simp [CvL, Cv, getM]
        · trivial
      replace H := cond_f hc H
      refine rg ctNo_ok ?_
      simp only [go_sem, Nat.reduceLeDiff, Nat.reduceLT, Nat.reduceAdd, Nat.reduceMul, Nat.reduceSub, Nat.reduceEqDiff, Nat.reduceBEq, Int.reduceToNat, reduceCtorEq]
      refine rg ctNo_ok ?_
      simp only [go_sem, Nat.reduceLeDiff, Nat.reduceLT, Nat.reduceAdd, Nat.reduceMul, Nat.reduceSub, Nat.reduceEqDiff, Nat.reduceBEq, Int.reduceToNat, reduceCtorEq]
      refine ⟨_, (Option.some.inj H).symm, ?_⟩
      refine SubF_of ⟨[], ?_, ?_, by rfl, by rfl⟩
      · simp [CvL, Cv, getM]
      · trivial
    · try dsimp only at H ⊢
      try simp only [m_normal, k_normal, b_normal, kL_normal, r_normal]
      refine sq ctNo_ok ?_
      simp only [go_sem, Nat.reduceLeDiff, Nat.reduceLT, Nat.reduceAdd, Nat.reduceMul, Nat.reduceSub, Nat.reduceEqDiff, Nat.reduceBEq, Int.reduceToNat, reduceCtorEq]
      refine rg ctNo_ok ?_
      simp only [go_sem, Nat.reduceLeDiff, Nat.reduceLT, Nat.reduceAdd, Nat.reduceMul, Nat.reduceSub, Nat.reduceEqDiff, Nat.reduceBEq, Int.reduceToNat, reduceCtorEq]
      obtain rfl := Option.some.inj H
      first | rfl | simp only [Bool.and_false, Bool.false_and, Bool.and_true, Bool.true_and]
  · cases hb
/-! hotspot/hotspotref35.Map -/
noncomputable def ct26t0 : Ct := tab [(50, pureC body50)]
theorem ct26t0_ok : CtOk Try.prog ct26t0 := tab_cons ok50 <| tab_nil
theorem ct26t0_50 (l : List AV) (h : List ABlk) : ct26t0 50 l h = pureC body50 l h := rfl
noncomputable def ct26t1 : Ct := tab [(21, pureC body21)]
theorem ct26t1_ok : CtOk Try.prog ct26t1 := tab_cons ok21 <| tab_nil
theorem ct26t1_21 (l : List AV) (h : List ABlk) : ct26t1 21 l h = pureC body21 l h := rfl
noncomputable def ct26t2 : Ct := tab [(35, pureC body35)]
theorem ct26t2_ok : CtOk Try.prog ct26t2 := tab_cons ok35 <| tab_nil
theorem ct26t2_35 (l : List AV) (h : List ABlk) : ct26t2 35 l h = pureC body35 l h := rfl
noncomputable def F26_L1 (p0 : TBuffer) (p1 : List TTriggerPlan) (v1_1 : Int) (v1_2 : List Int) : Option (Lp (Int × (List Int)) ((List Int) ⊕ (TTraffic × Int))) :=
  bif (bLt v1_1 (p1.length : Nat)) then (need (inb v1_1 p1.length) <| (F21 (gd p1 v1_1.toNat)).bind fun r4 => bif (!r4) then (some (.done (.inr ((TTraffic.mk false []), 8)))) else (need (inb v1_1 p0.List.length) <| need (inb v1_1 p0.List.length) <| need (inb v1_1 p1.length) <| (F35 ((gd p0.List v1_1.toNat).Held) ((gd p1 v1_1.toNat).Deliver)).bind fun r9 => need (bif (!(bLt 0 (wr .i64 ((((gd p0.List v1_1.toNat).Held).length : Nat) - r9)))) then inb v1_1 p1.length else true) <| bif ((bLt 0 (wr .i64 ((((gd p0.List v1_1.toNat).Held).length : Nat) - r9))) || ((bEq ((gd p1 v1_1.toNat).Deliver) 15) && (bLt 0 (((gd p0.List v1_1.toNat).Held).length : Nat)))) then (need (inb v1_1 p0.List.length) <| need (capb 8 (v1_2.length + 1)) <| some (.next (wr .i64 (v1_1 + 1), (v1_2 ++ [(gd p0.List v1_1.toNat).Aid])))) else (some (.next (wr .i64 (v1_1 + 1), v1_2))))) else (some (.done (.inl v1_2)))
noncomputable def F26 (p0 : TBuffer) (p1 : List TTriggerPlan) : Option (TTraffic × Int) :=
  (F50 p0).bind fun r1 => bif (!r1) then (some ((TTraffic.mk false []), 8)) else (bif (!bEq (p1.length : Nat) (p0.List.length : Nat)) then (some ((TTraffic.mk false []), 2)) else (lp (loopD (fun s => F26_L1 p0 p1 s.1 s.2) (0, [])) (fun w1_3 => some ((TTraffic.mk (bLt 0 (p0.Group.length : Nat)) w1_3), 0)) some))
noncomputable def body26 : List AV → Nat → AR
  | [v0, v1], _ => .pure (aK 4 k_TBuffer v0 ∧ lK k_TTriggerPlan 3 v1 ∧ (F26 (g_TBuffer (aL v0)) (lA g_TTriggerPlan v1)).isSome = true) (.tup [.agg [.bool (((gt (F26 (g_TBuffer (aL v0)) (lA g_TTriggerPlan v1))).1).Group), .ro 1 ((((gt (F26 (g_TBuffer (aL v0)) (lA g_TTriggerPlan v1))).1).Aids).length) false (enR c_i64 (((gt (F26 (g_TBuffer (aL v0)) (lA g_TTriggerPlan v1))).1).Aids))], .int .i64 ((gt (F26 (g_TBuffer (aL v0)) (lA g_TTriggerPlan v1))).2)])
  | _, _ => .fail
set_option maxHeartbeats 4000000 in
set_option maxRecDepth 20000 in
theorem ok26 : FnOk Try.prog 26 (genC body26) := by
  refine gen_fn body26 (rs := [.cell 4 57, .tmp 5]) Try.func26 (by kernel_rfl) rfl rfl ?_
  intro l s ob v ns hb hob
  rcases hb with ⟨hb, rfl⟩ | hb
  · unfold body26 at hb
    split at hb
    · rename_i v0 v1
      injection hb with q1 q2; subst q1 q2
      obtain ⟨hk0, hk1, hob⟩ := hob
      obtain ⟨r, H⟩ := Option.isSome_iff_exists.1 hob
      rw [H, gt_some]
      have hw0 := wA_TBuffer hk0
      have hw1 := lK_wk (fun r h => w_TTriggerPlan h) hk1
      generalize g_TBuffer (aL v0) = p0 at H hw0
      generalize lA g_TTriggerPlan v1 = p1 at H hw1
      refine ⟨[.agg [.int .i64 p0.Limit, .int .i64 p0.Stay, .ro 3 p0.List.length false (enR c_TSleeper p0.List), .ro 43 p0.Group.length false (enR c_TStored p0.Group)], .ro 3 p1.length false (enR c_TTriggerPlan p1)], .tup [.agg [.bool r.1.Group, .ro 1 r.1.Aids.length false (enR c_i64 r.1.Aids)], .int .i64 r.2], [], (fun E vs F => FR_wk1 hw0.1 F (fun vs F => FR_wk1 hw1.1 F (fun vs F => F))), by simp only [ren, renL], trivial, ?_⟩
      rw [Try.ntmps26]
      simp only [List.length_cons, List.length_nil, Nat.reduceAdd, Nat.reduceSub, List.replicate_succ, List.replicate_zero, List.cons_append, List.nil_append]
      unfold F26 at H
      try dsimp only at H
      refine sq ctNo_ok ?_
      simp only [go_sem, Nat.reduceLeDiff, Nat.reduceLT, Nat.reduceAdd, Nat.reduceMul, Nat.reduceSub, Nat.reduceEqDiff, Nat.reduceBEq, Int.reduceToNat, reduceCtorEq]
      refine seqM ?_
      refine seqM ?_
      obtain ⟨r1, e2, H⟩ := Option.bind_eq_some_iff.1 H
      refine rg ct26t0_ok ?_
      simp only [go_sem, Nat.reduceLeDiff, Nat.reduceLT, Nat.reduceAdd, Nat.reduceMul, Nat.reduceSub, Nat.reduceEqDiff, Nat.reduceBEq, Int.reduceToNat, reduceCtorEq, ct26t0_50, body50, e2]
      repeat ((with_reducible refine And.intro ?_ ?_); focus (first | (with_reducible trivial) | omega | (intro x y _ _; (repeat (first | exact nfR_enI | exact nfR_lit (by simp only [nrefL, nref, and_self]) | (refine nfR_app (fun x y => ?_) (fun x y => ?_)) | (refine nfR_ins (fun x y => ?_) (fun x y => ?_)) | (refine nfR_del (fun x y => ?_)) | (refine nfR_upc (fun x y => ?_) (by simp only [nrefL, nref, and_self])) | (refine nfR_ovw (fun x y => ?_) (fun x y => ?_)) | exact nfR_getL (by simp only [nrefL, nref, and_self]))); done) | (intro x hx; (repeat (first | (exfalso; omega) | (rcases x with _ | x; first | (and_intros <;> (first | exact rfl | exact trivial | exact ⟨Or.inr rfl, Fit_enI⟩ | exact Fit_enI | exact Or.inr rfl | exact Or.inl rfl | exact fun x hx => absurd hx (by omega) | exact ⟨Or.inl rfl, fun x hx => absurd hx (by omega)⟩)) | (first | exact rfl | exact trivial | exact ⟨Or.inr rfl, Fit_enI⟩ | exact Fit_enI | exact Or.inr rfl | exact Or.inl rfl | exact fun x hx => absurd hx (by omega) | exact ⟨Or.inl rfl, fun x hx => absurd hx (by omega)⟩)))); done) | (and_intros <;> first | (with_reducible trivial) | omega | assumption | (intro x y _ _; (repeat (first | exact nfR_enI | exact nfR_lit (by simp only [nrefL, nref, and_self]) | (refine nfR_app (fun x y => ?_) (fun x y => ?_)) | (refine nfR_ins (fun x y => ?_) (fun x y => ?_)) | (refine nfR_del (fun x y => ?_)) | (refine nfR_upc (fun x y => ?_) (by simp only [nrefL, nref, and_self])) | (refine nfR_ovw (fun x y => ?_) (fun x y => ?_)) | exact nfR_getL (by simp only [nrefL, nref, and_self]))); done) | (intro x hx; (repeat (first | (exfalso; omega) | (rcases x with _ | x; first | (and_intros <;> (first | exact rfl | exact trivial | exact ⟨Or.inr rfl, Fit_enI⟩ | exact Fit_enI | exact Or.inr rfl | exact Or.inl rfl | exact fun x hx => absurd hx (by omega) | exact ⟨Or.inl rfl, fun x hx => absurd hx (by omega)⟩)) | (first | exact rfl | exact trivial | exact ⟨Or.inr rfl, Fit_enI⟩ | exact Fit_enI | exact Or.inr rfl | exact Or.inl rfl | exact fun x hx => absurd hx (by omega) | exact ⟨Or.inl rfl, fun x hx => absurd hx (by omega)⟩)))); done)) | grind))
      refine condM rfl trivial (fun hc => ?_) (fun hc => ?_)
      · replace H := cond_t hc H
        refine sq ctNo_ok ?_
        simp only [go_sem, Nat.reduceLeDiff, Nat.reduceLT, Nat.reduceAdd, Nat.reduceMul, Nat.reduceSub, Nat.reduceEqDiff, Nat.reduceBEq, Int.reduceToNat, reduceCtorEq]
        repeat ((with_reducible refine And.intro ?_ ?_); focus (first | (with_reducible trivial) | omega | grind))
        refine rg ctNo_ok ?_
        simp only [go_sem, Nat.reduceLeDiff, Nat.reduceLT, Nat.reduceAdd, Nat.reduceMul, Nat.reduceSub, Nat.reduceEqDiff, Nat.reduceBEq, Int.reduceToNat, reduceCtorEq]
        obtain rfl := Option.some.inj H
        refine ⟨[0, 1], ?_, ?_, [], ?_, ?_, rfl⟩
        · simp only [List.length_cons, List.length_nil, Nat.zero_mul, Nat.add_zero, fzV, fzL, fzOb, fzObL, fzH, fzHF, fzB, fzObB, fzObH, inL, rowOb, geth, cond_true, cond_false, Bool.or_false, Bool.or_true, Bool.false_or, Bool.true_or, and_self, true_and, and_true, Nat.reduceEqDiff, Nat.reduceBEq, beq_self_eq_true, sub_enR0, Nat.reduceAdd, Nat.zero_add, Nat.le_refl, List.nil_append]
          try (and_intros <;> first | trivial | omega | (intro x y _ _; repeat (first | exact nfR_lit (by simp only [nrefL, nref, and_self]) | exact nfR_enI | (refine nfR_app (fun x y => ?_) (fun x y => ?_)) | (refine nfR_ins (fun x y => ?_) (fun x y => ?_)) | (refine nfR_del (fun x y => ?_)) | (refine nfR_upc (fun x y => ?_) (by simp only [nrefL, nref, and_self])) | (refine nfR_ovw (fun x y => ?_) (fun x y => ?_)) | exact nfR_getL (by simp only [nrefL, nref, and_self]))))
        · simp only [List.length_cons, List.length_nil, Nat.zero_mul, Nat.add_zero, fzV, fzL, fzOb, fzObL, fzH, fzHF, fzB, fzObB, fzObH, inL, rowOb, geth, cond_true, cond_false, Bool.or_false, Bool.or_true, Bool.false_or, Bool.true_or, and_self, true_and, and_true, Nat.reduceEqDiff, Nat.reduceBEq, beq_self_eq_true, sub_enR0, Nat.reduceAdd, Nat.zero_add, Nat.le_refl, List.nil_append]
          try (and_intros <;> first | trivial | omega | (intro x y _ _; repeat (first | exact nfR_lit (by simp only [nrefL, nref, and_self]) | exact nfR_enI | (refine nfR_app (fun x y => ?_) (fun x y => ?_)) | (refine nfR_ins (fun x y => ?_) (fun x y => ?_)) | (refine nfR_del (fun x y => ?_)) | (refine nfR_upc (fun x y => ?_) (by simp only [nrefL, nref, and_self])) | (refine nfR_ovw (fun x y => ?_) (fun x y => ?_)) | exact nfR_getL (by simp only [nrefL, nref, and_self]))))
        · simp only [List.length_cons, List.length_nil, Nat.zero_mul, Nat.add_zero, fzV, fzL, fzOb, fzObL, fzH, fzHF, fzB, fzObB, fzObH, inL, rowOb, geth, cond_true, cond_false, Bool.or_false, Bool.or_true, Bool.false_or, Bool.true_or, and_self, true_and, and_true, Nat.reduceEqDiff, Nat.reduceBEq, beq_self_eq_true, sub_enR0, Nat.reduceAdd, Nat.zero_add, Nat.le_refl, List.nil_append]
          exact Cv_tup (CvL_cons (Cv_agg (CvL_cons Cv_bool (CvL_cons (Cv_ronil (α := Int)) CvL_nil))) (CvL_cons Cv_int CvL_nil))
        · simp only [List.length_cons, List.length_nil, Nat.zero_mul, Nat.add_zero, fzV, fzL, fzOb, fzObL, fzH, fzHF, fzB, fzObB, fzObH, inL, rowOb, geth, cond_true, cond_false, Bool.or_false, Bool.or_true, Bool.false_or, Bool.true_or, and_self, true_and, and_true, Nat.reduceEqDiff, Nat.reduceBEq, beq_self_eq_true, sub_enR0, Nat.reduceAdd, Nat.zero_add, Nat.le_refl, List.nil_append, CvH]
      replace H := cond_f hc H
      refine rg ctNo_ok ?_
      simp only [go_sem, Nat.reduceLeDiff, Nat.reduceLT, Nat.reduceAdd, Nat.reduceMul, Nat.reduceSub, Nat.reduceEqDiff, Nat.reduceBEq, Int.reduceToNat, reduceCtorEq]
      refine seqM ?_
      refine sq ctNo_ok ?_
      simp only [go_sem, Nat.reduceLeDiff, Nat.reduceLT, Nat.reduceAdd, Nat.reduceMul, Nat.reduceSub, Nat.reduceEqDiff, Nat.reduceBEq, Int.reduceToNat, reduceCtorEq]
      repeat ((with_reducible refine And.intro ?_ ?_); focus (first | (with_reducible trivial) | omega | (intro x y _ _; (repeat (first | exact nfR_enI | exact nfR_lit (by simp only [nrefL, nref, and_self]) | (refine nfR_app (fun x y => ?_) (fun x y => ?_)) | (refine nfR_ins (fun x y => ?_) (fun x y => ?_)) | (refine nfR_del (fun x y => ?_)) | (refine nfR_upc (fun x y => ?_) (by simp only [nrefL, nref, and_self])) | (refine nfR_ovw (fun x y => ?_) (fun x y => ?_)) | exact nfR_getL (by simp only [nrefL, nref, and_self]))); done) | (intro x hx; (repeat (first | (exfalso; omega) | (rcases x with _ | x; first | (and_intros <;> (first | exact rfl | exact trivial | exact ⟨Or.inr rfl, Fit_enI⟩ | exact Fit_enI | exact Or.inr rfl | exact Or.inl rfl | exact fun x hx => absurd hx (by omega) | exact ⟨Or.inl rfl, fun x hx => absurd hx (by omega)⟩)) | (first | exact rfl | exact trivial | exact ⟨Or.inr rfl, Fit_enI⟩ | exact Fit_enI | exact Or.inr rfl | exact Or.inl rfl | exact fun x hx => absurd hx (by omega) | exact ⟨Or.inl rfl, fun x hx => absurd hx (by omega)⟩)))); done) | (and_intros <;> first | (with_reducible trivial) | omega | assumption | (intro x y _ _; (repeat (first | exact nfR_enI | exact nfR_lit (by simp only [nrefL, nref, and_self]) | (refine nfR_app (fun x y => ?_) (fun x y => ?_)) | (refine nfR_ins (fun x y => ?_) (fun x y => ?_)) | (refine nfR_del (fun x y => ?_)) | (refine nfR_upc (fun x y => ?_) (by simp only [nrefL, nref, and_self])) | (refine nfR_ovw (fun x y => ?_) (fun x y => ?_)) | exact nfR_getL (by simp only [nrefL, nref, and_self]))); done) | (intro x hx; (repeat (first | (exfalso; omega) | (rcases x with _ | x; first | (and_intros <;> (first | exact rfl | exact trivial | exact ⟨Or.inr rfl, Fit_enI⟩ | exact Fit_enI | exact Or.inr rfl | exact Or.inl rfl | exact fun x hx => absurd hx (by omega) | exact ⟨Or.inl rfl, fun x hx => absurd hx (by omega)⟩)) | (first | exact rfl | exact trivial | exact ⟨Or.inr rfl, Fit_enI⟩ | exact Fit_enI | exact Or.inr rfl | exact Or.inl rfl | exact fun x hx => absurd hx (by omega) | exact ⟨Or.inl rfl, fun x hx => absurd hx (by omega)⟩)))); done)) | grind))
      refine condM rfl trivial (fun hc => ?_) (fun hc => ?_)
      · replace H := cond_t hc H
        refine sq ctNo_ok ?_
        simp only [go_sem, Nat.reduceLeDiff, Nat.reduceLT, Nat.reduceAdd, Nat.reduceMul, Nat.reduceSub, Nat.reduceEqDiff, Nat.reduceBEq, Int.reduceToNat, reduceCtorEq]
        repeat ((with_reducible refine And.intro ?_ ?_); focus (first | (with_reducible trivial) | omega | grind))
        refine rg ctNo_ok ?_
        simp only [go_sem, Nat.reduceLeDiff, Nat.reduceLT, Nat.reduceAdd, Nat.reduceMul, Nat.reduceSub, Nat.reduceEqDiff, Nat.reduceBEq, Int.reduceToNat, reduceCtorEq]
        obtain rfl := Option.some.inj H
        refine ⟨[0, 1], ?_, ?_, [], ?_, ?_, rfl⟩
        · simp only [List.length_cons, List.length_nil, Nat.zero_mul, Nat.add_zero, fzV, fzL, fzOb, fzObL, fzH, fzHF, fzB, fzObB, fzObH, inL, rowOb, geth, cond_true, cond_false, Bool.or_false, Bool.or_true, Bool.false_or, Bool.true_or, and_self, true_and, and_true, Nat.reduceEqDiff, Nat.reduceBEq, beq_self_eq_true, sub_enR0, Nat.reduceAdd, Nat.zero_add, Nat.le_refl, List.nil_append]
          try (and_intros <;> first | trivial | omega | (intro x y _ _; repeat (first | exact nfR_lit (by simp only [nrefL, nref, and_self]) | exact nfR_enI | (refine nfR_app (fun x y => ?_) (fun x y => ?_)) | (refine nfR_ins (fun x y => ?_) (fun x y => ?_)) | (refine nfR_del (fun x y => ?_)) | (refine nfR_upc (fun x y => ?_) (by simp only [nrefL, nref, and_self])) | (refine nfR_ovw (fun x y => ?_) (fun x y => ?_)) | exact nfR_getL (by simp only [nrefL, nref, and_self]))))
        · simp only [List.length_cons, List.length_nil, Nat.zero_mul, Nat.add_zero, fzV, fzL, fzOb, fzObL, fzH, fzHF, fzB, fzObB, fzObH, inL, rowOb, geth, cond_true, cond_false, Bool.or_false, Bool.or_true, Bool.false_or, Bool.true_or, and_self, true_and, and_true, Nat.reduceEqDiff, Nat.reduceBEq, beq_self_eq_true, sub_enR0, Nat.reduceAdd, Nat.zero_add, Nat.le_refl, List.nil_append]
          try (and_intros <;> first | trivial | omega | (intro x y _ _; repeat (first | exact nfR_lit (by simp only [nrefL, nref, and_self]) | exact nfR_enI | (refine nfR_app (fun x y => ?_) (fun x y => ?_)) | (refine nfR_ins (fun x y => ?_) (fun x y => ?_)) | (refine nfR_del (fun x y => ?_)) | (refine nfR_upc (fun x y => ?_) (by simp only [nrefL, nref, and_self])) | (refine nfR_ovw (fun x y => ?_) (fun x y => ?_)) | exact nfR_getL (by simp only [nrefL, nref, and_self]))))
        · simp only [List.length_cons, List.length_nil, Nat.zero_mul, Nat.add_zero, fzV, fzL, fzOb, fzObL, fzH, fzHF, fzB, fzObB, fzObH, inL, rowOb, geth, cond_true, cond_false, Bool.or_false, Bool.or_true, Bool.false_or, Bool.true_or, and_self, true_and, and_true, Nat.reduceEqDiff, Nat.reduceBEq, beq_self_eq_true, sub_enR0, Nat.reduceAdd, Nat.zero_add, Nat.le_refl, List.nil_append]
          exact Cv_tup (CvL_cons (Cv_agg (CvL_cons Cv_bool (CvL_cons (Cv_ronil (α := Int)) CvL_nil))) (CvL_cons Cv_int CvL_nil))
        · simp only [List.length_cons, List.length_nil, Nat.zero_mul, Nat.add_zero, fzV, fzL, fzOb, fzObL, fzH, fzHF, fzB, fzObB, fzObH, inL, rowOb, geth, cond_true, cond_false, Bool.or_false, Bool.or_true, Bool.false_or, Bool.true_or, and_self, true_and, and_true, Nat.reduceEqDiff, Nat.reduceBEq, beq_self_eq_true, sub_enR0, Nat.reduceAdd, Nat.zero_add, Nat.le_refl, List.nil_append, CvH]
      replace H := cond_f hc H
      refine rg ctNo_ok ?_
      simp only [go_sem, Nat.reduceLeDiff, Nat.reduceLT, Nat.reduceAdd, Nat.reduceMul, Nat.reduceSub, Nat.reduceEqDiff, Nat.reduceBEq, Int.reduceToNat, reduceCtorEq]
      refine sq ctNo_ok ?_
      simp only [go_sem, Nat.reduceLeDiff, Nat.reduceLT, Nat.reduceAdd, Nat.reduceMul, Nat.reduceSub, Nat.reduceEqDiff, Nat.reduceBEq, Int.reduceToNat, reduceCtorEq]
      repeat ((with_reducible refine And.intro ?_ ?_); focus (first | (with_reducible trivial) | omega | (intro x y _ _; (repeat (first | exact nfR_enI | exact nfR_lit (by simp only [nrefL, nref, and_self]) | (refine nfR_app (fun x y => ?_) (fun x y => ?_)) | (refine nfR_ins (fun x y => ?_) (fun x y => ?_)) | (refine nfR_del (fun x y => ?_)) | (refine nfR_upc (fun x y => ?_) (by simp only [nrefL, nref, and_self])) | (refine nfR_ovw (fun x y => ?_) (fun x y => ?_)) | exact nfR_getL (by simp only [nrefL, nref, and_self]))); done) | (intro x hx; (repeat (first | (exfalso; omega) | (rcases x with _ | x; first | (and_intros <;> (first | exact rfl | exact trivial | exact ⟨Or.inr rfl, Fit_enI⟩ | exact Fit_enI | exact Or.inr rfl | exact Or.inl rfl | exact fun x hx => absurd hx (by omega) | exact ⟨Or.inl rfl, fun x hx => absurd hx (by omega)⟩)) | (first | exact rfl | exact trivial | exact ⟨Or.inr rfl, Fit_enI⟩ | exact Fit_enI | exact Or.inr rfl | exact Or.inl rfl | exact fun x hx => absurd hx (by omega) | exact ⟨Or.inl rfl, fun x hx => absurd hx (by omega)⟩)))); done) | (and_intros <;> first | (with_reducible trivial) | omega | assumption | (intro x y _ _; (repeat (first | exact nfR_enI | exact nfR_lit (by simp only [nrefL, nref, and_self]) | (refine nfR_app (fun x y => ?_) (fun x y => ?_)) | (refine nfR_ins (fun x y => ?_) (fun x y => ?_)) | (refine nfR_del (fun x y => ?_)) | (refine nfR_upc (fun x y => ?_) (by simp only [nrefL, nref, and_self])) | (refine nfR_ovw (fun x y => ?_) (fun x y => ?_)) | exact nfR_getL (by simp only [nrefL, nref, and_self]))); done) | (intro x hx; (repeat (first | (exfalso; omega) | (rcases x with _ | x; first | (and_intros <;> (first | exact rfl | exact trivial | exact ⟨Or.inr rfl, Fit_enI⟩ | exact Fit_enI | exact Or.inr rfl | exact Or.inl rfl | exact fun x hx => absurd hx (by omega) | exact ⟨Or.inl rfl, fun x hx => absurd hx (by omega)⟩)) | (first | exact rfl | exact trivial | exact ⟨Or.inr rfl, Fit_enI⟩ | exact Fit_enI | exact Or.inr rfl | exact Or.inl rfl | exact fun x hx => absurd hx (by omega) | exact ⟨Or.inl rfl, fun x hx => absurd hx (by omega)⟩)))); done)) | grind))
      refine seqM ?_
      refine sq ctNo_ok ?_
      simp only [go_sem, Nat.reduceLeDiff, Nat.reduceLT, Nat.reduceAdd, Nat.reduceMul, Nat.reduceSub, Nat.reduceEqDiff, Nat.reduceBEq, Int.reduceToNat, reduceCtorEq]
      refine blkM ?_
      refine loop_den (fun s : Int × (List Int) => (.top :: .ro 3 p1.length false (enR c_TTriggerPlan p1) :: .ptr 0 0 0 0 :: .top :: .ptr 1 0 0 0 :: .top :: .ptr 2 0 0 0 :: .int .i64 s.1 :: .top :: .top :: .top :: .top :: .top :: .top :: .top :: .top :: .top :: .top :: .top :: .top :: .top :: .top :: .top :: .top :: .top :: .top :: .top :: .top :: .top :: .top :: .top :: .top :: .top :: .top :: .top :: .top :: .top :: .top :: .top :: .top :: .top :: .top :: .top :: .top :: .top :: .top :: .top :: .top :: .top :: .top :: .top :: .top :: .top :: .top :: .top :: .top :: .top :: .top :: .top :: .top :: .top :: .top :: .top :: .top :: .top :: .top :: .top :: .top :: .top :: .top :: .top :: .top :: .top :: .top :: .top :: .top :: .top :: .top :: .top :: .top :: .top :: .top :: .top :: .top :: .top :: .top :: [])) (fun s => [.lit 52 [.int .i64 p0.Limit, .int .i64 p0.Stay, .ro 3 p0.List.length false (enR c_TSleeper p0.List), .ro 43 p0.Group.length false (enR c_TStored p0.Group)], .lit 57 [.bool false, .ro 0 0 true (fun _ _ => .top)], .lit 57 [.bool (bLt 0 (p0.Group.length : Nat)), .sl 3 1 0 s.2.length false], .row 3 1 s.2.length (enR c_i64 s.2)]) (fun e : List Int => (.top :: .top :: .top :: .top :: .ptr 1 0 0 0 :: .top :: .ptr 2 0 0 0 :: .top :: .top :: .top :: .top :: .top :: .top :: .top :: .top :: .top :: .top :: .top :: .top :: .top :: .top :: .top :: .top :: .top :: .top :: .top :: .top :: .top :: .top :: .top :: .top :: .top :: .top :: .top :: .top :: .top :: .top :: .top :: .top :: .top :: .top :: .top :: .top :: .top :: .top :: .top :: .top :: .top :: .top :: .top :: .top :: .top :: .top :: .top :: .top :: .top :: .top :: .top :: .top :: .top :: .top :: .top :: .top :: .top :: .top :: .top :: .top :: .top :: .top :: .top :: .top :: .top :: .top :: .top :: .top :: .top :: .top :: .top :: .top :: .top :: .top :: .top :: .top :: .top :: .top :: .top :: [])) (fun e => [.dead, .lit 57 [.bool false, .ro 0 0 true (fun _ _ => .top)], .lit 57 [.bool (bLt 0 (p0.Group.length : Nat)), .sl 3 1 0 e.length false], .row 3 1 e.length (enR c_i64 e)]) H ?_ (fun s o H hn1_1 hn2_1 => ?_) (fun w1_3 H => ?_)
      · refine SubF_of ⟨[some 0, some 1, some 2, none], ?_, ?_, by rfl, by rfl⟩
        · simp [CvL, Cv, getM]
        · exact ⟨(by simp [CvB, CvL, Cv, blkAt, geth, getM]), (by simp [CvB, CvL, Cv, blkAt, geth, getM]), (by simp [CvB, CvL, Cv, blkAt, geth, getM]), CvB_none, trivial⟩
      · obtain ⟨v1_1, v1_2⟩ := s
        unfold F26_L1 at H
        try dsimp only at H ⊢
        refine seqM ?_
        refine sq ctNo_ok ?_
        simp only [go_sem, Nat.reduceLeDiff, Nat.reduceLT, Nat.reduceAdd, Nat.reduceMul, Nat.reduceSub, Nat.reduceEqDiff, Nat.reduceBEq, Int.reduceToNat, reduceCtorEq]
        repeat ((with_reducible refine And.intro ?_ ?_); focus (first | (with_reducible trivial) | omega | (intro x y _ _; (repeat (first | exact nfR_enI | exact nfR_lit (by simp only [nrefL, nref, and_self]) | (refine nfR_app (fun x y => ?_) (fun x y => ?_)) | (refine nfR_ins (fun x y => ?_) (fun x y => ?_)) | (refine nfR_del (fun x y => ?_)) | (refine nfR_upc (fun x y => ?_) (by simp only [nrefL, nref, and_self])) | (refine nfR_ovw (fun x y => ?_) (fun x y => ?_)) | exact nfR_getL (by simp only [nrefL, nref, and_self]))); done) | (intro x hx; (repeat (first | (exfalso; omega) | (rcases x with _ | x; first | (and_intros <;> (first | exact rfl | exact trivial | exact ⟨Or.inr rfl, Fit_enI⟩ | exact Fit_enI | exact Or.inr rfl | exact Or.inl rfl | exact fun x hx => absurd hx (by omega) | exact ⟨Or.inl rfl, fun x hx => absurd hx (by omega)⟩)) | (first | exact rfl | exact trivial | exact ⟨Or.inr rfl, Fit_enI⟩ | exact Fit_enI | exact Or.inr rfl | exact Or.inl rfl | exact fun x hx => absurd hx (by omega) | exact ⟨Or.inl rfl, fun x hx => absurd hx (by omega)⟩)))); done) | (and_intros <;> first | (with_reducible trivial) | omega | assumption | (intro x y _ _; (repeat (first | exact nfR_enI | exact nfR_lit (by simp only [nrefL, nref, and_self]) | (refine nfR_app (fun x y => ?_) (fun x y => ?_)) | (refine nfR_ins (fun x y => ?_) (fun x y => ?_)) | (refine nfR_del (fun x y => ?_)) | (refine nfR_upc (fun x y => ?_) (by simp only [nrefL, nref, and_self])) | (refine nfR_ovw (fun x y => ?_) (fun x y => ?_)) | exact nfR_getL (by simp only [nrefL, nref, and_self]))); done) | (intro x hx; (repeat (first | (exfalso; omega) | (rcases x with _ | x; first | (and_intros <;> (first | exact rfl | exact trivial | exact ⟨Or.inr rfl, Fit_enI⟩ | exact Fit_enI | exact Or.inr rfl | exact Or.inl rfl | exact fun x hx => absurd hx (by omega) | exact ⟨Or.inl rfl, fun x hx => absurd hx (by omega)⟩)) | (first | exact rfl | exact trivial | exact ⟨Or.inr rfl, Fit_enI⟩ | exact Fit_enI | exact Or.inr rfl | exact Or.inl rfl | exact fun x hx => absurd hx (by omega) | exact ⟨Or.inl rfl, fun x hx => absurd hx (by omega)⟩)))); done)) | grind))
        refine condM' rfl trivial (fun hc => ?_) (fun hc => ?_)
        · replace H := cond_f hc H
          refine rg ctNo_ok ?_
          simp only [go_sem, Nat.reduceLeDiff, Nat.reduceLT, Nat.reduceAdd, Nat.reduceMul, Nat.reduceSub, Nat.reduceEqDiff, Nat.reduceBEq, Int.reduceToNat, reduceCtorEq]
          refine ⟨_, (Option.some.inj H).symm, ?_⟩
          refine SubF_of ⟨[some 0, some 1, some 2, some 3], ?_, ?_, by rfl, by rfl⟩
          · simp [CvL, Cv, getM]
          · exact ⟨CvB_dead, (by simp [CvB, CvL, Cv, blkAt, geth, getM]), (by simp [CvB, CvL, Cv, blkAt, geth, getM]), CvB_row nr_i64 (by first | rfl | simp) (fun _ _ _ _ => rfl), trivial⟩
        replace H := cond_t hc H
        refine rg ctNo_ok ?_
        simp only [go_sem, Nat.reduceLeDiff, Nat.reduceLT, Nat.reduceAdd, Nat.reduceMul, Nat.reduceSub, Nat.reduceEqDiff, Nat.reduceBEq, Int.reduceToNat, reduceCtorEq]
        refine seqM ?_
        refine blkM ?_
        refine seqM ?_
        refine seqM ?_
        obtain ⟨f3, H⟩ := need_some.1 H
        replace f3 := inb_iff.1 f3
        obtain ⟨r4, e5, H⟩ := Option.bind_eq_some_iff.1 H
        refine rg ct26t1_ok ?_
        simp only [go_sem, Nat.reduceLeDiff, Nat.reduceLT, Nat.reduceAdd, Nat.reduceMul, Nat.reduceSub, Nat.reduceEqDiff, Nat.reduceBEq, Int.reduceToNat, reduceCtorEq, ct26t1_21, body21, f3, e5]
        repeat ((with_reducible refine And.intro ?_ ?_); focus (first | (with_reducible trivial) | omega | (intro x y _ _; (repeat (first | exact nfR_enI | exact nfR_lit (by simp only [nrefL, nref, and_self]) | (refine nfR_app (fun x y => ?_) (fun x y => ?_)) | (refine nfR_ins (fun x y => ?_) (fun x y => ?_)) | (refine nfR_del (fun x y => ?_)) | (refine nfR_upc (fun x y => ?_) (by simp only [nrefL, nref, and_self])) | (refine nfR_ovw (fun x y => ?_) (fun x y => ?_)) | exact nfR_getL (by simp only [nrefL, nref, and_self]))); done) | (intro x hx; (repeat (first | (exfalso; omega) | (rcases x with _ | x; first | (and_intros <;> (first | exact rfl | exact trivial | exact ⟨Or.inr rfl, Fit_enI⟩ | exact Fit_enI | exact Or.inr rfl | exact Or.inl rfl | exact fun x hx => absurd hx (by omega) | exact ⟨Or.inl rfl, fun x hx => absurd hx (by omega)⟩)) | (first | exact rfl | exact trivial | exact ⟨Or.inr rfl, Fit_enI⟩ | exact Fit_enI | exact Or.inr rfl | exact Or.inl rfl | exact fun x hx => absurd hx (by omega) | exact ⟨Or.inl rfl, fun x hx => absurd hx (by omega)⟩)))); done) | (and_intros <;> first | (with_reducible trivial) | omega | assumption | (intro x y _ _; (repeat (first | exact nfR_enI | exact nfR_lit (by simp only [nrefL, nref, and_self]) | (refine nfR_app (fun x y => ?_) (fun x y => ?_)) | (refine nfR_ins (fun x y => ?_) (fun x y => ?_)) | (refine nfR_del (fun x y => ?_)) | (refine nfR_upc (fun x y => ?_) (by simp only [nrefL, nref, and_self])) | (refine nfR_ovw (fun x y => ?_) (fun x y => ?_)) | exact nfR_getL (by simp only [nrefL, nref, and_self]))); done) | (intro x hx; (repeat (first | (exfalso; omega) | (rcases x with _ | x; first | (and_intros <;> (first | exact rfl | exact trivial | exact ⟨Or.inr rfl, Fit_enI⟩ | exact Fit_enI | exact Or.inr rfl | exact Or.inl rfl | exact fun x hx => absurd hx (by omega) | exact ⟨Or.inl rfl, fun x hx => absurd hx (by omega)⟩)) | (first | exact rfl | exact trivial | exact ⟨Or.inr rfl, Fit_enI⟩ | exact Fit_enI | exact Or.inr rfl | exact Or.inl rfl | exact fun x hx => absurd hx (by omega) | exact ⟨Or.inl rfl, fun x hx => absurd hx (by omega)⟩)))); done)) | grind))
        refine condM rfl trivial (fun hc => ?_) (fun hc => ?_)
        · replace H := cond_t hc H
          refine sq ctNo_ok ?_
          simp only [go_sem, Nat.reduceLeDiff, Nat.reduceLT, Nat.reduceAdd, Nat.reduceMul, Nat.reduceSub, Nat.reduceEqDiff, Nat.reduceBEq, Int.reduceToNat, reduceCtorEq]
          repeat ((with_reducible refine And.intro ?_ ?_); focus (first | (with_reducible trivial) | omega | grind))
          refine rg ctNo_ok ?_
          simp only [go_sem, Nat.reduceLeDiff, Nat.reduceLT, Nat.reduceAdd, Nat.reduceMul, Nat.reduceSub, Nat.reduceEqDiff, Nat.reduceBEq, Int.reduceToNat, reduceCtorEq]
          have H := hn2_1 _ (Option.some.inj H).symm
          obtain rfl := Option.some.inj H
          refine ⟨[0, 1, 2], ?_, ?_, [], ?_, ?_, rfl⟩
          · simp only [List.length_cons, List.length_nil, Nat.zero_mul, Nat.add_zero, fzV, fzL, fzOb, fzObL, fzH, fzHF, fzB, fzObB, fzObH, inL, rowOb, geth, cond_true, cond_false, Bool.or_false, Bool.or_true, Bool.false_or, Bool.true_or, and_self, true_and, and_true, Nat.reduceEqDiff, Nat.reduceBEq, beq_self_eq_true, sub_enR0, Nat.reduceAdd, Nat.zero_add, Nat.le_refl, List.nil_append]
            try (and_intros <;> first | trivial | omega | (intro x y _ _; repeat (first | exact nfR_lit (by simp only [nrefL, nref, and_self]) | exact nfR_enI | (refine nfR_app (fun x y => ?_) (fun x y => ?_)) | (refine nfR_ins (fun x y => ?_) (fun x y => ?_)) | (refine nfR_del (fun x y => ?_)) | (refine nfR_upc (fun x y => ?_) (by simp only [nrefL, nref, and_self])) | (refine nfR_ovw (fun x y => ?_) (fun x y => ?_)) | exact nfR_getL (by simp only [nrefL, nref, and_self]))))
          · simp only [List.length_cons, List.length_nil, Nat.zero_mul, Nat.add_zero, fzV, fzL, fzOb, fzObL, fzH, fzHF, fzB, fzObB, fzObH, inL, rowOb, geth, cond_true, cond_false, Bool.or_false, Bool.or_true, Bool.false_or, Bool.true_or, and_self, true_and, and_true, Nat.reduceEqDiff, Nat.reduceBEq, beq_self_eq_true, sub_enR0, Nat.reduceAdd, Nat.zero_add, Nat.le_refl, List.nil_append]
            try (and_intros <;> first | trivial | omega | (intro x y _ _; repeat (first | exact nfR_lit (by simp only [nrefL, nref, and_self]) | exact nfR_enI | (refine nfR_app (fun x y => ?_) (fun x y => ?_)) | (refine nfR_ins (fun x y => ?_) (fun x y => ?_)) | (refine nfR_del (fun x y => ?_)) | (refine nfR_upc (fun x y => ?_) (by simp only [nrefL, nref, and_self])) | (refine nfR_ovw (fun x y => ?_) (fun x y => ?_)) | exact nfR_getL (by simp only [nrefL, nref, and_self]))))
          · simp only [List.length_cons, List.length_nil, Nat.zero_mul, Nat.add_zero, fzV, fzL, fzOb, fzObL, fzH, fzHF, fzB, fzObB, fzObH, inL, rowOb, geth, cond_true, cond_false, Bool.or_false, Bool.or_true, Bool.false_or, Bool.true_or, and_self, true_and, and_true, Nat.reduceEqDiff, Nat.reduceBEq, beq_self_eq_true, sub_enR0, Nat.reduceAdd, Nat.zero_add, Nat.le_refl, List.nil_append]
            exact Cv_tup (CvL_cons (Cv_agg (CvL_cons Cv_bool (CvL_cons (Cv_ronil (α := Int)) CvL_nil))) (CvL_cons Cv_int CvL_nil))
          · simp only [List.length_cons, List.length_nil, Nat.zero_mul, Nat.add_zero, fzV, fzL, fzOb, fzObL, fzH, fzHF, fzB, fzObB, fzObH, inL, rowOb, geth, cond_true, cond_false, Bool.or_false, Bool.or_true, Bool.false_or, Bool.true_or, and_self, true_and, and_true, Nat.reduceEqDiff, Nat.reduceBEq, beq_self_eq_true, sub_enR0, Nat.reduceAdd, Nat.zero_add, Nat.le_refl, List.nil_append, CvH]
        replace H := cond_f hc H
        refine rg ctNo_ok ?_
        simp only [go_sem, Nat.reduceLeDiff, Nat.reduceLT, Nat.reduceAdd, Nat.reduceMul, Nat.reduceSub, Nat.reduceEqDiff, Nat.reduceBEq, Int.reduceToNat, reduceCtorEq]
        refine seqM ?_
        obtain ⟨f6, H⟩ := need_some.1 H
        replace f6 := inb_iff.1 f6
        refine rg ctNo_ok ?_
        simp only [go_sem, Nat.reduceLeDiff, Nat.reduceLT, Nat.reduceAdd, Nat.reduceMul, Nat.reduceSub, Nat.reduceEqDiff, Nat.reduceBEq, Int.reduceToNat, reduceCtorEq, f6]
        repeat ((with_reducible refine And.intro ?_ ?_); focus (first | (with_reducible trivial) | omega | (intro x y _ _; (repeat (first | exact nfR_enI | exact nfR_lit (by simp only [nrefL, nref, and_self]) | (refine nfR_app (fun x y => ?_) (fun x y => ?_)) | (refine nfR_ins (fun x y => ?_) (fun x y => ?_)) | (refine nfR_del (fun x y => ?_)) | (refine nfR_upc (fun x y => ?_) (by simp only [nrefL, nref, and_self])) | (refine nfR_ovw (fun x y => ?_) (fun x y => ?_)) | exact nfR_getL (by simp only [nrefL, nref, and_self]))); done) | (intro x hx; (repeat (first | (exfalso; omega) | (rcases x with _ | x; first | (and_intros <;> (first | exact rfl | exact trivial | exact ⟨Or.inr rfl, Fit_enI⟩ | exact Fit_enI | exact Or.inr rfl | exact Or.inl rfl | exact fun x hx => absurd hx (by omega) | exact ⟨Or.inl rfl, fun x hx => absurd hx (by omega)⟩)) | (first | exact rfl | exact trivial | exact ⟨Or.inr rfl, Fit_enI⟩ | exact Fit_enI | exact Or.inr rfl | exact Or.inl rfl | exact fun x hx => absurd hx (by omega) | exact ⟨Or.inl rfl, fun x hx => absurd hx (by omega)⟩)))); done) | (and_intros <;> first | (with_reducible trivial) | omega | assumption | (intro x y _ _; (repeat (first | exact nfR_enI | exact nfR_lit (by simp only [nrefL, nref, and_self]) | (refine nfR_app (fun x y => ?_) (fun x y => ?_)) | (refine nfR_ins (fun x y => ?_) (fun x y => ?_)) | (refine nfR_del (fun x y => ?_)) | (refine nfR_upc (fun x y => ?_) (by simp only [nrefL, nref, and_self])) | (refine nfR_ovw (fun x y => ?_) (fun x y => ?_)) | exact nfR_getL (by simp only [nrefL, nref, and_self]))); done) | (intro x hx; (repeat (first | (exfalso; omega) | (rcases x with _ | x; first | (and_intros <;> (first | exact rfl | exact trivial | exact ⟨Or.inr rfl, Fit_enI⟩ | exact Fit_enI | exact Or.inr rfl | exact Or.inl rfl | exact fun x hx => absurd hx (by omega) | exact ⟨Or.inl rfl, fun x hx => absurd hx (by omega)⟩)) | (first | exact rfl | exact trivial | exact ⟨Or.inr rfl, Fit_enI⟩ | exact Fit_enI | exact Or.inr rfl | exact Or.inl rfl | exact fun x hx => absurd hx (by omega) | exact ⟨Or.inl rfl, fun x hx => absurd hx (by omega)⟩)))); done)) | grind))
        refine seqM ?_
        obtain ⟨f7, H⟩ := need_some.1 H
        replace f7 := inb_iff.1 f7
        obtain ⟨f8, H⟩ := need_some.1 H
        replace f8 := inb_iff.1 f8
        obtain ⟨r9, e10, H⟩ := Option.bind_eq_some_iff.1 H
        refine draw_quiet shT_ok ct26t2_ok (by kernel_rfl) (by kernel_rfl) ?_
        simp only [go_sem, Nat.reduceLeDiff, Nat.reduceLT, Nat.reduceAdd, Nat.reduceMul, Nat.reduceSub, Nat.reduceEqDiff, Nat.reduceBEq, Int.reduceToNat, reduceCtorEq, ct26t2_35, body35, f7, f8, e10]
        repeat ((with_reducible refine And.intro ?_ ?_); focus (first | (with_reducible trivial) | omega | (intro x y _ _; (repeat (first | exact nfR_enI | exact nfR_lit (by simp only [nrefL, nref, and_self]) | (refine nfR_app (fun x y => ?_) (fun x y => ?_)) | (refine nfR_ins (fun x y => ?_) (fun x y => ?_)) | (refine nfR_del (fun x y => ?_)) | (refine nfR_upc (fun x y => ?_) (by simp only [nrefL, nref, and_self])) | (refine nfR_ovw (fun x y => ?_) (fun x y => ?_)) | exact nfR_getL (by simp only [nrefL, nref, and_self]))); done) | (intro x hx; (repeat (first | (exfalso; omega) | (rcases x with _ | x; first | (and_intros <;> (first | exact rfl | exact trivial | exact ⟨Or.inr rfl, Fit_enI⟩ | exact Fit_enI | exact Or.inr rfl | exact Or.inl rfl | exact fun x hx => absurd hx (by omega) | exact ⟨Or.inl rfl, fun x hx => absurd hx (by omega)⟩)) | (first | exact rfl | exact trivial | exact ⟨Or.inr rfl, Fit_enI⟩ | exact Fit_enI | exact Or.inr rfl | exact Or.inl rfl | exact fun x hx => absurd hx (by omega) | exact ⟨Or.inl rfl, fun x hx => absurd hx (by omega)⟩)))); done) | (and_intros <;> first | (with_reducible trivial) | omega | assumption | (intro x y _ _; (repeat (first | exact nfR_enI | exact nfR_lit (by simp only [nrefL, nref, and_self]) | (refine nfR_app (fun x y => ?_) (fun x y => ?_)) | (refine nfR_ins (fun x y => ?_) (fun x y => ?_)) | (refine nfR_del (fun x y => ?_)) | (refine nfR_upc (fun x y => ?_) (by simp only [nrefL, nref, and_self])) | (refine nfR_ovw (fun x y => ?_) (fun x y => ?_)) | exact nfR_getL (by simp only [nrefL, nref, and_self]))); done) | (intro x hx; (repeat (first | (exfalso; omega) | (rcases x with _ | x; first | (and_intros <;> (first | exact rfl | exact trivial | exact ⟨Or.inr rfl, Fit_enI⟩ | exact Fit_enI | exact Or.inr rfl | exact Or.inl rfl | exact fun x hx => absurd hx (by omega) | exact ⟨Or.inl rfl, fun x hx => absurd hx (by omega)⟩)) | (first | exact rfl | exact trivial | exact ⟨Or.inr rfl, Fit_enI⟩ | exact Fit_enI | exact Or.inr rfl | exact Or.inl rfl | exact fun x hx => absurd hx (by omega) | exact ⟨Or.inl rfl, fun x hx => absurd hx (by omega)⟩)))); done)) | grind))
        refine seqM ?_
        obtain ⟨f11, H⟩ := need_some.1 H
        replace f11 := g_iff.1 f11
        replace f11 := fun g => inb_iff.1 (f11 g)
        refine rg ctNo_ok ?_
        simp only [go_sem, Nat.reduceLeDiff, Nat.reduceLT, Nat.reduceAdd, Nat.reduceMul, Nat.reduceSub, Nat.reduceEqDiff, Nat.reduceBEq, Int.reduceToNat, reduceCtorEq]
        repeat ((with_reducible refine And.intro ?_ ?_); focus (first | (with_reducible trivial) | omega | exact f11 | (intro g; have q := f11 (by first | exact g | simpa using g); first | exact q | exact ⟨q.1, q.2.1⟩ | exact q.2.2 | omega | exact ⟨g, q⟩ | exact ⟨trivial, q⟩) | grind))
        refine condM' rfl trivial (fun hc => ?_) (fun hc => ?_)
        · replace H := cond_f hc H
          refine rg ctNo_ok ?_
          simp only [go_sem, Nat.reduceLeDiff, Nat.reduceLT, Nat.reduceAdd, Nat.reduceMul, Nat.reduceSub, Nat.reduceEqDiff, Nat.reduceBEq, Int.reduceToNat, reduceCtorEq]
          refine rg ctNo_ok ?_
          simp only [go_sem, Nat.reduceLeDiff, Nat.reduceLT, Nat.reduceAdd, Nat.reduceMul, Nat.reduceSub, Nat.reduceEqDiff, Nat.reduceBEq, Int.reduceToNat, reduceCtorEq]
          refine ⟨_, (Option.some.inj H).symm, ?_⟩
          refine SubF_of ⟨[some 0, some 1, some 2, some 3], ?_, ?_, by rfl, by rfl⟩
          · simp [CvL, Cv, getM]
          · exact ⟨(by simp [CvB, CvL, Cv, blkAt, geth, getM]), (by simp [CvB, CvL, Cv, blkAt, geth, getM]), (by simp [CvB, CvL, Cv, blkAt, geth, getM]), CvB_row nr_i64 (by first | rfl | simp) (fun _ _ _ _ => rfl), trivial⟩
        replace H := cond_t hc H
        obtain ⟨f12, H⟩ := need_some.1 H
        replace f12 := inb_iff.1 f12
        obtain ⟨f13, H⟩ := need_some.1 H
        replace f13 := capb_iff.1 f13
        refine draw_rule shT_ok ctNo_ok 2 (by kernel_rfl) (by kernel_rfl) ?_
        intro an han
        simp only [d_nil, d_cons, nxtD, refsOp, refs, refsL, mask, maskF, place, placeF, okLog, pairOk, hit, inL, slotsF, ren, renL, rnN, nrH, nrB, nrL, nr, dead0, deadS, List.replicate_zero, List.replicate_succ, Nat.sub_self, Nat.add_zero, Nat.zero_add, Nat.reduceSub, Nat.not_lt_zero, Nat.zero_le, Nat.lt_add_one, go_sem, Nat.reduceLeDiff, Nat.reduceLT, Nat.reduceAdd, Nat.reduceMul, Nat.reduceSub, Nat.reduceEqDiff, Nat.reduceBEq, Int.reduceToNat, reduceCtorEq, f12, f13]
        repeat ((with_reducible refine And.intro ?_ ?_); focus (first | (with_reducible trivial) | (show anB _ _ _ = true; subst han; kernel_rfl) | omega | (intro x y _ _; (repeat (first | exact nrR_lit (by simp only [nrefL, nref, and_self]) | exact nrR_enI | (refine nrR_app (fun x y => ?_) (fun x y => ?_)) | (refine nrR_ins (fun x y => ?_) (fun x y => ?_)) | (refine nrR_del (fun x y => ?_)))); done) | (intro x y _ _; (repeat (first | exact nfR_enI | exact nfR_lit (by simp only [nrefL, nref, and_self]))); done) | (intro x hx; (repeat (first | (exfalso; omega) | (rcases x with _ | x; first | (and_intros <;> (first | exact rfl | exact trivial | exact ⟨Or.inr rfl, Fit_enI⟩ | exact Fit_enI | exact Or.inr rfl | exact Or.inl rfl | exact fun x hx => absurd hx (by omega) | exact ⟨Or.inl rfl, fun x hx => absurd hx (by omega)⟩)) | (first | exact rfl | exact trivial | exact ⟨Or.inr rfl, Fit_enI⟩ | exact Fit_enI | exact Or.inr rfl | exact Or.inl rfl | exact fun x hx => absurd hx (by omega) | exact ⟨Or.inl rfl, fun x hx => absurd hx (by omega)⟩)))); done) | (and_intros <;> first | (with_reducible trivial) | omega | assumption | (intro x y _ _; (repeat (first | exact nrR_lit (by simp only [nrefL, nref, and_self]) | exact nrR_enI | (refine nrR_app (fun x y => ?_) (fun x y => ?_)) | (refine nrR_ins (fun x y => ?_) (fun x y => ?_)) | (refine nrR_del (fun x y => ?_)))); done) | (intro x y _ _; (repeat (first | exact nfR_enI | exact nfR_lit (by simp only [nrefL, nref, and_self]))); done) | (intro x hx; (repeat (first | (exfalso; omega) | (rcases x with _ | x; first | (and_intros <;> (first | exact rfl | exact trivial | exact ⟨Or.inr rfl, Fit_enI⟩ | exact Fit_enI | exact Or.inr rfl | exact Or.inl rfl | exact fun x hx => absurd hx (by omega) | exact ⟨Or.inl rfl, fun x hx => absurd hx (by omega)⟩)) | (first | exact rfl | exact trivial | exact ⟨Or.inr rfl, Fit_enI⟩ | exact Fit_enI | exact Or.inr rfl | exact Or.inl rfl | exact fun x hx => absurd hx (by omega) | exact ⟨Or.inl rfl, fun x hx => absurd hx (by omega)⟩)))); done))))
        refine rg ctNo_ok ?_
        simp only [go_sem, Nat.reduceLeDiff, Nat.reduceLT, Nat.reduceAdd, Nat.reduceMul, Nat.reduceSub, Nat.reduceEqDiff, Nat.reduceBEq, Int.reduceToNat, reduceCtorEq]
        refine ⟨_, (Option.some.inj H).symm, ?_⟩
        refine SubF_of ⟨[some 0, some 1, some 2, some 5], ?_, ?_, by rfl, by rfl⟩
        · simp [CvL, Cv, getM]
        · exact ⟨(by simp [CvB, CvL, Cv, blkAt, geth, getM]), (by simp [CvB, CvL, Cv, blkAt, geth, getM]), (by simp [CvB, CvL, Cv, blkAt, geth, getM]), CvB_row nr_i64 (by first | rfl | simp) (app_row (f := c_i64) v1_2 [(gd p0.List v1_1.toNat).Aid] (fun _ _ _ _ => rfl) (lit_row (f := c_i64) [(gd p0.List v1_1.toNat).Aid] (fun _ _ => rfl) rfl)), trivial⟩
      · try dsimp only at H ⊢
        try simp only [m_normal, k_normal, b_normal, kL_normal, r_normal]
        refine sq ctNo_ok ?_
        simp only [go_sem, Nat.reduceLeDiff, Nat.reduceLT, Nat.reduceAdd, Nat.reduceMul, Nat.reduceSub, Nat.reduceEqDiff, Nat.reduceBEq, Int.reduceToNat, reduceCtorEq]
        repeat ((with_reducible refine And.intro ?_ ?_); focus (first | (with_reducible trivial) | omega | grind))
        refine rg ctNo_ok ?_
        simp only [go_sem, Nat.reduceLeDiff, Nat.reduceLT, Nat.reduceAdd, Nat.reduceMul, Nat.reduceSub, Nat.reduceEqDiff, Nat.reduceBEq, Int.reduceToNat, reduceCtorEq]
        obtain rfl := Option.some.inj H
        refine ⟨[3, 1, 2], ?_, ?_, [], ?_, ?_, rfl⟩
        · simp only [List.length_cons, List.length_nil, Nat.zero_mul, Nat.add_zero, fzV, fzL, fzOb, fzObL, fzH, fzHF, fzB, fzObB, fzObH, inL, rowOb, geth, cond_true, cond_false, Bool.or_false, Bool.or_true, Bool.false_or, Bool.true_or, and_self, true_and, and_true, Nat.reduceEqDiff, Nat.reduceBEq, beq_self_eq_true, sub_enR0, Nat.reduceAdd, Nat.zero_add, Nat.le_refl, List.nil_append]
          try (and_intros <;> first | trivial | omega | (intro x y _ _; repeat (first | exact nfR_lit (by simp only [nrefL, nref, and_self]) | exact nfR_enI | (refine nfR_app (fun x y => ?_) (fun x y => ?_)) | (refine nfR_ins (fun x y => ?_) (fun x y => ?_)) | (refine nfR_del (fun x y => ?_)) | (refine nfR_upc (fun x y => ?_) (by simp only [nrefL, nref, and_self])) | (refine nfR_ovw (fun x y => ?_) (fun x y => ?_)) | exact nfR_getL (by simp only [nrefL, nref, and_self]))))
        · simp only [List.length_cons, List.length_nil, Nat.zero_mul, Nat.add_zero, fzV, fzL, fzOb, fzObL, fzH, fzHF, fzB, fzObB, fzObH, inL, rowOb, geth, cond_true, cond_false, Bool.or_false, Bool.or_true, Bool.false_or, Bool.true_or, and_self, true_and, and_true, Nat.reduceEqDiff, Nat.reduceBEq, beq_self_eq_true, sub_enR0, Nat.reduceAdd, Nat.zero_add, Nat.le_refl, List.nil_append]
          try (and_intros <;> first | trivial | omega | (intro x y _ _; repeat (first | exact nfR_lit (by simp only [nrefL, nref, and_self]) | exact nfR_enI | (refine nfR_app (fun x y => ?_) (fun x y => ?_)) | (refine nfR_ins (fun x y => ?_) (fun x y => ?_)) | (refine nfR_del (fun x y => ?_)) | (refine nfR_upc (fun x y => ?_) (by simp only [nrefL, nref, and_self])) | (refine nfR_ovw (fun x y => ?_) (fun x y => ?_)) | exact nfR_getL (by simp only [nrefL, nref, and_self]))))
        · simp only [List.length_cons, List.length_nil, Nat.zero_mul, Nat.add_zero, fzV, fzL, fzOb, fzObL, fzH, fzHF, fzB, fzObB, fzObH, inL, rowOb, geth, cond_true, cond_false, Bool.or_false, Bool.or_true, Bool.false_or, Bool.true_or, and_self, true_and, and_true, Nat.reduceEqDiff, Nat.reduceBEq, beq_self_eq_true, sub_enR0, Nat.reduceAdd, Nat.zero_add, Nat.le_refl, List.nil_append]
          exact Cv_tup (CvL_cons (Cv_agg (CvL_cons Cv_bool (CvL_cons (ro_row (by first | rfl | simp) (fun _ _ _ _ => rfl)) CvL_nil))) (CvL_cons Cv_int CvL_nil))
        · simp only [List.length_cons, List.length_nil, Nat.zero_mul, Nat.add_zero, fzV, fzL, fzOb, fzObL, fzH, fzHF, fzB, fzObB, fzObH, inL, rowOb, geth, cond_true, cond_false, Bool.or_false, Bool.or_true, Bool.false_or, Bool.true_or, and_self, true_and, and_true, Nat.reduceEqDiff, Nat.reduceBEq, beq_self_eq_true, sub_enR0, Nat.reduceAdd, Nat.zero_add, Nat.le_refl, List.nil_append, CvH]
    · cases hb
  · unfold body26 at hb
    split at hb <;> cases hb
/-! hotspot/hotspotref33.SameMap -/
noncomputable def F27_L1 (p0 : TTraffic) (p1 : TTraffic) (v1_1 : Int) : Option (Lp (Int) ((Unit) ⊕ (Bool))) :=
  bif (bLt v1_1 (p0.Aids.length : Nat)) then (need (inb v1_1 p0.Aids.length) <| need (inb v1_1 p1.Aids.length) <| bif (!bEq (gd p0.Aids v1_1.toNat) (gd p1.Aids v1_1.toNat)) then (some (.done (.inr false))) else (some (.next (wr .i64 (v1_1 + 1))))) else (some (.done (.inl ())))
noncomputable def F27 (p0 : TTraffic) (p1 : TTraffic) : Option (Bool) :=
  bif ((!bB p0.Group p1.Group) || (!bEq (p0.Aids.length : Nat) (p1.Aids.length : Nat))) then (some false) else (lp (loopD (fun s => F27_L1 p0 p1 s) 0) (fun e => some true) some)
noncomputable def body27 : List AV → AR
  | [v0, v1] => .pure (aK 2 k_TTraffic v0 ∧ aK 2 k_TTraffic v1 ∧ (F27 (g_TTraffic (aL v0)) (g_TTraffic (aL v1))).isSome = true) (.bool (gt (F27 (g_TTraffic (aL v0)) (g_TTraffic (aL v1)))))
  | _ => .fail
set_option maxHeartbeats 4000000 in
set_option maxRecDepth 20000 in
theorem ok27 : FnOk Try.prog 27 (pureC body27) := by
  refine pure_fnM body27 (rs := [.tmp 4]) Try.func27 (by kernel_rfl) rfl rfl ?_
  intro l ob v hb hob
  unfold body27 at hb
  split at hb
  · rename_i v0 v1
    injection hb with q1 q2; subst q1 q2
    obtain ⟨hk0, hk1, hob⟩ := hob
    obtain ⟨r, H⟩ := Option.isSome_iff_exists.1 hob
    rw [H, gt_some]
    have hw0 := wA_TTraffic hk0
    have hw1 := wA_TTraffic hk1
    generalize g_TTraffic (aL v0) = p0 at H hw0
    generalize g_TTraffic (aL v1) = p1 at H hw1
    refine ⟨[.agg [.bool p0.Group, .ro 1 p0.Aids.length false (enR c_i64 p0.Aids)], .agg [.bool p1.Group, .ro 1 p1.Aids.length false (enR c_i64 p1.Aids)]], _, (fun E vs F => FR_wk1 hw0.1 F (fun vs F => FR_wk1 hw1.1 F (fun vs F => F))), rfl, rfl, ?_⟩
    rw [Try.ntmps27]
    simp only [List.length_cons, List.length_nil, Nat.reduceAdd, Nat.reduceSub, List.replicate_succ, List.replicate_zero, List.cons_append, List.nil_append]
    unfold F27 at H
    try dsimp only at H
    refine sq ctNo_ok ?_
    simp only [go_sem, Nat.reduceLeDiff, Nat.reduceLT, Nat.reduceAdd, Nat.reduceMul, Nat.reduceSub, Nat.reduceEqDiff, Nat.reduceBEq, Int.reduceToNat, reduceCtorEq]
    refine seqM ?_
    refine sq ctNo_ok ?_
    simp only [go_sem, Nat.reduceLeDiff, Nat.reduceLT, Nat.reduceAdd, Nat.reduceMul, Nat.reduceSub, Nat.reduceEqDiff, Nat.reduceBEq, Int.reduceToNat, reduceCtorEq]
    repeat ((with_reducible refine And.intro ?_ ?_); focus (first | (with_reducible trivial) | omega | (intro x y _ _; (repeat (first | exact nfR_enI | exact nfR_lit (by simp only [nrefL, nref, and_self]) | (refine nfR_app (fun x y => ?_) (fun x y => ?_)) | (refine nfR_ins (fun x y => ?_) (fun x y => ?_)) | (refine nfR_del (fun x y => ?_)) | (refine nfR_upc (fun x y => ?_) (by simp only [nrefL, nref, and_self])) | (refine nfR_ovw (fun x y => ?_) (fun x y => ?_)) | exact nfR_getL (by simp only [nrefL, nref, and_self]))); done) | (intro x hx; (repeat (first | (exfalso; omega) | (rcases x with _ | x; first | (and_intros <;> (first | exact rfl | exact trivial | exact ⟨Or.inr rfl, Fit_enI⟩ | exact Fit_enI | exact Or.inr rfl | exact Or.inl rfl | exact fun x hx => absurd hx (by omega) | exact ⟨Or.inl rfl, fun x hx => absurd hx (by omega)⟩)) | (first | exact rfl | exact trivial | exact ⟨Or.inr rfl, Fit_enI⟩ | exact Fit_enI | exact Or.inr rfl | exact Or.inl rfl | exact fun x hx => absurd hx (by omega) | exact ⟨Or.inl rfl, fun x hx => absurd hx (by omega)⟩)))); done) | (and_intros <;> first | (with_reducible trivial) | omega | assumption | (intro x y _ _; (repeat (first | exact nfR_enI | exact nfR_lit (by simp only [nrefL, nref, and_self]) | (refine nfR_app (fun x y => ?_) (fun x y => ?_)) | (refine nfR_ins (fun x y => ?_) (fun x y => ?_)) | (refine nfR_del (fun x y => ?_)) | (refine nfR_upc (fun x y => ?_) (by simp only [nrefL, nref, and_self])) | (refine nfR_ovw (fun x y => ?_) (fun x y => ?_)) | exact nfR_getL (by simp only [nrefL, nref, and_self]))); done) | (intro x hx; (repeat (first | (exfalso; omega) | (rcases x with _ | x; first | (and_intros <;> (first | exact rfl | exact trivial | exact ⟨Or.inr rfl, Fit_enI⟩ | exact Fit_enI | exact Or.inr rfl | exact Or.inl rfl | exact fun x hx => absurd hx (by omega) | exact ⟨Or.inl rfl, fun x hx => absurd hx (by omega)⟩)) | (first | exact rfl | exact trivial | exact ⟨Or.inr rfl, Fit_enI⟩ | exact Fit_enI | exact Or.inr rfl | exact Or.inl rfl | exact fun x hx => absurd hx (by omega) | exact ⟨Or.inl rfl, fun x hx => absurd hx (by omega)⟩)))); done)) | grind))
    refine condM rfl trivial (fun hc => ?_) (fun hc => ?_)
    · replace H := cond_t hc H
      refine sq ctNo_ok ?_
      simp only [go_sem, Nat.reduceLeDiff, Nat.reduceLT, Nat.reduceAdd, Nat.reduceMul, Nat.reduceSub, Nat.reduceEqDiff, Nat.reduceBEq, Int.reduceToNat, reduceCtorEq]
      refine rg ctNo_ok ?_
      simp only [go_sem, Nat.reduceLeDiff, Nat.reduceLT, Nat.reduceAdd, Nat.reduceMul, Nat.reduceSub, Nat.reduceEqDiff, Nat.reduceBEq, Int.reduceToNat, reduceCtorEq]
      obtain rfl := Option.some.inj H
      first | rfl | simp only [Bool.and_false, Bool.false_and, Bool.and_true, Bool.true_and]
    replace H := cond_f hc H
    refine rg ctNo_ok ?_
    simp only [go_sem, Nat.reduceLeDiff, Nat.reduceLT, Nat.reduceAdd, Nat.reduceMul, Nat.reduceSub, Nat.reduceEqDiff, Nat.reduceBEq, Int.reduceToNat, reduceCtorEq]
    refine seqM ?_
    refine sq ctNo_ok ?_
    simp only [go_sem, Nat.reduceLeDiff, Nat.reduceLT, Nat.reduceAdd, Nat.reduceMul, Nat.reduceSub, Nat.reduceEqDiff, Nat.reduceBEq, Int.reduceToNat, reduceCtorEq]
    refine blkM ?_
    refine loop_den (fun s : Int => (.top :: .top :: .ptr 0 0 0 0 :: .ptr 1 0 0 0 :: .top :: .int .i64 s :: .top :: .top :: .top :: .top :: .top :: .top :: .top :: .top :: .top :: .top :: .top :: .top :: .top :: .top :: .top :: .top :: .top :: .top :: .top :: .top :: .top :: .top :: .top :: .top :: .top :: .top :: .top :: .top :: .top :: .top :: .top :: .top :: [])) (fun s => [.lit 57 [.bool p0.Group, .ro 1 p0.Aids.length false (enR c_i64 p0.Aids)], .lit 57 [.bool p1.Group, .ro 1 p1.Aids.length false (enR c_i64 p1.Aids)]]) (fun e : Unit => (.top :: .top :: .top :: .top :: .top :: .top :: .top :: .top :: .top :: .top :: .top :: .top :: .top :: .top :: .top :: .top :: .top :: .top :: .top :: .top :: .top :: .top :: .top :: .top :: .top :: .top :: .top :: .top :: .top :: .top :: .top :: .top :: .top :: .top :: .top :: .top :: .top :: .top :: [])) (fun e => [.dead, .dead]) H ?_ (fun v1_1 o H hn1_1 hn2_1 => ?_) (fun e H => ?_)
    · refine SubF_of ⟨[some 0, some 1], ?_, ?_, by rfl, by rfl⟩
      · simp [CvL, Cv, getM]
      · exact ⟨(by simp [CvB, CvL, Cv, blkAt, geth, getM]), (by simp [CvB, CvL, Cv, blkAt, geth, getM]), trivial⟩
    · unfold F27_L1 at H
      try dsimp only at H ⊢
      refine seqM ?_
      refine sq ctNo_ok ?_
      simp only [go_sem, Nat.reduceLeDiff, Nat.reduceLT, Nat.reduceAdd, Nat.reduceMul, Nat.reduceSub, Nat.reduceEqDiff, Nat.reduceBEq, Int.reduceToNat, reduceCtorEq]
      repeat ((with_reducible refine And.intro ?_ ?_); focus (first | (with_reducible trivial) | omega | (intro x y _ _; (repeat (first | exact nfR_enI | exact nfR_lit (by simp only [nrefL, nref, and_self]) | (refine nfR_app (fun x y => ?_) (fun x y => ?_)) | (refine nfR_ins (fun x y => ?_) (fun x y => ?_)) | (refine nfR_del (fun x y => ?_)) | (refine nfR_upc (fun x y => ?_) (by simp only [nrefL, nref, and_self])) | (refine nfR_ovw (fun x y => ?_) (fun x y => ?_)) | exact nfR_getL (by simp only [nrefL, nref, and_self]))); done) | (intro x hx; (repeat (first | (exfalso; omega) | (rcases x with _ | x; first | (and_intros <;> (first | exact rfl | exact trivial | exact ⟨Or.inr rfl, Fit_enI⟩ | exact Fit_enI | exact Or.inr rfl | exact Or.inl rfl | exact fun x hx => absurd hx (by omega) | exact ⟨Or.inl rfl, fun x hx => absurd hx (by omega)⟩)) | (first | exact rfl | exact trivial | exact ⟨Or.inr rfl, Fit_enI⟩ | exact Fit_enI | exact Or.inr rfl | exact Or.inl rfl | exact fun x hx => absurd hx (by omega) | exact ⟨Or.inl rfl, fun x hx => absurd hx (by omega)⟩)))); done) | (and_intros <;> first | (with_reducible trivial) | omega | assumption | (intro x y _ _; (repeat (first | exact nfR_enI | exact nfR_lit (by simp only [nrefL, nref, and_self]) | (refine nfR_app (fun x y => ?_) (fun x y => ?_)) | (refine nfR_ins (fun x y => ?_) (fun x y => ?_)) | (refine nfR_del (fun x y => ?_)) | (refine nfR_upc (fun x y => ?_) (by simp only [nrefL, nref, and_self])) | (refine nfR_ovw (fun x y => ?_) (fun x y => ?_)) | exact nfR_getL (by simp only [nrefL, nref, and_self]))); done) | (intro x hx; (repeat (first | (exfalso; omega) | (rcases x with _ | x; first | (and_intros <;> (first | exact rfl | exact trivial | exact ⟨Or.inr rfl, Fit_enI⟩ | exact Fit_enI | exact Or.inr rfl | exact Or.inl rfl | exact fun x hx => absurd hx (by omega) | exact ⟨Or.inl rfl, fun x hx => absurd hx (by omega)⟩)) | (first | exact rfl | exact trivial | exact ⟨Or.inr rfl, Fit_enI⟩ | exact Fit_enI | exact Or.inr rfl | exact Or.inl rfl | exact fun x hx => absurd hx (by omega) | exact ⟨Or.inl rfl, fun x hx => absurd hx (by omega)⟩)))); done)) | grind))
      refine condM' rfl trivial (fun hc => ?_) (fun hc => ?_)
      · replace H := cond_f hc H
        refine rg ctNo_ok ?_
        simp only [go_sem, Nat.reduceLeDiff, Nat.reduceLT, Nat.reduceAdd, Nat.reduceMul, Nat.reduceSub, Nat.reduceEqDiff, Nat.reduceBEq, Int.reduceToNat, reduceCtorEq]
        refine ⟨_, (Option.some.inj H).symm, ?_⟩
        refine SubF_of ⟨[some 0, some 1], ?_, ?_, by rfl, by rfl⟩
        · simp [CvL, Cv, getM]
        · exact ⟨CvB_dead, CvB_dead, trivial⟩
      replace H := cond_t hc H
      refine rg ctNo_ok ?_
      simp only [go_sem, Nat.reduceLeDiff, Nat.reduceLT, Nat.reduceAdd, Nat.reduceMul, Nat.reduceSub, Nat.reduceEqDiff, Nat.reduceBEq, Int.reduceToNat, reduceCtorEq]
      refine seqM ?_
      refine blkM ?_
      refine seqM ?_
      obtain ⟨f1, H⟩ := need_some.1 H
      replace f1 := inb_iff.1 f1
      obtain ⟨f2, H⟩ := need_some.1 H
      replace f2 := inb_iff.1 f2
      refine draw_quiet shT_ok ctNo_ok (by kernel_rfl) (by kernel_rfl) ?_
      simp only [go_sem, Nat.reduceLeDiff, Nat.reduceLT, Nat.reduceAdd, Nat.reduceMul, Nat.reduceSub, Nat.reduceEqDiff, Nat.reduceBEq, Int.reduceToNat, reduceCtorEq, f1, f2]
      repeat ((with_reducible refine And.intro ?_ ?_); focus (first | (with_reducible trivial) | omega | grind))
      refine condM rfl trivial (fun hc => ?_) (fun hc => ?_)
      · replace H := cond_t hc H
        refine sq ctNo_ok ?_
        simp only [go_sem, Nat.reduceLeDiff, Nat.reduceLT, Nat.reduceAdd, Nat.reduceMul, Nat.reduceSub, Nat.reduceEqDiff, Nat.reduceBEq, Int.reduceToNat, reduceCtorEq]
        refine rg ctNo_ok ?_
        simp only [go_sem, Nat.reduceLeDiff, Nat.reduceLT, Nat.reduceAdd, Nat.reduceMul, Nat.reduceSub, Nat.reduceEqDiff, Nat.reduceBEq, Int.reduceToNat, reduceCtorEq]
        have H := hn2_1 _ (Option.some.inj H).symm
        obtain rfl := Option.some.inj H
        first | rfl | simp only [Bool.and_false, Bool.false_and, Bool.and_true, Bool.true_and]
      replace H := cond_f hc H
      refine rg ctNo_ok ?_
      simp only [go_sem, Nat.reduceLeDiff, Nat.reduceLT, Nat.reduceAdd, Nat.reduceMul, Nat.reduceSub, Nat.reduceEqDiff, Nat.reduceBEq, Int.reduceToNat, reduceCtorEq]
      refine rg ctNo_ok ?_
      simp only [go_sem, Nat.reduceLeDiff, Nat.reduceLT, Nat.reduceAdd, Nat.reduceMul, Nat.reduceSub, Nat.reduceEqDiff, Nat.reduceBEq, Int.reduceToNat, reduceCtorEq]
      refine ⟨_, (Option.some.inj H).symm, ?_⟩
      refine SubF_of ⟨[some 0, some 1], ?_, ?_, by rfl, by rfl⟩
      · simp [CvL, Cv, getM]
      · exact ⟨(by simp [CvB, CvL, Cv, blkAt, geth, getM]), (by simp [CvB, CvL, Cv, blkAt, geth, getM]), trivial⟩
    · try dsimp only at H ⊢
      try simp only [m_normal, k_normal, b_normal, kL_normal, r_normal]
      refine sq ctNo_ok ?_
      simp only [go_sem, Nat.reduceLeDiff, Nat.reduceLT, Nat.reduceAdd, Nat.reduceMul, Nat.reduceSub, Nat.reduceEqDiff, Nat.reduceBEq, Int.reduceToNat, reduceCtorEq]
      refine rg ctNo_ok ?_
      simp only [go_sem, Nat.reduceLeDiff, Nat.reduceLT, Nat.reduceAdd, Nat.reduceMul, Nat.reduceSub, Nat.reduceEqDiff, Nat.reduceBEq, Int.reduceToNat, reduceCtorEq]
      obtain rfl := Option.some.inj H
      first | rfl | simp only [Bool.and_false, Bool.false_and, Bool.and_true, Bool.true_and]
  · cases hb
/-! hotspot/hotspotlaw35.TriggerMaps -/
noncomputable def ct4t0 : Ct := tab [(24, pureC body24)]
theorem ct4t0_ok : CtOk Try.prog ct4t0 := tab_cons ok24 <| tab_nil
theorem ct4t0_24 (l : List AV) (h : List ABlk) : ct4t0 24 l h = pureC body24 l h := rfl
noncomputable def ct4t1 : Ct := tab [(25, genC body25)]
theorem ct4t1_ok : CtOk Try.prog ct4t1 := tab_cons ok25 <| tab_nil
theorem ct4t1_25 (l : List AV) (h : List ABlk) : ct4t1 25 l h = genC body25 l h := rfl
noncomputable def ct4t2 : Ct := tab [(26, genC body26)]
theorem ct4t2_ok : CtOk Try.prog ct4t2 := tab_cons ok26 <| tab_nil
theorem ct4t2_26 (l : List AV) (h : List ABlk) : ct4t2 26 l h = genC body26 l h := rfl
noncomputable def ct4t3 : Ct := tab [(27, pureC body27)]
theorem ct4t3_ok : CtOk Try.prog ct4t3 := tab_cons ok27 <| tab_nil
theorem ct4t3_27 (l : List AV) (h : List ABlk) : ct4t3 27 l h = pureC body27 l h := rfl
noncomputable def F4 (p0 : TBuffer) (p1 : List TTriggerPlan) : Option (Bool) :=
  (F24 p0 (TFrame.mk (THeader.mk 0 0 false false false false false false false 0 (A6u8.mk 0 0 0 0 0 0) (A6u8.mk 0 0 0 0 0 0) (A6u8.mk 0 0 0 0 0 0) (A6u8.mk 0 0 0 0 0 0) 0 0 0 0 false false) [])).bind fun r1 => bif (r1 || (bLt 50 (p1.length : Nat))) then (some true) else ((F25 p0 p1).bind fun r3 => (F26 p0 p1).bind fun r5 => (F27 r3.1 r5.1).bind fun r7 => some (r7 && (bEq r3.2 r5.2)))
noncomputable def body4 : List AV → AR
  | [v0, v1] => .pure (aK 4 k_TBuffer v0 ∧ lK k_TTriggerPlan 3 v1 ∧ (F4 (g_TBuffer (aL v0)) (lA g_TTriggerPlan v1)).isSome = true) (.bool (gt (F4 (g_TBuffer (aL v0)) (lA g_TTriggerPlan v1))))
  | _ => .fail
set_option maxHeartbeats 4000000 in
set_option maxRecDepth 20000 in
theorem ok4 : FnOk Try.prog 4 (pureC body4) := by
  refine pure_fnM body4 (rs := [.tmp 4]) Try.func4 (by kernel_rfl) rfl rfl ?_
  intro l ob v hb hob
  unfold body4 at hb
  split at hb
  · rename_i v0 v1
    injection hb with q1 q2; subst q1 q2
    obtain ⟨hk0, hk1, hob⟩ := hob
    obtain ⟨r, H⟩ := Option.isSome_iff_exists.1 hob
    rw [H, gt_some]
    have hw0 := wA_TBuffer hk0
    have hw1 := lK_wk (fun r h => w_TTriggerPlan h) hk1
    generalize g_TBuffer (aL v0) = p0 at H hw0
    generalize lA g_TTriggerPlan v1 = p1 at H hw1
    refine ⟨[.agg [.int .i64 p0.Limit, .int .i64 p0.Stay, .ro 3 p0.List.length false (enR c_TSleeper p0.List), .ro 43 p0.Group.length false (enR c_TStored p0.Group)], .ro 3 p1.length false (enR c_TTriggerPlan p1)], _, (fun E vs F => FR_wk1 hw0.1 F (fun vs F => FR_wk1 hw1.1 F (fun vs F => F))), rfl, rfl, ?_⟩
    rw [Try.ntmps4]
    simp only [List.length_cons, List.length_nil, Nat.reduceAdd, Nat.reduceSub, List.replicate_succ, List.replicate_zero, List.cons_append, List.nil_append]
    unfold F4 at H
    try dsimp only at H
    refine sq ctNo_ok ?_
    simp only [go_sem, Nat.reduceLeDiff, Nat.reduceLT, Nat.reduceAdd, Nat.reduceMul, Nat.reduceSub, Nat.reduceEqDiff, Nat.reduceBEq, Int.reduceToNat, reduceCtorEq]
    refine seqM ?_
    refine seqM ?_
    obtain ⟨r1, e2, H⟩ := Option.bind_eq_some_iff.1 H
    refine rg ct4t0_ok ?_
    simp only [go_sem, Nat.reduceLeDiff, Nat.reduceLT, Nat.reduceAdd, Nat.reduceMul, Nat.reduceSub, Nat.reduceEqDiff, Nat.reduceBEq, Int.reduceToNat, reduceCtorEq, ct4t0_24, body24, e2]
    repeat ((with_reducible refine And.intro ?_ ?_); focus (first | (with_reducible trivial) | omega | (intro x y _ _; (repeat (first | exact nfR_enI | exact nfR_lit (by simp only [nrefL, nref, and_self]) | (refine nfR_app (fun x y => ?_) (fun x y => ?_)) | (refine nfR_ins (fun x y => ?_) (fun x y => ?_)) | (refine nfR_del (fun x y => ?_)) | (refine nfR_upc (fun x y => ?_) (by simp only [nrefL, nref, and_self])) | (refine nfR_ovw (fun x y => ?_) (fun x y => ?_)) | exact nfR_getL (by simp only [nrefL, nref, and_self]))); done) | (intro x hx; (repeat (first | (exfalso; omega) | (rcases x with _ | x; first | (and_intros <;> (first | exact rfl | exact trivial | exact ⟨Or.inr rfl, Fit_enI⟩ | exact Fit_enI | exact Or.inr rfl | exact Or.inl rfl | exact fun x hx => absurd hx (by omega) | exact ⟨Or.inl rfl, fun x hx => absurd hx (by omega)⟩)) | (first | exact rfl | exact trivial | exact ⟨Or.inr rfl, Fit_enI⟩ | exact Fit_enI | exact Or.inr rfl | exact Or.inl rfl | exact fun x hx => absurd hx (by omega) | exact ⟨Or.inl rfl, fun x hx => absurd hx (by omega)⟩)))); done) | (and_intros <;> first | (with_reducible trivial) | omega | assumption | (intro x y _ _; (repeat (first | exact nfR_enI | exact nfR_lit (by simp only [nrefL, nref, and_self]) | (refine nfR_app (fun x y => ?_) (fun x y => ?_)) | (refine nfR_ins (fun x y => ?_) (fun x y => ?_)) | (refine nfR_del (fun x y => ?_)) | (refine nfR_upc (fun x y => ?_) (by simp only [nrefL, nref, and_self])) | (refine nfR_ovw (fun x y => ?_) (fun x y => ?_)) | exact nfR_getL (by simp only [nrefL, nref, and_self]))); done) | (intro x hx; (repeat (first | (exfalso; omega) | (rcases x with _ | x; first | (and_intros <;> (first | exact rfl | exact trivial | exact ⟨Or.inr rfl, Fit_enI⟩ | exact Fit_enI | exact Or.inr rfl | exact Or.inl rfl | exact fun x hx => absurd hx (by omega) | exact ⟨Or.inl rfl, fun x hx => absurd hx (by omega)⟩)) | (first | exact rfl | exact trivial | exact ⟨Or.inr rfl, Fit_enI⟩ | exact Fit_enI | exact Or.inr rfl | exact Or.inl rfl | exact fun x hx => absurd hx (by omega) | exact ⟨Or.inl rfl, fun x hx => absurd hx (by omega)⟩)))); done)) | grind))
    refine condM rfl trivial (fun hc => ?_) (fun hc => ?_)
    · replace H := cond_t hc H
      refine sq ctNo_ok ?_
      simp only [go_sem, Nat.reduceLeDiff, Nat.reduceLT, Nat.reduceAdd, Nat.reduceMul, Nat.reduceSub, Nat.reduceEqDiff, Nat.reduceBEq, Int.reduceToNat, reduceCtorEq]
      refine rg ctNo_ok ?_
      simp only [go_sem, Nat.reduceLeDiff, Nat.reduceLT, Nat.reduceAdd, Nat.reduceMul, Nat.reduceSub, Nat.reduceEqDiff, Nat.reduceBEq, Int.reduceToNat, reduceCtorEq]
      obtain rfl := Option.some.inj H
      first | rfl | simp only [Bool.and_false, Bool.false_and, Bool.and_true, Bool.true_and]
    replace H := cond_f hc H
    refine rg ctNo_ok ?_
    simp only [go_sem, Nat.reduceLeDiff, Nat.reduceLT, Nat.reduceAdd, Nat.reduceMul, Nat.reduceSub, Nat.reduceEqDiff, Nat.reduceBEq, Int.reduceToNat, reduceCtorEq]
    refine seqM ?_
    obtain ⟨r3, e4, H⟩ := Option.bind_eq_some_iff.1 H
    refine rg ct4t1_ok ?_
    simp only [go_sem, Nat.reduceLeDiff, Nat.reduceLT, Nat.reduceAdd, Nat.reduceMul, Nat.reduceSub, Nat.reduceEqDiff, Nat.reduceBEq, Int.reduceToNat, reduceCtorEq, ct4t1_25, body25, e4]
    repeat ((with_reducible refine And.intro ?_ ?_); focus (first | (with_reducible trivial) | omega | (intro x y _ _; (repeat (first | exact nfR_enI | exact nfR_lit (by simp only [nrefL, nref, and_self]) | (refine nfR_app (fun x y => ?_) (fun x y => ?_)) | (refine nfR_ins (fun x y => ?_) (fun x y => ?_)) | (refine nfR_del (fun x y => ?_)) | (refine nfR_upc (fun x y => ?_) (by simp only [nrefL, nref, and_self])) | (refine nfR_ovw (fun x y => ?_) (fun x y => ?_)) | exact nfR_getL (by simp only [nrefL, nref, and_self]))); done) | (intro x hx; (repeat (first | (exfalso; omega) | (rcases x with _ | x; first | (and_intros <;> (first | exact rfl | exact trivial | exact ⟨Or.inr rfl, Fit_enI⟩ | exact Fit_enI | exact Or.inr rfl | exact Or.inl rfl | exact fun x hx => absurd hx (by omega) | exact ⟨Or.inl rfl, fun x hx => absurd hx (by omega)⟩)) | (first | exact rfl | exact trivial | exact ⟨Or.inr rfl, Fit_enI⟩ | exact Fit_enI | exact Or.inr rfl | exact Or.inl rfl | exact fun x hx => absurd hx (by omega) | exact ⟨Or.inl rfl, fun x hx => absurd hx (by omega)⟩)))); done) | (and_intros <;> first | (with_reducible trivial) | omega | assumption | (intro x y _ _; (repeat (first | exact nfR_enI | exact nfR_lit (by simp only [nrefL, nref, and_self]) | (refine nfR_app (fun x y => ?_) (fun x y => ?_)) | (refine nfR_ins (fun x y => ?_) (fun x y => ?_)) | (refine nfR_del (fun x y => ?_)) | (refine nfR_upc (fun x y => ?_) (by simp only [nrefL, nref, and_self])) | (refine nfR_ovw (fun x y => ?_) (fun x y => ?_)) | exact nfR_getL (by simp only [nrefL, nref, and_self]))); done) | (intro x hx; (repeat (first | (exfalso; omega) | (rcases x with _ | x; first | (and_intros <;> (first | exact rfl | exact trivial | exact ⟨Or.inr rfl, Fit_enI⟩ | exact Fit_enI | exact Or.inr rfl | exact Or.inl rfl | exact fun x hx => absurd hx (by omega) | exact ⟨Or.inl rfl, fun x hx => absurd hx (by omega)⟩)) | (first | exact rfl | exact trivial | exact ⟨Or.inr rfl, Fit_enI⟩ | exact Fit_enI | exact Or.inr rfl | exact Or.inl rfl | exact fun x hx => absurd hx (by omega) | exact ⟨Or.inl rfl, fun x hx => absurd hx (by omega)⟩)))); done)) | grind))
    refine seqM ?_
    obtain ⟨r5, e6, H⟩ := Option.bind_eq_some_iff.1 H
    refine rg ct4t2_ok ?_
    simp only [go_sem, Nat.reduceLeDiff, Nat.reduceLT, Nat.reduceAdd, Nat.reduceMul, Nat.reduceSub, Nat.reduceEqDiff, Nat.reduceBEq, Int.reduceToNat, reduceCtorEq, ct4t2_26, body26, e6]
    repeat ((with_reducible refine And.intro ?_ ?_); focus (first | (with_reducible trivial) | omega | (intro x y _ _; (repeat (first | exact nfR_enI | exact nfR_lit (by simp only [nrefL, nref, and_self]) | (refine nfR_app (fun x y => ?_) (fun x y => ?_)) | (refine nfR_ins (fun x y => ?_) (fun x y => ?_)) | (refine nfR_del (fun x y => ?_)) | (refine nfR_upc (fun x y => ?_) (by simp only [nrefL, nref, and_self])) | (refine nfR_ovw (fun x y => ?_) (fun x y => ?_)) | exact nfR_getL (by simp only [nrefL, nref, and_self]))); done) | (intro x hx; (repeat (first | (exfalso; omega) | (rcases x with _ | x; first | (and_intros <;> (first | exact rfl | exact trivial | exact ⟨Or.inr rfl, Fit_enI⟩ | exact Fit_enI | exact Or.inr rfl | exact Or.inl rfl | exact fun x hx => absurd hx (by omega) | exact ⟨Or.inl rfl, fun x hx => absurd hx (by omega)⟩)) | (first | exact rfl | exact trivial | exact ⟨Or.inr rfl, Fit_enI⟩ | exact Fit_enI | exact Or.inr rfl | exact Or.inl rfl | exact fun x hx => absurd hx (by omega) | exact ⟨Or.inl rfl, fun x hx => absurd hx (by omega)⟩)))); done) | (and_intros <;> first | (with_reducible trivial) | omega | assumption | (intro x y _ _; (repeat (first | exact nfR_enI | exact nfR_lit (by simp only [nrefL, nref, and_self]) | (refine nfR_app (fun x y => ?_) (fun x y => ?_)) | (refine nfR_ins (fun x y => ?_) (fun x y => ?_)) | (refine nfR_del (fun x y => ?_)) | (refine nfR_upc (fun x y => ?_) (by simp only [nrefL, nref, and_self])) | (refine nfR_ovw (fun x y => ?_) (fun x y => ?_)) | exact nfR_getL (by simp only [nrefL, nref, and_self]))); done) | (intro x hx; (repeat (first | (exfalso; omega) | (rcases x with _ | x; first | (and_intros <;> (first | exact rfl | exact trivial | exact ⟨Or.inr rfl, Fit_enI⟩ | exact Fit_enI | exact Or.inr rfl | exact Or.inl rfl | exact fun x hx => absurd hx (by omega) | exact ⟨Or.inl rfl, fun x hx => absurd hx (by omega)⟩)) | (first | exact rfl | exact trivial | exact ⟨Or.inr rfl, Fit_enI⟩ | exact Fit_enI | exact Or.inr rfl | exact Or.inl rfl | exact fun x hx => absurd hx (by omega) | exact ⟨Or.inl rfl, fun x hx => absurd hx (by omega)⟩)))); done)) | grind))
    refine seqM ?_
    obtain ⟨r7, e8, H⟩ := Option.bind_eq_some_iff.1 H
    refine rg ct4t3_ok ?_
    simp only [go_sem, Nat.reduceLeDiff, Nat.reduceLT, Nat.reduceAdd, Nat.reduceMul, Nat.reduceSub, Nat.reduceEqDiff, Nat.reduceBEq, Int.reduceToNat, reduceCtorEq, ct4t3_27, body27, e8]
    repeat ((with_reducible refine And.intro ?_ ?_); focus (first | (with_reducible trivial) | omega | (intro x y _ _; (repeat (first | exact nfR_enI | exact nfR_lit (by simp only [nrefL, nref, and_self]) | (refine nfR_app (fun x y => ?_) (fun x y => ?_)) | (refine nfR_ins (fun x y => ?_) (fun x y => ?_)) | (refine nfR_del (fun x y => ?_)) | (refine nfR_upc (fun x y => ?_) (by simp only [nrefL, nref, and_self])) | (refine nfR_ovw (fun x y => ?_) (fun x y => ?_)) | exact nfR_getL (by simp only [nrefL, nref, and_self]))); done) | (intro x hx; (repeat (first | (exfalso; omega) | (rcases x with _ | x; first | (and_intros <;> (first | exact rfl | exact trivial | exact ⟨Or.inr rfl, Fit_enI⟩ | exact Fit_enI | exact Or.inr rfl | exact Or.inl rfl | exact fun x hx => absurd hx (by omega) | exact ⟨Or.inl rfl, fun x hx => absurd hx (by omega)⟩)) | (first | exact rfl | exact trivial | exact ⟨Or.inr rfl, Fit_enI⟩ | exact Fit_enI | exact Or.inr rfl | exact Or.inl rfl | exact fun x hx => absurd hx (by omega) | exact ⟨Or.inl rfl, fun x hx => absurd hx (by omega)⟩)))); done) | (and_intros <;> first | (with_reducible trivial) | omega | assumption | (intro x y _ _; (repeat (first | exact nfR_enI | exact nfR_lit (by simp only [nrefL, nref, and_self]) | (refine nfR_app (fun x y => ?_) (fun x y => ?_)) | (refine nfR_ins (fun x y => ?_) (fun x y => ?_)) | (refine nfR_del (fun x y => ?_)) | (refine nfR_upc (fun x y => ?_) (by simp only [nrefL, nref, and_self])) | (refine nfR_ovw (fun x y => ?_) (fun x y => ?_)) | exact nfR_getL (by simp only [nrefL, nref, and_self]))); done) | (intro x hx; (repeat (first | (exfalso; omega) | (rcases x with _ | x; first | (and_intros <;> (first | exact rfl | exact trivial | exact ⟨Or.inr rfl, Fit_enI⟩ | exact Fit_enI | exact Or.inr rfl | exact Or.inl rfl | exact fun x hx => absurd hx (by omega) | exact ⟨Or.inl rfl, fun x hx => absurd hx (by omega)⟩)) | (first | exact rfl | exact trivial | exact ⟨Or.inr rfl, Fit_enI⟩ | exact Fit_enI | exact Or.inr rfl | exact Or.inl rfl | exact fun x hx => absurd hx (by omega) | exact ⟨Or.inl rfl, fun x hx => absurd hx (by omega)⟩)))); done)) | grind))
    refine rg ctNo_ok ?_
    simp only [go_sem, Nat.reduceLeDiff, Nat.reduceLT, Nat.reduceAdd, Nat.reduceMul, Nat.reduceSub, Nat.reduceEqDiff, Nat.reduceBEq, Int.reduceToNat, reduceCtorEq]
    obtain rfl := Option.some.inj H
    first | rfl | simp only [Bool.and_false, Bool.false_and, Bool.and_true, Bool.true_and]
  · cases hb
end Go.Proofs.Ytnclkplbeenmdaa
