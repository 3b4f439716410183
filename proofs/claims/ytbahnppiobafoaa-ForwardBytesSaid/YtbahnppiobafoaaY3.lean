/-
  What the law reaches.
-/
import Derived.Test.YtbahnppiobafoaaY3p1
namespace Go.Proofs.Ytbahnppiobafoaa
open Go.Am
set_option linter.unusedVariables false
set_option linter.unusedSimpArgs false
attribute [local go_sem] w_skip w_label w_goto w_scope k_goto b_goto l_goto s_normal s_exit s_ret s_goto w_region w_draw w_seq w_cond w_block w_exit w_ret w_loop k_normal k_exit k_ret b_normal b_exit b_ret l_normal l_exit l_ret m_normal m_exit m_ret m_goto kL_normal kL_exit kL_ret kS_normal kS_exit kS_ret kS_goto r_normal r_ret o_nil o_cons q_nil q_cons nxt gval gvd gvl gvw dstOf evO ogOp ogC og ogL ogP ogO rho rhoO strip optOk getL setL setT absC absV absL pO hO evLoad ldB geth seth evStore stRes stB evBox evAlloc evFieldAddr evField evIndexAddr evBin2 binI binB binNR binU nilR_isEmpty nilR_t nilR_0 nilR_s evInt evStr evUn evConv cvO evPick mrg evExtract evNil evCall mapR evBuiltin evLen2 vcells vcOk atom tabF cnd retK resFin resL resA resC resCons evBuild evBuildP placeS placeA fillA fillOk putL getP nxtQ pureC_eq pureR genC_eq genR roV roL roOb roObL roW roWL roWOb roWObL nref nrefL binA binN eqSh eqRes evIndex evIndex2 evIndexS evSlice evSlice2 evSliceS evBound evConv2 cvS evAppend appRes srcOf evMake evBuildSlice repL evFn evMin evMax freshC freshR sub_enR0 evClear evClearR evCopy evCopyR lenS cutS Bool.or_false Bool.false_or Bool.or_true Bool.true_or Bool.and_false Bool.false_and Option.map_some Option.map_none Option.getD_some Option.getD_none Option.bind_some Option.bind_none Option.or_some Option.or_none Option.none_or Option.isSome_none Option.isNone_none Option.isNone_some List.nil_append List.cons_append List.append_nil cond_true cond_false List.length_cons List.length_nil beq_self_eq_true Bool.and_true Bool.true_and Bool.not_true Bool.not_false true_and and_true and_self true_implies implies_true ne_eq not_false_eq_true Bool.false_eq_true Bool.true_eq_false false_implies Nat.lt_irrefl Nat.le_refl Nat.succ_ne_self imp_self Bool.cond_false_right Bool.cond_true_left decide_true decide_false Bool.not_eq_true' Bool.not_eq_false' Bool.not_not Nat.zero_mul Nat.zero_add Nat.add_zero Nat.mul_one Nat.one_mul Bool.cond_self tsz3 tby3 tagg3 tslice3 tarr3 tzero3 tzn3 tplaces3 tint3 tstr3 tnoint3 tbool3 tany3 tintk3 tbytes3 tsz4 tby4 tagg4 tslice4 tarr4 tzero4 tzn4 tplaces4 tint4 tstr4 tnoint4 tbool4 tany4 tintk4 tbytes4 tsz5 tby5 tagg5 tslice5 tarr5 tzero5 tzn5 tplaces5 tint5 tstr5 tnoint5 tbool5 tany5 tintk5 tbytes5 tsz9 tby9 tagg9 tslice9 tarr9 tzero9 tzn9 tplaces9 tint9 tstr9 tnoint9 tbool9 tany9 tintk9 tbytes9 tsz23 tby23 tagg23 tslice23 tarr23 tzero23 tzn23 tplaces23 tint23 tstr23 tnoint23 tbool23 tany23 tintk23 tbytes23 tsz24 tby24 tagg24 tslice24 tarr24 tzero24 tzn24 tplaces24 tint24 tstr24 tnoint24 tbool24 tany24 tintk24 tbytes24 tsz26 tby26 tagg26 tslice26 tarr26 tzero26 tzn26 tplaces26 tint26 tstr26 tnoint26 tbool26 tany26 tintk26 tbytes26 tfld26_0 tfld26_1 tfld26_2 tfld26_3 tfld26_4 tfld26_5 tfld26_6 tfld26_7 tfld26_8 tsz28 tby28 tagg28 tslice28 tarr28 tzero28 tzn28 tplaces28 tint28 tstr28 tnoint28 tbool28 tany28 tintk28 tbytes28 tsz29 tby29 tagg29 tslice29 tarr29 tzero29 tzn29 tplaces29 tint29 tstr29 tnoint29 tbool29 tany29 tintk29 tbytes29 tsz31 tby31 tagg31 tslice31 tarr31 tzero31 tzn31 tplaces31 tint31 tstr31 tnoint31 tbool31 tany31 tintk31 tbytes31 tfld31_0 tfld31_1 tfld31_2 tfld31_3 tsz33 tby33 tagg33 tslice33 tarr33 tzero33 tzn33 tplaces33 tint33 tstr33 tnoint33 tbool33 tany33 tintk33 tbytes33 tsz55 tby55 tagg55 tslice55 tarr55 tzero55 tzn55 tplaces55 tint55 tstr55 tnoint55 tbool55 tany55 tintk55 tbytes55 tsz59 tby59 tagg59 tslice59 tarr59 tzero59 tzn59 tplaces59 tint59 tstr59 tnoint59 tbool59 tany59 tintk59 tbytes59 tfld59_0 tfld59_1 tsz62 tby62 tagg62 tslice62 tarr62 tzn62 tplaces62 tint62 tstr62 tnoint62 tbool62 tany62 tintk62 tbytes62 tsz64 tby64 tagg64 tslice64 tarr64 tzero64 tzn64 tplaces64 tint64 tstr64 tnoint64 tbool64 tany64 tintk64 tbytes64 tsz70 tby70 tagg70 tslice70 tarr70 tzero70 tzn70 tplaces70 tint70 tstr70 tnoint70 tbool70 tany70 tintk70 tbytes70 tsz73 tby73 tagg73 tslice73 tarr73 tzero73 tzn73 tplaces73 tint73 tstr73 tnoint73 tbool73 tany73 tintk73 tbytes73 tsz75 tby75 tagg75 tslice75 tarr75 tzero75 tzn75 tplaces75 tint75 tstr75 tnoint75 tbool75 tany75 tintk75 tbytes75 tsz76 tby76 tagg76 tslice76 tarr76 tzero76 tzn76 tplaces76 tint76 tstr76 tnoint76 tbool76 tany76 tintk76 tbytes76 tsz78 tby78 tagg78 tslice78 tarr78 tzero78 tzn78 tplaces78 tint78 tstr78 tnoint78 tbool78 tany78 tintk78 tbytes78 tsz80 tby80 tagg80 tslice80 tarr80 tzero80 tzn80 tplaces80 tint80 tstr80 tnoint80 tbool80 tany80 tintk80 tbytes80 tfld80_0 tfld80_1 tsz84 tby84 tagg84 tslice84 tarr84 tzero84 tzn84 tplaces84 tint84 tstr84 tnoint84 tbool84 tany84 tintk84 tbytes84 tsz85 tby85 tagg85 tslice85 tarr85 tzero85 tzn85 tplaces85 tint85 tstr85 tnoint85 tbool85 tany85 tintk85 tbytes85 tsz86 tby86 tagg86 tslice86 tarr86 tzero86 tzn86 tplaces86 tint86 tstr86 tnoint86 tbool86 tany86 tintk86 tbytes86 tsz90 tby90 tagg90 tslice90 tarr90 tzero90 tzn90 tplaces90 tint90 tstr90 tnoint90 tbool90 tany90 tintk90 tbytes90 tfld90_0 tfld90_1 tsz105 tby105 tagg105 tslice105 tarr105 tzero105 tzn105 tplaces105 tint105 tstr105 tnoint105 tbool105 tany105 tintk105 tbytes105 tsz110 tby110 tagg110 tslice110 tarr110 tzero110 tzn110 tplaces110 tint110 tstr110 tnoint110 tbool110 tany110 tintk110 tbytes110 tsz114 tby114 tagg114 tslice114 tarr114 tzero114 tzn114 tplaces114 tint114 tstr114 tnoint114 tbool114 tany114 tintk114 tbytes114 e_u8_0 fit_u8 de_u8 g_u8 k_u8 e_i64_0 fit_i64 de_i64 g_i64 k_i64 e_b_0 fit_b de_b g_b k_b e_s_0 fit_s de_s g_s k_s e_A6u8_0 e_A6u8_1 e_A6u8_2 e_A6u8_3 e_A6u8_4 e_A6u8_5 fit_A6u8 de_A6u8 g_A6u8 k_A6u8 eta_A6u8 e_lu8_0 fit_lu8 de_lu8 g_lu8 k_lu8 e_TMeshFrame_0 e_TMeshFrame_1 e_TMeshFrame_2 e_TMeshFrame_3 e_TMeshFrame_4 e_TMeshFrame_5 e_TMeshFrame_6 e_TMeshFrame_7 e_TMeshFrame_8 e_TMeshFrame_9 e_TMeshFrame_10 e_TMeshFrame_11 e_TMeshFrame_12 e_TMeshFrame_13 e_TMeshFrame_14 e_TMeshFrame_15 e_TMeshFrame_16 e_TMeshFrame_17 e_TMeshFrame_18 e_TMeshFrame_19 e_TMeshFrame_20 e_TMeshFrame_21 e_TMeshFrame_22 e_TMeshFrame_23 e_TMeshFrame_24 e_TMeshFrame_25 e_TMeshFrame_26 e_TMeshFrame_27 e_TMeshFrame_28 e_TMeshFrame_29 e_TMeshFrame_30 e_TMeshFrame_31 e_TMeshFrame_32 e_TMeshFrame_33 e_TMeshFrame_34 e_TMeshFrame_35 e_TMeshFrame_36 e_TMeshFrame_37 e_TMeshFrame_38 fit_TMeshFrame de_TMeshFrame g_TMeshFrame k_TMeshFrame eta_TMeshFrame e_TForwardMark_0 e_TForwardMark_1 e_TForwardMark_2 e_TForwardMark_3 e_TForwardMark_4 e_TForwardMark_5 e_TForwardMark_6 fit_TForwardMark de_TForwardMark g_TForwardMark k_TForwardMark eta_TForwardMark e_lTForwardMark_0 fit_lTForwardMark de_lTForwardMark g_lTForwardMark k_lTForwardMark e_TForwardHop_0 e_TForwardHop_1 e_TForwardHop_2 e_TForwardHop_3 e_TForwardHop_4 e_TForwardHop_5 e_TForwardHop_6 e_TForwardHop_7 e_TForwardHop_8 e_TForwardHop_9 e_TForwardHop_10 e_TForwardHop_11 fit_TForwardHop de_TForwardHop g_TForwardHop k_TForwardHop eta_TForwardHop e_lTForwardHop_0 fit_lTForwardHop de_lTForwardHop g_lTForwardHop k_lTForwardHop e_TForward_0 e_TForward_1 e_TForward_2 e_TForward_3 e_TForward_4 e_TForward_5 e_TForward_6 e_TForward_7 e_TForward_8 fit_TForward de_TForward g_TForward k_TForward eta_TForward e_lTMeshFrame_0 fit_lTMeshFrame de_lTMeshFrame g_lTMeshFrame k_lTMeshFrame e_A8i64_0 e_A8i64_1 e_A8i64_2 e_A8i64_3 e_A8i64_4 e_A8i64_5 e_A8i64_6 e_A8i64_7 fit_A8i64 de_A8i64 g_A8i64 k_A8i64 eta_A8i64 e_li64_0 fit_li64 de_li64 g_li64 k_li64 e_A8b_0 e_A8b_1 e_A8b_2 e_A8b_3 e_A8b_4 e_A8b_5 e_A8b_6 e_A8b_7 fit_A8b de_A8b g_A8b k_A8b eta_A8b e_lb_0 fit_lb de_lb g_lb k_lb e_A8A8b_0 e_A8A8b_1 e_A8A8b_2 e_A8A8b_3 e_A8A8b_4 e_A8A8b_5 e_A8A8b_6 e_A8A8b_7 e_A8A8b_8 e_A8A8b_9 e_A8A8b_10 e_A8A8b_11 e_A8A8b_12 e_A8A8b_13 e_A8A8b_14 e_A8A8b_15 e_A8A8b_16 e_A8A8b_17 e_A8A8b_18 e_A8A8b_19 e_A8A8b_20 e_A8A8b_21 e_A8A8b_22 e_A8A8b_23 e_A8A8b_24 e_A8A8b_25 e_A8A8b_26 e_A8A8b_27 e_A8A8b_28 e_A8A8b_29 e_A8A8b_30 e_A8A8b_31 e_A8A8b_32 e_A8A8b_33 e_A8A8b_34 e_A8A8b_35 e_A8A8b_36 e_A8A8b_37 e_A8A8b_38 e_A8A8b_39 e_A8A8b_40 e_A8A8b_41 e_A8A8b_42 e_A8A8b_43 e_A8A8b_44 e_A8A8b_45 e_A8A8b_46 e_A8A8b_47 e_A8A8b_48 e_A8A8b_49 e_A8A8b_50 e_A8A8b_51 e_A8A8b_52 e_A8A8b_53 e_A8A8b_54 e_A8A8b_55 e_A8A8b_56 e_A8A8b_57 e_A8A8b_58 e_A8A8b_59 e_A8A8b_60 e_A8A8b_61 e_A8A8b_62 e_A8A8b_63 fit_A8A8b de_A8A8b g_A8A8b k_A8A8b eta_A8A8b e_Ttravel_0 e_Ttravel_1 e_Ttravel_2 e_Ttravel_3 e_Ttravel_4 e_Ttravel_5 e_Ttravel_6 e_Ttravel_7 e_Ttravel_8 e_Ttravel_9 e_Ttravel_10 e_Ttravel_11 e_Ttravel_12 e_Ttravel_13 e_Ttravel_14 e_Ttravel_15 e_Ttravel_16 e_Ttravel_17 e_Ttravel_18 e_Ttravel_19 e_Ttravel_20 e_Ttravel_21 e_Ttravel_22 e_Ttravel_23 e_Ttravel_24 e_Ttravel_25 e_Ttravel_26 e_Ttravel_27 e_Ttravel_28 e_Ttravel_29 e_Ttravel_30 e_Ttravel_31 e_Ttravel_32 e_Ttravel_33 e_Ttravel_34 e_Ttravel_35 e_Ttravel_36 e_Ttravel_37 e_Ttravel_38 e_Ttravel_39 fit_Ttravel de_Ttravel g_Ttravel k_Ttravel eta_Ttravel e_lTtravel_0 fit_lTtravel de_lTtravel g_lTtravel k_lTtravel e_u64_0 fit_u64 de_u64 g_u64 k_u64 e_lA6u8_0 fit_lA6u8 de_lA6u8 g_lA6u8 k_lA6u8 e_A6A6u8_0 e_A6A6u8_1 e_A6A6u8_2 e_A6A6u8_3 e_A6A6u8_4 e_A6A6u8_5 e_A6A6u8_6 e_A6A6u8_7 e_A6A6u8_8 e_A6A6u8_9 e_A6A6u8_10 e_A6A6u8_11 e_A6A6u8_12 e_A6A6u8_13 e_A6A6u8_14 e_A6A6u8_15 e_A6A6u8_16 e_A6A6u8_17 e_A6A6u8_18 e_A6A6u8_19 e_A6A6u8_20 e_A6A6u8_21 e_A6A6u8_22 e_A6A6u8_23 e_A6A6u8_24 e_A6A6u8_25 e_A6A6u8_26 e_A6A6u8_27 e_A6A6u8_28 e_A6A6u8_29 e_A6A6u8_30 e_A6A6u8_31 e_A6A6u8_32 e_A6A6u8_33 e_A6A6u8_34 e_A6A6u8_35 fit_A6A6u8 de_A6A6u8 g_A6A6u8 k_A6A6u8 eta_A6A6u8 deR_0 deR_1 deR_2 deR_3 deR_4 deR_5 deR_6 deR_7 deR_8 deR_9 deR_10 deR_11 deR_12 litC_x0 litC_x1 litC_x2 litC_x3 litC_x4 litC_x5 litC_x6 litC_x7 litC_x8 litC_x9 litC_x10 litC_x11 strE_u8 Fit_0 Option.isSome_some gt_some gd_one evCopyL tabR sub_enR List.drop_zero xrD xoD roEq minL rK rM rG aL aK iK bK sK lK iA bA sA lA or_true true_or Int.toNat_natCast shT_23 shT_59 shT_64 shT_73 shT_86 shT_90 Int.toNat_zero Int.cast_ofNat_Int
/-! hotspot/hotspotref41.addr -/
noncomputable def F38 (p0 : List Int) : Option (A6u8) :=
  need (inb 0 p0.length) <| need (inb 1 p0.length) <| need (inb 2 p0.length) <| need (inb 3 p0.length) <| need (inb 4 p0.length) <| need (inb 5 p0.length) <| some (A6u8.mk (gd p0 0) (gd p0 1) (gd p0 2) (gd p0 3) (gd p0 4) (gd p0 5))
noncomputable def body38 : List AV → AR
  | [v0] => .pure (lK k_u8 1 v0 ∧ (F38 (lA g_u8 v0)).isSome = true) (.agg [.int .u8 ((gt (F38 (lA g_u8 v0))).x0), .int .u8 ((gt (F38 (lA g_u8 v0))).x1), .int .u8 ((gt (F38 (lA g_u8 v0))).x2), .int .u8 ((gt (F38 (lA g_u8 v0))).x3), .int .u8 ((gt (F38 (lA g_u8 v0))).x4), .int .u8 ((gt (F38 (lA g_u8 v0))).x5)])
  | _ => .fail
set_option maxHeartbeats 4000000 in
set_option maxRecDepth 20000 in
theorem ok38 : FnOk Try.prog 38 (pureC body38) := by
  refine pure_fnM body38 (rs := [.cell 2 23]) Try.func38 (by kernel_rfl) rfl rfl ?_
  intro l ob v hb hob
  unfold body38 at hb
  split at hb
  · rename_i v0
    injection hb with q1 q2; subst q1 q2
    obtain ⟨hk0_0, hob⟩ := hob
    obtain ⟨r, H⟩ := Option.isSome_iff_exists.1 hob
    rw [H, gt_some]
    have hw0 := lK_wk (fun r h => w_u8 h) hk0_0
    generalize lA g_u8 v0 = p0 at H hw0
    refine ⟨[.ro 1 p0.length false (enR c_u8 p0)], _, (fun E vs F => FR_wk1 hw0.1 F (fun vs F => F)), rfl, rfl, ?_⟩
    rw [Try.ntmps38]
    simp only [List.length_cons, List.length_nil, Nat.reduceAdd, Nat.reduceSub, List.replicate_succ, List.replicate_zero, List.cons_append, List.nil_append]
    unfold F38 at H
    try dsimp only at H
    refine sq ctNo_ok ?_
    simp only [go_sem, Nat.reduceLeDiff, Nat.reduceLT, Nat.reduceAdd, Nat.reduceMul, Nat.reduceSub, Nat.reduceEqDiff, Nat.reduceBEq, Int.reduceToNat, reduceCtorEq]
    refine sq ctNo_ok ?_
    simp only [go_sem, Nat.reduceLeDiff, Nat.reduceLT, Nat.reduceAdd, Nat.reduceMul, Nat.reduceSub, Nat.reduceEqDiff, Nat.reduceBEq, Int.reduceToNat, reduceCtorEq]
    refine seqM ?_
    refine sq ctNo_ok ?_
    simp only [go_sem, Nat.reduceLeDiff, Nat.reduceLT, Nat.reduceAdd, Nat.reduceMul, Nat.reduceSub, Nat.reduceEqDiff, Nat.reduceBEq, Int.reduceToNat, reduceCtorEq]
    refine blkM ?_
    refine loop_roundsM 7 ?_
    refine rndM ?_
    refine seqM ?_
    refine sq ctNo_ok ?_
    simp only [go_sem, Nat.reduceLeDiff, Nat.reduceLT, Nat.reduceAdd, Nat.reduceMul, Nat.reduceSub, Nat.reduceEqDiff, Nat.reduceBEq, Int.reduceToNat, reduceCtorEq, (by decide : bLt (0) (6) = true)]
    refine condM rfl trivial (fun hc => ?_) (fun hc => ?_)
    rotate_left
    · cases hc
    refine rg ctNo_ok ?_
    simp only [go_sem, Nat.reduceLeDiff, Nat.reduceLT, Nat.reduceAdd, Nat.reduceMul, Nat.reduceSub, Nat.reduceEqDiff, Nat.reduceBEq, Int.reduceToNat, reduceCtorEq]
    refine seqM ?_
    refine blkM ?_
    obtain ⟨f2, H⟩ := need_some.1 H
    replace f2 := inb_iff.1 f2
    refine rg ctNo_ok ?_
    simp only [go_sem, Nat.reduceLeDiff, Nat.reduceLT, Nat.reduceAdd, Nat.reduceMul, Nat.reduceSub, Nat.reduceEqDiff, Nat.reduceBEq, Int.reduceToNat, reduceCtorEq, f2]
    repeat ((with_reducible refine And.intro ?_ ?_); focus (first | (with_reducible trivial) | omega | grind))
    refine rg ctNo_ok ?_
    simp only [go_sem, Nat.reduceLeDiff, Nat.reduceLT, Nat.reduceAdd, Nat.reduceMul, Nat.reduceSub, Nat.reduceEqDiff, Nat.reduceBEq, Int.reduceToNat, reduceCtorEq, (by decide : wr IntKind.i64 ((0 : Int) + 1) = 1)]
    refine rndM ?_
    refine seqM ?_
    refine sq ctNo_ok ?_
    simp only [go_sem, Nat.reduceLeDiff, Nat.reduceLT, Nat.reduceAdd, Nat.reduceMul, Nat.reduceSub, Nat.reduceEqDiff, Nat.reduceBEq, Int.reduceToNat, reduceCtorEq, (by decide : bLt (1) (6) = true)]
    refine condM rfl trivial (fun hc => ?_) (fun hc => ?_)
    rotate_left
    · cases hc
    refine rg ctNo_ok ?_
    simp only [go_sem, Nat.reduceLeDiff, Nat.reduceLT, Nat.reduceAdd, Nat.reduceMul, Nat.reduceSub, Nat.reduceEqDiff, Nat.reduceBEq, Int.reduceToNat, reduceCtorEq]
    refine seqM ?_
    refine blkM ?_
    obtain ⟨f3, H⟩ := need_some.1 H
    replace f3 := inb_iff.1 f3
    refine rg ctNo_ok ?_
    simp only [go_sem, Nat.reduceLeDiff, Nat.reduceLT, Nat.reduceAdd, Nat.reduceMul, Nat.reduceSub, Nat.reduceEqDiff, Nat.reduceBEq, Int.reduceToNat, reduceCtorEq, f3]
    repeat ((with_reducible refine And.intro ?_ ?_); focus (first | (with_reducible trivial) | omega | grind))
    refine rg ctNo_ok ?_
    simp only [go_sem, Nat.reduceLeDiff, Nat.reduceLT, Nat.reduceAdd, Nat.reduceMul, Nat.reduceSub, Nat.reduceEqDiff, Nat.reduceBEq, Int.reduceToNat, reduceCtorEq, (by decide : wr IntKind.i64 ((1 : Int) + 1) = 2)]
    refine rndM ?_
    refine seqM ?_
    refine sq ctNo_ok ?_
    simp only [go_sem, Nat.reduceLeDiff, Nat.reduceLT, Nat.reduceAdd, Nat.reduceMul, Nat.reduceSub, Nat.reduceEqDiff, Nat.reduceBEq, Int.reduceToNat, reduceCtorEq, (by decide : bLt (2) (6) = true)]
    refine condM rfl trivial (fun hc => ?_) (fun hc => ?_)
    rotate_left
    · cases hc
    refine rg ctNo_ok ?_
    simp only [go_sem, Nat.reduceLeDiff, Nat.reduceLT, Nat.reduceAdd, Nat.reduceMul, Nat.reduceSub, Nat.reduceEqDiff, Nat.reduceBEq, Int.reduceToNat, reduceCtorEq]
    refine seqM ?_
    refine blkM ?_
    obtain ⟨f4, H⟩ := need_some.1 H
    replace f4 := inb_iff.1 f4
    refine rg ctNo_ok ?_
    simp only [go_sem, Nat.reduceLeDiff, Nat.reduceLT, Nat.reduceAdd, Nat.reduceMul, Nat.reduceSub, Nat.reduceEqDiff, Nat.reduceBEq, Int.reduceToNat, reduceCtorEq, f4]
    repeat ((with_reducible refine And.intro ?_ ?_); focus (first | (with_reducible trivial) | omega | grind))
    refine rg ctNo_ok ?_
    simp only [go_sem, Nat.reduceLeDiff, Nat.reduceLT, Nat.reduceAdd, Nat.reduceMul, Nat.reduceSub, Nat.reduceEqDiff, Nat.reduceBEq, Int.reduceToNat, reduceCtorEq, (by decide : wr IntKind.i64 ((2 : Int) + 1) = 3)]
    refine rndM ?_
    refine seqM ?_
    refine sq ctNo_ok ?_
    simp only [go_sem, Nat.reduceLeDiff, Nat.reduceLT, Nat.reduceAdd, Nat.reduceMul, Nat.reduceSub, Nat.reduceEqDiff, Nat.reduceBEq, Int.reduceToNat, reduceCtorEq, (by decide : bLt (3) (6) = true)]
    refine condM rfl trivial (fun hc => ?_) (fun hc => ?_)
    rotate_left
    · cases hc
    refine rg ctNo_ok ?_
    simp only [go_sem, Nat.reduceLeDiff, Nat.reduceLT, Nat.reduceAdd, Nat.reduceMul, Nat.reduceSub, Nat.reduceEqDiff, Nat.reduceBEq, Int.reduceToNat, reduceCtorEq]
    refine seqM ?_
    refine blkM ?_
    obtain ⟨f5, H⟩ := need_some.1 H
    replace f5 := inb_iff.1 f5
    refine rg ctNo_ok ?_
    simp only [go_sem, Nat.reduceLeDiff, Nat.reduceLT, Nat.reduceAdd, Nat.reduceMul, Nat.reduceSub, Nat.reduceEqDiff, Nat.reduceBEq, Int.reduceToNat, reduceCtorEq, f5]
    repeat ((with_reducible refine And.intro ?_ ?_); focus (first | (with_reducible trivial) | omega | grind))
    refine rg ctNo_ok ?_
    simp only [go_sem, Nat.reduceLeDiff, Nat.reduceLT, Nat.reduceAdd, Nat.reduceMul, Nat.reduceSub, Nat.reduceEqDiff, Nat.reduceBEq, Int.reduceToNat, reduceCtorEq, (by decide : wr IntKind.i64 ((3 : Int) + 1) = 4)]
    refine rndM ?_
    refine seqM ?_
    refine sq ctNo_ok ?_
    simp only [go_sem, Nat.reduceLeDiff, Nat.reduceLT, Nat.reduceAdd, Nat.reduceMul, Nat.reduceSub, Nat.reduceEqDiff, Nat.reduceBEq, Int.reduceToNat, reduceCtorEq, (by decide : bLt (4) (6) = true)]
    refine condM rfl trivial (fun hc => ?_) (fun hc => ?_)
    rotate_left
    · cases hc
    refine rg ctNo_ok ?_
    simp only [go_sem, Nat.reduceLeDiff, Nat.reduceLT, Nat.reduceAdd, Nat.reduceMul, Nat.reduceSub, Nat.reduceEqDiff, Nat.reduceBEq, Int.reduceToNat, reduceCtorEq]
    refine seqM ?_
    refine blkM ?_
    obtain ⟨f6, H⟩ := need_some.1 H
    replace f6 := inb_iff.1 f6
    refine rg ctNo_ok ?_
    simp only [go_sem, Nat.reduceLeDiff, Nat.reduceLT, Nat.reduceAdd, Nat.reduceMul, Nat.reduceSub, Nat.reduceEqDiff, Nat.reduceBEq, Int.reduceToNat, reduceCtorEq, f6]
    repeat ((with_reducible refine And.intro ?_ ?_); focus (first | (with_reducible trivial) | omega | grind))
    refine rg ctNo_ok ?_
    simp only [go_sem, Nat.reduceLeDiff, Nat.reduceLT, Nat.reduceAdd, Nat.reduceMul, Nat.reduceSub, Nat.reduceEqDiff, Nat.reduceBEq, Int.reduceToNat, reduceCtorEq, (by decide : wr IntKind.i64 ((4 : Int) + 1) = 5)]
    refine rndM ?_
    refine seqM ?_
    refine sq ctNo_ok ?_
    simp only [go_sem, Nat.reduceLeDiff, Nat.reduceLT, Nat.reduceAdd, Nat.reduceMul, Nat.reduceSub, Nat.reduceEqDiff, Nat.reduceBEq, Int.reduceToNat, reduceCtorEq, (by decide : bLt (5) (6) = true)]
    refine condM rfl trivial (fun hc => ?_) (fun hc => ?_)
    rotate_left
    · cases hc
    refine rg ctNo_ok ?_
    simp only [go_sem, Nat.reduceLeDiff, Nat.reduceLT, Nat.reduceAdd, Nat.reduceMul, Nat.reduceSub, Nat.reduceEqDiff, Nat.reduceBEq, Int.reduceToNat, reduceCtorEq]
    refine seqM ?_
    refine blkM ?_
    obtain ⟨f7, H⟩ := need_some.1 H
    replace f7 := inb_iff.1 f7
    refine rg ctNo_ok ?_
    simp only [go_sem, Nat.reduceLeDiff, Nat.reduceLT, Nat.reduceAdd, Nat.reduceMul, Nat.reduceSub, Nat.reduceEqDiff, Nat.reduceBEq, Int.reduceToNat, reduceCtorEq, f7]
    repeat ((with_reducible refine And.intro ?_ ?_); focus (first | (with_reducible trivial) | omega | grind))
    refine rg ctNo_ok ?_
    simp only [go_sem, Nat.reduceLeDiff, Nat.reduceLT, Nat.reduceAdd, Nat.reduceMul, Nat.reduceSub, Nat.reduceEqDiff, Nat.reduceBEq, Int.reduceToNat, reduceCtorEq, (by decide : wr IntKind.i64 ((5 : Int) + 1) = 6)]
    refine rndM ?_
    refine seqM ?_
    refine sq ctNo_ok ?_
    simp only [go_sem, Nat.reduceLeDiff, Nat.reduceLT, Nat.reduceAdd, Nat.reduceMul, Nat.reduceSub, Nat.reduceEqDiff, Nat.reduceBEq, Int.reduceToNat, reduceCtorEq, (by decide : bLt (6) (6) = false)]
    refine condM rfl trivial (fun hc => ?_) (fun hc => ?_)
    · cases hc
    refine rg ctNo_ok ?_
    simp only [go_sem, Nat.reduceLeDiff, Nat.reduceLT, Nat.reduceAdd, Nat.reduceMul, Nat.reduceSub, Nat.reduceEqDiff, Nat.reduceBEq, Int.reduceToNat, reduceCtorEq]
    refine sq ctNo_ok ?_
    simp only [go_sem, Nat.reduceLeDiff, Nat.reduceLT, Nat.reduceAdd, Nat.reduceMul, Nat.reduceSub, Nat.reduceEqDiff, Nat.reduceBEq, Int.reduceToNat, reduceCtorEq]
    repeat ((with_reducible refine And.intro ?_ ?_); focus (first | (with_reducible trivial) | omega | grind))
    refine rg ctNo_ok ?_
    simp only [go_sem, Nat.reduceLeDiff, Nat.reduceLT, Nat.reduceAdd, Nat.reduceMul, Nat.reduceSub, Nat.reduceEqDiff, Nat.reduceBEq, Int.reduceToNat, reduceCtorEq]
    obtain rfl := Option.some.inj H
    first | rfl | simp only [Bool.and_false, Bool.false_and, Bool.and_true, Bool.true_and]
  · cases hb
/-! hotspot/hotspotref22.Same -/
noncomputable def F16_L1 (p0 : List Int) (p1 : List Int) (v1_1 : Int) : Option (Lp (Int) ((Unit) ⊕ (Bool))) :=
  bif (bLt v1_1 (p0.length : Nat)) then (need (inb v1_1 p0.length) <| need (inb v1_1 p1.length) <| bif (!bEq (gd p0 v1_1.toNat) (gd p1 v1_1.toNat)) then (some (.done (.inr false))) else (some (.next (wr .i64 (v1_1 + 1))))) else (some (.done (.inl ())))
noncomputable def F16 (p0 : List Int) (p1 : List Int) : Option (Bool) :=
  bif (!bEq (p0.length : Nat) (p1.length : Nat)) then (some false) else (lp (loopD (fun s => F16_L1 p0 p1 s) 0) (fun e => some true) some)
noncomputable def body16 : List AV → AR
  | [v0, v1] => .pure (lK k_u8 1 v0 ∧ lK k_u8 1 v1 ∧ (F16 (lA g_u8 v0) (lA g_u8 v1)).isSome = true) (.bool (gt (F16 (lA g_u8 v0) (lA g_u8 v1))))
  | _ => .fail
set_option maxHeartbeats 4000000 in
set_option maxRecDepth 20000 in
theorem ok16 : FnOk Try.prog 16 (pureC body16) := by
  refine pure_fnM body16 (rs := [.tmp 4]) Try.func16 (by kernel_rfl) rfl rfl ?_
  intro l ob v hb hob
  unfold body16 at hb
  split at hb
  · rename_i v0 v1
    injection hb with q1 q2; subst q1 q2
    obtain ⟨hk0_0, hk1_0, hob⟩ := hob
    obtain ⟨r, H⟩ := Option.isSome_iff_exists.1 hob
    rw [H, gt_some]
    have hw0 := lK_wk (fun r h => w_u8 h) hk0_0
    have hw1 := lK_wk (fun r h => w_u8 h) hk1_0
    generalize lA g_u8 v0 = p0 at H hw0
    generalize lA g_u8 v1 = p1 at H hw1
    refine ⟨[.ro 1 p0.length false (enR c_u8 p0), .ro 1 p1.length false (enR c_u8 p1)], _, (fun E vs F => FR_wk1 hw0.1 F (fun vs F => FR_wk1 hw1.1 F (fun vs F => F))), rfl, rfl, ?_⟩
    rw [Try.ntmps16]
    simp only [List.length_cons, List.length_nil, Nat.reduceAdd, Nat.reduceSub, List.replicate_succ, List.replicate_zero, List.cons_append, List.nil_append]
    unfold F16 at H
    try dsimp only at H
    refine sq ctNo_ok ?_
    simp only [go_sem, Nat.reduceLeDiff, Nat.reduceLT, Nat.reduceAdd, Nat.reduceMul, Nat.reduceSub, Nat.reduceEqDiff, Nat.reduceBEq, Int.reduceToNat, reduceCtorEq]
    refine seqM ?_
    refine sq ctNo_ok ?_
    simp only [go_sem, Nat.reduceLeDiff, Nat.reduceLT, Nat.reduceAdd, Nat.reduceMul, Nat.reduceSub, Nat.reduceEqDiff, Nat.reduceBEq, Int.reduceToNat, reduceCtorEq]
    repeat ((with_reducible refine And.intro ?_ ?_); focus (first | (with_reducible trivial) | omega | (and_intros <;> first | (with_reducible trivial) | omega | assumption | exact nfc | first | exact rfl | exact trivial | exact fitI | exact Or.inr rfl | exact Or.inl rfl | exact fun x hx => absurd hx (by omega) | (intro x hx; (repeat (first | (and_intros <;> (first | exact rfl | exact trivial | exact fitI | exact Or.inr rfl | exact Or.inl rfl | exact fun x hx => absurd hx (by omega))) | (exfalso; omega) | (rcases x with _ | x))); done)) | grind))
    refine condM rfl trivial (fun hc => ?_) (fun hc => ?_)
    · replace H := cond_t hc H
      refine sq ctNo_ok ?_
      simp only [go_sem, Nat.reduceLeDiff, Nat.reduceLT, Nat.reduceAdd, Nat.reduceMul, Nat.reduceSub, Nat.reduceEqDiff, Nat.reduceBEq, Int.reduceToNat, reduceCtorEq]
      refine rg ctNo_ok ?_
      simp only [go_sem, Nat.reduceLeDiff, Nat.reduceLT, Nat.reduceAdd, Nat.reduceMul, Nat.reduceSub, Nat.reduceEqDiff, Nat.reduceBEq, Int.reduceToNat, reduceCtorEq]
      obtain rfl := Option.some.inj H
      first | rfl | simp only [Bool.and_false, Bool.false_and, Bool.and_true, Bool.true_and]
    replace H := cond_f hc H
    refine rg ctNo_ok ?_
    simp only [go_sem, Nat.reduceLeDiff, Nat.reduceLT, Nat.reduceAdd, Nat.reduceMul, Nat.reduceSub, Nat.reduceEqDiff, Nat.reduceBEq, Int.reduceToNat, reduceCtorEq]
    refine seqM ?_
    refine sq ctNo_ok ?_
    simp only [go_sem, Nat.reduceLeDiff, Nat.reduceLT, Nat.reduceAdd, Nat.reduceMul, Nat.reduceSub, Nat.reduceEqDiff, Nat.reduceBEq, Int.reduceToNat, reduceCtorEq]
    refine blkM ?_
    refine loop_den (fun s : Int => [.ro 1 p0.length false (enR c_u8 p0), .ro 1 p1.length false (enR c_u8 p1), .top, .top, .top, .int .i64 s, .top, .top, .top, .top, .top, .top, .top, .top, .top, .top, .top, .top, .top, .top, .top, .top, .top, .top, .top, .top]) (fun s => []) (fun e : Unit => [.top, .top, .top, .top, .top, .top, .top, .top, .top, .top, .top, .top, .top, .top, .top, .top, .top, .top, .top, .top, .top, .top, .top, .top, .top, .top]) (fun e => []) H ?_ (fun v1_1 o H hn1_1 hn2_1 => ?_) (fun e H => ?_)
    · refine SubF_of ⟨[], ?_, ?_, by rfl, by rfl⟩
      · simp [CvL, Cv, getM]
      · trivial
    · unfold F16_L1 at H
      try dsimp only at H ⊢
      refine seqM ?_
      refine sq ctNo_ok ?_
      simp only [go_sem, Nat.reduceLeDiff, Nat.reduceLT, Nat.reduceAdd, Nat.reduceMul, Nat.reduceSub, Nat.reduceEqDiff, Nat.reduceBEq, Int.reduceToNat, reduceCtorEq]
      repeat ((with_reducible refine And.intro ?_ ?_); focus (first | (with_reducible trivial) | omega | (and_intros <;> first | (with_reducible trivial) | omega | assumption | exact nfc | first | exact rfl | exact trivial | exact fitI | exact Or.inr rfl | exact Or.inl rfl | exact fun x hx => absurd hx (by omega) | (intro x hx; (repeat (first | (and_intros <;> (first | exact rfl | exact trivial | exact fitI | exact Or.inr rfl | exact Or.inl rfl | exact fun x hx => absurd hx (by omega))) | (exfalso; omega) | (rcases x with _ | x))); done)) | grind))
      refine condM' rfl trivial (fun hc => ?_) (fun hc => ?_)
      · replace H := cond_f hc H
        refine rg ctNo_ok ?_
        simp only [go_sem, Nat.reduceLeDiff, Nat.reduceLT, Nat.reduceAdd, Nat.reduceMul, Nat.reduceSub, Nat.reduceEqDiff, Nat.reduceBEq, Int.reduceToNat, reduceCtorEq]
        refine ⟨_, (Option.some.inj H).symm, ?_⟩
        refine SubF_of ⟨[], ?_, ?_, by rfl, by rfl⟩
        · simp [CvL, Cv, getM]
        · trivial
      replace H := cond_t hc H
      refine rg ctNo_ok ?_
      simp only [go_sem, Nat.reduceLeDiff, Nat.reduceLT, Nat.reduceAdd, Nat.reduceMul, Nat.reduceSub, Nat.reduceEqDiff, Nat.reduceBEq, Int.reduceToNat, reduceCtorEq]
      refine seqM ?_
      refine blkM ?_
      refine seqM ?_
      obtain ⟨f1, H⟩ := need_some.1 H
      replace f1 := inb_iff.1 f1
      obtain ⟨f2, H⟩ := need_some.1 H
      replace f2 := inb_iff.1 f2
      refine draw_quiet shT_ok ctNo_ok (by kernel_rfl) (by kernel_rfl) ?_
      simp only [go_sem, Nat.reduceLeDiff, Nat.reduceLT, Nat.reduceAdd, Nat.reduceMul, Nat.reduceSub, Nat.reduceEqDiff, Nat.reduceBEq, Int.reduceToNat, reduceCtorEq, f1, f2]
      repeat ((with_reducible refine And.intro ?_ ?_); focus (first | (with_reducible trivial) | omega | grind))
      refine condM rfl trivial (fun hc => ?_) (fun hc => ?_)
      · replace H := cond_t hc H
        refine sq ctNo_ok ?_
        simp only [go_sem, Nat.reduceLeDiff, Nat.reduceLT, Nat.reduceAdd, Nat.reduceMul, Nat.reduceSub, Nat.reduceEqDiff, Nat.reduceBEq, Int.reduceToNat, reduceCtorEq]
        refine rg ctNo_ok ?_
        simp only [go_sem, Nat.reduceLeDiff, Nat.reduceLT, Nat.reduceAdd, Nat.reduceMul, Nat.reduceSub, Nat.reduceEqDiff, Nat.reduceBEq, Int.reduceToNat, reduceCtorEq]
        have H := hn2_1 _ (Option.some.inj H).symm
        obtain rfl := Option.some.inj H
        first | rfl | simp only [Bool.and_false, Bool.false_and, Bool.and_true, Bool.true_and]
      replace H := cond_f hc H
      refine rg ctNo_ok ?_
      simp only [go_sem, Nat.reduceLeDiff, Nat.reduceLT, Nat.reduceAdd, Nat.reduceMul, Nat.reduceSub, Nat.reduceEqDiff, Nat.reduceBEq, Int.reduceToNat, reduceCtorEq]
      refine rg ctNo_ok ?_
      simp only [go_sem, Nat.reduceLeDiff, Nat.reduceLT, Nat.reduceAdd, Nat.reduceMul, Nat.reduceSub, Nat.reduceEqDiff, Nat.reduceBEq, Int.reduceToNat, reduceCtorEq]
      refine ⟨_, (Option.some.inj H).symm, ?_⟩
      refine SubF_of ⟨[], ?_, ?_, by rfl, by rfl⟩
      · simp [CvL, Cv, getM]
      · trivial
    · try dsimp only at H ⊢
      try simp only [m_normal, k_normal, b_normal, kL_normal, r_normal]
      refine sq ctNo_ok ?_
      simp only [go_sem, Nat.reduceLeDiff, Nat.reduceLT, Nat.reduceAdd, Nat.reduceMul, Nat.reduceSub, Nat.reduceEqDiff, Nat.reduceBEq, Int.reduceToNat, reduceCtorEq]
      refine rg ctNo_ok ?_
      simp only [go_sem, Nat.reduceLeDiff, Nat.reduceLT, Nat.reduceAdd, Nat.reduceMul, Nat.reduceSub, Nat.reduceEqDiff, Nat.reduceBEq, Int.reduceToNat, reduceCtorEq]
      obtain rfl := Option.some.inj H
      first | rfl | simp only [Bool.and_false, Bool.false_and, Bool.and_true, Bool.true_and]
  · cases hb
/-! hotspot/hotspotref41.Decode -/
noncomputable def ct15t0 : Ct := tab [(38, pureC body38)]
theorem ct15t0_ok : CtOk Try.prog ct15t0 := tab_cons ok38 <| tab_nil
theorem ct15t0_38 (l : List AV) (h : List ABlk) : ct15t0 38 l h = pureC body38 l h := rfl
noncomputable def ct15t1 : Ct := tab [(13, edC body13)]
theorem ct15t1_ok : CtOk Try.prog ct15t1 := tab_cons ok13 <| tab_nil
theorem ct15t1_13 (l : List AV) (h : List ABlk) : ct15t1 13 l h = edC body13 l h := rfl
noncomputable def ct15t2 : Ct := tab [(16, pureC body16)]
theorem ct15t2_ok : CtOk Try.prog ct15t2 := tab_cons ok16 <| tab_nil
theorem ct15t2_16 (l : List AV) (h : List ABlk) : ct15t2 16 l h = pureC body16 l h := rfl
noncomputable def F15 (p0 : List Int) : Option (TMeshFrame × Int) :=
  need (bif (!(bLt (p0.length : Nat) 28)) then inb 0 p0.length else true) <| bif ((bLt (p0.length : Nat) 28) || ((bEq (gd p0 0) 1) && (bLt (p0.length : Nat) 40))) then (some ((TMeshFrame.mk (A6u8.mk 0 0 0 0 0 0) (A6u8.mk 0 0 0 0 0 0) (A6u8.mk 0 0 0 0 0 0) (A6u8.mk 0 0 0 0 0 0) (A6u8.mk 0 0 0 0 0 0) (A6u8.mk 0 0 0 0 0 0) 0 0 []), 10)) else (need (inb 0 p0.length) <| bif (bLt 1 (gd p0 0)) then (some ((TMeshFrame.mk (A6u8.mk 0 0 0 0 0 0) (A6u8.mk 0 0 0 0 0 0) (A6u8.mk 0 0 0 0 0 0) (A6u8.mk 0 0 0 0 0 0) (A6u8.mk 0 0 0 0 0 0) (A6u8.mk 0 0 0 0 0 0) 0 0 []), 12)) else (need (inb 1 p0.length) <| need (inb 2 p0.length) <| need (inb 3 p0.length) <| need (slb 4 (p0.length : Nat) p0.length) <| (F38 (deR g_u8 (p0.length - 4) (enR c_u8 (p0.drop 4)))).bind fun r7 => need (slb 10 (p0.length : Nat) p0.length) <| (F38 (deR g_u8 (p0.length - 10) (enR c_u8 (p0.drop 10)))).bind fun r10 => need (slb 16 (p0.length : Nat) p0.length) <| (F38 (deR g_u8 (p0.length - 16) (enR c_u8 (p0.drop 16)))).bind fun r13 => need (slb 22 (p0.length : Nat) p0.length) <| (F38 (deR g_u8 (p0.length - 22) (enR c_u8 (p0.drop 22)))).bind fun r16 => need (slb 28 (p0.length : Nat) p0.length) <| need (inb 0 p0.length) <| bif (bEq (gd p0 0) 1) then (need (slb 28 (p0.length : Nat) p0.length) <| (F38 (deR g_u8 (p0.length - 28) (enR c_u8 (p0.drop 28)))).bind fun r21 => need (slb 34 (p0.length : Nat) p0.length) <| (F38 (deR g_u8 (p0.length - 34) (enR c_u8 (p0.drop 34)))).bind fun r24 => need (slb 40 (p0.length : Nat) p0.length) <| need (capb 1 (p0.length - 40)) <| (some (p0.drop 40)).bind fun w28 => (F13 (TMeshFrame.mk (A6u8.mk r7.x0 r7.x1 r7.x2 r7.x3 r7.x4 r7.x5) (A6u8.mk r10.x0 r10.x1 r10.x2 r10.x3 r10.x4 r10.x5) (A6u8.mk r13.x0 r13.x1 r13.x2 r13.x3 r13.x4 r13.x5) (A6u8.mk r16.x0 r16.x1 r16.x2 r16.x3 r16.x4 r16.x5) (A6u8.mk r21.x0 r21.x1 r21.x2 r21.x3 r21.x4 r21.x5) (A6u8.mk r24.x0 r24.x1 r24.x2 r24.x3 r24.x4 r24.x5) (wr .i64 ((wr .i64 (gd p0 2)) + (wr .i64 (256 * (wr .i64 (gd p0 3)))))) (wr .i64 (gd p0 1)) w28)).bind fun r30 => need (bif (!(!bEq r30.2 0)) then ((F16 r30.1 p0).isSome) else true) <| bif ((!bEq r30.2 0) || (!(gt (F16 r30.1 p0)))) then (some ((TMeshFrame.mk (A6u8.mk 0 0 0 0 0 0) (A6u8.mk 0 0 0 0 0 0) (A6u8.mk 0 0 0 0 0 0) (A6u8.mk 0 0 0 0 0 0) (A6u8.mk 0 0 0 0 0 0) (A6u8.mk 0 0 0 0 0 0) 0 0 []), 12)) else (some ((TMeshFrame.mk (A6u8.mk r7.x0 r7.x1 r7.x2 r7.x3 r7.x4 r7.x5) (A6u8.mk r10.x0 r10.x1 r10.x2 r10.x3 r10.x4 r10.x5) (A6u8.mk r13.x0 r13.x1 r13.x2 r13.x3 r13.x4 r13.x5) (A6u8.mk r16.x0 r16.x1 r16.x2 r16.x3 r16.x4 r16.x5) (A6u8.mk r21.x0 r21.x1 r21.x2 r21.x3 r21.x4 r21.x5) (A6u8.mk r24.x0 r24.x1 r24.x2 r24.x3 r24.x4 r24.x5) (wr .i64 ((wr .i64 (gd p0 2)) + (wr .i64 (256 * (wr .i64 (gd p0 3)))))) (wr .i64 (gd p0 1)) w28), 0))) else (need (capb 1 (p0.length - 28)) <| (some (p0.drop 28)).bind fun w34 => (F13 (TMeshFrame.mk (A6u8.mk r7.x0 r7.x1 r7.x2 r7.x3 r7.x4 r7.x5) (A6u8.mk r10.x0 r10.x1 r10.x2 r10.x3 r10.x4 r10.x5) (A6u8.mk r13.x0 r13.x1 r13.x2 r13.x3 r13.x4 r13.x5) (A6u8.mk r16.x0 r16.x1 r16.x2 r16.x3 r16.x4 r16.x5) (A6u8.mk r13.x0 r13.x1 r13.x2 r13.x3 r13.x4 r13.x5) (A6u8.mk r16.x0 r16.x1 r16.x2 r16.x3 r16.x4 r16.x5) (wr .i64 ((wr .i64 (gd p0 2)) + (wr .i64 (256 * (wr .i64 (gd p0 3)))))) (wr .i64 (gd p0 1)) w34)).bind fun r36 => need (bif (!(!bEq r36.2 0)) then ((F16 r36.1 p0).isSome) else true) <| bif ((!bEq r36.2 0) || (!(gt (F16 r36.1 p0)))) then (some ((TMeshFrame.mk (A6u8.mk 0 0 0 0 0 0) (A6u8.mk 0 0 0 0 0 0) (A6u8.mk 0 0 0 0 0 0) (A6u8.mk 0 0 0 0 0 0) (A6u8.mk 0 0 0 0 0 0) (A6u8.mk 0 0 0 0 0 0) 0 0 []), 12)) else (some ((TMeshFrame.mk (A6u8.mk r7.x0 r7.x1 r7.x2 r7.x3 r7.x4 r7.x5) (A6u8.mk r10.x0 r10.x1 r10.x2 r10.x3 r10.x4 r10.x5) (A6u8.mk r13.x0 r13.x1 r13.x2 r13.x3 r13.x4 r13.x5) (A6u8.mk r16.x0 r16.x1 r16.x2 r16.x3 r16.x4 r16.x5) (A6u8.mk r13.x0 r13.x1 r13.x2 r13.x3 r13.x4 r13.x5) (A6u8.mk r16.x0 r16.x1 r16.x2 r16.x3 r16.x4 r16.x5) (wr .i64 ((wr .i64 (gd p0 2)) + (wr .i64 (256 * (wr .i64 (gd p0 3)))))) (wr .i64 (gd p0 1)) w34), 0)))))
noncomputable def body15 : List AV → List ABlk → ED
  | [v0], h => .ed [] (lK k_u8 1 (roD (deadL h []) v0) ∧ roDOb (deadL h []) v0 ∧ (F15 (lA g_u8 (roD (deadL h []) v0))).isSome = true) (.tup [.agg (.int .u8 ((((gt (F15 (lA g_u8 (roD (deadL h []) v0)))).1).From).x0) :: .int .u8 ((((gt (F15 (lA g_u8 (roD (deadL h []) v0)))).1).From).x1) :: .int .u8 ((((gt (F15 (lA g_u8 (roD (deadL h []) v0)))).1).From).x2) :: .int .u8 ((((gt (F15 (lA g_u8 (roD (deadL h []) v0)))).1).From).x3) :: .int .u8 ((((gt (F15 (lA g_u8 (roD (deadL h []) v0)))).1).From).x4) :: .int .u8 ((((gt (F15 (lA g_u8 (roD (deadL h []) v0)))).1).From).x5) :: .int .u8 ((((gt (F15 (lA g_u8 (roD (deadL h []) v0)))).1).To).x0) :: .int .u8 ((((gt (F15 (lA g_u8 (roD (deadL h []) v0)))).1).To).x1) :: .int .u8 ((((gt (F15 (lA g_u8 (roD (deadL h []) v0)))).1).To).x2) :: .int .u8 ((((gt (F15 (lA g_u8 (roD (deadL h []) v0)))).1).To).x3) :: .int .u8 ((((gt (F15 (lA g_u8 (roD (deadL h []) v0)))).1).To).x4) :: .int .u8 ((((gt (F15 (lA g_u8 (roD (deadL h []) v0)))).1).To).x5) :: .int .u8 ((((gt (F15 (lA g_u8 (roD (deadL h []) v0)))).1).Enter).x0) :: .int .u8 ((((gt (F15 (lA g_u8 (roD (deadL h []) v0)))).1).Enter).x1) :: .int .u8 ((((gt (F15 (lA g_u8 (roD (deadL h []) v0)))).1).Enter).x2) :: .int .u8 ((((gt (F15 (lA g_u8 (roD (deadL h []) v0)))).1).Enter).x3) :: .int .u8 ((((gt (F15 (lA g_u8 (roD (deadL h []) v0)))).1).Enter).x4) :: .int .u8 ((((gt (F15 (lA g_u8 (roD (deadL h []) v0)))).1).Enter).x5) :: .int .u8 ((((gt (F15 (lA g_u8 (roD (deadL h []) v0)))).1).Leave).x0) :: .int .u8 ((((gt (F15 (lA g_u8 (roD (deadL h []) v0)))).1).Leave).x1) :: .int .u8 ((((gt (F15 (lA g_u8 (roD (deadL h []) v0)))).1).Leave).x2) :: .int .u8 ((((gt (F15 (lA g_u8 (roD (deadL h []) v0)))).1).Leave).x3) :: .int .u8 ((((gt (F15 (lA g_u8 (roD (deadL h []) v0)))).1).Leave).x4) :: .int .u8 ((((gt (F15 (lA g_u8 (roD (deadL h []) v0)))).1).Leave).x5) :: .int .u8 ((((gt (F15 (lA g_u8 (roD (deadL h []) v0)))).1).Source).x0) :: .int .u8 ((((gt (F15 (lA g_u8 (roD (deadL h []) v0)))).1).Source).x1) :: .int .u8 ((((gt (F15 (lA g_u8 (roD (deadL h []) v0)))).1).Source).x2) :: .int .u8 ((((gt (F15 (lA g_u8 (roD (deadL h []) v0)))).1).Source).x3) :: .int .u8 ((((gt (F15 (lA g_u8 (roD (deadL h []) v0)))).1).Source).x4) :: .int .u8 ((((gt (F15 (lA g_u8 (roD (deadL h []) v0)))).1).Source).x5) :: .int .u8 ((((gt (F15 (lA g_u8 (roD (deadL h []) v0)))).1).Target).x0) :: .int .u8 ((((gt (F15 (lA g_u8 (roD (deadL h []) v0)))).1).Target).x1) :: .int .u8 ((((gt (F15 (lA g_u8 (roD (deadL h []) v0)))).1).Target).x2) :: .int .u8 ((((gt (F15 (lA g_u8 (roD (deadL h []) v0)))).1).Target).x3) :: .int .u8 ((((gt (F15 (lA g_u8 (roD (deadL h []) v0)))).1).Target).x4) :: .int .u8 ((((gt (F15 (lA g_u8 (roD (deadL h []) v0)))).1).Target).x5) :: .int .i64 (((gt (F15 (lA g_u8 (roD (deadL h []) v0)))).1).Seq) :: .int .i64 (((gt (F15 (lA g_u8 (roD (deadL h []) v0)))).1).Ttl) :: .sl 0 1 0 ((((gt (F15 (lA g_u8 (roD (deadL h []) v0)))).1).Data).length) false :: []), .int .i64 ((gt (F15 (lA g_u8 (roD (deadL h []) v0)))).2)]) [.row 5 1 ((((gt (F15 (lA g_u8 (roD (deadL h []) v0)))).1).Data).length) (enR c_u8 (((gt (F15 (lA g_u8 (roD (deadL h []) v0)))).1).Data))]
  | _, _ => .fail
set_option maxHeartbeats 4000000 in
set_option maxRecDepth 20000 in
theorem ok15 : FnOk Try.prog 15 (edC body15) := by
  refine edit_fnV body15 (rs := [.cell 2 26, .tmp 3]) Try.func15 (by kernel_rfl) rfl rfl ?_
  intro l h bs ob q0 g0 hb hob
  unfold body15 at hb
  split at hb
  · rename_i v0
    injection hb with q1 q2 q3 q4; subst q1 q2 q3 q4
    obtain ⟨hk0_0, hk0_1, hob⟩ := hob
    obtain ⟨r, H⟩ := Option.isSome_iff_exists.1 hob
    rw [H, gt_some]
    have hw0 := lK_wk (fun r h => w_u8 h) hk0_0
    obtain ⟨p0, hp_p0⟩ : ∃ p0, p0 = lA g_u8 (roD (deadL h []) v0) := ⟨_, rfl⟩
    rw [← hp_p0] at H hw0
    refine ⟨[.ro 1 p0.length false (enR c_u8 p0)], [], rfl, ⟨(EW_view hk0_1 hw0), trivial⟩, trivial, trivial, ⟨(nfB_en nr_u8), trivial⟩, ⟨noroB_en, trivial⟩, (by first | (simp only [noro, noroL, and_self]; done) | (simp only [noro, noroL]; and_intros <;> first | trivial | exact noro_bif (by simp only [noro]) (by simp only [noro]) | (simp only [noro, noroL, and_self]))), ?_⟩
    rw [Try.ntmps15]
    simp only [List.length_cons, List.length_nil, Nat.reduceAdd, Nat.reduceSub, List.replicate_succ, List.replicate_zero, List.cons_append, List.nil_append]
    unfold F15 at H
    try dsimp only at H
    refine sq ctNo_ok ?_
    simp only [go_sem, Nat.reduceLeDiff, Nat.reduceLT, Nat.reduceAdd, Nat.reduceMul, Nat.reduceSub, Nat.reduceEqDiff, Nat.reduceBEq, Int.reduceToNat, reduceCtorEq]
    refine seqM ?_
    refine seqM ?_
    obtain ⟨f1, H⟩ := need_some.1 H
    replace f1 := g_iff.1 f1
    replace f1 := fun g => inb_iff.1 (f1 g)
    refine rg ctNo_ok ?_
    simp only [go_sem, Nat.reduceLeDiff, Nat.reduceLT, Nat.reduceAdd, Nat.reduceMul, Nat.reduceSub, Nat.reduceEqDiff, Nat.reduceBEq, Int.reduceToNat, reduceCtorEq]
    repeat ((with_reducible refine And.intro ?_ ?_); focus (first | (with_reducible trivial) | omega | exact f1 | (intro g; have q := f1 (by first | exact g | (rw [g]; rfl) | simpa using g); first | exact q | exact ⟨q.1, q.2.1⟩ | exact q.2.2 | omega | exact ⟨g, q⟩ | exact ⟨trivial, q⟩ | exact ⟨g, q.1, q.2.1⟩ | exact ⟨g, q.2.2⟩) | (intro g; (try have q0 := f1 (by first | exact g | (rw [g]; rfl) | simpa using g)); and_intros <;> first | (with_reducible trivial) | assumption | exact nfc | (intro g2; rw [g, g2]; rfl) | (intro g2; assumption) | (simp only [g, Bool.true_and, Bool.and_true, Bool.not_false, Bool.not_true]; assumption) | grind) | (and_intros <;> first | (with_reducible trivial) | omega | assumption | exact nfc | first | exact rfl | exact trivial | exact fitI | exact Or.inr rfl | exact Or.inl rfl | exact fun x hx => absurd hx (by omega) | (intro x hx; (repeat (first | (and_intros <;> (first | exact rfl | exact trivial | exact fitI | exact Or.inr rfl | exact Or.inl rfl | exact fun x hx => absurd hx (by omega))) | (exfalso; omega) | (rcases x with _ | x))); done)) | grind))
    refine condM rfl trivial (fun hc => ?_) (fun hc => ?_)
    · replace H := cond_t hc H
      refine sq ctNo_ok ?_
      simp only [go_sem, Nat.reduceLeDiff, Nat.reduceLT, Nat.reduceAdd, Nat.reduceMul, Nat.reduceSub, Nat.reduceEqDiff, Nat.reduceBEq, Int.reduceToNat, reduceCtorEq]
      repeat ((with_reducible refine And.intro ?_ ?_); focus (first | (with_reducible trivial) | omega | grind))
      refine rg ctNo_ok ?_
      simp only [go_sem, Nat.reduceLeDiff, Nat.reduceLT, Nat.reduceAdd, Nat.reduceMul, Nat.reduceSub, Nat.reduceEqDiff, Nat.reduceBEq, Int.reduceToNat, reduceCtorEq]
      obtain rfl := Option.some.inj H
      refine RetE_mk [] [none] ?_ ?_ ?_ ?_ (by rfl) (by rfl)
      · simp only [List.length_cons, List.length_nil, Nat.zero_mul, Nat.add_zero, fzV, fzL, fzOb, fzObL, fzH, fzHF, fzB, fzObB, fzObH, inL, rowOb, geth, cond_true, cond_false, Bool.or_false, Bool.or_true, Bool.false_or, Bool.true_or, and_self, true_and, and_true, Nat.reduceEqDiff, Nat.reduceBEq, beq_self_eq_true, sub_enR0, Nat.reduceAdd, Nat.zero_add, Nat.le_refl, List.nil_append]
        try (and_intros <;> first | trivial | omega | exact nfc)
      · simp only [List.length_cons, List.length_nil, Nat.zero_mul, Nat.add_zero, fzV, fzL, fzOb, fzObL, fzH, fzHF, fzB, fzObB, fzObH, inL, rowOb, geth, cond_true, cond_false, Bool.or_false, Bool.or_true, Bool.false_or, Bool.true_or, and_self, true_and, and_true, Nat.reduceEqDiff, Nat.reduceBEq, beq_self_eq_true, sub_enR0, Nat.reduceAdd, Nat.zero_add, Nat.le_refl, List.nil_append]
        try (and_intros <;> first | trivial | omega | exact nfc)
      · simp only [List.length_cons, List.length_nil, Nat.zero_mul, Nat.add_zero, fzV, fzL, fzOb, fzObL, fzH, fzHF, fzB, fzObB, fzObH, inL, rowOb, geth, cond_true, cond_false, Bool.or_false, Bool.or_true, Bool.false_or, Bool.true_or, and_self, true_and, and_true, Nat.reduceEqDiff, Nat.reduceBEq, beq_self_eq_true, sub_enR0, Nat.reduceAdd, Nat.zero_add, Nat.le_refl, List.nil_append]
        exact Cv_tup (CvL_cons (by first | (simp [Cv, CvL, getM, gt_some]; done) | (simp [Cv, CvL, getM, gt_some]; omega)) (CvL_cons (by simp [Cv, CvL, getM, gt_some]) CvL_nil))
      · simp only [List.length_cons, List.length_nil, Nat.zero_mul, Nat.add_zero, fzV, fzL, fzOb, fzObL, fzH, fzHF, fzB, fzObB, fzObH, inL, rowOb, geth, cond_true, cond_false, Bool.or_false, Bool.or_true, Bool.false_or, Bool.true_or, and_self, true_and, and_true, Nat.reduceEqDiff, Nat.reduceBEq, beq_self_eq_true, sub_enR0, Nat.reduceAdd, Nat.zero_add, Nat.le_refl, List.nil_append, CvH, gt_some, Option.isSome_some, Option.isSome_none]
        exact CvB_none
    replace H := cond_f hc H
    refine rg ctNo_ok ?_
    simp only [go_sem, Nat.reduceLeDiff, Nat.reduceLT, Nat.reduceAdd, Nat.reduceMul, Nat.reduceSub, Nat.reduceEqDiff, Nat.reduceBEq, Int.reduceToNat, reduceCtorEq]
    refine seqM ?_
    refine seqM ?_
    obtain ⟨f2, H⟩ := need_some.1 H
    replace f2 := inb_iff.1 f2
    refine rg ctNo_ok ?_
    simp only [go_sem, Nat.reduceLeDiff, Nat.reduceLT, Nat.reduceAdd, Nat.reduceMul, Nat.reduceSub, Nat.reduceEqDiff, Nat.reduceBEq, Int.reduceToNat, reduceCtorEq, f2]
    repeat ((with_reducible refine And.intro ?_ ?_); focus (first | (with_reducible trivial) | omega | grind))
    refine condM rfl trivial (fun hc => ?_) (fun hc => ?_)
    · replace H := cond_t hc H
      refine sq ctNo_ok ?_
      simp only [go_sem, Nat.reduceLeDiff, Nat.reduceLT, Nat.reduceAdd, Nat.reduceMul, Nat.reduceSub, Nat.reduceEqDiff, Nat.reduceBEq, Int.reduceToNat, reduceCtorEq]
      repeat ((with_reducible refine And.intro ?_ ?_); focus (first | (with_reducible trivial) | omega | grind))
      refine rg ctNo_ok ?_
      simp only [go_sem, Nat.reduceLeDiff, Nat.reduceLT, Nat.reduceAdd, Nat.reduceMul, Nat.reduceSub, Nat.reduceEqDiff, Nat.reduceBEq, Int.reduceToNat, reduceCtorEq]
      obtain rfl := Option.some.inj H
      refine RetE_mk [] [none] ?_ ?_ ?_ ?_ (by rfl) (by rfl)
      · simp only [List.length_cons, List.length_nil, Nat.zero_mul, Nat.add_zero, fzV, fzL, fzOb, fzObL, fzH, fzHF, fzB, fzObB, fzObH, inL, rowOb, geth, cond_true, cond_false, Bool.or_false, Bool.or_true, Bool.false_or, Bool.true_or, and_self, true_and, and_true, Nat.reduceEqDiff, Nat.reduceBEq, beq_self_eq_true, sub_enR0, Nat.reduceAdd, Nat.zero_add, Nat.le_refl, List.nil_append]
        try (and_intros <;> first | trivial | omega | exact nfc)
      · simp only [List.length_cons, List.length_nil, Nat.zero_mul, Nat.add_zero, fzV, fzL, fzOb, fzObL, fzH, fzHF, fzB, fzObB, fzObH, inL, rowOb, geth, cond_true, cond_false, Bool.or_false, Bool.or_true, Bool.false_or, Bool.true_or, and_self, true_and, and_true, Nat.reduceEqDiff, Nat.reduceBEq, beq_self_eq_true, sub_enR0, Nat.reduceAdd, Nat.zero_add, Nat.le_refl, List.nil_append]
        try (and_intros <;> first | trivial | omega | exact nfc)
      · simp only [List.length_cons, List.length_nil, Nat.zero_mul, Nat.add_zero, fzV, fzL, fzOb, fzObL, fzH, fzHF, fzB, fzObB, fzObH, inL, rowOb, geth, cond_true, cond_false, Bool.or_false, Bool.or_true, Bool.false_or, Bool.true_or, and_self, true_and, and_true, Nat.reduceEqDiff, Nat.reduceBEq, beq_self_eq_true, sub_enR0, Nat.reduceAdd, Nat.zero_add, Nat.le_refl, List.nil_append]
        exact Cv_tup (CvL_cons (by first | (simp [Cv, CvL, getM, gt_some]; done) | (simp [Cv, CvL, getM, gt_some]; omega)) (CvL_cons (by simp [Cv, CvL, getM, gt_some]) CvL_nil))
      · simp only [List.length_cons, List.length_nil, Nat.zero_mul, Nat.add_zero, fzV, fzL, fzOb, fzObL, fzH, fzHF, fzB, fzObB, fzObH, inL, rowOb, geth, cond_true, cond_false, Bool.or_false, Bool.or_true, Bool.false_or, Bool.true_or, and_self, true_and, and_true, Nat.reduceEqDiff, Nat.reduceBEq, beq_self_eq_true, sub_enR0, Nat.reduceAdd, Nat.zero_add, Nat.le_refl, List.nil_append, CvH, gt_some, Option.isSome_some, Option.isSome_none]
        exact CvB_none
    replace H := cond_f hc H
    refine rg ctNo_ok ?_
    simp only [go_sem, Nat.reduceLeDiff, Nat.reduceLT, Nat.reduceAdd, Nat.reduceMul, Nat.reduceSub, Nat.reduceEqDiff, Nat.reduceBEq, Int.reduceToNat, reduceCtorEq]
    refine seqM ?_
    obtain ⟨f3, H⟩ := need_some.1 H
    replace f3 := inb_iff.1 f3
    obtain ⟨f4, H⟩ := need_some.1 H
    replace f4 := inb_iff.1 f4
    obtain ⟨f5, H⟩ := need_some.1 H
    replace f5 := inb_iff.1 f5
    obtain ⟨f6, H⟩ := need_some.1 H
    replace f6 := slb_iff.1 f6
    obtain ⟨r7, e8, H⟩ := Option.bind_eq_some_iff.1 H
    (try simp only [go_sem, Nat.reduceLeDiff, Nat.reduceLT, Nat.reduceAdd, Nat.reduceMul, Nat.reduceSub, Nat.reduceEqDiff, Nat.reduceBEq, Int.reduceToNat, reduceCtorEq] at e8)
    obtain ⟨f9, H⟩ := need_some.1 H
    replace f9 := slb_iff.1 f9
    obtain ⟨r10, e11, H⟩ := Option.bind_eq_some_iff.1 H
    (try simp only [go_sem, Nat.reduceLeDiff, Nat.reduceLT, Nat.reduceAdd, Nat.reduceMul, Nat.reduceSub, Nat.reduceEqDiff, Nat.reduceBEq, Int.reduceToNat, reduceCtorEq] at e11)
    obtain ⟨f12, H⟩ := need_some.1 H
    replace f12 := slb_iff.1 f12
    obtain ⟨r13, e14, H⟩ := Option.bind_eq_some_iff.1 H
    (try simp only [go_sem, Nat.reduceLeDiff, Nat.reduceLT, Nat.reduceAdd, Nat.reduceMul, Nat.reduceSub, Nat.reduceEqDiff, Nat.reduceBEq, Int.reduceToNat, reduceCtorEq] at e14)
    obtain ⟨f15, H⟩ := need_some.1 H
    replace f15 := slb_iff.1 f15
    obtain ⟨r16, e17, H⟩ := Option.bind_eq_some_iff.1 H
    (try simp only [go_sem, Nat.reduceLeDiff, Nat.reduceLT, Nat.reduceAdd, Nat.reduceMul, Nat.reduceSub, Nat.reduceEqDiff, Nat.reduceBEq, Int.reduceToNat, reduceCtorEq] at e17)
    refine draw_rule shT_ok ct15t0_ok 1 (by kernel_rfl) (by kernel_rfl) ?_
    intro an han
    simp only [d_nil, d_cons, nxtD, xrD, xoD, roEq, minL, List.append_nil, refsOp, refs, refsL, mask, maskF, place, placeF, okLog, pairOk, hit, inL, slotsF, ren, renL, rnN, nrH, nrB, nrL, nr, dead0, deadS, List.replicate_zero, List.replicate_succ, Nat.sub_self, Nat.add_zero, Nat.zero_add, Nat.reduceSub, Nat.not_lt_zero, Nat.zero_le, Nat.lt_add_one, go_sem, Nat.reduceLeDiff, Nat.reduceLT, Nat.reduceAdd, Nat.reduceMul, Nat.reduceSub, Nat.reduceEqDiff, Nat.reduceBEq, Int.reduceToNat, reduceCtorEq, ct15t0_38, body38, f3, f4, f5, f6, e8, f9, e11, f12, e14, f15, e17]
    repeat ((with_reducible refine And.intro ?_ ?_); focus (and_intros <;> first | (with_reducible trivial) | (show anB _ _ _ = true; subst han; kernel_rfl) | (show (anB _ _ _ && _) = true; subst han; kernel_rfl) | omega | assumption | exact nrc | exact nfc | first | exact rfl | exact trivial | exact fitI | exact Or.inr rfl | exact Or.inl rfl | exact fun x hx => absurd hx (by omega) | (intro x hx; (repeat (first | (and_intros <;> (first | exact rfl | exact trivial | exact fitI | exact Or.inr rfl | exact Or.inl rfl | exact fun x hx => absurd hx (by omega))) | (exfalso; omega) | (rcases x with _ | x))); done)))
    refine sq ctNo_ok ?_
    simp only [go_sem, Nat.reduceLeDiff, Nat.reduceLT, Nat.reduceAdd, Nat.reduceMul, Nat.reduceSub, Nat.reduceEqDiff, Nat.reduceBEq, Int.reduceToNat, reduceCtorEq]
    repeat ((with_reducible refine And.intro ?_ ?_); focus (first | (with_reducible trivial) | omega | grind))
    refine seqM ?_
    obtain ⟨f18, H⟩ := need_some.1 H
    replace f18 := slb_iff.1 f18
    refine rg ctNo_ok ?_
    simp only [go_sem, Nat.reduceLeDiff, Nat.reduceLT, Nat.reduceAdd, Nat.reduceMul, Nat.reduceSub, Nat.reduceEqDiff, Nat.reduceBEq, Int.reduceToNat, reduceCtorEq, f18]
    repeat ((with_reducible refine And.intro ?_ ?_); focus (first | (with_reducible trivial) | omega | grind))
    refine seqM ?_
    refine seqM ?_
    obtain ⟨f19, H⟩ := need_some.1 H
    replace f19 := inb_iff.1 f19
    refine rg ctNo_ok ?_
    simp only [go_sem, Nat.reduceLeDiff, Nat.reduceLT, Nat.reduceAdd, Nat.reduceMul, Nat.reduceSub, Nat.reduceEqDiff, Nat.reduceBEq, Int.reduceToNat, reduceCtorEq, f19]
    repeat ((with_reducible refine And.intro ?_ ?_); focus (first | (with_reducible trivial) | omega | grind))
    refine condM' rfl trivial (fun hc => ?_) (fun hc => ?_)
    · replace H := cond_f hc H
      refine rg ctNo_ok ?_
      simp only [go_sem, Nat.reduceLeDiff, Nat.reduceLT, Nat.reduceAdd, Nat.reduceMul, Nat.reduceSub, Nat.reduceEqDiff, Nat.reduceBEq, Int.reduceToNat, reduceCtorEq]
      refine seqM ?_
      obtain ⟨f33, H⟩ := need_some.1 H
      replace f33 := capb_iff.1 f33
      refine rg ctNo_ok ?_
      simp only [go_sem, Nat.reduceLeDiff, Nat.reduceLT, Nat.reduceAdd, Nat.reduceMul, Nat.reduceSub, Nat.reduceEqDiff, Nat.reduceBEq, Int.reduceToNat, reduceCtorEq, f33]
      repeat ((with_reducible refine And.intro ?_ ?_); focus (first | (with_reducible trivial) | omega | (and_intros <;> first | (with_reducible trivial) | omega | assumption | exact nfc | first | exact rfl | exact trivial | exact fitI | exact Or.inr rfl | exact Or.inl rfl | exact fun x hx => absurd hx (by omega) | (intro x hx; (repeat (first | (and_intros <;> (first | exact rfl | exact trivial | exact fitI | exact Or.inr rfl | exact Or.inl rfl | exact fun x hx => absurd hx (by omega))) | (exfalso; omega) | (rcases x with _ | x))); done)) | grind))
      refine seqM ?_
      obtain ⟨w34, hw35, H⟩ := Option.bind_eq_some_iff.1 H
      replace hw35 := Option.some.inj hw35
      have lhw35 : w34.length = p0.length - 28 := by rw [← hw35]; exact (by rw [List.length_drop])
      refine subF_mean (t2 := (.ro 1 p0.length false (enR c_u8 p0) :: .top :: .ptr 0 0 0 0 :: .int .i64 0 :: .ptr 1 0 0 0 :: .ro 1 (p0.length - 28) false (enR c_u8 (p0.drop 28)) :: .top :: .top :: .ro 1 p0.length false (enR c_u8 p0) :: .int .i64 (p0.length : Nat) :: .bool (bLt (p0.length : Nat) 28) :: .bool (bLt (p0.length : Nat) 28) :: .opt (!(bLt (p0.length : Nat) 28)) (.ro 1 p0.length false (enR c_u8 p0)) :: .opt (!(bLt (p0.length : Nat) 28)) (.rptr 1 p0.length 0 0 (enR c_u8 p0)) :: .opt (!(bLt (p0.length : Nat) 28)) (.int .u8 (gd p0 0)) :: .opt (!(bLt (p0.length : Nat) 28)) (.bool (bEq (gd p0 0) 1)) :: .opt (!(bLt (p0.length : Nat) 28)) (.bool (bEq (gd p0 0) 1)) :: .opt ((!(bLt (p0.length : Nat) 28)) && (bEq (gd p0 0) 1)) (.ro 1 p0.length false (enR c_u8 p0)) :: .opt ((!(bLt (p0.length : Nat) 28)) && (bEq (gd p0 0) 1)) (.int .i64 (p0.length : Nat)) :: .opt ((!(bLt (p0.length : Nat) 28)) && (bEq (gd p0 0) 1)) (.bool (bLt (p0.length : Nat) 40)) :: .opt (!(bLt (p0.length : Nat) 28)) (.bool ((bEq (gd p0 0) 1) && (bLt (p0.length : Nat) 40))) :: .bool ((bLt (p0.length : Nat) 28) || ((bEq (gd p0 0) 1) && (bLt (p0.length : Nat) 40))) :: .top :: .ro 1 p0.length false (enR c_u8 p0) :: .rptr 1 p0.length 0 0 (enR c_u8 p0) :: .int .u8 (gd p0 0) :: .bool (bLt 1 (gd p0 0)) :: .top :: .ro 1 p0.length false (enR c_u8 p0) :: .rptr 1 p0.length 1 0 (enR c_u8 p0) :: .int .u8 (gd p0 1) :: .int .i64 (wr .i64 (gd p0 1)) :: .ro 1 p0.length false (enR c_u8 p0) :: .rptr 1 p0.length 2 0 (enR c_u8 p0) :: .int .u8 (gd p0 2) :: .int .i64 (wr .i64 (gd p0 2)) :: .ro 1 p0.length false (enR c_u8 p0) :: .rptr 1 p0.length 3 0 (enR c_u8 p0) :: .int .u8 (gd p0 3) :: .int .i64 (wr .i64 (gd p0 3)) :: .int .i64 (wr .i64 (256 * (wr .i64 (gd p0 3)))) :: .int .i64 (wr .i64 ((wr .i64 (gd p0 2)) + (wr .i64 (256 * (wr .i64 (gd p0 3)))))) :: .ro 1 p0.length false (enR c_u8 p0) :: .ro 1 (p0.length - 4) false (enR c_u8 (p0.drop 4)) :: .agg [.int .u8 r7.x0, .int .u8 r7.x1, .int .u8 r7.x2, .int .u8 r7.x3, .int .u8 r7.x4, .int .u8 r7.x5] :: .ro 1 p0.length false (enR c_u8 p0) :: .ro 1 (p0.length - 10) false (enR c_u8 (p0.drop 10)) :: .agg [.int .u8 r10.x0, .int .u8 r10.x1, .int .u8 r10.x2, .int .u8 r10.x3, .int .u8 r10.x4, .int .u8 r10.x5] :: .ro 1 p0.length false (enR c_u8 p0) :: .ro 1 (p0.length - 16) false (enR c_u8 (p0.drop 16)) :: .agg [.int .u8 r13.x0, .int .u8 r13.x1, .int .u8 r13.x2, .int .u8 r13.x3, .int .u8 r13.x4, .int .u8 r13.x5] :: .ro 1 p0.length false (enR c_u8 p0) :: .ro 1 (p0.length - 22) false (enR c_u8 (p0.drop 22)) :: .agg [.int .u8 r16.x0, .int .u8 r16.x1, .int .u8 r16.x2, .int .u8 r16.x3, .int .u8 r16.x4, .int .u8 r16.x5] :: .agg (.int .u8 r7.x0 :: .int .u8 r7.x1 :: .int .u8 r7.x2 :: .int .u8 r7.x3 :: .int .u8 r7.x4 :: .int .u8 r7.x5 :: .int .u8 r10.x0 :: .int .u8 r10.x1 :: .int .u8 r10.x2 :: .int .u8 r10.x3 :: .int .u8 r10.x4 :: .int .u8 r10.x5 :: .int .u8 r13.x0 :: .int .u8 r13.x1 :: .int .u8 r13.x2 :: .int .u8 r13.x3 :: .int .u8 r13.x4 :: .int .u8 r13.x5 :: .int .u8 r16.x0 :: .int .u8 r16.x1 :: .int .u8 r16.x2 :: .int .u8 r16.x3 :: .int .u8 r16.x4 :: .int .u8 r16.x5 :: .int .u8 0 :: .int .u8 0 :: .int .u8 0 :: .int .u8 0 :: .int .u8 0 :: .int .u8 0 :: .int .u8 0 :: .int .u8 0 :: .int .u8 0 :: .int .u8 0 :: .int .u8 0 :: .int .u8 0 :: .int .i64 (wr .i64 ((wr .i64 (gd p0 2)) + (wr .i64 (256 * (wr .i64 (gd p0 3)))))) :: .int .i64 (wr .i64 (gd p0 1)) :: .ro 0 0 true (fun _ _ => .top) :: []) :: .ptr 1 0 0 12 :: .agg [.int .u8 r13.x0, .int .u8 r13.x1, .int .u8 r13.x2, .int .u8 r13.x3, .int .u8 r13.x4, .int .u8 r13.x5] :: .ptr 1 0 0 18 :: .agg [.int .u8 r16.x0, .int .u8 r16.x1, .int .u8 r16.x2, .int .u8 r16.x3, .int .u8 r16.x4, .int .u8 r16.x5] :: .ptr 1 0 0 24 :: .ptr 1 0 0 30 :: .ro 1 p0.length false (enR c_u8 p0) :: .ro 1 (p0.length - 28) false (enR c_u8 (p0.drop 28)) :: .ro 1 p0.length false (enR c_u8 p0) :: .rptr 1 p0.length 0 0 (enR c_u8 p0) :: .int .u8 (gd p0 0) :: .bool (bEq (gd p0 0) 1) :: .top :: .top :: .top :: .top :: .top :: .top :: .top :: .top :: .top :: .top :: .ptr 1 0 0 38 :: .ro 0 0 true (fun _ _ => .top) :: .ro 1 (p0.length - 28) false (enR c_u8 (p0.drop 28)) :: .sl 2 1 0 w34.length false :: .ptr 1 0 0 38 :: .top :: .top :: .top :: .top :: .top :: .top :: .top :: .top :: .top :: .top :: .top :: .top :: .top :: .top :: .top :: [])) (h2 := [.lit 26 (.int .u8 0 :: .int .u8 0 :: .int .u8 0 :: .int .u8 0 :: .int .u8 0 :: .int .u8 0 :: .int .u8 0 :: .int .u8 0 :: .int .u8 0 :: .int .u8 0 :: .int .u8 0 :: .int .u8 0 :: .int .u8 0 :: .int .u8 0 :: .int .u8 0 :: .int .u8 0 :: .int .u8 0 :: .int .u8 0 :: .int .u8 0 :: .int .u8 0 :: .int .u8 0 :: .int .u8 0 :: .int .u8 0 :: .int .u8 0 :: .int .u8 0 :: .int .u8 0 :: .int .u8 0 :: .int .u8 0 :: .int .u8 0 :: .int .u8 0 :: .int .u8 0 :: .int .u8 0 :: .int .u8 0 :: .int .u8 0 :: .int .u8 0 :: .int .u8 0 :: .int .i64 0 :: .int .i64 0 :: .ro 0 0 true (fun _ _ => .top) :: []), .lit 26 (.int .u8 r7.x0 :: .int .u8 r7.x1 :: .int .u8 r7.x2 :: .int .u8 r7.x3 :: .int .u8 r7.x4 :: .int .u8 r7.x5 :: .int .u8 r10.x0 :: .int .u8 r10.x1 :: .int .u8 r10.x2 :: .int .u8 r10.x3 :: .int .u8 r10.x4 :: .int .u8 r10.x5 :: .int .u8 r13.x0 :: .int .u8 r13.x1 :: .int .u8 r13.x2 :: .int .u8 r13.x3 :: .int .u8 r13.x4 :: .int .u8 r13.x5 :: .int .u8 r16.x0 :: .int .u8 r16.x1 :: .int .u8 r16.x2 :: .int .u8 r16.x3 :: .int .u8 r16.x4 :: .int .u8 r16.x5 :: .int .u8 r13.x0 :: .int .u8 r13.x1 :: .int .u8 r13.x2 :: .int .u8 r13.x3 :: .int .u8 r13.x4 :: .int .u8 r13.x5 :: .int .u8 r16.x0 :: .int .u8 r16.x1 :: .int .u8 r16.x2 :: .int .u8 r16.x3 :: .int .u8 r16.x4 :: .int .u8 r16.x5 :: .int .i64 (wr .i64 ((wr .i64 (gd p0 2)) + (wr .i64 (256 * (wr .i64 (gd p0 3)))))) :: .int .i64 (wr .i64 (gd p0 1)) :: .sl 2 1 0 w34.length false :: []), .row 5 1 w34.length (enR c_u8 w34)]) ?_ ?_
      · refine SubF_of ⟨[some 0, some 1, some 2], ?_, ?_, by rfl, by rfl⟩
        · simp [CvL, Cv, getM, lhw35]
        · exact ⟨(by simp [CvB, CvL, Cv, blkAt, geth, getM, lhw35]), (by simp [CvB, CvL, Cv, blkAt, geth, getM, lhw35]), CvB_row nr_u8 lhw35 (hw35 ▸ (fun _ _ _ _ => rfl)), trivial⟩
      obtain ⟨r36, e37, H⟩ := Option.bind_eq_some_iff.1 H
      refine rg ct15t1_ok ?_
      simp only [go_sem, Nat.reduceLeDiff, Nat.reduceLT, Nat.reduceAdd, Nat.reduceMul, Nat.reduceSub, Nat.reduceEqDiff, Nat.reduceBEq, Int.reduceToNat, reduceCtorEq, aLs, roD, roDOb, deadL, edC, edR, nodupB, rnm, rnmL, rnmB, rnmH, rnm_bif, rnmB_bif, putH, dropH, rhoN, ptB, slN, litL, celL, pK, isLit, oS, isRow, inL, ct15t1_13, body13, e37]
      repeat ((with_reducible refine And.intro ?_ ?_); focus (first | (with_reducible trivial) | omega | (and_intros <;> first | (with_reducible trivial) | omega | assumption | exact nfc | first | exact rfl | exact trivial | exact fitI | exact Or.inr rfl | exact Or.inl rfl | exact fun x hx => absurd hx (by omega) | (intro x hx; (repeat (first | (and_intros <;> (first | exact rfl | exact trivial | exact fitI | exact Or.inr rfl | exact Or.inl rfl | exact fun x hx => absurd hx (by omega))) | (exfalso; omega) | (rcases x with _ | x))); done)) | grind))
      refine seqM ?_
      refine seqM ?_
      obtain ⟨f38, H⟩ := need_some.1 H
      replace f38 := g_iff.1 f38
      refine rg ct15t2_ok ?_
      simp only [go_sem, Nat.reduceLeDiff, Nat.reduceLT, Nat.reduceAdd, Nat.reduceMul, Nat.reduceSub, Nat.reduceEqDiff, Nat.reduceBEq, Int.reduceToNat, reduceCtorEq, ct15t2_16, body16]
      repeat ((with_reducible refine And.intro ?_ ?_); focus (first | (with_reducible trivial) | omega | exact f38 | (intro g; have q := f38 (by first | exact g | (rw [g]; rfl) | simpa using g); first | exact q | exact ⟨q.1, q.2.1⟩ | exact q.2.2 | omega | exact ⟨g, q⟩ | exact ⟨trivial, q⟩ | exact ⟨g, q.1, q.2.1⟩ | exact ⟨g, q.2.2⟩) | (intro g; (try have q0 := f38 (by first | exact g | (rw [g]; rfl) | simpa using g)); and_intros <;> first | (with_reducible trivial) | assumption | exact nfc | (intro g2; rw [g, g2]; rfl) | (intro g2; assumption) | (simp only [g, Bool.true_and, Bool.and_true, Bool.not_false, Bool.not_true]; assumption) | grind) | (and_intros <;> first | (with_reducible trivial) | omega | assumption | exact nfc | first | exact rfl | exact trivial | exact fitI | exact Or.inr rfl | exact Or.inl rfl | exact fun x hx => absurd hx (by omega) | (intro x hx; (repeat (first | (and_intros <;> (first | exact rfl | exact trivial | exact fitI | exact Or.inr rfl | exact Or.inl rfl | exact fun x hx => absurd hx (by omega))) | (exfalso; omega) | (rcases x with _ | x))); done)) | grind))
      refine condM rfl trivial (fun hc => ?_) (fun hc => ?_)
      · replace H := cond_t hc H
        refine sq ctNo_ok ?_
        simp only [go_sem, Nat.reduceLeDiff, Nat.reduceLT, Nat.reduceAdd, Nat.reduceMul, Nat.reduceSub, Nat.reduceEqDiff, Nat.reduceBEq, Int.reduceToNat, reduceCtorEq]
        repeat ((with_reducible refine And.intro ?_ ?_); focus (first | (with_reducible trivial) | omega | grind))
        refine rg ctNo_ok ?_
        simp only [go_sem, Nat.reduceLeDiff, Nat.reduceLT, Nat.reduceAdd, Nat.reduceMul, Nat.reduceSub, Nat.reduceEqDiff, Nat.reduceBEq, Int.reduceToNat, reduceCtorEq]
        obtain rfl := Option.some.inj H
        refine RetE_mk [] [none] ?_ ?_ ?_ ?_ (by rfl) (by rfl)
        · simp only [List.length_cons, List.length_nil, Nat.zero_mul, Nat.add_zero, fzV, fzL, fzOb, fzObL, fzH, fzHF, fzB, fzObB, fzObH, inL, rowOb, geth, cond_true, cond_false, Bool.or_false, Bool.or_true, Bool.false_or, Bool.true_or, and_self, true_and, and_true, Nat.reduceEqDiff, Nat.reduceBEq, beq_self_eq_true, sub_enR0, Nat.reduceAdd, Nat.zero_add, Nat.le_refl, List.nil_append]
          try (and_intros <;> first | trivial | omega | exact nfc)
        · simp only [List.length_cons, List.length_nil, Nat.zero_mul, Nat.add_zero, fzV, fzL, fzOb, fzObL, fzH, fzHF, fzB, fzObB, fzObH, inL, rowOb, geth, cond_true, cond_false, Bool.or_false, Bool.or_true, Bool.false_or, Bool.true_or, and_self, true_and, and_true, Nat.reduceEqDiff, Nat.reduceBEq, beq_self_eq_true, sub_enR0, Nat.reduceAdd, Nat.zero_add, Nat.le_refl, List.nil_append]
          try (and_intros <;> first | trivial | omega | exact nfc)
        · simp only [List.length_cons, List.length_nil, Nat.zero_mul, Nat.add_zero, fzV, fzL, fzOb, fzObL, fzH, fzHF, fzB, fzObB, fzObH, inL, rowOb, geth, cond_true, cond_false, Bool.or_false, Bool.or_true, Bool.false_or, Bool.true_or, and_self, true_and, and_true, Nat.reduceEqDiff, Nat.reduceBEq, beq_self_eq_true, sub_enR0, Nat.reduceAdd, Nat.zero_add, Nat.le_refl, List.nil_append]
          exact Cv_tup (CvL_cons (by first | (simp [Cv, CvL, getM, gt_some]; done) | (simp [Cv, CvL, getM, gt_some]; omega)) (CvL_cons (by simp [Cv, CvL, getM, gt_some]) CvL_nil))
        · simp only [List.length_cons, List.length_nil, Nat.zero_mul, Nat.add_zero, fzV, fzL, fzOb, fzObL, fzH, fzHF, fzB, fzObB, fzObH, inL, rowOb, geth, cond_true, cond_false, Bool.or_false, Bool.or_true, Bool.false_or, Bool.true_or, and_self, true_and, and_true, Nat.reduceEqDiff, Nat.reduceBEq, beq_self_eq_true, sub_enR0, Nat.reduceAdd, Nat.zero_add, Nat.le_refl, List.nil_append, CvH, gt_some, Option.isSome_some, Option.isSome_none]
          exact CvB_none
      replace H := cond_f hc H
      refine rg ctNo_ok ?_
      simp only [go_sem, Nat.reduceLeDiff, Nat.reduceLT, Nat.reduceAdd, Nat.reduceMul, Nat.reduceSub, Nat.reduceEqDiff, Nat.reduceBEq, Int.reduceToNat, reduceCtorEq]
      refine sq ctNo_ok ?_
      simp only [go_sem, Nat.reduceLeDiff, Nat.reduceLT, Nat.reduceAdd, Nat.reduceMul, Nat.reduceSub, Nat.reduceEqDiff, Nat.reduceBEq, Int.reduceToNat, reduceCtorEq]
      repeat ((with_reducible refine And.intro ?_ ?_); focus (first | (with_reducible trivial) | omega | grind))
      refine rg ctNo_ok ?_
      simp only [go_sem, Nat.reduceLeDiff, Nat.reduceLT, Nat.reduceAdd, Nat.reduceMul, Nat.reduceSub, Nat.reduceEqDiff, Nat.reduceBEq, Int.reduceToNat, reduceCtorEq]
      obtain rfl := Option.some.inj H
      refine RetE_mk [] [some 2] ?_ ?_ ?_ ?_ (by rfl) (by rfl)
      · simp only [List.length_cons, List.length_nil, Nat.zero_mul, Nat.add_zero, fzV, fzL, fzOb, fzObL, fzH, fzHF, fzB, fzObB, fzObH, inL, rowOb, geth, cond_true, cond_false, Bool.or_false, Bool.or_true, Bool.false_or, Bool.true_or, and_self, true_and, and_true, Nat.reduceEqDiff, Nat.reduceBEq, beq_self_eq_true, sub_enR0, Nat.reduceAdd, Nat.zero_add, Nat.le_refl, List.nil_append]
        try (and_intros <;> first | trivial | omega | exact nfc)
      · simp only [List.length_cons, List.length_nil, Nat.zero_mul, Nat.add_zero, fzV, fzL, fzOb, fzObL, fzH, fzHF, fzB, fzObB, fzObH, inL, rowOb, geth, cond_true, cond_false, Bool.or_false, Bool.or_true, Bool.false_or, Bool.true_or, and_self, true_and, and_true, Nat.reduceEqDiff, Nat.reduceBEq, beq_self_eq_true, sub_enR0, Nat.reduceAdd, Nat.zero_add, Nat.le_refl, List.nil_append]
        try (and_intros <;> first | trivial | omega | exact nfc)
      · simp only [List.length_cons, List.length_nil, Nat.zero_mul, Nat.add_zero, fzV, fzL, fzOb, fzObL, fzH, fzHF, fzB, fzObB, fzObH, inL, rowOb, geth, cond_true, cond_false, Bool.or_false, Bool.or_true, Bool.false_or, Bool.true_or, and_self, true_and, and_true, Nat.reduceEqDiff, Nat.reduceBEq, beq_self_eq_true, sub_enR0, Nat.reduceAdd, Nat.zero_add, Nat.le_refl, List.nil_append]
        exact Cv_tup (CvL_cons (by first | (simp [Cv, CvL, getM, gt_some]; done) | (simp [Cv, CvL, getM, gt_some]; omega)) (CvL_cons (by simp [Cv, CvL, getM, gt_some]) CvL_nil))
      · simp only [List.length_cons, List.length_nil, Nat.zero_mul, Nat.add_zero, fzV, fzL, fzOb, fzObL, fzH, fzHF, fzB, fzObB, fzObH, inL, rowOb, geth, cond_true, cond_false, Bool.or_false, Bool.or_true, Bool.false_or, Bool.true_or, and_self, true_and, and_true, Nat.reduceEqDiff, Nat.reduceBEq, beq_self_eq_true, sub_enR0, Nat.reduceAdd, Nat.zero_add, Nat.le_refl, List.nil_append, CvH, gt_some, Option.isSome_some, Option.isSome_none]
        exact CvB_row nr_u8 (by first | rfl | (simp; done) | (simp; omega)) (fun _ _ _ _ => rfl)
    replace H := cond_t hc H
    refine seqM ?_
    obtain ⟨f20, H⟩ := need_some.1 H
    replace f20 := slb_iff.1 f20
    obtain ⟨r21, e22, H⟩ := Option.bind_eq_some_iff.1 H
    (try simp only [go_sem, Nat.reduceLeDiff, Nat.reduceLT, Nat.reduceAdd, Nat.reduceMul, Nat.reduceSub, Nat.reduceEqDiff, Nat.reduceBEq, Int.reduceToNat, reduceCtorEq] at e22)
    obtain ⟨f23, H⟩ := need_some.1 H
    replace f23 := slb_iff.1 f23
    obtain ⟨r24, e25, H⟩ := Option.bind_eq_some_iff.1 H
    (try simp only [go_sem, Nat.reduceLeDiff, Nat.reduceLT, Nat.reduceAdd, Nat.reduceMul, Nat.reduceSub, Nat.reduceEqDiff, Nat.reduceBEq, Int.reduceToNat, reduceCtorEq] at e25)
    refine draw_rule shT_ok ct15t0_ok 0 (by kernel_rfl) (by kernel_rfl) ?_
    intro an han
    simp only [d_nil, d_cons, nxtD, xrD, xoD, roEq, minL, List.append_nil, refsOp, refs, refsL, mask, maskF, place, placeF, okLog, pairOk, hit, inL, slotsF, ren, renL, rnN, nrH, nrB, nrL, nr, dead0, deadS, List.replicate_zero, List.replicate_succ, Nat.sub_self, Nat.add_zero, Nat.zero_add, Nat.reduceSub, Nat.not_lt_zero, Nat.zero_le, Nat.lt_add_one, go_sem, Nat.reduceLeDiff, Nat.reduceLT, Nat.reduceAdd, Nat.reduceMul, Nat.reduceSub, Nat.reduceEqDiff, Nat.reduceBEq, Int.reduceToNat, reduceCtorEq, ct15t0_38, body38, f20, e22, f23, e25]
    repeat ((with_reducible refine And.intro ?_ ?_); focus (and_intros <;> first | (with_reducible trivial) | (show anB _ _ _ = true; subst han; kernel_rfl) | (show (anB _ _ _ && _) = true; subst han; kernel_rfl) | omega | assumption | exact nrc | exact nfc | first | exact rfl | exact trivial | exact fitI | exact Or.inr rfl | exact Or.inl rfl | exact fun x hx => absurd hx (by omega) | (intro x hx; (repeat (first | (and_intros <;> (first | exact rfl | exact trivial | exact fitI | exact Or.inr rfl | exact Or.inl rfl | exact fun x hx => absurd hx (by omega))) | (exfalso; omega) | (rcases x with _ | x))); done)))
    obtain ⟨f26, H⟩ := need_some.1 H
    replace f26 := slb_iff.1 f26
    refine rg ctNo_ok ?_
    simp only [go_sem, Nat.reduceLeDiff, Nat.reduceLT, Nat.reduceAdd, Nat.reduceMul, Nat.reduceSub, Nat.reduceEqDiff, Nat.reduceBEq, Int.reduceToNat, reduceCtorEq, f26]
    repeat ((with_reducible refine And.intro ?_ ?_); focus (first | (with_reducible trivial) | omega | grind))
    refine seqM ?_
    obtain ⟨f27, H⟩ := need_some.1 H
    replace f27 := capb_iff.1 f27
    refine rg ctNo_ok ?_
    simp only [go_sem, Nat.reduceLeDiff, Nat.reduceLT, Nat.reduceAdd, Nat.reduceMul, Nat.reduceSub, Nat.reduceEqDiff, Nat.reduceBEq, Int.reduceToNat, reduceCtorEq, f27]
    repeat ((with_reducible refine And.intro ?_ ?_); focus (first | (with_reducible trivial) | omega | (and_intros <;> first | (with_reducible trivial) | omega | assumption | exact nfc | first | exact rfl | exact trivial | exact fitI | exact Or.inr rfl | exact Or.inl rfl | exact fun x hx => absurd hx (by omega) | (intro x hx; (repeat (first | (and_intros <;> (first | exact rfl | exact trivial | exact fitI | exact Or.inr rfl | exact Or.inl rfl | exact fun x hx => absurd hx (by omega))) | (exfalso; omega) | (rcases x with _ | x))); done)) | grind))
    refine seqM ?_
    obtain ⟨w28, hw29, H⟩ := Option.bind_eq_some_iff.1 H
    replace hw29 := Option.some.inj hw29
    have lhw29 : w28.length = p0.length - 40 := by rw [← hw29]; exact (by rw [List.length_drop])
    refine subF_mean (t2 := (.ro 1 p0.length false (enR c_u8 p0) :: .top :: .ptr 0 0 0 0 :: .int .i64 0 :: .ptr 1 0 0 0 :: .ro 1 (p0.length - 40) false (enR c_u8 (p0.drop 40)) :: .top :: .top :: .ro 1 p0.length false (enR c_u8 p0) :: .int .i64 (p0.length : Nat) :: .bool (bLt (p0.length : Nat) 28) :: .bool (bLt (p0.length : Nat) 28) :: .opt (!(bLt (p0.length : Nat) 28)) (.ro 1 p0.length false (enR c_u8 p0)) :: .opt (!(bLt (p0.length : Nat) 28)) (.rptr 1 p0.length 0 0 (enR c_u8 p0)) :: .opt (!(bLt (p0.length : Nat) 28)) (.int .u8 (gd p0 0)) :: .opt (!(bLt (p0.length : Nat) 28)) (.bool (bEq (gd p0 0) 1)) :: .opt (!(bLt (p0.length : Nat) 28)) (.bool (bEq (gd p0 0) 1)) :: .opt ((!(bLt (p0.length : Nat) 28)) && (bEq (gd p0 0) 1)) (.ro 1 p0.length false (enR c_u8 p0)) :: .opt ((!(bLt (p0.length : Nat) 28)) && (bEq (gd p0 0) 1)) (.int .i64 (p0.length : Nat)) :: .opt ((!(bLt (p0.length : Nat) 28)) && (bEq (gd p0 0) 1)) (.bool (bLt (p0.length : Nat) 40)) :: .opt (!(bLt (p0.length : Nat) 28)) (.bool ((bEq (gd p0 0) 1) && (bLt (p0.length : Nat) 40))) :: .bool ((bLt (p0.length : Nat) 28) || ((bEq (gd p0 0) 1) && (bLt (p0.length : Nat) 40))) :: .top :: .ro 1 p0.length false (enR c_u8 p0) :: .rptr 1 p0.length 0 0 (enR c_u8 p0) :: .int .u8 (gd p0 0) :: .bool (bLt 1 (gd p0 0)) :: .top :: .ro 1 p0.length false (enR c_u8 p0) :: .rptr 1 p0.length 1 0 (enR c_u8 p0) :: .int .u8 (gd p0 1) :: .int .i64 (wr .i64 (gd p0 1)) :: .ro 1 p0.length false (enR c_u8 p0) :: .rptr 1 p0.length 2 0 (enR c_u8 p0) :: .int .u8 (gd p0 2) :: .int .i64 (wr .i64 (gd p0 2)) :: .ro 1 p0.length false (enR c_u8 p0) :: .rptr 1 p0.length 3 0 (enR c_u8 p0) :: .int .u8 (gd p0 3) :: .int .i64 (wr .i64 (gd p0 3)) :: .int .i64 (wr .i64 (256 * (wr .i64 (gd p0 3)))) :: .int .i64 (wr .i64 ((wr .i64 (gd p0 2)) + (wr .i64 (256 * (wr .i64 (gd p0 3)))))) :: .ro 1 p0.length false (enR c_u8 p0) :: .ro 1 (p0.length - 4) false (enR c_u8 (p0.drop 4)) :: .agg [.int .u8 r7.x0, .int .u8 r7.x1, .int .u8 r7.x2, .int .u8 r7.x3, .int .u8 r7.x4, .int .u8 r7.x5] :: .ro 1 p0.length false (enR c_u8 p0) :: .ro 1 (p0.length - 10) false (enR c_u8 (p0.drop 10)) :: .agg [.int .u8 r10.x0, .int .u8 r10.x1, .int .u8 r10.x2, .int .u8 r10.x3, .int .u8 r10.x4, .int .u8 r10.x5] :: .ro 1 p0.length false (enR c_u8 p0) :: .ro 1 (p0.length - 16) false (enR c_u8 (p0.drop 16)) :: .agg [.int .u8 r13.x0, .int .u8 r13.x1, .int .u8 r13.x2, .int .u8 r13.x3, .int .u8 r13.x4, .int .u8 r13.x5] :: .ro 1 p0.length false (enR c_u8 p0) :: .ro 1 (p0.length - 22) false (enR c_u8 (p0.drop 22)) :: .agg [.int .u8 r16.x0, .int .u8 r16.x1, .int .u8 r16.x2, .int .u8 r16.x3, .int .u8 r16.x4, .int .u8 r16.x5] :: .agg (.int .u8 r7.x0 :: .int .u8 r7.x1 :: .int .u8 r7.x2 :: .int .u8 r7.x3 :: .int .u8 r7.x4 :: .int .u8 r7.x5 :: .int .u8 r10.x0 :: .int .u8 r10.x1 :: .int .u8 r10.x2 :: .int .u8 r10.x3 :: .int .u8 r10.x4 :: .int .u8 r10.x5 :: .int .u8 r13.x0 :: .int .u8 r13.x1 :: .int .u8 r13.x2 :: .int .u8 r13.x3 :: .int .u8 r13.x4 :: .int .u8 r13.x5 :: .int .u8 r16.x0 :: .int .u8 r16.x1 :: .int .u8 r16.x2 :: .int .u8 r16.x3 :: .int .u8 r16.x4 :: .int .u8 r16.x5 :: .int .u8 0 :: .int .u8 0 :: .int .u8 0 :: .int .u8 0 :: .int .u8 0 :: .int .u8 0 :: .int .u8 0 :: .int .u8 0 :: .int .u8 0 :: .int .u8 0 :: .int .u8 0 :: .int .u8 0 :: .int .i64 (wr .i64 ((wr .i64 (gd p0 2)) + (wr .i64 (256 * (wr .i64 (gd p0 3)))))) :: .int .i64 (wr .i64 (gd p0 1)) :: .ro 0 0 true (fun _ _ => .top) :: []) :: .ptr 1 0 0 12 :: .agg [.int .u8 r13.x0, .int .u8 r13.x1, .int .u8 r13.x2, .int .u8 r13.x3, .int .u8 r13.x4, .int .u8 r13.x5] :: .ptr 1 0 0 18 :: .agg [.int .u8 r16.x0, .int .u8 r16.x1, .int .u8 r16.x2, .int .u8 r16.x3, .int .u8 r16.x4, .int .u8 r16.x5] :: .ptr 1 0 0 24 :: .ptr 1 0 0 30 :: .ro 1 p0.length false (enR c_u8 p0) :: .ro 1 (p0.length - 28) false (enR c_u8 (p0.drop 28)) :: .ro 1 p0.length false (enR c_u8 p0) :: .rptr 1 p0.length 0 0 (enR c_u8 p0) :: .int .u8 (gd p0 0) :: .bool (bEq (gd p0 0) 1) :: .ro 1 p0.length false (enR c_u8 p0) :: .ro 1 (p0.length - 28) false (enR c_u8 (p0.drop 28)) :: .agg [.int .u8 r21.x0, .int .u8 r21.x1, .int .u8 r21.x2, .int .u8 r21.x3, .int .u8 r21.x4, .int .u8 r21.x5] :: .ro 1 p0.length false (enR c_u8 p0) :: .ro 1 (p0.length - 34) false (enR c_u8 (p0.drop 34)) :: .agg [.int .u8 r24.x0, .int .u8 r24.x1, .int .u8 r24.x2, .int .u8 r24.x3, .int .u8 r24.x4, .int .u8 r24.x5] :: .ptr 1 0 0 24 :: .ptr 1 0 0 30 :: .ro 1 p0.length false (enR c_u8 p0) :: .ro 1 (p0.length - 40) false (enR c_u8 (p0.drop 40)) :: .ptr 1 0 0 38 :: .ro 0 0 true (fun _ _ => .top) :: .ro 1 (p0.length - 40) false (enR c_u8 (p0.drop 40)) :: .sl 2 1 0 w28.length false :: .ptr 1 0 0 38 :: .top :: .top :: .top :: .top :: .top :: .top :: .top :: .top :: .top :: .top :: .top :: .top :: .top :: .top :: .top :: [])) (h2 := [.lit 26 (.int .u8 0 :: .int .u8 0 :: .int .u8 0 :: .int .u8 0 :: .int .u8 0 :: .int .u8 0 :: .int .u8 0 :: .int .u8 0 :: .int .u8 0 :: .int .u8 0 :: .int .u8 0 :: .int .u8 0 :: .int .u8 0 :: .int .u8 0 :: .int .u8 0 :: .int .u8 0 :: .int .u8 0 :: .int .u8 0 :: .int .u8 0 :: .int .u8 0 :: .int .u8 0 :: .int .u8 0 :: .int .u8 0 :: .int .u8 0 :: .int .u8 0 :: .int .u8 0 :: .int .u8 0 :: .int .u8 0 :: .int .u8 0 :: .int .u8 0 :: .int .u8 0 :: .int .u8 0 :: .int .u8 0 :: .int .u8 0 :: .int .u8 0 :: .int .u8 0 :: .int .i64 0 :: .int .i64 0 :: .ro 0 0 true (fun _ _ => .top) :: []), .lit 26 (.int .u8 r7.x0 :: .int .u8 r7.x1 :: .int .u8 r7.x2 :: .int .u8 r7.x3 :: .int .u8 r7.x4 :: .int .u8 r7.x5 :: .int .u8 r10.x0 :: .int .u8 r10.x1 :: .int .u8 r10.x2 :: .int .u8 r10.x3 :: .int .u8 r10.x4 :: .int .u8 r10.x5 :: .int .u8 r13.x0 :: .int .u8 r13.x1 :: .int .u8 r13.x2 :: .int .u8 r13.x3 :: .int .u8 r13.x4 :: .int .u8 r13.x5 :: .int .u8 r16.x0 :: .int .u8 r16.x1 :: .int .u8 r16.x2 :: .int .u8 r16.x3 :: .int .u8 r16.x4 :: .int .u8 r16.x5 :: .int .u8 r21.x0 :: .int .u8 r21.x1 :: .int .u8 r21.x2 :: .int .u8 r21.x3 :: .int .u8 r21.x4 :: .int .u8 r21.x5 :: .int .u8 r24.x0 :: .int .u8 r24.x1 :: .int .u8 r24.x2 :: .int .u8 r24.x3 :: .int .u8 r24.x4 :: .int .u8 r24.x5 :: .int .i64 (wr .i64 ((wr .i64 (gd p0 2)) + (wr .i64 (256 * (wr .i64 (gd p0 3)))))) :: .int .i64 (wr .i64 (gd p0 1)) :: .sl 2 1 0 w28.length false :: []), .row 5 1 w28.length (enR c_u8 w28)]) ?_ ?_
    · refine SubF_of ⟨[some 0, some 1, some 2], ?_, ?_, by rfl, by rfl⟩
      · simp [CvL, Cv, getM, lhw29]
      · exact ⟨(by simp [CvB, CvL, Cv, blkAt, geth, getM, lhw29]), (by simp [CvB, CvL, Cv, blkAt, geth, getM, lhw29]), CvB_row nr_u8 lhw29 (hw29 ▸ (fun _ _ _ _ => rfl)), trivial⟩
    obtain ⟨r30, e31, H⟩ := Option.bind_eq_some_iff.1 H
    refine rg ct15t1_ok ?_
    simp only [go_sem, Nat.reduceLeDiff, Nat.reduceLT, Nat.reduceAdd, Nat.reduceMul, Nat.reduceSub, Nat.reduceEqDiff, Nat.reduceBEq, Int.reduceToNat, reduceCtorEq, aLs, roD, roDOb, deadL, edC, edR, nodupB, rnm, rnmL, rnmB, rnmH, rnm_bif, rnmB_bif, putH, dropH, rhoN, ptB, slN, litL, celL, pK, isLit, oS, isRow, inL, ct15t1_13, body13, e31]
    repeat ((with_reducible refine And.intro ?_ ?_); focus (first | (with_reducible trivial) | omega | (and_intros <;> first | (with_reducible trivial) | omega | assumption | exact nfc | first | exact rfl | exact trivial | exact fitI | exact Or.inr rfl | exact Or.inl rfl | exact fun x hx => absurd hx (by omega) | (intro x hx; (repeat (first | (and_intros <;> (first | exact rfl | exact trivial | exact fitI | exact Or.inr rfl | exact Or.inl rfl | exact fun x hx => absurd hx (by omega))) | (exfalso; omega) | (rcases x with _ | x))); done)) | grind))
    refine seqM ?_
    refine seqM ?_
    obtain ⟨f32, H⟩ := need_some.1 H
    replace f32 := g_iff.1 f32
    refine rg ct15t2_ok ?_
    simp only [go_sem, Nat.reduceLeDiff, Nat.reduceLT, Nat.reduceAdd, Nat.reduceMul, Nat.reduceSub, Nat.reduceEqDiff, Nat.reduceBEq, Int.reduceToNat, reduceCtorEq, ct15t2_16, body16]
    repeat ((with_reducible refine And.intro ?_ ?_); focus (first | (with_reducible trivial) | omega | exact f32 | (intro g; have q := f32 (by first | exact g | (rw [g]; rfl) | simpa using g); first | exact q | exact ⟨q.1, q.2.1⟩ | exact q.2.2 | omega | exact ⟨g, q⟩ | exact ⟨trivial, q⟩ | exact ⟨g, q.1, q.2.1⟩ | exact ⟨g, q.2.2⟩) | (intro g; (try have q0 := f32 (by first | exact g | (rw [g]; rfl) | simpa using g)); and_intros <;> first | (with_reducible trivial) | assumption | exact nfc | (intro g2; rw [g, g2]; rfl) | (intro g2; assumption) | (simp only [g, Bool.true_and, Bool.and_true, Bool.not_false, Bool.not_true]; assumption) | grind) | (and_intros <;> first | (with_reducible trivial) | omega | assumption | exact nfc | first | exact rfl | exact trivial | exact fitI | exact Or.inr rfl | exact Or.inl rfl | exact fun x hx => absurd hx (by omega) | (intro x hx; (repeat (first | (and_intros <;> (first | exact rfl | exact trivial | exact fitI | exact Or.inr rfl | exact Or.inl rfl | exact fun x hx => absurd hx (by omega))) | (exfalso; omega) | (rcases x with _ | x))); done)) | grind))
    refine condM rfl trivial (fun hc => ?_) (fun hc => ?_)
    · replace H := cond_t hc H
      refine sq ctNo_ok ?_
      simp only [go_sem, Nat.reduceLeDiff, Nat.reduceLT, Nat.reduceAdd, Nat.reduceMul, Nat.reduceSub, Nat.reduceEqDiff, Nat.reduceBEq, Int.reduceToNat, reduceCtorEq]
      repeat ((with_reducible refine And.intro ?_ ?_); focus (first | (with_reducible trivial) | omega | grind))
      refine rg ctNo_ok ?_
      simp only [go_sem, Nat.reduceLeDiff, Nat.reduceLT, Nat.reduceAdd, Nat.reduceMul, Nat.reduceSub, Nat.reduceEqDiff, Nat.reduceBEq, Int.reduceToNat, reduceCtorEq]
      obtain rfl := Option.some.inj H
      refine RetE_mk [] [none] ?_ ?_ ?_ ?_ (by rfl) (by rfl)
      · simp only [List.length_cons, List.length_nil, Nat.zero_mul, Nat.add_zero, fzV, fzL, fzOb, fzObL, fzH, fzHF, fzB, fzObB, fzObH, inL, rowOb, geth, cond_true, cond_false, Bool.or_false, Bool.or_true, Bool.false_or, Bool.true_or, and_self, true_and, and_true, Nat.reduceEqDiff, Nat.reduceBEq, beq_self_eq_true, sub_enR0, Nat.reduceAdd, Nat.zero_add, Nat.le_refl, List.nil_append]
        try (and_intros <;> first | trivial | omega | exact nfc)
      · simp only [List.length_cons, List.length_nil, Nat.zero_mul, Nat.add_zero, fzV, fzL, fzOb, fzObL, fzH, fzHF, fzB, fzObB, fzObH, inL, rowOb, geth, cond_true, cond_false, Bool.or_false, Bool.or_true, Bool.false_or, Bool.true_or, and_self, true_and, and_true, Nat.reduceEqDiff, Nat.reduceBEq, beq_self_eq_true, sub_enR0, Nat.reduceAdd, Nat.zero_add, Nat.le_refl, List.nil_append]
        try (and_intros <;> first | trivial | omega | exact nfc)
      · simp only [List.length_cons, List.length_nil, Nat.zero_mul, Nat.add_zero, fzV, fzL, fzOb, fzObL, fzH, fzHF, fzB, fzObB, fzObH, inL, rowOb, geth, cond_true, cond_false, Bool.or_false, Bool.or_true, Bool.false_or, Bool.true_or, and_self, true_and, and_true, Nat.reduceEqDiff, Nat.reduceBEq, beq_self_eq_true, sub_enR0, Nat.reduceAdd, Nat.zero_add, Nat.le_refl, List.nil_append]
        exact Cv_tup (CvL_cons (by first | (simp [Cv, CvL, getM, gt_some]; done) | (simp [Cv, CvL, getM, gt_some]; omega)) (CvL_cons (by simp [Cv, CvL, getM, gt_some]) CvL_nil))
      · simp only [List.length_cons, List.length_nil, Nat.zero_mul, Nat.add_zero, fzV, fzL, fzOb, fzObL, fzH, fzHF, fzB, fzObB, fzObH, inL, rowOb, geth, cond_true, cond_false, Bool.or_false, Bool.or_true, Bool.false_or, Bool.true_or, and_self, true_and, and_true, Nat.reduceEqDiff, Nat.reduceBEq, beq_self_eq_true, sub_enR0, Nat.reduceAdd, Nat.zero_add, Nat.le_refl, List.nil_append, CvH, gt_some, Option.isSome_some, Option.isSome_none]
        exact CvB_none
    replace H := cond_f hc H
    refine rg ctNo_ok ?_
    simp only [go_sem, Nat.reduceLeDiff, Nat.reduceLT, Nat.reduceAdd, Nat.reduceMul, Nat.reduceSub, Nat.reduceEqDiff, Nat.reduceBEq, Int.reduceToNat, reduceCtorEq]
    refine sq ctNo_ok ?_
    simp only [go_sem, Nat.reduceLeDiff, Nat.reduceLT, Nat.reduceAdd, Nat.reduceMul, Nat.reduceSub, Nat.reduceEqDiff, Nat.reduceBEq, Int.reduceToNat, reduceCtorEq]
    repeat ((with_reducible refine And.intro ?_ ?_); focus (first | (with_reducible trivial) | omega | grind))
    refine rg ctNo_ok ?_
    simp only [go_sem, Nat.reduceLeDiff, Nat.reduceLT, Nat.reduceAdd, Nat.reduceMul, Nat.reduceSub, Nat.reduceEqDiff, Nat.reduceBEq, Int.reduceToNat, reduceCtorEq]
    obtain rfl := Option.some.inj H
    refine RetE_mk [] [some 2] ?_ ?_ ?_ ?_ (by rfl) (by rfl)
    · simp only [List.length_cons, List.length_nil, Nat.zero_mul, Nat.add_zero, fzV, fzL, fzOb, fzObL, fzH, fzHF, fzB, fzObB, fzObH, inL, rowOb, geth, cond_true, cond_false, Bool.or_false, Bool.or_true, Bool.false_or, Bool.true_or, and_self, true_and, and_true, Nat.reduceEqDiff, Nat.reduceBEq, beq_self_eq_true, sub_enR0, Nat.reduceAdd, Nat.zero_add, Nat.le_refl, List.nil_append]
      try (and_intros <;> first | trivial | omega | exact nfc)
    · simp only [List.length_cons, List.length_nil, Nat.zero_mul, Nat.add_zero, fzV, fzL, fzOb, fzObL, fzH, fzHF, fzB, fzObB, fzObH, inL, rowOb, geth, cond_true, cond_false, Bool.or_false, Bool.or_true, Bool.false_or, Bool.true_or, and_self, true_and, and_true, Nat.reduceEqDiff, Nat.reduceBEq, beq_self_eq_true, sub_enR0, Nat.reduceAdd, Nat.zero_add, Nat.le_refl, List.nil_append]
      try (and_intros <;> first | trivial | omega | exact nfc)
    · simp only [List.length_cons, List.length_nil, Nat.zero_mul, Nat.add_zero, fzV, fzL, fzOb, fzObL, fzH, fzHF, fzB, fzObB, fzObH, inL, rowOb, geth, cond_true, cond_false, Bool.or_false, Bool.or_true, Bool.false_or, Bool.true_or, and_self, true_and, and_true, Nat.reduceEqDiff, Nat.reduceBEq, beq_self_eq_true, sub_enR0, Nat.reduceAdd, Nat.zero_add, Nat.le_refl, List.nil_append]
      exact Cv_tup (CvL_cons (by first | (simp [Cv, CvL, getM, gt_some]; done) | (simp [Cv, CvL, getM, gt_some]; omega)) (CvL_cons (by simp [Cv, CvL, getM, gt_some]) CvL_nil))
    · simp only [List.length_cons, List.length_nil, Nat.zero_mul, Nat.add_zero, fzV, fzL, fzOb, fzObL, fzH, fzHF, fzB, fzObB, fzObH, inL, rowOb, geth, cond_true, cond_false, Bool.or_false, Bool.or_true, Bool.false_or, Bool.true_or, and_self, true_and, and_true, Nat.reduceEqDiff, Nat.reduceBEq, beq_self_eq_true, sub_enR0, Nat.reduceAdd, Nat.zero_add, Nat.le_refl, List.nil_append, CvH, gt_some, Option.isSome_some, Option.isSome_none]
      exact CvB_row nr_u8 (by first | rfl | (simp; done) | (simp; omega)) (fun _ _ _ _ => rfl)
  · cases hb
/-! hotspot/hotspotref41.SameFrame -/
noncomputable def ct17t0 : Ct := tab [(16, pureC body16)]
theorem ct17t0_ok : CtOk Try.prog ct17t0 := tab_cons ok16 <| tab_nil
theorem ct17t0_16 (l : List AV) (h : List ABlk) : ct17t0 16 l h = pureC body16 l h := rfl
noncomputable def F17 (p0 : TMeshFrame) (p1 : TMeshFrame) : Option (Bool) :=
  need (bif ((((((((bEq p0.From.x0 p1.From.x0 && (bEq p0.From.x1 p1.From.x1 && (bEq p0.From.x2 p1.From.x2 && (bEq p0.From.x3 p1.From.x3 && (bEq p0.From.x4 p1.From.x4 && (bEq p0.From.x5 p1.From.x5)))))) && (bEq p0.To.x0 p1.To.x0 && (bEq p0.To.x1 p1.To.x1 && (bEq p0.To.x2 p1.To.x2 && (bEq p0.To.x3 p1.To.x3 && (bEq p0.To.x4 p1.To.x4 && (bEq p0.To.x5 p1.To.x5))))))) && (bEq p0.Enter.x0 p1.Enter.x0 && (bEq p0.Enter.x1 p1.Enter.x1 && (bEq p0.Enter.x2 p1.Enter.x2 && (bEq p0.Enter.x3 p1.Enter.x3 && (bEq p0.Enter.x4 p1.Enter.x4 && (bEq p0.Enter.x5 p1.Enter.x5))))))) && (bEq p0.Leave.x0 p1.Leave.x0 && (bEq p0.Leave.x1 p1.Leave.x1 && (bEq p0.Leave.x2 p1.Leave.x2 && (bEq p0.Leave.x3 p1.Leave.x3 && (bEq p0.Leave.x4 p1.Leave.x4 && (bEq p0.Leave.x5 p1.Leave.x5))))))) && (bEq p0.Source.x0 p1.Source.x0 && (bEq p0.Source.x1 p1.Source.x1 && (bEq p0.Source.x2 p1.Source.x2 && (bEq p0.Source.x3 p1.Source.x3 && (bEq p0.Source.x4 p1.Source.x4 && (bEq p0.Source.x5 p1.Source.x5))))))) && (bEq p0.Target.x0 p1.Target.x0 && (bEq p0.Target.x1 p1.Target.x1 && (bEq p0.Target.x2 p1.Target.x2 && (bEq p0.Target.x3 p1.Target.x3 && (bEq p0.Target.x4 p1.Target.x4 && (bEq p0.Target.x5 p1.Target.x5))))))) && (bEq p0.Seq p1.Seq)) && (bEq p0.Ttl p1.Ttl)) then ((F16 p0.Data p1.Data).isSome) else true) <| some (((((((((bEq p0.From.x0 p1.From.x0 && (bEq p0.From.x1 p1.From.x1 && (bEq p0.From.x2 p1.From.x2 && (bEq p0.From.x3 p1.From.x3 && (bEq p0.From.x4 p1.From.x4 && (bEq p0.From.x5 p1.From.x5)))))) && (bEq p0.To.x0 p1.To.x0 && (bEq p0.To.x1 p1.To.x1 && (bEq p0.To.x2 p1.To.x2 && (bEq p0.To.x3 p1.To.x3 && (bEq p0.To.x4 p1.To.x4 && (bEq p0.To.x5 p1.To.x5))))))) && (bEq p0.Enter.x0 p1.Enter.x0 && (bEq p0.Enter.x1 p1.Enter.x1 && (bEq p0.Enter.x2 p1.Enter.x2 && (bEq p0.Enter.x3 p1.Enter.x3 && (bEq p0.Enter.x4 p1.Enter.x4 && (bEq p0.Enter.x5 p1.Enter.x5))))))) && (bEq p0.Leave.x0 p1.Leave.x0 && (bEq p0.Leave.x1 p1.Leave.x1 && (bEq p0.Leave.x2 p1.Leave.x2 && (bEq p0.Leave.x3 p1.Leave.x3 && (bEq p0.Leave.x4 p1.Leave.x4 && (bEq p0.Leave.x5 p1.Leave.x5))))))) && (bEq p0.Source.x0 p1.Source.x0 && (bEq p0.Source.x1 p1.Source.x1 && (bEq p0.Source.x2 p1.Source.x2 && (bEq p0.Source.x3 p1.Source.x3 && (bEq p0.Source.x4 p1.Source.x4 && (bEq p0.Source.x5 p1.Source.x5))))))) && (bEq p0.Target.x0 p1.Target.x0 && (bEq p0.Target.x1 p1.Target.x1 && (bEq p0.Target.x2 p1.Target.x2 && (bEq p0.Target.x3 p1.Target.x3 && (bEq p0.Target.x4 p1.Target.x4 && (bEq p0.Target.x5 p1.Target.x5))))))) && (bEq p0.Seq p1.Seq)) && (bEq p0.Ttl p1.Ttl)) && (gt (F16 p0.Data p1.Data)))
noncomputable def body17 : List AV → AR
  | [v0, v1] => .pure (aK 39 k_TMeshFrame v0 ∧ aK 39 k_TMeshFrame v1 ∧ (F17 (g_TMeshFrame (aL v0)) (g_TMeshFrame (aL v1))).isSome = true) (.bool (gt (F17 (g_TMeshFrame (aL v0)) (g_TMeshFrame (aL v1)))))
  | _ => .fail
set_option maxHeartbeats 4000000 in
set_option maxRecDepth 20000 in
theorem ok17 : FnOk Try.prog 17 (pureC body17) := by
  refine pure_fnM body17 (rs := [.tmp 4]) Try.func17 (by kernel_rfl) rfl rfl ?_
  intro l ob v hb hob
  unfold body17 at hb
  split at hb
  · rename_i v0 v1
    injection hb with q1 q2; subst q1 q2
    obtain ⟨hk0_0, hk1_0, hob⟩ := hob
    obtain ⟨r, H⟩ := Option.isSome_iff_exists.1 hob
    rw [H, gt_some]
    have hw0 := wA_TMeshFrame hk0_0
    have hw1 := wA_TMeshFrame hk1_0
    generalize g_TMeshFrame (aL v0) = p0 at H hw0
    generalize g_TMeshFrame (aL v1) = p1 at H hw1
    refine ⟨[.agg (.int .u8 p0.From.x0 :: .int .u8 p0.From.x1 :: .int .u8 p0.From.x2 :: .int .u8 p0.From.x3 :: .int .u8 p0.From.x4 :: .int .u8 p0.From.x5 :: .int .u8 p0.To.x0 :: .int .u8 p0.To.x1 :: .int .u8 p0.To.x2 :: .int .u8 p0.To.x3 :: .int .u8 p0.To.x4 :: .int .u8 p0.To.x5 :: .int .u8 p0.Enter.x0 :: .int .u8 p0.Enter.x1 :: .int .u8 p0.Enter.x2 :: .int .u8 p0.Enter.x3 :: .int .u8 p0.Enter.x4 :: .int .u8 p0.Enter.x5 :: .int .u8 p0.Leave.x0 :: .int .u8 p0.Leave.x1 :: .int .u8 p0.Leave.x2 :: .int .u8 p0.Leave.x3 :: .int .u8 p0.Leave.x4 :: .int .u8 p0.Leave.x5 :: .int .u8 p0.Source.x0 :: .int .u8 p0.Source.x1 :: .int .u8 p0.Source.x2 :: .int .u8 p0.Source.x3 :: .int .u8 p0.Source.x4 :: .int .u8 p0.Source.x5 :: .int .u8 p0.Target.x0 :: .int .u8 p0.Target.x1 :: .int .u8 p0.Target.x2 :: .int .u8 p0.Target.x3 :: .int .u8 p0.Target.x4 :: .int .u8 p0.Target.x5 :: .int .i64 p0.Seq :: .int .i64 p0.Ttl :: .ro 1 p0.Data.length false (enR c_u8 p0.Data) :: []), .agg (.int .u8 p1.From.x0 :: .int .u8 p1.From.x1 :: .int .u8 p1.From.x2 :: .int .u8 p1.From.x3 :: .int .u8 p1.From.x4 :: .int .u8 p1.From.x5 :: .int .u8 p1.To.x0 :: .int .u8 p1.To.x1 :: .int .u8 p1.To.x2 :: .int .u8 p1.To.x3 :: .int .u8 p1.To.x4 :: .int .u8 p1.To.x5 :: .int .u8 p1.Enter.x0 :: .int .u8 p1.Enter.x1 :: .int .u8 p1.Enter.x2 :: .int .u8 p1.Enter.x3 :: .int .u8 p1.Enter.x4 :: .int .u8 p1.Enter.x5 :: .int .u8 p1.Leave.x0 :: .int .u8 p1.Leave.x1 :: .int .u8 p1.Leave.x2 :: .int .u8 p1.Leave.x3 :: .int .u8 p1.Leave.x4 :: .int .u8 p1.Leave.x5 :: .int .u8 p1.Source.x0 :: .int .u8 p1.Source.x1 :: .int .u8 p1.Source.x2 :: .int .u8 p1.Source.x3 :: .int .u8 p1.Source.x4 :: .int .u8 p1.Source.x5 :: .int .u8 p1.Target.x0 :: .int .u8 p1.Target.x1 :: .int .u8 p1.Target.x2 :: .int .u8 p1.Target.x3 :: .int .u8 p1.Target.x4 :: .int .u8 p1.Target.x5 :: .int .i64 p1.Seq :: .int .i64 p1.Ttl :: .ro 1 p1.Data.length false (enR c_u8 p1.Data) :: [])], _, (fun E vs F => FR_wk1 hw0.1 F (fun vs F => FR_wk1 hw1.1 F (fun vs F => F))), rfl, rfl, ?_⟩
    rw [Try.ntmps17]
    simp only [List.length_cons, List.length_nil, Nat.reduceAdd, Nat.reduceSub, List.replicate_succ, List.replicate_zero, List.cons_append, List.nil_append]
    unfold F17 at H
    try dsimp only at H
    refine sq ctNo_ok ?_
    simp only [go_sem, Nat.reduceLeDiff, Nat.reduceLT, Nat.reduceAdd, Nat.reduceMul, Nat.reduceSub, Nat.reduceEqDiff, Nat.reduceBEq, Int.reduceToNat, reduceCtorEq]
    refine seqM ?_
    obtain ⟨f1, H⟩ := need_some.1 H
    replace f1 := g_iff.1 f1
    refine rg ct17t0_ok ?_
    simp (maxSteps := 3000000) only [go_sem, Nat.reduceLeDiff, Nat.reduceLT, Nat.reduceAdd, Nat.reduceMul, Nat.reduceSub, Nat.reduceEqDiff, Nat.reduceBEq, Int.reduceToNat, reduceCtorEq, ct17t0_16, body16, List.append_eq, List.cons_append, List.nil_append, Array.toList_append, List.append_assoc]
    repeat ((with_reducible refine And.intro ?_ ?_); focus (first | (with_reducible trivial) | omega | exact f1 | (intro g; have q := f1 (by first | exact g | (rw [g]; rfl) | simpa using g); first | exact q | exact ⟨q.1, q.2.1⟩ | exact q.2.2 | omega | exact ⟨g, q⟩ | exact ⟨trivial, q⟩ | exact ⟨g, q.1, q.2.1⟩ | exact ⟨g, q.2.2⟩) | (intro g; (try have q0 := f1 (by first | exact g | (rw [g]; rfl) | simpa using g)); and_intros <;> first | (with_reducible trivial) | assumption | exact nfc | (intro g2; rw [g, g2]; rfl) | (intro g2; assumption) | (simp only [g, Bool.true_and, Bool.and_true, Bool.not_false, Bool.not_true]; assumption) | grind) | (and_intros <;> first | (with_reducible trivial) | omega | assumption | exact nfc | first | exact rfl | exact trivial | exact fitI | exact Or.inr rfl | exact Or.inl rfl | exact fun x hx => absurd hx (by omega) | (intro x hx; (repeat (first | (and_intros <;> (first | exact rfl | exact trivial | exact fitI | exact Or.inr rfl | exact Or.inl rfl | exact fun x hx => absurd hx (by omega))) | (exfalso; omega) | (rcases x with _ | x))); done)) | grind))
    refine rg ctNo_ok ?_
    simp only [go_sem, Nat.reduceLeDiff, Nat.reduceLT, Nat.reduceAdd, Nat.reduceMul, Nat.reduceSub, Nat.reduceEqDiff, Nat.reduceBEq, Int.reduceToNat, reduceCtorEq]
    obtain rfl := Option.some.inj H
    first | rfl | simp only [Bool.and_false, Bool.false_and, Bool.and_true, Bool.true_and]
  · cases hb
/-! hotspot/hotspotlaw41.touch -/
noncomputable def F18_0_L1 (v1_1 : Int) (v1_2 : List Int) : Option (Lp (Int × (List Int)) ((Unit) ⊕ (Unit))) :=
  bif (bLt v1_1 (v1_2.length : Nat)) then (need (inb v1_1 v1_2.length) <| need (inb v1_1 v1_2.length) <| some (.next (wr .i64 (v1_1 + 1), (v1_2.set v1_1.toNat (wr .u8 ((gd v1_2 v1_1.toNat) + 1)))))) else (some (.done (.inl ())))
noncomputable def F18_0 (p0 : Int) (p1 : Int) (p2 : Int) (p3 : Int) (p4 : Int) (p5 : Int) (p6 : Int) (p7 : TMeshFrame) : Option (Unit) :=
  lp (loopD (fun s => F18_0_L1 s.1 s.2) (0, p7.Data)) (fun e => some ()) some
noncomputable def body18_0 : List AV → List ABlk → ED
  | [.agg [v0, v1, v2, v3, v4, v5, v6, .ro 0 0 true _, .ro 0 0 true _], v7], h => .ed [slN (getL (aLs v7) 38)] (iK .u8 (roD (deadL h [slN (getL (aLs v7) 38)]) v0) ∧ roDOb (deadL h [slN (getL (aLs v7) 38)]) v0 ∧ iK .u8 (roD (deadL h [slN (getL (aLs v7) 38)]) v1) ∧ roDOb (deadL h [slN (getL (aLs v7) 38)]) v1 ∧ iK .u8 (roD (deadL h [slN (getL (aLs v7) 38)]) v2) ∧ roDOb (deadL h [slN (getL (aLs v7) 38)]) v2 ∧ iK .u8 (roD (deadL h [slN (getL (aLs v7) 38)]) v3) ∧ roDOb (deadL h [slN (getL (aLs v7) 38)]) v3 ∧ iK .u8 (roD (deadL h [slN (getL (aLs v7) 38)]) v4) ∧ roDOb (deadL h [slN (getL (aLs v7) 38)]) v4 ∧ iK .u8 (roD (deadL h [slN (getL (aLs v7) 38)]) v5) ∧ roDOb (deadL h [slN (getL (aLs v7) 38)]) v5 ∧ iK .i64 (roD (deadL h [slN (getL (aLs v7) 38)]) v6) ∧ roDOb (deadL h [slN (getL (aLs v7) 38)]) v6 ∧ ((aLs v7).length = 39 ∧ v7 = .agg (aLs v7)) ∧ k_TMeshFrame (getL (roWL h (aLs v7))) ∧ nref (getL (aLs v7) 0) ∧ nref (getL (aLs v7) 1) ∧ nref (getL (aLs v7) 2) ∧ nref (getL (aLs v7) 3) ∧ nref (getL (aLs v7) 4) ∧ nref (getL (aLs v7) 5) ∧ nref (getL (aLs v7) 6) ∧ nref (getL (aLs v7) 7) ∧ nref (getL (aLs v7) 8) ∧ nref (getL (aLs v7) 9) ∧ nref (getL (aLs v7) 10) ∧ nref (getL (aLs v7) 11) ∧ nref (getL (aLs v7) 12) ∧ nref (getL (aLs v7) 13) ∧ nref (getL (aLs v7) 14) ∧ nref (getL (aLs v7) 15) ∧ nref (getL (aLs v7) 16) ∧ nref (getL (aLs v7) 17) ∧ nref (getL (aLs v7) 18) ∧ nref (getL (aLs v7) 19) ∧ nref (getL (aLs v7) 20) ∧ nref (getL (aLs v7) 21) ∧ nref (getL (aLs v7) 22) ∧ nref (getL (aLs v7) 23) ∧ nref (getL (aLs v7) 24) ∧ nref (getL (aLs v7) 25) ∧ nref (getL (aLs v7) 26) ∧ nref (getL (aLs v7) 27) ∧ nref (getL (aLs v7) 28) ∧ nref (getL (aLs v7) 29) ∧ nref (getL (aLs v7) 30) ∧ nref (getL (aLs v7) 31) ∧ nref (getL (aLs v7) 32) ∧ nref (getL (aLs v7) 33) ∧ nref (getL (aLs v7) 34) ∧ nref (getL (aLs v7) 35) ∧ nref (getL (aLs v7) 36) ∧ nref (getL (aLs v7) 37) ∧ oS 5 1 h (getL (aLs v7) 38) ∧ (F18_0 (iA (roD (deadL h [slN (getL (aLs v7) 38)]) v0)) (iA (roD (deadL h [slN (getL (aLs v7) 38)]) v1)) (iA (roD (deadL h [slN (getL (aLs v7) 38)]) v2)) (iA (roD (deadL h [slN (getL (aLs v7) 38)]) v3)) (iA (roD (deadL h [slN (getL (aLs v7) 38)]) v4)) (iA (roD (deadL h [slN (getL (aLs v7) 38)]) v5)) (iA (roD (deadL h [slN (getL (aLs v7) 38)]) v6)) (g_TMeshFrame (getL (roWL h (aLs v7))))).isSome = true) (.tup []) [.dead]
  | _, _ => .fail
set_option maxHeartbeats 4000000 in
set_option maxRecDepth 20000 in
theorem ok18_0 : FnOk Try.prog 18 (edC body18_0) := by
  refine edit_fnV body18_0 (rs := []) Try.func18 (by kernel_rfl) rfl rfl ?_
  intro l h bs ob q0 g0 hb hob
  unfold body18_0 at hb
  split at hb
  · rename_i v0 v1 v2 v3 v4 v5 v6 x_1 x_2 v7
    injection hb with q1 q2 q3 q4; subst q1 q2 q3 q4
    obtain ⟨hk0_0, hk0_1, hk1_0, hk1_1, hk2_0, hk2_1, hk3_0, hk3_1, hk4_0, hk4_1, hk5_0, hk5_1, hk6_0, hk6_1, hk7_0, hk7_1, hk7_2, hk7_3, hk7_4, hk7_5, hk7_6, hk7_7, hk7_8, hk7_9, hk7_10, hk7_11, hk7_12, hk7_13, hk7_14, hk7_15, hk7_16, hk7_17, hk7_18, hk7_19, hk7_20, hk7_21, hk7_22, hk7_23, hk7_24, hk7_25, hk7_26, hk7_27, hk7_28, hk7_29, hk7_30, hk7_31, hk7_32, hk7_33, hk7_34, hk7_35, hk7_36, hk7_37, hk7_38, hk7_39, hk7_40, hob⟩ := hob
    obtain ⟨r, H⟩ := Option.isSome_iff_exists.1 hob
    try rw [H, gt_some]
    have hw0 := iK_wk hk0_0
    obtain ⟨p0, hp_p0⟩ : ∃ p0, p0 = iA (roD (deadL h [slN (getL (aLs v7) 38)]) v0) := ⟨_, rfl⟩
    rw [← hp_p0] at H hw0
    have hw1 := iK_wk hk1_0
    obtain ⟨p1, hp_p1⟩ : ∃ p1, p1 = iA (roD (deadL h [slN (getL (aLs v7) 38)]) v1) := ⟨_, rfl⟩
    rw [← hp_p1] at H hw1
    have hw2 := iK_wk hk2_0
    obtain ⟨p2, hp_p2⟩ : ∃ p2, p2 = iA (roD (deadL h [slN (getL (aLs v7) 38)]) v2) := ⟨_, rfl⟩
    rw [← hp_p2] at H hw2
    have hw3 := iK_wk hk3_0
    obtain ⟨p3, hp_p3⟩ : ∃ p3, p3 = iA (roD (deadL h [slN (getL (aLs v7) 38)]) v3) := ⟨_, rfl⟩
    rw [← hp_p3] at H hw3
    have hw4 := iK_wk hk4_0
    obtain ⟨p4, hp_p4⟩ : ∃ p4, p4 = iA (roD (deadL h [slN (getL (aLs v7) 38)]) v4) := ⟨_, rfl⟩
    rw [← hp_p4] at H hw4
    have hw5 := iK_wk hk5_0
    obtain ⟨p5, hp_p5⟩ : ∃ p5, p5 = iA (roD (deadL h [slN (getL (aLs v7) 38)]) v5) := ⟨_, rfl⟩
    rw [← hp_p5] at H hw5
    have hw6 := iK_wk hk6_0
    obtain ⟨p6, hp_p6⟩ : ∃ p6, p6 = iA (roD (deadL h [slN (getL (aLs v7) 38)]) v6) := ⟨_, rfl⟩
    rw [← hp_p6] at H hw6
    obtain ⟨p7, hp7⟩ : ∃ p7, p7 = g_TMeshFrame (getL (roWL h (aLs v7))) := ⟨_, rfl⟩
    rw [← hp7] at H
    have hw7 : ∀ y, y < 39 → WkV (getL (c_TMeshFrame p7) y) (roW h (getL (aLs v7) y)) ∧ nref (getL (c_TMeshFrame p7) y) := fun y hy => by rw [hp7, ← getL_roWL]; exact w_TMeshFrame hk7_1 y hy
    have hk7_K := hk7_1
    unfold k_TMeshFrame at hk7_K
    obtain ⟨kk7_0, kk7_1, kk7_2, kk7_3, kk7_4, kk7_5, kk7_6, kk7_7, kk7_8, kk7_9, kk7_10, kk7_11, kk7_12, kk7_13, kk7_14, kk7_15, kk7_16, kk7_17, kk7_18, kk7_19, kk7_20, kk7_21, kk7_22, kk7_23, kk7_24, kk7_25, kk7_26, kk7_27, kk7_28, kk7_29, kk7_30, kk7_31, kk7_32, kk7_33, kk7_34, kk7_35, kk7_36, kk7_37, kk7_38⟩ := hk7_K
    obtain ⟨ev7_38, eb7_38⟩ := own_row2 (f := c_u8) (g := g_u8) (bs := [slN (getL (aLs v7) 38)]) (i := 0) (fun hr => w_u8 hr) hk7_40 (by rw [← getL_roWL]; exact kk7_38) (L := p7.Data) (by rw [hp7, ← getL_roWL]; rfl) rfl
    refine ⟨[.agg [.int .u8 p0, .int .u8 p1, .int .u8 p2, .int .u8 p3, .int .u8 p4, .int .u8 p5, .int .i64 p6, .ro 0 0 true (fun _ _ => .top), .ro 0 0 true (fun _ _ => .top)], .agg (.int .u8 p7.From.x0 :: .int .u8 p7.From.x1 :: .int .u8 p7.From.x2 :: .int .u8 p7.From.x3 :: .int .u8 p7.From.x4 :: .int .u8 p7.From.x5 :: .int .u8 p7.To.x0 :: .int .u8 p7.To.x1 :: .int .u8 p7.To.x2 :: .int .u8 p7.To.x3 :: .int .u8 p7.To.x4 :: .int .u8 p7.To.x5 :: .int .u8 p7.Enter.x0 :: .int .u8 p7.Enter.x1 :: .int .u8 p7.Enter.x2 :: .int .u8 p7.Enter.x3 :: .int .u8 p7.Enter.x4 :: .int .u8 p7.Enter.x5 :: .int .u8 p7.Leave.x0 :: .int .u8 p7.Leave.x1 :: .int .u8 p7.Leave.x2 :: .int .u8 p7.Leave.x3 :: .int .u8 p7.Leave.x4 :: .int .u8 p7.Leave.x5 :: .int .u8 p7.Source.x0 :: .int .u8 p7.Source.x1 :: .int .u8 p7.Source.x2 :: .int .u8 p7.Source.x3 :: .int .u8 p7.Source.x4 :: .int .u8 p7.Source.x5 :: .int .u8 p7.Target.x0 :: .int .u8 p7.Target.x1 :: .int .u8 p7.Target.x2 :: .int .u8 p7.Target.x3 :: .int .u8 p7.Target.x4 :: .int .u8 p7.Target.x5 :: .int .i64 p7.Seq :: .int .i64 p7.Ttl :: .sl 0 1 0 p7.Data.length false :: [])], [.row 5 1 p7.Data.length (enR c_u8 p7.Data)], rfl, ⟨(EW_agg ⟨(EW_view hk0_1 hw0), ⟨(EW_view hk1_1 hw1), ⟨(EW_view hk2_1 hw2), ⟨(EW_view hk3_1 hw3), ⟨(EW_view hk4_1 hw4), ⟨(EW_view hk5_1 hw5), ⟨(EW_view hk6_1 hw6), ⟨(EW_own (EV_wk ⟨fun _ _ h => ro_nil h, by simp only [nref]⟩) (by simp only [noro])), ⟨(EW_own (EV_wk ⟨fun _ _ h => ro_nil h, by simp only [nref]⟩) (by simp only [noro])), trivial⟩⟩⟩⟩⟩⟩⟩⟩⟩), ⟨(by rw [hk7_0.2]; refine EW_own ?_ (by simp only [noro, noroL, and_self]); exact EV_agg (EVL_of hk7_0.1.symm (fun y hy => by
          match y, hy with
          | 0, _ => exact EV_t hk7_2 (hw7 0 (by decide))
          | 1, _ => exact EV_t hk7_3 (hw7 1 (by decide))
          | 2, _ => exact EV_t hk7_4 (hw7 2 (by decide))
          | 3, _ => exact EV_t hk7_5 (hw7 3 (by decide))
          | 4, _ => exact EV_t hk7_6 (hw7 4 (by decide))
          | 5, _ => exact EV_t hk7_7 (hw7 5 (by decide))
          | 6, _ => exact EV_t hk7_8 (hw7 6 (by decide))
          | 7, _ => exact EV_t hk7_9 (hw7 7 (by decide))
          | 8, _ => exact EV_t hk7_10 (hw7 8 (by decide))
          | 9, _ => exact EV_t hk7_11 (hw7 9 (by decide))
          | 10, _ => exact EV_t hk7_12 (hw7 10 (by decide))
          | 11, _ => exact EV_t hk7_13 (hw7 11 (by decide))
          | 12, _ => exact EV_t hk7_14 (hw7 12 (by decide))
          | 13, _ => exact EV_t hk7_15 (hw7 13 (by decide))
          | 14, _ => exact EV_t hk7_16 (hw7 14 (by decide))
          | 15, _ => exact EV_t hk7_17 (hw7 15 (by decide))
          | 16, _ => exact EV_t hk7_18 (hw7 16 (by decide))
          | 17, _ => exact EV_t hk7_19 (hw7 17 (by decide))
          | 18, _ => exact EV_t hk7_20 (hw7 18 (by decide))
          | 19, _ => exact EV_t hk7_21 (hw7 19 (by decide))
          | 20, _ => exact EV_t hk7_22 (hw7 20 (by decide))
          | 21, _ => exact EV_t hk7_23 (hw7 21 (by decide))
          | 22, _ => exact EV_t hk7_24 (hw7 22 (by decide))
          | 23, _ => exact EV_t hk7_25 (hw7 23 (by decide))
          | 24, _ => exact EV_t hk7_26 (hw7 24 (by decide))
          | 25, _ => exact EV_t hk7_27 (hw7 25 (by decide))
          | 26, _ => exact EV_t hk7_28 (hw7 26 (by decide))
          | 27, _ => exact EV_t hk7_29 (hw7 27 (by decide))
          | 28, _ => exact EV_t hk7_30 (hw7 28 (by decide))
          | 29, _ => exact EV_t hk7_31 (hw7 29 (by decide))
          | 30, _ => exact EV_t hk7_32 (hw7 30 (by decide))
          | 31, _ => exact EV_t hk7_33 (hw7 31 (by decide))
          | 32, _ => exact EV_t hk7_34 (hw7 32 (by decide))
          | 33, _ => exact EV_t hk7_35 (hw7 33 (by decide))
          | 34, _ => exact EV_t hk7_36 (hw7 34 (by decide))
          | 35, _ => exact EV_t hk7_37 (hw7 35 (by decide))
          | 36, _ => exact EV_t hk7_38 (hw7 36 (by decide))
          | 37, _ => exact EV_t hk7_39 (hw7 37 (by decide))
          | 38, _ => exact ev7_38
          | y + 39, hy => exact absurd hy (by simp)))), trivial⟩⟩, ⟨eb7_38, trivial⟩, ⟨noroB_en, trivial⟩, ⟨trivial, trivial⟩, ⟨trivial, trivial⟩, (by first | (simp only [noro, noroL, and_self]; done) | (simp only [noro, noroL]; and_intros <;> first | trivial | exact noro_bif (by simp only [noro]) (by simp only [noro]) | (simp only [noro, noroL, and_self]))), ?_⟩
    rw [Try.ntmps18]
    simp only [List.length_cons, List.length_nil, Nat.reduceAdd, Nat.reduceSub, List.replicate_succ, List.replicate_zero, List.cons_append, List.nil_append]
    unfold F18_0 at H
    try dsimp only at H
    refine sq ctNo_ok ?_
    simp only [go_sem, Nat.reduceLeDiff, Nat.reduceLT, Nat.reduceAdd, Nat.reduceMul, Nat.reduceSub, Nat.reduceEqDiff, Nat.reduceBEq, Int.reduceToNat, reduceCtorEq]
    refine seqM ?_
    refine sq ctNo_ok ?_
    simp only [go_sem, Nat.reduceLeDiff, Nat.reduceLT, Nat.reduceAdd, Nat.reduceMul, Nat.reduceSub, Nat.reduceEqDiff, Nat.reduceBEq, Int.reduceToNat, reduceCtorEq]
    refine blkM ?_
    refine loop_roundsM 1 ?_
    refine rndM ?_
    refine seqM ?_
    refine sq ctNo_ok ?_
    simp only [go_sem, Nat.reduceLeDiff, Nat.reduceLT, Nat.reduceAdd, Nat.reduceMul, Nat.reduceSub, Nat.reduceEqDiff, Nat.reduceBEq, Int.reduceToNat, reduceCtorEq, (by decide : bLt (0) (0) = false)]
    repeat ((with_reducible refine And.intro ?_ ?_); focus (first | (with_reducible trivial) | omega | (and_intros <;> first | (with_reducible trivial) | omega | assumption | exact nfc | first | exact rfl | exact trivial | exact fitI | exact Or.inr rfl | exact Or.inl rfl | exact fun x hx => absurd hx (by omega) | (intro x hx; (repeat (first | (and_intros <;> (first | exact rfl | exact trivial | exact fitI | exact Or.inr rfl | exact Or.inl rfl | exact fun x hx => absurd hx (by omega))) | (exfalso; omega) | (rcases x with _ | x))); done)) | grind))
    refine condM rfl trivial (fun hc => ?_) (fun hc => ?_)
    · cases hc
    refine rg ctNo_ok ?_
    simp only [go_sem, Nat.reduceLeDiff, Nat.reduceLT, Nat.reduceAdd, Nat.reduceMul, Nat.reduceSub, Nat.reduceEqDiff, Nat.reduceBEq, Int.reduceToNat, reduceCtorEq]
    refine seqM ?_
    refine sq ctNo_ok ?_
    simp only [go_sem, Nat.reduceLeDiff, Nat.reduceLT, Nat.reduceAdd, Nat.reduceMul, Nat.reduceSub, Nat.reduceEqDiff, Nat.reduceBEq, Int.reduceToNat, reduceCtorEq]
    refine blkM ?_
    refine loop_roundsM 1 ?_
    refine rndM ?_
    refine seqM ?_
    refine sq ctNo_ok ?_
    simp only [go_sem, Nat.reduceLeDiff, Nat.reduceLT, Nat.reduceAdd, Nat.reduceMul, Nat.reduceSub, Nat.reduceEqDiff, Nat.reduceBEq, Int.reduceToNat, reduceCtorEq, (by decide : bLt (0) (0) = false)]
    repeat ((with_reducible refine And.intro ?_ ?_); focus (first | (with_reducible trivial) | omega | (and_intros <;> first | (with_reducible trivial) | omega | assumption | exact nfc | first | exact rfl | exact trivial | exact fitI | exact Or.inr rfl | exact Or.inl rfl | exact fun x hx => absurd hx (by omega) | (intro x hx; (repeat (first | (and_intros <;> (first | exact rfl | exact trivial | exact fitI | exact Or.inr rfl | exact Or.inl rfl | exact fun x hx => absurd hx (by omega))) | (exfalso; omega) | (rcases x with _ | x))); done)) | grind))
    refine condM rfl trivial (fun hc => ?_) (fun hc => ?_)
    · cases hc
    refine rg ctNo_ok ?_
    simp only [go_sem, Nat.reduceLeDiff, Nat.reduceLT, Nat.reduceAdd, Nat.reduceMul, Nat.reduceSub, Nat.reduceEqDiff, Nat.reduceBEq, Int.reduceToNat, reduceCtorEq]
    refine sq ctNo_ok ?_
    simp only [go_sem, Nat.reduceLeDiff, Nat.reduceLT, Nat.reduceAdd, Nat.reduceMul, Nat.reduceSub, Nat.reduceEqDiff, Nat.reduceBEq, Int.reduceToNat, reduceCtorEq]
    refine blkM ?_
    refine loop_den (fun s : Int × (List Int) => (.top :: .top :: .top :: .ptr 2 0 0 0 :: .top :: .top :: .int .i64 s.1 :: .top :: .top :: .top :: .top :: .top :: .top :: .top :: .top :: .top :: .top :: .top :: .top :: .top :: .top :: .top :: .top :: .top :: .top :: .top :: .top :: .top :: .top :: .top :: .top :: .top :: .top :: .top :: .top :: .top :: .top :: .top :: .top :: .top :: .top :: .top :: .top :: .top :: .top :: .top :: .top :: .top :: .top :: .top :: .top :: [])) (fun s => [.dead, .dead, .lit 26 (.int .u8 p7.From.x0 :: .int .u8 p7.From.x1 :: .int .u8 p7.From.x2 :: .int .u8 p7.From.x3 :: .int .u8 p7.From.x4 :: .int .u8 p7.From.x5 :: .int .u8 p7.To.x0 :: .int .u8 p7.To.x1 :: .int .u8 p7.To.x2 :: .int .u8 p7.To.x3 :: .int .u8 p7.To.x4 :: .int .u8 p7.To.x5 :: .int .u8 p7.Enter.x0 :: .int .u8 p7.Enter.x1 :: .int .u8 p7.Enter.x2 :: .int .u8 p7.Enter.x3 :: .int .u8 p7.Enter.x4 :: .int .u8 p7.Enter.x5 :: .int .u8 p7.Leave.x0 :: .int .u8 p7.Leave.x1 :: .int .u8 p7.Leave.x2 :: .int .u8 p7.Leave.x3 :: .int .u8 p7.Leave.x4 :: .int .u8 p7.Leave.x5 :: .int .u8 p7.Source.x0 :: .int .u8 p7.Source.x1 :: .int .u8 p7.Source.x2 :: .int .u8 p7.Source.x3 :: .int .u8 p7.Source.x4 :: .int .u8 p7.Source.x5 :: .int .u8 p7.Target.x0 :: .int .u8 p7.Target.x1 :: .int .u8 p7.Target.x2 :: .int .u8 p7.Target.x3 :: .int .u8 p7.Target.x4 :: .int .u8 p7.Target.x5 :: .int .i64 p7.Seq :: .int .i64 p7.Ttl :: .sl 3 1 0 s.2.length false :: []), .row 5 1 s.2.length (enR c_u8 s.2)]) (fun e : Unit => (.top :: .top :: .top :: .top :: .top :: .top :: .top :: .top :: .top :: .top :: .top :: .top :: .top :: .top :: .top :: .top :: .top :: .top :: .top :: .top :: .top :: .top :: .top :: .top :: .top :: .top :: .top :: .top :: .top :: .top :: .top :: .top :: .top :: .top :: .top :: .top :: .top :: .top :: .top :: .top :: .top :: .top :: .top :: .top :: .top :: .top :: .top :: .top :: .top :: .top :: .top :: [])) (fun e => [.dead, .dead, .dead]) H ?_ (fun s o H hn1_1 hn2_1 => ?_) (fun e H => ?_)
    · refine SubF_of ⟨[some 0, some 1, some 2, some 0], ?_, ?_, by rfl, by rfl⟩
      · simp [CvL, Cv, getM]
      · exact ⟨CvB_dead, CvB_dead, (by simp [CvB, CvL, Cv, blkAt, geth, getM]), CvB_row nr_u8 (by first | rfl | (simp; done) | (simp; omega)) (fun _ _ _ _ => rfl), trivial⟩
    · obtain ⟨v1_1, v1_2⟩ := s
      unfold F18_0_L1 at H
      try dsimp only at H ⊢
      refine seqM ?_
      refine sq ctNo_ok ?_
      simp only [go_sem, Nat.reduceLeDiff, Nat.reduceLT, Nat.reduceAdd, Nat.reduceMul, Nat.reduceSub, Nat.reduceEqDiff, Nat.reduceBEq, Int.reduceToNat, reduceCtorEq]
      repeat ((with_reducible refine And.intro ?_ ?_); focus (first | (with_reducible trivial) | omega | (and_intros <;> first | (with_reducible trivial) | omega | assumption | exact nfc | first | exact rfl | exact trivial | exact fitI | exact Or.inr rfl | exact Or.inl rfl | exact fun x hx => absurd hx (by omega) | (intro x hx; (repeat (first | (and_intros <;> (first | exact rfl | exact trivial | exact fitI | exact Or.inr rfl | exact Or.inl rfl | exact fun x hx => absurd hx (by omega))) | (exfalso; omega) | (rcases x with _ | x))); done)) | grind))
      refine condM' rfl trivial (fun hc => ?_) (fun hc => ?_)
      · replace H := cond_f hc H
        refine rg ctNo_ok ?_
        simp only [go_sem, Nat.reduceLeDiff, Nat.reduceLT, Nat.reduceAdd, Nat.reduceMul, Nat.reduceSub, Nat.reduceEqDiff, Nat.reduceBEq, Int.reduceToNat, reduceCtorEq]
        refine ⟨_, (Option.some.inj H).symm, ?_⟩
        refine SubF_of ⟨[some 0, some 1, some 2], ?_, ?_, by rfl, by rfl⟩
        · simp [CvL, Cv, getM]
        · exact ⟨CvB_dead, CvB_dead, CvB_dead, trivial⟩
      replace H := cond_t hc H
      refine rg ctNo_ok ?_
      simp only [go_sem, Nat.reduceLeDiff, Nat.reduceLT, Nat.reduceAdd, Nat.reduceMul, Nat.reduceSub, Nat.reduceEqDiff, Nat.reduceBEq, Int.reduceToNat, reduceCtorEq]
      refine seqM ?_
      refine blkM ?_
      obtain ⟨f3, H⟩ := need_some.1 H
      replace f3 := inb_iff.1 f3
      obtain ⟨f4, H⟩ := need_some.1 H
      replace f4 := inb_iff.1 f4
      refine rg ctNo_ok ?_
      simp only [go_sem, Nat.reduceLeDiff, Nat.reduceLT, Nat.reduceAdd, Nat.reduceMul, Nat.reduceSub, Nat.reduceEqDiff, Nat.reduceBEq, Int.reduceToNat, reduceCtorEq, f3, f4]
      repeat ((with_reducible refine And.intro ?_ ?_); focus (first | (with_reducible trivial) | omega | grind))
      refine rg ctNo_ok ?_
      simp only [go_sem, Nat.reduceLeDiff, Nat.reduceLT, Nat.reduceAdd, Nat.reduceMul, Nat.reduceSub, Nat.reduceEqDiff, Nat.reduceBEq, Int.reduceToNat, reduceCtorEq]
      refine ⟨_, (Option.some.inj H).symm, ?_⟩
      refine SubF_of ⟨[some 0, some 1, some 2, some 3], ?_, ?_, by rfl, by rfl⟩
      · simp [CvL, Cv, getM]
      · exact ⟨CvB_dead, CvB_dead, (by simp [CvB, CvL, Cv, blkAt, geth, getM]), CvB_row nr_u8 (by first | rfl | (simp; done) | (simp; omega)) (upc_row (f := c_u8) v1_2 v1_1.toNat 0 (wr .u8 ((gd v1_2 v1_1.toNat) + 1)) (fun _ _ _ _ => rfl) (fun y hy => match y, hy with | 0, _ => rfl | (y+1), h => absurd h (by omega))), trivial⟩
    · try dsimp only at H ⊢
      try simp only [m_normal, k_normal, b_normal, kL_normal, r_normal]
      obtain rfl := Option.some.inj H
      refine And.intro trivial ?_
      refine RetE_mk [] [some 0] ?_ ?_ ?_ ?_ (by rfl) (by rfl)
      · simp only [List.length_cons, List.length_nil, Nat.zero_mul, Nat.add_zero, fzV, fzL, fzOb, fzObL, fzH, fzHF, fzB, fzObB, fzObH, inL, rowOb, geth, cond_true, cond_false, Bool.or_false, Bool.or_true, Bool.false_or, Bool.true_or, and_self, true_and, and_true, Nat.reduceEqDiff, Nat.reduceBEq, beq_self_eq_true, sub_enR0, Nat.reduceAdd, Nat.zero_add, Nat.le_refl, List.nil_append]
        try (and_intros <;> first | trivial | omega | exact nfc)
      · simp only [List.length_cons, List.length_nil, Nat.zero_mul, Nat.add_zero, fzV, fzL, fzOb, fzObL, fzH, fzHF, fzB, fzObB, fzObH, inL, rowOb, geth, cond_true, cond_false, Bool.or_false, Bool.or_true, Bool.false_or, Bool.true_or, and_self, true_and, and_true, Nat.reduceEqDiff, Nat.reduceBEq, beq_self_eq_true, sub_enR0, Nat.reduceAdd, Nat.zero_add, Nat.le_refl, List.nil_append]
        try (and_intros <;> first | trivial | omega | exact nfc)
      · simp only [List.length_cons, List.length_nil, Nat.zero_mul, Nat.add_zero, fzV, fzL, fzOb, fzObL, fzH, fzHF, fzB, fzObB, fzObH, inL, rowOb, geth, cond_true, cond_false, Bool.or_false, Bool.or_true, Bool.false_or, Bool.true_or, and_self, true_and, and_true, Nat.reduceEqDiff, Nat.reduceBEq, beq_self_eq_true, sub_enR0, Nat.reduceAdd, Nat.zero_add, Nat.le_refl, List.nil_append]
        simp [Cv, CvL, getM, gt_some]
      · simp only [List.length_cons, List.length_nil, Nat.zero_mul, Nat.add_zero, fzV, fzL, fzOb, fzObL, fzH, fzHF, fzB, fzObB, fzObH, inL, rowOb, geth, cond_true, cond_false, Bool.or_false, Bool.or_true, Bool.false_or, Bool.true_or, and_self, true_and, and_true, Nat.reduceEqDiff, Nat.reduceBEq, beq_self_eq_true, sub_enR0, Nat.reduceAdd, Nat.zero_add, Nat.le_refl, List.nil_append, CvH, gt_some, Option.isSome_some, Option.isSome_none]
        exact CvB_dead
  · cases hb
/-! hotspot/hotspotlaw41.ForwardBytes -/
noncomputable def ct3t0 : Ct := tab [(10, pureC body10)]
theorem ct3t0_ok : CtOk Try.prog ct3t0 := tab_cons ok10 <| tab_nil
theorem ct3t0_10 (l : List AV) (h : List ABlk) : ct3t0 10 l h = pureC body10 l h := rfl
noncomputable def ct3t1 : Ct := tab [(11, edC body11)]
theorem ct3t1_ok : CtOk Try.prog ct3t1 := tab_cons ok11 <| tab_nil
theorem ct3t1_11 (l : List AV) (h : List ABlk) : ct3t1 11 l h = edC body11 l h := rfl
noncomputable def ct3t2 : Ct := tab [(12, edC body12)]
theorem ct3t2_ok : CtOk Try.prog ct3t2 := tab_cons ok12 <| tab_nil
theorem ct3t2_12 (l : List AV) (h : List ABlk) : ct3t2 12 l h = edC body12 l h := rfl
noncomputable def ct3t3 : Ct := tab [(13, edC body13)]
theorem ct3t3_ok : CtOk Try.prog ct3t3 := tab_cons ok13 <| tab_nil
theorem ct3t3_13 (l : List AV) (h : List ABlk) : ct3t3 13 l h = edC body13 l h := rfl
noncomputable def ct3t4 : Ct := tab [(14, edC body14)]
theorem ct3t4_ok : CtOk Try.prog ct3t4 := tab_cons ok14 <| tab_nil
theorem ct3t4_14 (l : List AV) (h : List ABlk) : ct3t4 14 l h = edC body14 l h := rfl
noncomputable def ct3t5 : Ct := tab [(15, edC body15)]
theorem ct3t5_ok : CtOk Try.prog ct3t5 := tab_cons ok15 <| tab_nil
theorem ct3t5_15 (l : List AV) (h : List ABlk) : ct3t5 15 l h = edC body15 l h := rfl
noncomputable def ct3t6 : Ct := tab [(16, pureC body16), (17, pureC body17)]
theorem ct3t6_ok : CtOk Try.prog ct3t6 := tab_cons ok16 <| tab_cons ok17 <| tab_nil
theorem ct3t6_16 (l : List AV) (h : List ABlk) : ct3t6 16 l h = pureC body16 l h := rfl
theorem ct3t6_17 (l : List AV) (h : List ABlk) : ct3t6 17 l h = pureC body17 l h := rfl
noncomputable def ct3t7 : Ct := tab [(18, edC body18_0)]
theorem ct3t7_ok : CtOk Try.prog ct3t7 := tab_cons ok18_0 <| tab_nil
theorem ct3t7_18 (l : List AV) (h : List ABlk) : ct3t7 18 l h = edC body18_0 l h := rfl
noncomputable def F3_L1 (v1_1 : List Int) (v1_2 : Int) : Option (Lp ((List Int) × Int) ((Unit) ⊕ (Bool))) :=
  bif (bLt v1_2 (v1_1.length : Nat)) then (need (inb v1_2 v1_1.length) <| need (inb v1_2 v1_1.length) <| some (.next ((v1_1.set v1_2.toNat (wr .u8 ((gd v1_1 v1_2.toNat) + 1))), wr .i64 (v1_2 + 1)))) else (some (.done (.inl ())))
noncomputable def F3 (p0 : TMeshFrame) (p1 : List Int) : Option (Bool) :=
  (F10 (TForward.mk (A6u8.mk 0 0 0 0 0 0) 0 [] []) p0.Data).bind fun r1 => bif (r1 || (bLt 2400 (p1.length : Nat))) then (some true) else ((F11 p0).bind fun r3 => need (capb 1 p1.length) <| (F12 (TMeshFrame.mk (A6u8.mk r3.From.x0 r3.From.x1 r3.From.x2 r3.From.x3 r3.From.x4 r3.From.x5) (A6u8.mk r3.To.x0 r3.To.x1 r3.To.x2 r3.To.x3 r3.To.x4 r3.To.x5) (A6u8.mk r3.Enter.x0 r3.Enter.x1 r3.Enter.x2 r3.Enter.x3 r3.Enter.x4 r3.Enter.x5) (A6u8.mk r3.Leave.x0 r3.Leave.x1 r3.Leave.x2 r3.Leave.x3 r3.Leave.x4 r3.Leave.x5) (A6u8.mk r3.Source.x0 r3.Source.x1 r3.Source.x2 r3.Source.x3 r3.Source.x4 r3.Source.x5) (A6u8.mk r3.Target.x0 r3.Target.x1 r3.Target.x2 r3.Target.x3 r3.Target.x4 r3.Target.x5) r3.Seq r3.Ttl r3.Data)).bind fun r6 => (F13 p0).bind fun r8 => (some ([] ++ p1)).bind fun w10 => (F14 w10).bind fun r12 => (F15 p1).bind fun r14 => (F16 r6.1 r8.1).bind fun r16 => need (bif (r16 && (bEq r6.2 r8.2)) then ((F17 (TMeshFrame.mk (A6u8.mk r12.1.From.x0 r12.1.From.x1 r12.1.From.x2 r12.1.From.x3 r12.1.From.x4 r12.1.From.x5) (A6u8.mk r12.1.To.x0 r12.1.To.x1 r12.1.To.x2 r12.1.To.x3 r12.1.To.x4 r12.1.To.x5) (A6u8.mk r12.1.Enter.x0 r12.1.Enter.x1 r12.1.Enter.x2 r12.1.Enter.x3 r12.1.Enter.x4 r12.1.Enter.x5) (A6u8.mk r12.1.Leave.x0 r12.1.Leave.x1 r12.1.Leave.x2 r12.1.Leave.x3 r12.1.Leave.x4 r12.1.Leave.x5) (A6u8.mk r12.1.Source.x0 r12.1.Source.x1 r12.1.Source.x2 r12.1.Source.x3 r12.1.Source.x4 r12.1.Source.x5) (A6u8.mk r12.1.Target.x0 r12.1.Target.x1 r12.1.Target.x2 r12.1.Target.x3 r12.1.Target.x4 r12.1.Target.x5) r12.1.Seq r12.1.Ttl r12.1.Data) (TMeshFrame.mk (A6u8.mk r14.1.From.x0 r14.1.From.x1 r14.1.From.x2 r14.1.From.x3 r14.1.From.x4 r14.1.From.x5) (A6u8.mk r14.1.To.x0 r14.1.To.x1 r14.1.To.x2 r14.1.To.x3 r14.1.To.x4 r14.1.To.x5) (A6u8.mk r14.1.Enter.x0 r14.1.Enter.x1 r14.1.Enter.x2 r14.1.Enter.x3 r14.1.Enter.x4 r14.1.Enter.x5) (A6u8.mk r14.1.Leave.x0 r14.1.Leave.x1 r14.1.Leave.x2 r14.1.Leave.x3 r14.1.Leave.x4 r14.1.Leave.x5) (A6u8.mk r14.1.Source.x0 r14.1.Source.x1 r14.1.Source.x2 r14.1.Source.x3 r14.1.Source.x4 r14.1.Source.x5) (A6u8.mk r14.1.Target.x0 r14.1.Target.x1 r14.1.Target.x2 r14.1.Target.x3 r14.1.Target.x4 r14.1.Target.x5) r14.1.Seq r14.1.Ttl r14.1.Data)).isSome) else true) <| (F18_0 0 0 0 0 0 0 0 (TMeshFrame.mk (A6u8.mk r12.1.From.x0 r12.1.From.x1 r12.1.From.x2 r12.1.From.x3 r12.1.From.x4 r12.1.From.x5) (A6u8.mk r12.1.To.x0 r12.1.To.x1 r12.1.To.x2 r12.1.To.x3 r12.1.To.x4 r12.1.To.x5) (A6u8.mk r12.1.Enter.x0 r12.1.Enter.x1 r12.1.Enter.x2 r12.1.Enter.x3 r12.1.Enter.x4 r12.1.Enter.x5) (A6u8.mk r12.1.Leave.x0 r12.1.Leave.x1 r12.1.Leave.x2 r12.1.Leave.x3 r12.1.Leave.x4 r12.1.Leave.x5) (A6u8.mk r12.1.Source.x0 r12.1.Source.x1 r12.1.Source.x2 r12.1.Source.x3 r12.1.Source.x4 r12.1.Source.x5) (A6u8.mk r12.1.Target.x0 r12.1.Target.x1 r12.1.Target.x2 r12.1.Target.x3 r12.1.Target.x4 r12.1.Target.x5) r12.1.Seq r12.1.Ttl r12.1.Data)).bind fun r19 => lp (loopD (fun s => F3_L1 s.1 s.2) (r6.1, 0)) (fun e => need (bif (((r16 && (bEq r6.2 r8.2)) && (gt (F17 (TMeshFrame.mk (A6u8.mk r12.1.From.x0 r12.1.From.x1 r12.1.From.x2 r12.1.From.x3 r12.1.From.x4 r12.1.From.x5) (A6u8.mk r12.1.To.x0 r12.1.To.x1 r12.1.To.x2 r12.1.To.x3 r12.1.To.x4 r12.1.To.x5) (A6u8.mk r12.1.Enter.x0 r12.1.Enter.x1 r12.1.Enter.x2 r12.1.Enter.x3 r12.1.Enter.x4 r12.1.Enter.x5) (A6u8.mk r12.1.Leave.x0 r12.1.Leave.x1 r12.1.Leave.x2 r12.1.Leave.x3 r12.1.Leave.x4 r12.1.Leave.x5) (A6u8.mk r12.1.Source.x0 r12.1.Source.x1 r12.1.Source.x2 r12.1.Source.x3 r12.1.Source.x4 r12.1.Source.x5) (A6u8.mk r12.1.Target.x0 r12.1.Target.x1 r12.1.Target.x2 r12.1.Target.x3 r12.1.Target.x4 r12.1.Target.x5) r12.1.Seq r12.1.Ttl r12.1.Data) (TMeshFrame.mk (A6u8.mk r14.1.From.x0 r14.1.From.x1 r14.1.From.x2 r14.1.From.x3 r14.1.From.x4 r14.1.From.x5) (A6u8.mk r14.1.To.x0 r14.1.To.x1 r14.1.To.x2 r14.1.To.x3 r14.1.To.x4 r14.1.To.x5) (A6u8.mk r14.1.Enter.x0 r14.1.Enter.x1 r14.1.Enter.x2 r14.1.Enter.x3 r14.1.Enter.x4 r14.1.Enter.x5) (A6u8.mk r14.1.Leave.x0 r14.1.Leave.x1 r14.1.Leave.x2 r14.1.Leave.x3 r14.1.Leave.x4 r14.1.Leave.x5) (A6u8.mk r14.1.Source.x0 r14.1.Source.x1 r14.1.Source.x2 r14.1.Source.x3 r14.1.Source.x4 r14.1.Source.x5) (A6u8.mk r14.1.Target.x0 r14.1.Target.x1 r14.1.Target.x2 r14.1.Target.x3 r14.1.Target.x4 r14.1.Target.x5) r14.1.Seq r14.1.Ttl r14.1.Data)))) && (bEq r12.2 r14.2)) then ((F17 (TMeshFrame.mk (A6u8.mk r3.From.x0 r3.From.x1 r3.From.x2 r3.From.x3 r3.From.x4 r3.From.x5) (A6u8.mk r3.To.x0 r3.To.x1 r3.To.x2 r3.To.x3 r3.To.x4 r3.To.x5) (A6u8.mk r3.Enter.x0 r3.Enter.x1 r3.Enter.x2 r3.Enter.x3 r3.Enter.x4 r3.Enter.x5) (A6u8.mk r3.Leave.x0 r3.Leave.x1 r3.Leave.x2 r3.Leave.x3 r3.Leave.x4 r3.Leave.x5) (A6u8.mk r3.Source.x0 r3.Source.x1 r3.Source.x2 r3.Source.x3 r3.Source.x4 r3.Source.x5) (A6u8.mk r3.Target.x0 r3.Target.x1 r3.Target.x2 r3.Target.x3 r3.Target.x4 r3.Target.x5) r3.Seq r3.Ttl r3.Data) p0).isSome) else true) <| need (bif ((((r16 && (bEq r6.2 r8.2)) && (gt (F17 (TMeshFrame.mk (A6u8.mk r12.1.From.x0 r12.1.From.x1 r12.1.From.x2 r12.1.From.x3 r12.1.From.x4 r12.1.From.x5) (A6u8.mk r12.1.To.x0 r12.1.To.x1 r12.1.To.x2 r12.1.To.x3 r12.1.To.x4 r12.1.To.x5) (A6u8.mk r12.1.Enter.x0 r12.1.Enter.x1 r12.1.Enter.x2 r12.1.Enter.x3 r12.1.Enter.x4 r12.1.Enter.x5) (A6u8.mk r12.1.Leave.x0 r12.1.Leave.x1 r12.1.Leave.x2 r12.1.Leave.x3 r12.1.Leave.x4 r12.1.Leave.x5) (A6u8.mk r12.1.Source.x0 r12.1.Source.x1 r12.1.Source.x2 r12.1.Source.x3 r12.1.Source.x4 r12.1.Source.x5) (A6u8.mk r12.1.Target.x0 r12.1.Target.x1 r12.1.Target.x2 r12.1.Target.x3 r12.1.Target.x4 r12.1.Target.x5) r12.1.Seq r12.1.Ttl r12.1.Data) (TMeshFrame.mk (A6u8.mk r14.1.From.x0 r14.1.From.x1 r14.1.From.x2 r14.1.From.x3 r14.1.From.x4 r14.1.From.x5) (A6u8.mk r14.1.To.x0 r14.1.To.x1 r14.1.To.x2 r14.1.To.x3 r14.1.To.x4 r14.1.To.x5) (A6u8.mk r14.1.Enter.x0 r14.1.Enter.x1 r14.1.Enter.x2 r14.1.Enter.x3 r14.1.Enter.x4 r14.1.Enter.x5) (A6u8.mk r14.1.Leave.x0 r14.1.Leave.x1 r14.1.Leave.x2 r14.1.Leave.x3 r14.1.Leave.x4 r14.1.Leave.x5) (A6u8.mk r14.1.Source.x0 r14.1.Source.x1 r14.1.Source.x2 r14.1.Source.x3 r14.1.Source.x4 r14.1.Source.x5) (A6u8.mk r14.1.Target.x0 r14.1.Target.x1 r14.1.Target.x2 r14.1.Target.x3 r14.1.Target.x4 r14.1.Target.x5) r14.1.Seq r14.1.Ttl r14.1.Data)))) && (bEq r12.2 r14.2)) && (gt (F17 (TMeshFrame.mk (A6u8.mk r3.From.x0 r3.From.x1 r3.From.x2 r3.From.x3 r3.From.x4 r3.From.x5) (A6u8.mk r3.To.x0 r3.To.x1 r3.To.x2 r3.To.x3 r3.To.x4 r3.To.x5) (A6u8.mk r3.Enter.x0 r3.Enter.x1 r3.Enter.x2 r3.Enter.x3 r3.Enter.x4 r3.Enter.x5) (A6u8.mk r3.Leave.x0 r3.Leave.x1 r3.Leave.x2 r3.Leave.x3 r3.Leave.x4 r3.Leave.x5) (A6u8.mk r3.Source.x0 r3.Source.x1 r3.Source.x2 r3.Source.x3 r3.Source.x4 r3.Source.x5) (A6u8.mk r3.Target.x0 r3.Target.x1 r3.Target.x2 r3.Target.x3 r3.Target.x4 r3.Target.x5) r3.Seq r3.Ttl r3.Data) p0))) then ((F16 w10 p1).isSome) else true) <| some (((((r16 && (bEq r6.2 r8.2)) && (gt (F17 (TMeshFrame.mk (A6u8.mk r12.1.From.x0 r12.1.From.x1 r12.1.From.x2 r12.1.From.x3 r12.1.From.x4 r12.1.From.x5) (A6u8.mk r12.1.To.x0 r12.1.To.x1 r12.1.To.x2 r12.1.To.x3 r12.1.To.x4 r12.1.To.x5) (A6u8.mk r12.1.Enter.x0 r12.1.Enter.x1 r12.1.Enter.x2 r12.1.Enter.x3 r12.1.Enter.x4 r12.1.Enter.x5) (A6u8.mk r12.1.Leave.x0 r12.1.Leave.x1 r12.1.Leave.x2 r12.1.Leave.x3 r12.1.Leave.x4 r12.1.Leave.x5) (A6u8.mk r12.1.Source.x0 r12.1.Source.x1 r12.1.Source.x2 r12.1.Source.x3 r12.1.Source.x4 r12.1.Source.x5) (A6u8.mk r12.1.Target.x0 r12.1.Target.x1 r12.1.Target.x2 r12.1.Target.x3 r12.1.Target.x4 r12.1.Target.x5) r12.1.Seq r12.1.Ttl r12.1.Data) (TMeshFrame.mk (A6u8.mk r14.1.From.x0 r14.1.From.x1 r14.1.From.x2 r14.1.From.x3 r14.1.From.x4 r14.1.From.x5) (A6u8.mk r14.1.To.x0 r14.1.To.x1 r14.1.To.x2 r14.1.To.x3 r14.1.To.x4 r14.1.To.x5) (A6u8.mk r14.1.Enter.x0 r14.1.Enter.x1 r14.1.Enter.x2 r14.1.Enter.x3 r14.1.Enter.x4 r14.1.Enter.x5) (A6u8.mk r14.1.Leave.x0 r14.1.Leave.x1 r14.1.Leave.x2 r14.1.Leave.x3 r14.1.Leave.x4 r14.1.Leave.x5) (A6u8.mk r14.1.Source.x0 r14.1.Source.x1 r14.1.Source.x2 r14.1.Source.x3 r14.1.Source.x4 r14.1.Source.x5) (A6u8.mk r14.1.Target.x0 r14.1.Target.x1 r14.1.Target.x2 r14.1.Target.x3 r14.1.Target.x4 r14.1.Target.x5) r14.1.Seq r14.1.Ttl r14.1.Data)))) && (bEq r12.2 r14.2)) && (gt (F17 (TMeshFrame.mk (A6u8.mk r3.From.x0 r3.From.x1 r3.From.x2 r3.From.x3 r3.From.x4 r3.From.x5) (A6u8.mk r3.To.x0 r3.To.x1 r3.To.x2 r3.To.x3 r3.To.x4 r3.To.x5) (A6u8.mk r3.Enter.x0 r3.Enter.x1 r3.Enter.x2 r3.Enter.x3 r3.Enter.x4 r3.Enter.x5) (A6u8.mk r3.Leave.x0 r3.Leave.x1 r3.Leave.x2 r3.Leave.x3 r3.Leave.x4 r3.Leave.x5) (A6u8.mk r3.Source.x0 r3.Source.x1 r3.Source.x2 r3.Source.x3 r3.Source.x4 r3.Source.x5) (A6u8.mk r3.Target.x0 r3.Target.x1 r3.Target.x2 r3.Target.x3 r3.Target.x4 r3.Target.x5) r3.Seq r3.Ttl r3.Data) p0))) && (gt (F16 w10 p1)))) some)
noncomputable def body3 : List AV → AR
  | [v0, v1] => .pure (aK 39 k_TMeshFrame v0 ∧ lK k_u8 1 v1 ∧ (F3 (g_TMeshFrame (aL v0)) (lA g_u8 v1)).isSome = true) (.bool (gt (F3 (g_TMeshFrame (aL v0)) (lA g_u8 v1))))
  | _ => .fail
set_option maxHeartbeats 4000000 in
set_option maxRecDepth 20000 in
theorem ok3 : FnOk Try.prog 3 (pureC body3) := by
  refine pure_fnM body3 (rs := [.tmp 4]) Try.func3 (by kernel_rfl) rfl rfl ?_
  intro l ob v hb hob
  unfold body3 at hb
  split at hb
  · rename_i v0 v1
    injection hb with q1 q2; subst q1 q2
    obtain ⟨hk0_0, hk1_0, hob⟩ := hob
    obtain ⟨r, H⟩ := Option.isSome_iff_exists.1 hob
    rw [H, gt_some]
    have hw0 := wA_TMeshFrame hk0_0
    have hw1 := lK_wk (fun r h => w_u8 h) hk1_0
    generalize g_TMeshFrame (aL v0) = p0 at H hw0
    generalize lA g_u8 v1 = p1 at H hw1
    refine ⟨[.agg (.int .u8 p0.From.x0 :: .int .u8 p0.From.x1 :: .int .u8 p0.From.x2 :: .int .u8 p0.From.x3 :: .int .u8 p0.From.x4 :: .int .u8 p0.From.x5 :: .int .u8 p0.To.x0 :: .int .u8 p0.To.x1 :: .int .u8 p0.To.x2 :: .int .u8 p0.To.x3 :: .int .u8 p0.To.x4 :: .int .u8 p0.To.x5 :: .int .u8 p0.Enter.x0 :: .int .u8 p0.Enter.x1 :: .int .u8 p0.Enter.x2 :: .int .u8 p0.Enter.x3 :: .int .u8 p0.Enter.x4 :: .int .u8 p0.Enter.x5 :: .int .u8 p0.Leave.x0 :: .int .u8 p0.Leave.x1 :: .int .u8 p0.Leave.x2 :: .int .u8 p0.Leave.x3 :: .int .u8 p0.Leave.x4 :: .int .u8 p0.Leave.x5 :: .int .u8 p0.Source.x0 :: .int .u8 p0.Source.x1 :: .int .u8 p0.Source.x2 :: .int .u8 p0.Source.x3 :: .int .u8 p0.Source.x4 :: .int .u8 p0.Source.x5 :: .int .u8 p0.Target.x0 :: .int .u8 p0.Target.x1 :: .int .u8 p0.Target.x2 :: .int .u8 p0.Target.x3 :: .int .u8 p0.Target.x4 :: .int .u8 p0.Target.x5 :: .int .i64 p0.Seq :: .int .i64 p0.Ttl :: .ro 1 p0.Data.length false (enR c_u8 p0.Data) :: []), .ro 1 p1.length false (enR c_u8 p1)], _, (fun E vs F => FR_wk1 hw0.1 F (fun vs F => FR_wk1 hw1.1 F (fun vs F => F))), rfl, rfl, ?_⟩
    rw [Try.ntmps3]
    simp only [List.length_cons, List.length_nil, Nat.reduceAdd, Nat.reduceSub, List.replicate_succ, List.replicate_zero, List.cons_append, List.nil_append]
    unfold F3 at H
    try dsimp only at H
    refine sq ctNo_ok ?_
    simp only [go_sem, Nat.reduceLeDiff, Nat.reduceLT, Nat.reduceAdd, Nat.reduceMul, Nat.reduceSub, Nat.reduceEqDiff, Nat.reduceBEq, Int.reduceToNat, reduceCtorEq]
    refine seqM ?_
    refine seqM ?_
    obtain ⟨r1, e2, H⟩ := Option.bind_eq_some_iff.1 H
    refine rg ct3t0_ok ?_
    simp only [go_sem, Nat.reduceLeDiff, Nat.reduceLT, Nat.reduceAdd, Nat.reduceMul, Nat.reduceSub, Nat.reduceEqDiff, Nat.reduceBEq, Int.reduceToNat, reduceCtorEq, ct3t0_10, body10, e2]
    repeat ((with_reducible refine And.intro ?_ ?_); focus (first | (with_reducible trivial) | omega | (intro g; and_intros <;> first | (with_reducible trivial) | assumption | exact nfc | (intro g2; rw [g, g2]; rfl) | (intro g2; assumption) | (simp only [g, Bool.true_and, Bool.and_true, Bool.not_false, Bool.not_true]; assumption) | grind) | (and_intros <;> first | (with_reducible trivial) | omega | assumption | exact nfc | first | exact rfl | exact trivial | exact fitI | exact Or.inr rfl | exact Or.inl rfl | exact fun x hx => absurd hx (by omega) | (intro x hx; (repeat (first | (and_intros <;> (first | exact rfl | exact trivial | exact fitI | exact Or.inr rfl | exact Or.inl rfl | exact fun x hx => absurd hx (by omega))) | (exfalso; omega) | (rcases x with _ | x))); done)) | grind))
    refine condM rfl trivial (fun hc => ?_) (fun hc => ?_)
    · replace H := cond_t hc H
      refine sq ctNo_ok ?_
      simp only [go_sem, Nat.reduceLeDiff, Nat.reduceLT, Nat.reduceAdd, Nat.reduceMul, Nat.reduceSub, Nat.reduceEqDiff, Nat.reduceBEq, Int.reduceToNat, reduceCtorEq]
      refine rg ctNo_ok ?_
      simp only [go_sem, Nat.reduceLeDiff, Nat.reduceLT, Nat.reduceAdd, Nat.reduceMul, Nat.reduceSub, Nat.reduceEqDiff, Nat.reduceBEq, Int.reduceToNat, reduceCtorEq]
      obtain rfl := Option.some.inj H
      first | rfl | simp only [Bool.and_false, Bool.false_and, Bool.and_true, Bool.true_and]
    replace H := cond_f hc H
    refine rg ctNo_ok ?_
    simp only [go_sem, Nat.reduceLeDiff, Nat.reduceLT, Nat.reduceAdd, Nat.reduceMul, Nat.reduceSub, Nat.reduceEqDiff, Nat.reduceBEq, Int.reduceToNat, reduceCtorEq]
    refine seqM ?_
    obtain ⟨r3, e4, H⟩ := Option.bind_eq_some_iff.1 H
    obtain ⟨f5, H⟩ := need_some.1 H
    replace f5 := capb_iff.1 f5
    refine rg ct3t1_ok ?_
    simp only [go_sem, Nat.reduceLeDiff, Nat.reduceLT, Nat.reduceAdd, Nat.reduceMul, Nat.reduceSub, Nat.reduceEqDiff, Nat.reduceBEq, Int.reduceToNat, reduceCtorEq, aLs, roD, roDOb, deadL, edC, edR, nodupB, rnm, rnmL, rnmB, rnmH, rnm_bif, rnmB_bif, putH, dropH, rhoN, ptB, slN, litL, celL, pK, isLit, oS, isRow, inL, ct3t1_11, body11, e4, f5]
    repeat ((with_reducible refine And.intro ?_ ?_); focus (first | (with_reducible trivial) | omega | (and_intros <;> first | (with_reducible trivial) | omega | assumption | exact nfc | first | exact rfl | exact trivial | exact fitI | exact Or.inr rfl | exact Or.inl rfl | exact fun x hx => absurd hx (by omega) | (intro x hx; (repeat (first | (and_intros <;> (first | exact rfl | exact trivial | exact fitI | exact Or.inr rfl | exact Or.inl rfl | exact fun x hx => absurd hx (by omega))) | (exfalso; omega) | (rcases x with _ | x))); done) | (refine Fit_app ?_ ?_ <;> first | exact fitI | (intro x hx; (repeat (first | (and_intros <;> (first | exact rfl | exact trivial | exact fitI | exact Or.inr rfl | exact Or.inl rfl | exact fun x hx => absurd hx (by omega))) | (exfalso; omega) | (rcases x with _ | x))); done) | (refine Fit_app ?_ ?_ <;> first | exact fitI | (intro x hx; (repeat (first | (and_intros <;> (first | exact rfl | exact trivial | exact fitI | exact Or.inr rfl | exact Or.inl rfl | exact fun x hx => absurd hx (by omega))) | (exfalso; omega) | (rcases x with _ | x))); done)))) | grind))
    refine seqM ?_
    obtain ⟨r6, e7, H⟩ := Option.bind_eq_some_iff.1 H
    refine rg ct3t2_ok ?_
    simp only [go_sem, Nat.reduceLeDiff, Nat.reduceLT, Nat.reduceAdd, Nat.reduceMul, Nat.reduceSub, Nat.reduceEqDiff, Nat.reduceBEq, Int.reduceToNat, reduceCtorEq, aLs, roD, roDOb, deadL, edC, edR, nodupB, rnm, rnmL, rnmB, rnmH, rnm_bif, rnmB_bif, putH, dropH, rhoN, ptB, slN, litL, celL, pK, isLit, oS, isRow, inL, ct3t2_12, body12, e7]
    repeat ((with_reducible refine And.intro ?_ ?_); focus (first | (with_reducible trivial) | omega | (and_intros <;> first | (with_reducible trivial) | omega | assumption | exact nfc | first | exact rfl | exact trivial | exact fitI | exact Or.inr rfl | exact Or.inl rfl | exact fun x hx => absurd hx (by omega) | (intro x hx; (repeat (first | (and_intros <;> (first | exact rfl | exact trivial | exact fitI | exact Or.inr rfl | exact Or.inl rfl | exact fun x hx => absurd hx (by omega))) | (exfalso; omega) | (rcases x with _ | x))); done) | (refine Fit_app ?_ ?_ <;> first | exact fitI | (intro x hx; (repeat (first | (and_intros <;> (first | exact rfl | exact trivial | exact fitI | exact Or.inr rfl | exact Or.inl rfl | exact fun x hx => absurd hx (by omega))) | (exfalso; omega) | (rcases x with _ | x))); done) | (refine Fit_app ?_ ?_ <;> first | exact fitI | (intro x hx; (repeat (first | (and_intros <;> (first | exact rfl | exact trivial | exact fitI | exact Or.inr rfl | exact Or.inl rfl | exact fun x hx => absurd hx (by omega))) | (exfalso; omega) | (rcases x with _ | x))); done)))) | grind))
    refine seqM ?_
    obtain ⟨r8, e9, H⟩ := Option.bind_eq_some_iff.1 H
    refine rg ct3t3_ok ?_
    simp only [go_sem, Nat.reduceLeDiff, Nat.reduceLT, Nat.reduceAdd, Nat.reduceMul, Nat.reduceSub, Nat.reduceEqDiff, Nat.reduceBEq, Int.reduceToNat, reduceCtorEq, aLs, roD, roDOb, deadL, edC, edR, nodupB, rnm, rnmL, rnmB, rnmH, rnm_bif, rnmB_bif, putH, dropH, rhoN, ptB, slN, litL, celL, pK, isLit, oS, isRow, inL, ct3t3_13, body13, e9]
    repeat ((with_reducible refine And.intro ?_ ?_); focus (first | (with_reducible trivial) | omega | (and_intros <;> first | (with_reducible trivial) | omega | assumption | exact nfc | first | exact rfl | exact trivial | exact fitI | exact Or.inr rfl | exact Or.inl rfl | exact fun x hx => absurd hx (by omega) | (intro x hx; (repeat (first | (and_intros <;> (first | exact rfl | exact trivial | exact fitI | exact Or.inr rfl | exact Or.inl rfl | exact fun x hx => absurd hx (by omega))) | (exfalso; omega) | (rcases x with _ | x))); done) | (refine Fit_app ?_ ?_ <;> first | exact fitI | (intro x hx; (repeat (first | (and_intros <;> (first | exact rfl | exact trivial | exact fitI | exact Or.inr rfl | exact Or.inl rfl | exact fun x hx => absurd hx (by omega))) | (exfalso; omega) | (rcases x with _ | x))); done) | (refine Fit_app ?_ ?_ <;> first | exact fitI | (intro x hx; (repeat (first | (and_intros <;> (first | exact rfl | exact trivial | exact fitI | exact Or.inr rfl | exact Or.inl rfl | exact fun x hx => absurd hx (by omega))) | (exfalso; omega) | (rcases x with _ | x))); done)))) | grind))
    refine seqM ?_
    obtain ⟨w10, hw11, H⟩ := Option.bind_eq_some_iff.1 H
    replace hw11 := Option.some.inj hw11
    have lhw11 : w10.length = p1.length := by rw [← hw11]; exact (by first | rfl | (simp; done) | (simp; omega))
    refine subF_mean (t2 := (.agg (.int .u8 p0.From.x0 :: .int .u8 p0.From.x1 :: .int .u8 p0.From.x2 :: .int .u8 p0.From.x3 :: .int .u8 p0.From.x4 :: .int .u8 p0.From.x5 :: .int .u8 p0.To.x0 :: .int .u8 p0.To.x1 :: .int .u8 p0.To.x2 :: .int .u8 p0.To.x3 :: .int .u8 p0.To.x4 :: .int .u8 p0.To.x5 :: .int .u8 p0.Enter.x0 :: .int .u8 p0.Enter.x1 :: .int .u8 p0.Enter.x2 :: .int .u8 p0.Enter.x3 :: .int .u8 p0.Enter.x4 :: .int .u8 p0.Enter.x5 :: .int .u8 p0.Leave.x0 :: .int .u8 p0.Leave.x1 :: .int .u8 p0.Leave.x2 :: .int .u8 p0.Leave.x3 :: .int .u8 p0.Leave.x4 :: .int .u8 p0.Leave.x5 :: .int .u8 p0.Source.x0 :: .int .u8 p0.Source.x1 :: .int .u8 p0.Source.x2 :: .int .u8 p0.Source.x3 :: .int .u8 p0.Source.x4 :: .int .u8 p0.Source.x5 :: .int .u8 p0.Target.x0 :: .int .u8 p0.Target.x1 :: .int .u8 p0.Target.x2 :: .int .u8 p0.Target.x3 :: .int .u8 p0.Target.x4 :: .int .u8 p0.Target.x5 :: .int .i64 p0.Seq :: .int .i64 p0.Ttl :: .ro 1 p0.Data.length false (enR c_u8 p0.Data) :: []) :: .ro 1 p1.length false (enR c_u8 p1) :: .ptr 0 0 0 0 :: .top :: .bool false :: .ptr 4 0 0 0 :: .sl 3 1 0 w10.length false :: .sl 5 1 0 r6.1.length false :: .int .i64 r6.2 :: .sl 6 1 0 r8.1.length false :: .int .i64 r8.2 :: .top :: .top :: .top :: .top :: .top :: .top :: .agg [.int .u8 0, .int .u8 0, .int .u8 0, .int .u8 0, .int .u8 0, .int .u8 0, .int .i64 0, .ro 0 0 true (fun _ _ => .top), .ro 0 0 true (fun _ _ => .top)] :: .ptr 0 0 0 38 :: .ro 1 p0.Data.length false (enR c_u8 p0.Data) :: .bool r1 :: .bool r1 :: .opt (!r1) (.ro 1 p1.length false (enR c_u8 p1)) :: .opt (!r1) (.int .i64 (p1.length : Nat)) :: .opt (!r1) (.bool (bLt 2400 (p1.length : Nat))) :: .bool (r1 || (bLt 2400 (p1.length : Nat))) :: .agg (.int .u8 p0.From.x0 :: .int .u8 p0.From.x1 :: .int .u8 p0.From.x2 :: .int .u8 p0.From.x3 :: .int .u8 p0.From.x4 :: .int .u8 p0.From.x5 :: .int .u8 p0.To.x0 :: .int .u8 p0.To.x1 :: .int .u8 p0.To.x2 :: .int .u8 p0.To.x3 :: .int .u8 p0.To.x4 :: .int .u8 p0.To.x5 :: .int .u8 p0.Enter.x0 :: .int .u8 p0.Enter.x1 :: .int .u8 p0.Enter.x2 :: .int .u8 p0.Enter.x3 :: .int .u8 p0.Enter.x4 :: .int .u8 p0.Enter.x5 :: .int .u8 p0.Leave.x0 :: .int .u8 p0.Leave.x1 :: .int .u8 p0.Leave.x2 :: .int .u8 p0.Leave.x3 :: .int .u8 p0.Leave.x4 :: .int .u8 p0.Leave.x5 :: .int .u8 p0.Source.x0 :: .int .u8 p0.Source.x1 :: .int .u8 p0.Source.x2 :: .int .u8 p0.Source.x3 :: .int .u8 p0.Source.x4 :: .int .u8 p0.Source.x5 :: .int .u8 p0.Target.x0 :: .int .u8 p0.Target.x1 :: .int .u8 p0.Target.x2 :: .int .u8 p0.Target.x3 :: .int .u8 p0.Target.x4 :: .int .u8 p0.Target.x5 :: .int .i64 p0.Seq :: .int .i64 p0.Ttl :: .ro 1 p0.Data.length false (enR c_u8 p0.Data) :: []) :: .agg (.int .u8 r3.From.x0 :: .int .u8 r3.From.x1 :: .int .u8 r3.From.x2 :: .int .u8 r3.From.x3 :: .int .u8 r3.From.x4 :: .int .u8 r3.From.x5 :: .int .u8 r3.To.x0 :: .int .u8 r3.To.x1 :: .int .u8 r3.To.x2 :: .int .u8 r3.To.x3 :: .int .u8 r3.To.x4 :: .int .u8 r3.To.x5 :: .int .u8 r3.Enter.x0 :: .int .u8 r3.Enter.x1 :: .int .u8 r3.Enter.x2 :: .int .u8 r3.Enter.x3 :: .int .u8 r3.Enter.x4 :: .int .u8 r3.Enter.x5 :: .int .u8 r3.Leave.x0 :: .int .u8 r3.Leave.x1 :: .int .u8 r3.Leave.x2 :: .int .u8 r3.Leave.x3 :: .int .u8 r3.Leave.x4 :: .int .u8 r3.Leave.x5 :: .int .u8 r3.Source.x0 :: .int .u8 r3.Source.x1 :: .int .u8 r3.Source.x2 :: .int .u8 r3.Source.x3 :: .int .u8 r3.Source.x4 :: .int .u8 r3.Source.x5 :: .int .u8 r3.Target.x0 :: .int .u8 r3.Target.x1 :: .int .u8 r3.Target.x2 :: .int .u8 r3.Target.x3 :: .int .u8 r3.Target.x4 :: .int .u8 r3.Target.x5 :: .int .i64 r3.Seq :: .int .i64 r3.Ttl :: .sl 1 1 0 r3.Data.length false :: []) :: .sl 2 1 0 0 false :: .ro 1 p1.length false (enR c_u8 p1) :: .sl 3 1 0 w10.length false :: .tup [.sl 5 1 0 r6.1.length false, .int .i64 r6.2] :: .agg (.int .u8 r3.From.x0 :: .int .u8 r3.From.x1 :: .int .u8 r3.From.x2 :: .int .u8 r3.From.x3 :: .int .u8 r3.From.x4 :: .int .u8 r3.From.x5 :: .int .u8 r3.To.x0 :: .int .u8 r3.To.x1 :: .int .u8 r3.To.x2 :: .int .u8 r3.To.x3 :: .int .u8 r3.To.x4 :: .int .u8 r3.To.x5 :: .int .u8 r3.Enter.x0 :: .int .u8 r3.Enter.x1 :: .int .u8 r3.Enter.x2 :: .int .u8 r3.Enter.x3 :: .int .u8 r3.Enter.x4 :: .int .u8 r3.Enter.x5 :: .int .u8 r3.Leave.x0 :: .int .u8 r3.Leave.x1 :: .int .u8 r3.Leave.x2 :: .int .u8 r3.Leave.x3 :: .int .u8 r3.Leave.x4 :: .int .u8 r3.Leave.x5 :: .int .u8 r3.Source.x0 :: .int .u8 r3.Source.x1 :: .int .u8 r3.Source.x2 :: .int .u8 r3.Source.x3 :: .int .u8 r3.Source.x4 :: .int .u8 r3.Source.x5 :: .int .u8 r3.Target.x0 :: .int .u8 r3.Target.x1 :: .int .u8 r3.Target.x2 :: .int .u8 r3.Target.x3 :: .int .u8 r3.Target.x4 :: .int .u8 r3.Target.x5 :: .int .i64 r3.Seq :: .int .i64 r3.Ttl :: .sl 1 1 0 r3.Data.length false :: []) :: .tup [.sl 5 1 0 r6.1.length false, .int .i64 r6.2] :: .sl 5 1 0 r6.1.length false :: .int .i64 r6.2 :: .tup [.sl 6 1 0 r8.1.length false, .int .i64 r8.2] :: .agg (.int .u8 p0.From.x0 :: .int .u8 p0.From.x1 :: .int .u8 p0.From.x2 :: .int .u8 p0.From.x3 :: .int .u8 p0.From.x4 :: .int .u8 p0.From.x5 :: .int .u8 p0.To.x0 :: .int .u8 p0.To.x1 :: .int .u8 p0.To.x2 :: .int .u8 p0.To.x3 :: .int .u8 p0.To.x4 :: .int .u8 p0.To.x5 :: .int .u8 p0.Enter.x0 :: .int .u8 p0.Enter.x1 :: .int .u8 p0.Enter.x2 :: .int .u8 p0.Enter.x3 :: .int .u8 p0.Enter.x4 :: .int .u8 p0.Enter.x5 :: .int .u8 p0.Leave.x0 :: .int .u8 p0.Leave.x1 :: .int .u8 p0.Leave.x2 :: .int .u8 p0.Leave.x3 :: .int .u8 p0.Leave.x4 :: .int .u8 p0.Leave.x5 :: .int .u8 p0.Source.x0 :: .int .u8 p0.Source.x1 :: .int .u8 p0.Source.x2 :: .int .u8 p0.Source.x3 :: .int .u8 p0.Source.x4 :: .int .u8 p0.Source.x5 :: .int .u8 p0.Target.x0 :: .int .u8 p0.Target.x1 :: .int .u8 p0.Target.x2 :: .int .u8 p0.Target.x3 :: .int .u8 p0.Target.x4 :: .int .u8 p0.Target.x5 :: .int .i64 p0.Seq :: .int .i64 p0.Ttl :: .ro 1 p0.Data.length false (enR c_u8 p0.Data) :: []) :: .tup [.sl 6 1 0 r8.1.length false, .int .i64 r8.2] :: .sl 6 1 0 r8.1.length false :: .int .i64 r8.2 :: .top :: .top :: .top :: .top :: .top :: .top :: .top :: .top :: .top :: .top :: .top :: .top :: .top :: .top :: .top :: .top :: .top :: .top :: .top :: .top :: .top :: .top :: .top :: .top :: .top :: .top :: .top :: .top :: .top :: .top :: .top :: .top :: .top :: .top :: .top :: .top :: .top :: .top :: .top :: .top :: .top :: .top :: .top :: .top :: .top :: .top :: .top :: .top :: .top :: .top :: .top :: .top :: .top :: .top :: [])) (h2 := [.lit 26 (.int .u8 p0.From.x0 :: .int .u8 p0.From.x1 :: .int .u8 p0.From.x2 :: .int .u8 p0.From.x3 :: .int .u8 p0.From.x4 :: .int .u8 p0.From.x5 :: .int .u8 p0.To.x0 :: .int .u8 p0.To.x1 :: .int .u8 p0.To.x2 :: .int .u8 p0.To.x3 :: .int .u8 p0.To.x4 :: .int .u8 p0.To.x5 :: .int .u8 p0.Enter.x0 :: .int .u8 p0.Enter.x1 :: .int .u8 p0.Enter.x2 :: .int .u8 p0.Enter.x3 :: .int .u8 p0.Enter.x4 :: .int .u8 p0.Enter.x5 :: .int .u8 p0.Leave.x0 :: .int .u8 p0.Leave.x1 :: .int .u8 p0.Leave.x2 :: .int .u8 p0.Leave.x3 :: .int .u8 p0.Leave.x4 :: .int .u8 p0.Leave.x5 :: .int .u8 p0.Source.x0 :: .int .u8 p0.Source.x1 :: .int .u8 p0.Source.x2 :: .int .u8 p0.Source.x3 :: .int .u8 p0.Source.x4 :: .int .u8 p0.Source.x5 :: .int .u8 p0.Target.x0 :: .int .u8 p0.Target.x1 :: .int .u8 p0.Target.x2 :: .int .u8 p0.Target.x3 :: .int .u8 p0.Target.x4 :: .int .u8 p0.Target.x5 :: .int .i64 p0.Seq :: .int .i64 p0.Ttl :: .ro 1 p0.Data.length false (enR c_u8 p0.Data) :: []), .row 5 1 r3.Data.length (enR c_u8 r3.Data), .dead, .row 5 1 w10.length (enR c_u8 w10), .lit 26 (.int .u8 r3.From.x0 :: .int .u8 r3.From.x1 :: .int .u8 r3.From.x2 :: .int .u8 r3.From.x3 :: .int .u8 r3.From.x4 :: .int .u8 r3.From.x5 :: .int .u8 r3.To.x0 :: .int .u8 r3.To.x1 :: .int .u8 r3.To.x2 :: .int .u8 r3.To.x3 :: .int .u8 r3.To.x4 :: .int .u8 r3.To.x5 :: .int .u8 r3.Enter.x0 :: .int .u8 r3.Enter.x1 :: .int .u8 r3.Enter.x2 :: .int .u8 r3.Enter.x3 :: .int .u8 r3.Enter.x4 :: .int .u8 r3.Enter.x5 :: .int .u8 r3.Leave.x0 :: .int .u8 r3.Leave.x1 :: .int .u8 r3.Leave.x2 :: .int .u8 r3.Leave.x3 :: .int .u8 r3.Leave.x4 :: .int .u8 r3.Leave.x5 :: .int .u8 r3.Source.x0 :: .int .u8 r3.Source.x1 :: .int .u8 r3.Source.x2 :: .int .u8 r3.Source.x3 :: .int .u8 r3.Source.x4 :: .int .u8 r3.Source.x5 :: .int .u8 r3.Target.x0 :: .int .u8 r3.Target.x1 :: .int .u8 r3.Target.x2 :: .int .u8 r3.Target.x3 :: .int .u8 r3.Target.x4 :: .int .u8 r3.Target.x5 :: .int .i64 r3.Seq :: .int .i64 r3.Ttl :: .sl 1 1 0 r3.Data.length false :: []), .row 5 1 r6.1.length (enR c_u8 r6.1), .row 5 1 r8.1.length (enR c_u8 r8.1)]) ?_ ?_
    · refine SubF_of ⟨[some 0, some 1, some 2, some 3, some 4, some 5, some 6], ?_, ?_, by rfl, by rfl⟩
      · simp [CvL, Cv, getM, lhw11]
      · exact ⟨(by simp [CvB, CvL, Cv, blkAt, geth, getM, lhw11]), CvB_row nr_u8 rfl (fun _ _ _ _ => rfl), CvB_dead, CvB_row nr_u8 lhw11 (hw11 ▸ (app_row (f := c_u8) [] p1 (lit_row (f := c_u8) [] (fun _ _ => rfl) rfl) (fun _ _ _ _ => rfl))), (by simp [CvB, CvL, Cv, blkAt, geth, getM, lhw11]), CvB_row nr_u8 rfl (fun _ _ _ _ => rfl), CvB_row nr_u8 rfl (fun _ _ _ _ => rfl), trivial⟩
    obtain ⟨r12, e13, H⟩ := Option.bind_eq_some_iff.1 H
    refine rg ct3t4_ok ?_
    simp only [go_sem, Nat.reduceLeDiff, Nat.reduceLT, Nat.reduceAdd, Nat.reduceMul, Nat.reduceSub, Nat.reduceEqDiff, Nat.reduceBEq, Int.reduceToNat, reduceCtorEq, aLs, roD, roDOb, deadL, edC, edR, nodupB, rnm, rnmL, rnmB, rnmH, rnm_bif, rnmB_bif, putH, dropH, rhoN, ptB, slN, litL, celL, pK, isLit, oS, isRow, inL, ct3t4_14, body14, e13]
    repeat ((with_reducible refine And.intro ?_ ?_); focus (first | (with_reducible trivial) | omega | (and_intros <;> first | (with_reducible trivial) | omega | assumption | exact nfc | first | exact rfl | exact trivial | exact fitI | exact Or.inr rfl | exact Or.inl rfl | exact fun x hx => absurd hx (by omega) | (intro x hx; (repeat (first | (and_intros <;> (first | exact rfl | exact trivial | exact fitI | exact Or.inr rfl | exact Or.inl rfl | exact fun x hx => absurd hx (by omega))) | (exfalso; omega) | (rcases x with _ | x))); done)) | grind))
    refine seqM ?_
    obtain ⟨r14, e15, H⟩ := Option.bind_eq_some_iff.1 H
    refine rg ct3t5_ok ?_
    simp only [go_sem, Nat.reduceLeDiff, Nat.reduceLT, Nat.reduceAdd, Nat.reduceMul, Nat.reduceSub, Nat.reduceEqDiff, Nat.reduceBEq, Int.reduceToNat, reduceCtorEq, aLs, roD, roDOb, deadL, edC, edR, nodupB, rnm, rnmL, rnmB, rnmH, rnm_bif, rnmB_bif, putH, dropH, rhoN, ptB, slN, litL, celL, pK, isLit, oS, isRow, inL, ct3t5_15, body15, e15]
    repeat ((with_reducible refine And.intro ?_ ?_); focus (first | (with_reducible trivial) | omega | (and_intros <;> first | (with_reducible trivial) | omega | assumption | exact nfc | first | exact rfl | exact trivial | exact fitI | exact Or.inr rfl | exact Or.inl rfl | exact fun x hx => absurd hx (by omega) | (intro x hx; (repeat (first | (and_intros <;> (first | exact rfl | exact trivial | exact fitI | exact Or.inr rfl | exact Or.inl rfl | exact fun x hx => absurd hx (by omega))) | (exfalso; omega) | (rcases x with _ | x))); done)) | grind))
    refine seqM ?_
    obtain ⟨r16, e17, H⟩ := Option.bind_eq_some_iff.1 H
    obtain ⟨f18, H⟩ := need_some.1 H
    replace f18 := g_iff.1 f18
    refine rg ct3t6_ok ?_
    simp only [go_sem, Nat.reduceLeDiff, Nat.reduceLT, Nat.reduceAdd, Nat.reduceMul, Nat.reduceSub, Nat.reduceEqDiff, Nat.reduceBEq, Int.reduceToNat, reduceCtorEq, ct3t6_16, body16, ct3t6_17, body17, e17]
    repeat ((with_reducible refine And.intro ?_ ?_); focus (first | (with_reducible trivial) | omega | exact f18 | (intro g; have q := f18 (by first | exact g | (rw [g]; rfl) | simpa using g); first | exact q | exact ⟨q.1, q.2.1⟩ | exact q.2.2 | omega | exact ⟨g, q⟩ | exact ⟨trivial, q⟩ | exact ⟨g, q.1, q.2.1⟩ | exact ⟨g, q.2.2⟩) | (intro g; (try have q0 := f18 (by first | exact g | (rw [g]; rfl) | simpa using g)); and_intros <;> first | (with_reducible trivial) | assumption | exact nfc | (intro g2; rw [g, g2]; rfl) | (intro g2; assumption) | (simp only [g, Bool.true_and, Bool.and_true, Bool.not_false, Bool.not_true]; assumption) | grind) | (and_intros <;> first | (with_reducible trivial) | omega | assumption | exact nfc | first | exact rfl | exact trivial | exact fitI | exact Or.inr rfl | exact Or.inl rfl | exact fun x hx => absurd hx (by omega) | (intro x hx; (repeat (first | (and_intros <;> (first | exact rfl | exact trivial | exact fitI | exact Or.inr rfl | exact Or.inl rfl | exact fun x hx => absurd hx (by omega))) | (exfalso; omega) | (rcases x with _ | x))); done)) | grind))
    refine seqM ?_
    obtain ⟨r19, e20, H⟩ := Option.bind_eq_some_iff.1 H
    refine rg ct3t7_ok ?_
    simp only [go_sem, Nat.reduceLeDiff, Nat.reduceLT, Nat.reduceAdd, Nat.reduceMul, Nat.reduceSub, Nat.reduceEqDiff, Nat.reduceBEq, Int.reduceToNat, reduceCtorEq, aLs, roD, roDOb, deadL, edC, edR, nodupB, rnm, rnmL, rnmB, rnmH, rnm_bif, rnmB_bif, putH, dropH, rhoN, ptB, slN, litL, celL, pK, isLit, oS, isRow, inL, ct3t7_18, body18_0, e20]
    repeat ((with_reducible refine And.intro ?_ ?_); focus (first | (with_reducible trivial) | omega | (and_intros <;> first | (with_reducible trivial) | omega | assumption | exact nfc | first | exact rfl | exact trivial | exact fitI | exact Or.inr rfl | exact Or.inl rfl | exact fun x hx => absurd hx (by omega) | (intro x hx; (repeat (first | (and_intros <;> (first | exact rfl | exact trivial | exact fitI | exact Or.inr rfl | exact Or.inl rfl | exact fun x hx => absurd hx (by omega))) | (exfalso; omega) | (rcases x with _ | x))); done)) | grind))
    refine seqM ?_
    refine sq ctNo_ok ?_
    simp only [go_sem, Nat.reduceLeDiff, Nat.reduceLT, Nat.reduceAdd, Nat.reduceMul, Nat.reduceSub, Nat.reduceEqDiff, Nat.reduceBEq, Int.reduceToNat, reduceCtorEq]
    refine blkM ?_
    refine loop_den (fun s : (List Int) × Int => (.top :: .ro 1 p1.length false (enR c_u8 p1) :: .ptr 0 0 0 0 :: .top :: .top :: .ptr 4 0 0 0 :: .sl 3 1 0 w10.length false :: .sl 11 1 0 s.1.length false :: .top :: .top :: .top :: .top :: .top :: .top :: .top :: .bool (((r16 && (bEq r6.2 r8.2)) && (gt (F17 (TMeshFrame.mk (A6u8.mk r12.1.From.x0 r12.1.From.x1 r12.1.From.x2 r12.1.From.x3 r12.1.From.x4 r12.1.From.x5) (A6u8.mk r12.1.To.x0 r12.1.To.x1 r12.1.To.x2 r12.1.To.x3 r12.1.To.x4 r12.1.To.x5) (A6u8.mk r12.1.Enter.x0 r12.1.Enter.x1 r12.1.Enter.x2 r12.1.Enter.x3 r12.1.Enter.x4 r12.1.Enter.x5) (A6u8.mk r12.1.Leave.x0 r12.1.Leave.x1 r12.1.Leave.x2 r12.1.Leave.x3 r12.1.Leave.x4 r12.1.Leave.x5) (A6u8.mk r12.1.Source.x0 r12.1.Source.x1 r12.1.Source.x2 r12.1.Source.x3 r12.1.Source.x4 r12.1.Source.x5) (A6u8.mk r12.1.Target.x0 r12.1.Target.x1 r12.1.Target.x2 r12.1.Target.x3 r12.1.Target.x4 r12.1.Target.x5) r12.1.Seq r12.1.Ttl r12.1.Data) (TMeshFrame.mk (A6u8.mk r14.1.From.x0 r14.1.From.x1 r14.1.From.x2 r14.1.From.x3 r14.1.From.x4 r14.1.From.x5) (A6u8.mk r14.1.To.x0 r14.1.To.x1 r14.1.To.x2 r14.1.To.x3 r14.1.To.x4 r14.1.To.x5) (A6u8.mk r14.1.Enter.x0 r14.1.Enter.x1 r14.1.Enter.x2 r14.1.Enter.x3 r14.1.Enter.x4 r14.1.Enter.x5) (A6u8.mk r14.1.Leave.x0 r14.1.Leave.x1 r14.1.Leave.x2 r14.1.Leave.x3 r14.1.Leave.x4 r14.1.Leave.x5) (A6u8.mk r14.1.Source.x0 r14.1.Source.x1 r14.1.Source.x2 r14.1.Source.x3 r14.1.Source.x4 r14.1.Source.x5) (A6u8.mk r14.1.Target.x0 r14.1.Target.x1 r14.1.Target.x2 r14.1.Target.x3 r14.1.Target.x4 r14.1.Target.x5) r14.1.Seq r14.1.Ttl r14.1.Data)))) && (bEq r12.2 r14.2)) :: .int .i64 s.2 :: .top :: .top :: .top :: .top :: .top :: .top :: .top :: .top :: .top :: .top :: .top :: .top :: .top :: .top :: .top :: .top :: .top :: .top :: .top :: .top :: .top :: .top :: .top :: .top :: .top :: .top :: .top :: .top :: .top :: .top :: .top :: .top :: .top :: .top :: .top :: .top :: .top :: .top :: .top :: .top :: .top :: .top :: .top :: .top :: .top :: .top :: .top :: .top :: .top :: .top :: .top :: .top :: .top :: .top :: .top :: .top :: .top :: .top :: .top :: .top :: .top :: .top :: .top :: .top :: .top :: .top :: .top :: .top :: .top :: .top :: .top :: .top :: .top :: .top :: .top :: .top :: .top :: .top :: [])) (fun s => [.lit 26 (.int .u8 p0.From.x0 :: .int .u8 p0.From.x1 :: .int .u8 p0.From.x2 :: .int .u8 p0.From.x3 :: .int .u8 p0.From.x4 :: .int .u8 p0.From.x5 :: .int .u8 p0.To.x0 :: .int .u8 p0.To.x1 :: .int .u8 p0.To.x2 :: .int .u8 p0.To.x3 :: .int .u8 p0.To.x4 :: .int .u8 p0.To.x5 :: .int .u8 p0.Enter.x0 :: .int .u8 p0.Enter.x1 :: .int .u8 p0.Enter.x2 :: .int .u8 p0.Enter.x3 :: .int .u8 p0.Enter.x4 :: .int .u8 p0.Enter.x5 :: .int .u8 p0.Leave.x0 :: .int .u8 p0.Leave.x1 :: .int .u8 p0.Leave.x2 :: .int .u8 p0.Leave.x3 :: .int .u8 p0.Leave.x4 :: .int .u8 p0.Leave.x5 :: .int .u8 p0.Source.x0 :: .int .u8 p0.Source.x1 :: .int .u8 p0.Source.x2 :: .int .u8 p0.Source.x3 :: .int .u8 p0.Source.x4 :: .int .u8 p0.Source.x5 :: .int .u8 p0.Target.x0 :: .int .u8 p0.Target.x1 :: .int .u8 p0.Target.x2 :: .int .u8 p0.Target.x3 :: .int .u8 p0.Target.x4 :: .int .u8 p0.Target.x5 :: .int .i64 p0.Seq :: .int .i64 p0.Ttl :: .ro 1 p0.Data.length false (enR c_u8 p0.Data) :: []), .row 5 1 r3.Data.length (enR c_u8 r3.Data), .dead, .row 5 1 w10.length (enR c_u8 w10), .lit 26 (.int .u8 r3.From.x0 :: .int .u8 r3.From.x1 :: .int .u8 r3.From.x2 :: .int .u8 r3.From.x3 :: .int .u8 r3.From.x4 :: .int .u8 r3.From.x5 :: .int .u8 r3.To.x0 :: .int .u8 r3.To.x1 :: .int .u8 r3.To.x2 :: .int .u8 r3.To.x3 :: .int .u8 r3.To.x4 :: .int .u8 r3.To.x5 :: .int .u8 r3.Enter.x0 :: .int .u8 r3.Enter.x1 :: .int .u8 r3.Enter.x2 :: .int .u8 r3.Enter.x3 :: .int .u8 r3.Enter.x4 :: .int .u8 r3.Enter.x5 :: .int .u8 r3.Leave.x0 :: .int .u8 r3.Leave.x1 :: .int .u8 r3.Leave.x2 :: .int .u8 r3.Leave.x3 :: .int .u8 r3.Leave.x4 :: .int .u8 r3.Leave.x5 :: .int .u8 r3.Source.x0 :: .int .u8 r3.Source.x1 :: .int .u8 r3.Source.x2 :: .int .u8 r3.Source.x3 :: .int .u8 r3.Source.x4 :: .int .u8 r3.Source.x5 :: .int .u8 r3.Target.x0 :: .int .u8 r3.Target.x1 :: .int .u8 r3.Target.x2 :: .int .u8 r3.Target.x3 :: .int .u8 r3.Target.x4 :: .int .u8 r3.Target.x5 :: .int .i64 r3.Seq :: .int .i64 r3.Ttl :: .sl 1 1 0 r3.Data.length false :: []), .dead, .dead, .dead, .dead, .dead, .dead, .row 5 1 s.1.length (enR c_u8 s.1)]) (fun e : Unit => (.top :: .ro 1 p1.length false (enR c_u8 p1) :: .ptr 0 0 0 0 :: .top :: .top :: .ptr 4 0 0 0 :: .sl 3 1 0 w10.length false :: .top :: .top :: .top :: .top :: .top :: .top :: .top :: .top :: .bool (((r16 && (bEq r6.2 r8.2)) && (gt (F17 (TMeshFrame.mk (A6u8.mk r12.1.From.x0 r12.1.From.x1 r12.1.From.x2 r12.1.From.x3 r12.1.From.x4 r12.1.From.x5) (A6u8.mk r12.1.To.x0 r12.1.To.x1 r12.1.To.x2 r12.1.To.x3 r12.1.To.x4 r12.1.To.x5) (A6u8.mk r12.1.Enter.x0 r12.1.Enter.x1 r12.1.Enter.x2 r12.1.Enter.x3 r12.1.Enter.x4 r12.1.Enter.x5) (A6u8.mk r12.1.Leave.x0 r12.1.Leave.x1 r12.1.Leave.x2 r12.1.Leave.x3 r12.1.Leave.x4 r12.1.Leave.x5) (A6u8.mk r12.1.Source.x0 r12.1.Source.x1 r12.1.Source.x2 r12.1.Source.x3 r12.1.Source.x4 r12.1.Source.x5) (A6u8.mk r12.1.Target.x0 r12.1.Target.x1 r12.1.Target.x2 r12.1.Target.x3 r12.1.Target.x4 r12.1.Target.x5) r12.1.Seq r12.1.Ttl r12.1.Data) (TMeshFrame.mk (A6u8.mk r14.1.From.x0 r14.1.From.x1 r14.1.From.x2 r14.1.From.x3 r14.1.From.x4 r14.1.From.x5) (A6u8.mk r14.1.To.x0 r14.1.To.x1 r14.1.To.x2 r14.1.To.x3 r14.1.To.x4 r14.1.To.x5) (A6u8.mk r14.1.Enter.x0 r14.1.Enter.x1 r14.1.Enter.x2 r14.1.Enter.x3 r14.1.Enter.x4 r14.1.Enter.x5) (A6u8.mk r14.1.Leave.x0 r14.1.Leave.x1 r14.1.Leave.x2 r14.1.Leave.x3 r14.1.Leave.x4 r14.1.Leave.x5) (A6u8.mk r14.1.Source.x0 r14.1.Source.x1 r14.1.Source.x2 r14.1.Source.x3 r14.1.Source.x4 r14.1.Source.x5) (A6u8.mk r14.1.Target.x0 r14.1.Target.x1 r14.1.Target.x2 r14.1.Target.x3 r14.1.Target.x4 r14.1.Target.x5) r14.1.Seq r14.1.Ttl r14.1.Data)))) && (bEq r12.2 r14.2)) :: .top :: .top :: .top :: .top :: .top :: .top :: .top :: .top :: .top :: .top :: .top :: .top :: .top :: .top :: .top :: .top :: .top :: .top :: .top :: .top :: .top :: .top :: .top :: .top :: .top :: .top :: .top :: .top :: .top :: .top :: .top :: .top :: .top :: .top :: .top :: .top :: .top :: .top :: .top :: .top :: .top :: .top :: .top :: .top :: .top :: .top :: .top :: .top :: .top :: .top :: .top :: .top :: .top :: .top :: .top :: .top :: .top :: .top :: .top :: .top :: .top :: .top :: .top :: .top :: .top :: .top :: .top :: .top :: .top :: .top :: .top :: .top :: .top :: .top :: .top :: .top :: .top :: .top :: .top :: [])) (fun e => [.lit 26 (.int .u8 p0.From.x0 :: .int .u8 p0.From.x1 :: .int .u8 p0.From.x2 :: .int .u8 p0.From.x3 :: .int .u8 p0.From.x4 :: .int .u8 p0.From.x5 :: .int .u8 p0.To.x0 :: .int .u8 p0.To.x1 :: .int .u8 p0.To.x2 :: .int .u8 p0.To.x3 :: .int .u8 p0.To.x4 :: .int .u8 p0.To.x5 :: .int .u8 p0.Enter.x0 :: .int .u8 p0.Enter.x1 :: .int .u8 p0.Enter.x2 :: .int .u8 p0.Enter.x3 :: .int .u8 p0.Enter.x4 :: .int .u8 p0.Enter.x5 :: .int .u8 p0.Leave.x0 :: .int .u8 p0.Leave.x1 :: .int .u8 p0.Leave.x2 :: .int .u8 p0.Leave.x3 :: .int .u8 p0.Leave.x4 :: .int .u8 p0.Leave.x5 :: .int .u8 p0.Source.x0 :: .int .u8 p0.Source.x1 :: .int .u8 p0.Source.x2 :: .int .u8 p0.Source.x3 :: .int .u8 p0.Source.x4 :: .int .u8 p0.Source.x5 :: .int .u8 p0.Target.x0 :: .int .u8 p0.Target.x1 :: .int .u8 p0.Target.x2 :: .int .u8 p0.Target.x3 :: .int .u8 p0.Target.x4 :: .int .u8 p0.Target.x5 :: .int .i64 p0.Seq :: .int .i64 p0.Ttl :: .ro 1 p0.Data.length false (enR c_u8 p0.Data) :: []), .row 5 1 r3.Data.length (enR c_u8 r3.Data), .dead, .row 5 1 w10.length (enR c_u8 w10), .lit 26 (.int .u8 r3.From.x0 :: .int .u8 r3.From.x1 :: .int .u8 r3.From.x2 :: .int .u8 r3.From.x3 :: .int .u8 r3.From.x4 :: .int .u8 r3.From.x5 :: .int .u8 r3.To.x0 :: .int .u8 r3.To.x1 :: .int .u8 r3.To.x2 :: .int .u8 r3.To.x3 :: .int .u8 r3.To.x4 :: .int .u8 r3.To.x5 :: .int .u8 r3.Enter.x0 :: .int .u8 r3.Enter.x1 :: .int .u8 r3.Enter.x2 :: .int .u8 r3.Enter.x3 :: .int .u8 r3.Enter.x4 :: .int .u8 r3.Enter.x5 :: .int .u8 r3.Leave.x0 :: .int .u8 r3.Leave.x1 :: .int .u8 r3.Leave.x2 :: .int .u8 r3.Leave.x3 :: .int .u8 r3.Leave.x4 :: .int .u8 r3.Leave.x5 :: .int .u8 r3.Source.x0 :: .int .u8 r3.Source.x1 :: .int .u8 r3.Source.x2 :: .int .u8 r3.Source.x3 :: .int .u8 r3.Source.x4 :: .int .u8 r3.Source.x5 :: .int .u8 r3.Target.x0 :: .int .u8 r3.Target.x1 :: .int .u8 r3.Target.x2 :: .int .u8 r3.Target.x3 :: .int .u8 r3.Target.x4 :: .int .u8 r3.Target.x5 :: .int .i64 r3.Seq :: .int .i64 r3.Ttl :: .sl 1 1 0 r3.Data.length false :: []), .dead, .dead, .dead, .dead, .dead, .dead]) H ?_ (fun s o H hn1_1 hn2_1 => ?_) (fun e H => ?_)
    · refine SubF_of ⟨[some 0, some 1, some 2, some 3, some 4, some 5, some 6, some 7, some 8, some 9, some 10, some 5], ?_, ?_, by rfl, by rfl⟩
      · simp [CvL, Cv, getM]
      · exact ⟨(by simp [CvB, CvL, Cv, blkAt, geth, getM]), (CvB_same nfA), CvB_dead, (CvB_same nfA), (by simp [CvB, CvL, Cv, blkAt, geth, getM]), CvB_dead, CvB_dead, CvB_dead, CvB_dead, CvB_dead, CvB_dead, CvB_row nr_u8 (by first | rfl | (simp; done) | (simp; omega)) (fun _ _ _ _ => rfl), trivial⟩
    · obtain ⟨v1_1, v1_2⟩ := s
      unfold F3_L1 at H
      try dsimp only at H ⊢
      refine seqM ?_
      refine sq ctNo_ok ?_
      simp only [go_sem, Nat.reduceLeDiff, Nat.reduceLT, Nat.reduceAdd, Nat.reduceMul, Nat.reduceSub, Nat.reduceEqDiff, Nat.reduceBEq, Int.reduceToNat, reduceCtorEq]
      repeat ((with_reducible refine And.intro ?_ ?_); focus (first | (with_reducible trivial) | omega | (and_intros <;> first | (with_reducible trivial) | omega | assumption | exact nfc | first | exact rfl | exact trivial | exact fitI | exact Or.inr rfl | exact Or.inl rfl | exact fun x hx => absurd hx (by omega) | (intro x hx; (repeat (first | (and_intros <;> (first | exact rfl | exact trivial | exact fitI | exact Or.inr rfl | exact Or.inl rfl | exact fun x hx => absurd hx (by omega))) | (exfalso; omega) | (rcases x with _ | x))); done)) | grind))
      refine condM' rfl trivial (fun hc => ?_) (fun hc => ?_)
      · replace H := cond_f hc H
        refine rg ctNo_ok ?_
        simp only [go_sem, Nat.reduceLeDiff, Nat.reduceLT, Nat.reduceAdd, Nat.reduceMul, Nat.reduceSub, Nat.reduceEqDiff, Nat.reduceBEq, Int.reduceToNat, reduceCtorEq]
        refine ⟨_, (Option.some.inj H).symm, ?_⟩
        refine SubF_of ⟨[some 0, some 1, some 2, some 3, some 4, some 5, some 6, some 7, some 8, some 9, some 10], ?_, ?_, by rfl, by rfl⟩
        · simp [CvL, Cv, getM]
        · exact ⟨(by simp [CvB, CvL, Cv, blkAt, geth, getM]), (CvB_same nfA), CvB_dead, (CvB_same nfA), (by simp [CvB, CvL, Cv, blkAt, geth, getM]), CvB_dead, CvB_dead, CvB_dead, CvB_dead, CvB_dead, CvB_dead, trivial⟩
      replace H := cond_t hc H
      refine rg ctNo_ok ?_
      simp only [go_sem, Nat.reduceLeDiff, Nat.reduceLT, Nat.reduceAdd, Nat.reduceMul, Nat.reduceSub, Nat.reduceEqDiff, Nat.reduceBEq, Int.reduceToNat, reduceCtorEq]
      refine seqM ?_
      refine blkM ?_
      obtain ⟨f21, H⟩ := need_some.1 H
      replace f21 := inb_iff.1 f21
      obtain ⟨f22, H⟩ := need_some.1 H
      replace f22 := inb_iff.1 f22
      refine rg ctNo_ok ?_
      simp only [go_sem, Nat.reduceLeDiff, Nat.reduceLT, Nat.reduceAdd, Nat.reduceMul, Nat.reduceSub, Nat.reduceEqDiff, Nat.reduceBEq, Int.reduceToNat, reduceCtorEq, f21, f22]
      repeat ((with_reducible refine And.intro ?_ ?_); focus (first | (with_reducible trivial) | omega | grind))
      refine rg ctNo_ok ?_
      simp only [go_sem, Nat.reduceLeDiff, Nat.reduceLT, Nat.reduceAdd, Nat.reduceMul, Nat.reduceSub, Nat.reduceEqDiff, Nat.reduceBEq, Int.reduceToNat, reduceCtorEq]
      refine ⟨_, (Option.some.inj H).symm, ?_⟩
      refine SubF_of ⟨[some 0, some 1, some 2, some 3, some 4, some 5, some 6, some 7, some 8, some 9, some 10, some 11], ?_, ?_, by rfl, by rfl⟩
      · simp [CvL, Cv, getM]
      · exact ⟨(by simp [CvB, CvL, Cv, blkAt, geth, getM]), (CvB_same nfA), CvB_dead, (CvB_same nfA), (by simp [CvB, CvL, Cv, blkAt, geth, getM]), CvB_dead, CvB_dead, CvB_dead, CvB_dead, CvB_dead, CvB_dead, CvB_row nr_u8 (by first | rfl | (simp; done) | (simp; omega)) (upc_row (f := c_u8) v1_1 v1_2.toNat 0 (wr .u8 ((gd v1_1 v1_2.toNat) + 1)) (fun _ _ _ _ => rfl) (fun y hy => match y, hy with | 0, _ => rfl | (y+1), h => absurd h (by omega))), trivial⟩
    · try dsimp only at H ⊢
      try simp only [m_normal, k_normal, b_normal, kL_normal, r_normal]
      refine seqM ?_
      obtain ⟨f23, H⟩ := need_some.1 H
      replace f23 := g_iff.1 f23
      obtain ⟨f24, H⟩ := need_some.1 H
      replace f24 := g_iff.1 f24
      refine rg ct3t6_ok ?_
      simp only [go_sem, Nat.reduceLeDiff, Nat.reduceLT, Nat.reduceAdd, Nat.reduceMul, Nat.reduceSub, Nat.reduceEqDiff, Nat.reduceBEq, Int.reduceToNat, reduceCtorEq, ct3t6_16, body16, ct3t6_17, body17]
      repeat ((with_reducible refine And.intro ?_ ?_); focus (first | (with_reducible trivial) | omega | exact f23 | exact f24 | (intro g; have q := f23 (by first | exact g | (rw [g]; rfl) | simpa using g); first | exact q | exact ⟨q.1, q.2.1⟩ | exact q.2.2 | omega | exact ⟨g, q⟩ | exact ⟨trivial, q⟩ | exact ⟨g, q.1, q.2.1⟩ | exact ⟨g, q.2.2⟩) | (intro g; have q := f24 (by first | exact g | (rw [g]; rfl) | simpa using g); first | exact q | exact ⟨q.1, q.2.1⟩ | exact q.2.2 | omega | exact ⟨g, q⟩ | exact ⟨trivial, q⟩ | exact ⟨g, q.1, q.2.1⟩ | exact ⟨g, q.2.2⟩) | (intro g; (try have q0 := f23 (by first | exact g | (rw [g]; rfl) | simpa using g)); (try have q1 := f24 (by first | exact g | (rw [g]; rfl) | simpa using g)); and_intros <;> first | (with_reducible trivial) | assumption | exact nfc | (intro g2; rw [g, g2]; rfl) | (intro g2; assumption) | (simp only [g, Bool.true_and, Bool.and_true, Bool.not_false, Bool.not_true]; assumption) | grind) | (and_intros <;> first | (with_reducible trivial) | omega | assumption | exact nfc | first | exact rfl | exact trivial | exact fitI | exact Or.inr rfl | exact Or.inl rfl | exact fun x hx => absurd hx (by omega) | (intro x hx; (repeat (first | (and_intros <;> (first | exact rfl | exact trivial | exact fitI | exact Or.inr rfl | exact Or.inl rfl | exact fun x hx => absurd hx (by omega))) | (exfalso; omega) | (rcases x with _ | x))); done)) | grind))
      refine rg ctNo_ok ?_
      simp only [go_sem, Nat.reduceLeDiff, Nat.reduceLT, Nat.reduceAdd, Nat.reduceMul, Nat.reduceSub, Nat.reduceEqDiff, Nat.reduceBEq, Int.reduceToNat, reduceCtorEq]
      obtain rfl := Option.some.inj H
      first | rfl | simp only [Bool.and_false, Bool.false_and, Bool.and_true, Bool.true_and]
  · cases hb
end Go.Proofs.Ytbahnppiobafoaa
