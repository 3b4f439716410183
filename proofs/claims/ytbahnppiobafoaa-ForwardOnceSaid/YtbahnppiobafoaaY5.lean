/-
  What ForwardOnce reaches.
-/
import Derived.Test.YtbahnppiobafoaaY5p1
namespace Go.Proofs.Ytbahnppiobafoaa
open Go.Am
set_option linter.unusedVariables false
set_option linter.unusedSimpArgs false
attribute [local go_sem] w_skip w_label w_goto w_scope k_goto b_goto l_goto s_normal s_exit s_ret s_goto w_region w_draw w_seq w_cond w_block w_exit w_ret w_loop k_normal k_exit k_ret b_normal b_exit b_ret l_normal l_exit l_ret m_normal m_exit m_ret m_goto kL_normal kL_exit kL_ret kS_normal kS_exit kS_ret kS_goto r_normal r_ret o_nil o_cons q_nil q_cons nxt gval gvd gvl gvw dstOf evO ogOp ogC og ogL ogP ogO rho rhoO strip optOk getL setL setT absC absV absL pO hO evLoad ldB geth seth evStore stRes stB evBox evAlloc evFieldAddr evField evIndexAddr evBin2 binI binB binNR binU nilR_isEmpty nilR_t nilR_0 nilR_s evInt evStr evUn evConv cvO evPick mrg evExtract evNil evCall mapR evBuiltin evLen2 vcells vcOk atom tabF cnd retK resFin resL resA resC resCons evBuild evBuildP placeS placeA fillA fillOk putL getP nxtQ pureC_eq pureR genC_eq genR roV roL roOb roObL roW roWL roWOb roWObL nref nrefL binA binN eqSh eqRes evIndex evIndex2 evIndexS evSlice evSlice2 evSliceS evBound evConv2 cvS evAppend appRes srcOf evMake evBuildSlice repL evFn evMin evMax freshC freshR sub_enR0 evClear evClearR evCopy evCopyR lenS cutS Bool.or_false Bool.false_or Bool.or_true Bool.true_or Bool.and_false Bool.false_and Option.map_some Option.map_none Option.getD_some Option.getD_none Option.bind_some Option.bind_none Option.or_some Option.or_none Option.none_or Option.isSome_none Option.isNone_none Option.isNone_some List.nil_append List.cons_append List.append_nil cond_true cond_false List.length_cons List.length_nil beq_self_eq_true Bool.and_true Bool.true_and Bool.not_true Bool.not_false true_and and_true and_self true_implies implies_true ne_eq not_false_eq_true Bool.false_eq_true Bool.true_eq_false false_implies Nat.lt_irrefl Nat.le_refl Nat.succ_ne_self imp_self Bool.cond_false_right Bool.cond_true_left decide_true decide_false Bool.not_eq_true' Bool.not_eq_false' Bool.not_not Nat.zero_mul Nat.zero_add Nat.add_zero Nat.mul_one Nat.one_mul Bool.cond_self tsz3 tby3 tagg3 tslice3 tarr3 tzero3 tzn3 tplaces3 tint3 tstr3 tnoint3 tbool3 tany3 tintk3 tbytes3 tsz4 tby4 tagg4 tslice4 tarr4 tzero4 tzn4 tplaces4 tint4 tstr4 tnoint4 tbool4 tany4 tintk4 tbytes4 tsz5 tby5 tagg5 tslice5 tarr5 tzero5 tzn5 tplaces5 tint5 tstr5 tnoint5 tbool5 tany5 tintk5 tbytes5 tsz9 tby9 tagg9 tslice9 tarr9 tzero9 tzn9 tplaces9 tint9 tstr9 tnoint9 tbool9 tany9 tintk9 tbytes9 tsz23 tby23 tagg23 tslice23 tarr23 tzero23 tzn23 tplaces23 tint23 tstr23 tnoint23 tbool23 tany23 tintk23 tbytes23 tsz24 tby24 tagg24 tslice24 tarr24 tzero24 tzn24 tplaces24 tint24 tstr24 tnoint24 tbool24 tany24 tintk24 tbytes24 tsz26 tby26 tagg26 tslice26 tarr26 tzero26 tzn26 tplaces26 tint26 tstr26 tnoint26 tbool26 tany26 tintk26 tbytes26 tfld26_0 tfld26_1 tfld26_2 tfld26_3 tfld26_4 tfld26_5 tfld26_6 tfld26_7 tfld26_8 tsz28 tby28 tagg28 tslice28 tarr28 tzero28 tzn28 tplaces28 tint28 tstr28 tnoint28 tbool28 tany28 tintk28 tbytes28 tsz29 tby29 tagg29 tslice29 tarr29 tzero29 tzn29 tplaces29 tint29 tstr29 tnoint29 tbool29 tany29 tintk29 tbytes29 tsz31 tby31 tagg31 tslice31 tarr31 tzero31 tzn31 tplaces31 tint31 tstr31 tnoint31 tbool31 tany31 tintk31 tbytes31 tfld31_0 tfld31_1 tfld31_2 tfld31_3 tsz33 tby33 tagg33 tslice33 tarr33 tzero33 tzn33 tplaces33 tint33 tstr33 tnoint33 tbool33 tany33 tintk33 tbytes33 tsz55 tby55 tagg55 tslice55 tarr55 tzero55 tzn55 tplaces55 tint55 tstr55 tnoint55 tbool55 tany55 tintk55 tbytes55 tsz59 tby59 tagg59 tslice59 tarr59 tzero59 tzn59 tplaces59 tint59 tstr59 tnoint59 tbool59 tany59 tintk59 tbytes59 tfld59_0 tfld59_1 tsz62 tby62 tagg62 tslice62 tarr62 tzn62 tplaces62 tint62 tstr62 tnoint62 tbool62 tany62 tintk62 tbytes62 tsz64 tby64 tagg64 tslice64 tarr64 tzero64 tzn64 tplaces64 tint64 tstr64 tnoint64 tbool64 tany64 tintk64 tbytes64 tsz70 tby70 tagg70 tslice70 tarr70 tzero70 tzn70 tplaces70 tint70 tstr70 tnoint70 tbool70 tany70 tintk70 tbytes70 tsz73 tby73 tagg73 tslice73 tarr73 tzero73 tzn73 tplaces73 tint73 tstr73 tnoint73 tbool73 tany73 tintk73 tbytes73 tsz75 tby75 tagg75 tslice75 tarr75 tzero75 tzn75 tplaces75 tint75 tstr75 tnoint75 tbool75 tany75 tintk75 tbytes75 tsz76 tby76 tagg76 tslice76 tarr76 tzero76 tzn76 tplaces76 tint76 tstr76 tnoint76 tbool76 tany76 tintk76 tbytes76 tsz78 tby78 tagg78 tslice78 tarr78 tzero78 tzn78 tplaces78 tint78 tstr78 tnoint78 tbool78 tany78 tintk78 tbytes78 tsz80 tby80 tagg80 tslice80 tarr80 tzero80 tzn80 tplaces80 tint80 tstr80 tnoint80 tbool80 tany80 tintk80 tbytes80 tfld80_0 tfld80_1 tsz84 tby84 tagg84 tslice84 tarr84 tzero84 tzn84 tplaces84 tint84 tstr84 tnoint84 tbool84 tany84 tintk84 tbytes84 tsz85 tby85 tagg85 tslice85 tarr85 tzero85 tzn85 tplaces85 tint85 tstr85 tnoint85 tbool85 tany85 tintk85 tbytes85 tsz86 tby86 tagg86 tslice86 tarr86 tzero86 tzn86 tplaces86 tint86 tstr86 tnoint86 tbool86 tany86 tintk86 tbytes86 tsz90 tby90 tagg90 tslice90 tarr90 tzero90 tzn90 tplaces90 tint90 tstr90 tnoint90 tbool90 tany90 tintk90 tbytes90 tfld90_0 tfld90_1 tsz105 tby105 tagg105 tslice105 tarr105 tzero105 tzn105 tplaces105 tint105 tstr105 tnoint105 tbool105 tany105 tintk105 tbytes105 tsz110 tby110 tagg110 tslice110 tarr110 tzero110 tzn110 tplaces110 tint110 tstr110 tnoint110 tbool110 tany110 tintk110 tbytes110 tsz114 tby114 tagg114 tslice114 tarr114 tzero114 tzn114 tplaces114 tint114 tstr114 tnoint114 tbool114 tany114 tintk114 tbytes114 e_u8_0 fit_u8 de_u8 g_u8 k_u8 e_i64_0 fit_i64 de_i64 g_i64 k_i64 e_b_0 fit_b de_b g_b k_b e_s_0 fit_s de_s g_s k_s e_A6u8_0 e_A6u8_1 e_A6u8_2 e_A6u8_3 e_A6u8_4 e_A6u8_5 fit_A6u8 de_A6u8 g_A6u8 k_A6u8 eta_A6u8 e_lu8_0 fit_lu8 de_lu8 g_lu8 k_lu8 e_TMeshFrame_0 e_TMeshFrame_1 e_TMeshFrame_2 e_TMeshFrame_3 e_TMeshFrame_4 e_TMeshFrame_5 e_TMeshFrame_6 e_TMeshFrame_7 e_TMeshFrame_8 e_TMeshFrame_9 e_TMeshFrame_10 e_TMeshFrame_11 e_TMeshFrame_12 e_TMeshFrame_13 e_TMeshFrame_14 e_TMeshFrame_15 e_TMeshFrame_16 e_TMeshFrame_17 e_TMeshFrame_18 e_TMeshFrame_19 e_TMeshFrame_20 e_TMeshFrame_21 e_TMeshFrame_22 e_TMeshFrame_23 e_TMeshFrame_24 e_TMeshFrame_25 e_TMeshFrame_26 e_TMeshFrame_27 e_TMeshFrame_28 e_TMeshFrame_29 e_TMeshFrame_30 e_TMeshFrame_31 e_TMeshFrame_32 e_TMeshFrame_33 e_TMeshFrame_34 e_TMeshFrame_35 e_TMeshFrame_36 e_TMeshFrame_37 e_TMeshFrame_38 fit_TMeshFrame de_TMeshFrame g_TMeshFrame k_TMeshFrame eta_TMeshFrame e_TForwardMark_0 e_TForwardMark_1 e_TForwardMark_2 e_TForwardMark_3 e_TForwardMark_4 e_TForwardMark_5 e_TForwardMark_6 fit_TForwardMark de_TForwardMark g_TForwardMark k_TForwardMark eta_TForwardMark e_lTForwardMark_0 fit_lTForwardMark de_lTForwardMark g_lTForwardMark k_lTForwardMark e_TForwardHop_0 e_TForwardHop_1 e_TForwardHop_2 e_TForwardHop_3 e_TForwardHop_4 e_TForwardHop_5 e_TForwardHop_6 e_TForwardHop_7 e_TForwardHop_8 e_TForwardHop_9 e_TForwardHop_10 e_TForwardHop_11 fit_TForwardHop de_TForwardHop g_TForwardHop k_TForwardHop eta_TForwardHop e_lTForwardHop_0 fit_lTForwardHop de_lTForwardHop g_lTForwardHop k_lTForwardHop e_TForward_0 e_TForward_1 e_TForward_2 e_TForward_3 e_TForward_4 e_TForward_5 e_TForward_6 e_TForward_7 e_TForward_8 fit_TForward de_TForward g_TForward k_TForward eta_TForward e_lTMeshFrame_0 fit_lTMeshFrame de_lTMeshFrame g_lTMeshFrame k_lTMeshFrame e_A8i64_0 e_A8i64_1 e_A8i64_2 e_A8i64_3 e_A8i64_4 e_A8i64_5 e_A8i64_6 e_A8i64_7 fit_A8i64 de_A8i64 g_A8i64 k_A8i64 eta_A8i64 e_li64_0 fit_li64 de_li64 g_li64 k_li64 e_A8b_0 e_A8b_1 e_A8b_2 e_A8b_3 e_A8b_4 e_A8b_5 e_A8b_6 e_A8b_7 fit_A8b de_A8b g_A8b k_A8b eta_A8b e_lb_0 fit_lb de_lb g_lb k_lb e_A8A8b_0 e_A8A8b_1 e_A8A8b_2 e_A8A8b_3 e_A8A8b_4 e_A8A8b_5 e_A8A8b_6 e_A8A8b_7 e_A8A8b_8 e_A8A8b_9 e_A8A8b_10 e_A8A8b_11 e_A8A8b_12 e_A8A8b_13 e_A8A8b_14 e_A8A8b_15 e_A8A8b_16 e_A8A8b_17 e_A8A8b_18 e_A8A8b_19 e_A8A8b_20 e_A8A8b_21 e_A8A8b_22 e_A8A8b_23 e_A8A8b_24 e_A8A8b_25 e_A8A8b_26 e_A8A8b_27 e_A8A8b_28 e_A8A8b_29 e_A8A8b_30 e_A8A8b_31 e_A8A8b_32 e_A8A8b_33 e_A8A8b_34 e_A8A8b_35 e_A8A8b_36 e_A8A8b_37 e_A8A8b_38 e_A8A8b_39 e_A8A8b_40 e_A8A8b_41 e_A8A8b_42 e_A8A8b_43 e_A8A8b_44 e_A8A8b_45 e_A8A8b_46 e_A8A8b_47 e_A8A8b_48 e_A8A8b_49 e_A8A8b_50 e_A8A8b_51 e_A8A8b_52 e_A8A8b_53 e_A8A8b_54 e_A8A8b_55 e_A8A8b_56 e_A8A8b_57 e_A8A8b_58 e_A8A8b_59 e_A8A8b_60 e_A8A8b_61 e_A8A8b_62 e_A8A8b_63 fit_A8A8b de_A8A8b g_A8A8b k_A8A8b eta_A8A8b e_Ttravel_0 e_Ttravel_1 e_Ttravel_2 e_Ttravel_3 e_Ttravel_4 e_Ttravel_5 e_Ttravel_6 e_Ttravel_7 e_Ttravel_8 e_Ttravel_9 e_Ttravel_10 e_Ttravel_11 e_Ttravel_12 e_Ttravel_13 e_Ttravel_14 e_Ttravel_15 e_Ttravel_16 e_Ttravel_17 e_Ttravel_18 e_Ttravel_19 e_Ttravel_20 e_Ttravel_21 e_Ttravel_22 e_Ttravel_23 e_Ttravel_24 e_Ttravel_25 e_Ttravel_26 e_Ttravel_27 e_Ttravel_28 e_Ttravel_29 e_Ttravel_30 e_Ttravel_31 e_Ttravel_32 e_Ttravel_33 e_Ttravel_34 e_Ttravel_35 e_Ttravel_36 e_Ttravel_37 e_Ttravel_38 e_Ttravel_39 fit_Ttravel de_Ttravel g_Ttravel k_Ttravel eta_Ttravel e_lTtravel_0 fit_lTtravel de_lTtravel g_lTtravel k_lTtravel e_u64_0 fit_u64 de_u64 g_u64 k_u64 e_lA6u8_0 fit_lA6u8 de_lA6u8 g_lA6u8 k_lA6u8 e_A6A6u8_0 e_A6A6u8_1 e_A6A6u8_2 e_A6A6u8_3 e_A6A6u8_4 e_A6A6u8_5 e_A6A6u8_6 e_A6A6u8_7 e_A6A6u8_8 e_A6A6u8_9 e_A6A6u8_10 e_A6A6u8_11 e_A6A6u8_12 e_A6A6u8_13 e_A6A6u8_14 e_A6A6u8_15 e_A6A6u8_16 e_A6A6u8_17 e_A6A6u8_18 e_A6A6u8_19 e_A6A6u8_20 e_A6A6u8_21 e_A6A6u8_22 e_A6A6u8_23 e_A6A6u8_24 e_A6A6u8_25 e_A6A6u8_26 e_A6A6u8_27 e_A6A6u8_28 e_A6A6u8_29 e_A6A6u8_30 e_A6A6u8_31 e_A6A6u8_32 e_A6A6u8_33 e_A6A6u8_34 e_A6A6u8_35 fit_A6A6u8 de_A6A6u8 g_A6A6u8 k_A6A6u8 eta_A6A6u8 deR_0 deR_1 deR_2 deR_3 deR_4 deR_5 deR_6 deR_7 deR_8 deR_9 deR_10 deR_11 deR_12 litC_x0 litC_x1 litC_x2 litC_x3 litC_x4 litC_x5 litC_x6 litC_x7 litC_x8 litC_x9 litC_x10 litC_x11 strE_u8 Fit_0 Option.isSome_some gt_some gd_one evCopyL tabR sub_enR List.drop_zero xrD xoD roEq minL rK rM rG aL aK iK bK sK lK iA bA sA lA or_true true_or Int.toNat_natCast shT_23 shT_59 shT_64 shT_73 shT_86 shT_90 Int.toNat_zero Int.cast_ofNat_Int aLs roD roDOb deadL edC edR nodupB rnm rnmL rnmB rnmH rnm_bif rnmB_bif putH dropH rhoN ptB slN litL celL pK isLit oS isRow inL fzV fzL fzOb fzObL fzH fzHF fzB fzObB fzObH rowOb
/-! hotspot/forward.Receive -/
noncomputable def ct20t0 : Ct := tab [(23, pureC body23), (27, pureC body27)]
theorem ct20t0_ok : CtOk Try.prog ct20t0 := tab_cons ok23 <| tab_cons ok27 <| tab_nil
theorem ct20t0_23 (l : List AV) (h : List ABlk) : ct20t0 23 l h = pureC body23 l h := rfl
theorem ct20t0_27 (l : List AV) (h : List ABlk) : ct20t0 27 l h = pureC body27 l h := rfl
noncomputable def ct20t1 : Ct := tab [(39, pureC body39), (40, pureC body40)]
theorem ct20t1_ok : CtOk Try.prog ct20t1 := tab_cons ok39 <| tab_cons ok40 <| tab_nil
theorem ct20t1_39 (l : List AV) (h : List ABlk) : ct20t1 39 l h = pureC body39 l h := rfl
theorem ct20t1_40 (l : List AV) (h : List ABlk) : ct20t1 40 l h = pureC body40 l h := rfl
noncomputable def ct20t2 : Ct := tab [(41, edC body41)]
theorem ct20t2_ok : CtOk Try.prog ct20t2 := tab_cons ok41 <| tab_nil
theorem ct20t2_41 (l : List AV) (h : List ABlk) : ct20t2 41 l h = edC body41 l h := rfl
noncomputable def ct20t3 : Ct := tab [(42, edC body42)]
theorem ct20t3_ok : CtOk Try.prog ct20t3 := tab_cons ok42 <| tab_nil
theorem ct20t3_42 (l : List AV) (h : List ABlk) : ct20t3 42 l h = edC body42 l h := rfl
noncomputable def ct20t4 : Ct := tab [(37, edC body37)]
theorem ct20t4_ok : CtOk Try.prog ct20t4 := tab_cons ok37 <| tab_nil
theorem ct20t4_37 (l : List AV) (h : List ABlk) : ct20t4 37 l h = edC body37 l h := rfl
noncomputable def ct20t5 : Ct := tab [(43, pureC body43)]
theorem ct20t5_ok : CtOk Try.prog ct20t5 := tab_cons ok43 <| tab_nil
theorem ct20t5_43 (l : List AV) (h : List ABlk) : ct20t5 43 l h = pureC body43 l h := rfl
noncomputable def ct20t6 : Ct := tab [(39, pureC body39)]
theorem ct20t6_ok : CtOk Try.prog ct20t6 := tab_cons ok39 <| tab_nil
theorem ct20t6_39 (l : List AV) (h : List ABlk) : ct20t6 39 l h = pureC body39 l h := rfl
noncomputable def F20 (p0 : TForward) (p1 : TMeshFrame) : Option (TForward × Int × TMeshFrame × Int) :=
  (F27 p0).bind fun r1 => need (bif (!(!bEq r1 0)) then ((F23 p1).isSome) else true) <| bif ((!bEq r1 0) || (!bEq (gt (F23 p1)) 0)) then (some ((TForward.mk (A6u8.mk 0 0 0 0 0 0) 0 [] []), 0, (TMeshFrame.mk (A6u8.mk 0 0 0 0 0 0) (A6u8.mk 0 0 0 0 0 0) (A6u8.mk 0 0 0 0 0 0) (A6u8.mk 0 0 0 0 0 0) (A6u8.mk 0 0 0 0 0 0) (A6u8.mk 0 0 0 0 0 0) 0 0 []), 8)) else ((F39 p1.To).bind fun r4 => need (bif (!((((!r4) && (!(bEq p1.To.x0 p0.Own.x0 && (bEq p1.To.x1 p0.Own.x1 && (bEq p1.To.x2 p0.Own.x2 && (bEq p1.To.x3 p0.Own.x3 && (bEq p1.To.x4 p0.Own.x4 && (bEq p1.To.x5 p0.Own.x5)))))))) || (bEq p1.Enter.x0 p0.Own.x0 && (bEq p1.Enter.x1 p0.Own.x1 && (bEq p1.Enter.x2 p0.Own.x2 && (bEq p1.Enter.x3 p0.Own.x3 && (bEq p1.Enter.x4 p0.Own.x4 && (bEq p1.Enter.x5 p0.Own.x5))))))) || (bEq p1.From.x0 p0.Own.x0 && (bEq p1.From.x1 p0.Own.x1 && (bEq p1.From.x2 p0.Own.x2 && (bEq p1.From.x3 p0.Own.x3 && (bEq p1.From.x4 p0.Own.x4 && (bEq p1.From.x5 p0.Own.x5)))))))) then ((F40 p0.Seen (TForwardMark.mk (A6u8.mk p1.Enter.x0 p1.Enter.x1 p1.Enter.x2 p1.Enter.x3 p1.Enter.x4 p1.Enter.x5) p1.Seq)).isSome) else true) <| bif (((((!r4) && (!(bEq p1.To.x0 p0.Own.x0 && (bEq p1.To.x1 p0.Own.x1 && (bEq p1.To.x2 p0.Own.x2 && (bEq p1.To.x3 p0.Own.x3 && (bEq p1.To.x4 p0.Own.x4 && (bEq p1.To.x5 p0.Own.x5)))))))) || (bEq p1.Enter.x0 p0.Own.x0 && (bEq p1.Enter.x1 p0.Own.x1 && (bEq p1.Enter.x2 p0.Own.x2 && (bEq p1.Enter.x3 p0.Own.x3 && (bEq p1.Enter.x4 p0.Own.x4 && (bEq p1.Enter.x5 p0.Own.x5))))))) || (bEq p1.From.x0 p0.Own.x0 && (bEq p1.From.x1 p0.Own.x1 && (bEq p1.From.x2 p0.Own.x2 && (bEq p1.From.x3 p0.Own.x3 && (bEq p1.From.x4 p0.Own.x4 && (bEq p1.From.x5 p0.Own.x5))))))) || (gt (F40 p0.Seen (TForwardMark.mk (A6u8.mk p1.Enter.x0 p1.Enter.x1 p1.Enter.x2 p1.Enter.x3 p1.Enter.x4 p1.Enter.x5) p1.Seq)))) then ((F41 p0).bind fun r7 => some ((TForward.mk (A6u8.mk r7.Own.x0 r7.Own.x1 r7.Own.x2 r7.Own.x3 r7.Own.x4 r7.Own.x5) r7.Seq r7.Seen r7.Nexts), 0, (TMeshFrame.mk (A6u8.mk 0 0 0 0 0 0) (A6u8.mk 0 0 0 0 0 0) (A6u8.mk 0 0 0 0 0 0) (A6u8.mk 0 0 0 0 0 0) (A6u8.mk 0 0 0 0 0 0) (A6u8.mk 0 0 0 0 0 0) 0 0 []), 0)) else ((F42 p0 p1.Enter p1.Seq).bind fun r9 => (F37 p1.Data).bind fun r11 => (F43 (TForward.mk (A6u8.mk r9.Own.x0 r9.Own.x1 r9.Own.x2 r9.Own.x3 r9.Own.x4 r9.Own.x5) r9.Seq r9.Seen r9.Nexts) p1.Leave).bind fun r13 => need (bif (!(bEq p1.Leave.x0 r9.Own.x0 && (bEq p1.Leave.x1 r9.Own.x1 && (bEq p1.Leave.x2 r9.Own.x2 && (bEq p1.Leave.x3 r9.Own.x3 && (bEq p1.Leave.x4 r9.Own.x4 && (bEq p1.Leave.x5 r9.Own.x5))))))) then ((F39 p1.To).isSome) else true) <| bif ((bEq p1.Leave.x0 r9.Own.x0 && (bEq p1.Leave.x1 r9.Own.x1 && (bEq p1.Leave.x2 r9.Own.x2 && (bEq p1.Leave.x3 r9.Own.x3 && (bEq p1.Leave.x4 r9.Own.x4 && (bEq p1.Leave.x5 r9.Own.x5)))))) || ((gt (F39 p1.To)) && (bEq p1.Ttl 1))) then (some ((TForward.mk (A6u8.mk r9.Own.x0 r9.Own.x1 r9.Own.x2 r9.Own.x3 r9.Own.x4 r9.Own.x5) r9.Seq r9.Seen r9.Nexts), 1, (TMeshFrame.mk (A6u8.mk p1.From.x0 p1.From.x1 p1.From.x2 p1.From.x3 p1.From.x4 p1.From.x5) (A6u8.mk p1.To.x0 p1.To.x1 p1.To.x2 p1.To.x3 p1.To.x4 p1.To.x5) (A6u8.mk p1.Enter.x0 p1.Enter.x1 p1.Enter.x2 p1.Enter.x3 p1.Enter.x4 p1.Enter.x5) (A6u8.mk p1.Leave.x0 p1.Leave.x1 p1.Leave.x2 p1.Leave.x3 p1.Leave.x4 p1.Leave.x5) (A6u8.mk p1.Source.x0 p1.Source.x1 p1.Source.x2 p1.Source.x3 p1.Source.x4 p1.Source.x5) (A6u8.mk p1.Target.x0 p1.Target.x1 p1.Target.x2 p1.Target.x3 p1.Target.x4 p1.Target.x5) p1.Seq p1.Ttl r11), 0)) else ((F39 p1.To).bind fun r16 => bif r16 then (some ((TForward.mk (A6u8.mk r9.Own.x0 r9.Own.x1 r9.Own.x2 r9.Own.x3 r9.Own.x4 r9.Own.x5) r9.Seq r9.Seen r9.Nexts), 3, (TMeshFrame.mk (A6u8.mk r9.Own.x0 r9.Own.x1 r9.Own.x2 r9.Own.x3 r9.Own.x4 r9.Own.x5) (A6u8.mk p1.To.x0 p1.To.x1 p1.To.x2 p1.To.x3 p1.To.x4 p1.To.x5) (A6u8.mk p1.Enter.x0 p1.Enter.x1 p1.Enter.x2 p1.Enter.x3 p1.Enter.x4 p1.Enter.x5) (A6u8.mk p1.Leave.x0 p1.Leave.x1 p1.Leave.x2 p1.Leave.x3 p1.Leave.x4 p1.Leave.x5) (A6u8.mk p1.Source.x0 p1.Source.x1 p1.Source.x2 p1.Source.x3 p1.Source.x4 p1.Source.x5) (A6u8.mk p1.Target.x0 p1.Target.x1 p1.Target.x2 p1.Target.x3 p1.Target.x4 p1.Target.x5) p1.Seq (wr .i64 (p1.Ttl - 1)) r11), 0)) else (bif (bEq p1.Ttl 1) then (some ((TForward.mk (A6u8.mk r9.Own.x0 r9.Own.x1 r9.Own.x2 r9.Own.x3 r9.Own.x4 r9.Own.x5) r9.Seq r9.Seen r9.Nexts), 0, (TMeshFrame.mk (A6u8.mk 0 0 0 0 0 0) (A6u8.mk 0 0 0 0 0 0) (A6u8.mk 0 0 0 0 0 0) (A6u8.mk 0 0 0 0 0 0) (A6u8.mk 0 0 0 0 0 0) (A6u8.mk 0 0 0 0 0 0) 0 0 []), 0)) else (bif (!r13.2) then (some ((TForward.mk (A6u8.mk r9.Own.x0 r9.Own.x1 r9.Own.x2 r9.Own.x3 r9.Own.x4 r9.Own.x5) r9.Seq r9.Seen r9.Nexts), 4, (TMeshFrame.mk (A6u8.mk p1.From.x0 p1.From.x1 p1.From.x2 p1.From.x3 p1.From.x4 p1.From.x5) (A6u8.mk p1.To.x0 p1.To.x1 p1.To.x2 p1.To.x3 p1.To.x4 p1.To.x5) (A6u8.mk p1.Enter.x0 p1.Enter.x1 p1.Enter.x2 p1.Enter.x3 p1.Enter.x4 p1.Enter.x5) (A6u8.mk p1.Leave.x0 p1.Leave.x1 p1.Leave.x2 p1.Leave.x3 p1.Leave.x4 p1.Leave.x5) (A6u8.mk p1.Source.x0 p1.Source.x1 p1.Source.x2 p1.Source.x3 p1.Source.x4 p1.Source.x5) (A6u8.mk p1.Target.x0 p1.Target.x1 p1.Target.x2 p1.Target.x3 p1.Target.x4 p1.Target.x5) p1.Seq p1.Ttl r11), 0)) else (some ((TForward.mk (A6u8.mk r9.Own.x0 r9.Own.x1 r9.Own.x2 r9.Own.x3 r9.Own.x4 r9.Own.x5) r9.Seq r9.Seen r9.Nexts), 2, (TMeshFrame.mk (A6u8.mk r9.Own.x0 r9.Own.x1 r9.Own.x2 r9.Own.x3 r9.Own.x4 r9.Own.x5) (A6u8.mk r13.1.x0 r13.1.x1 r13.1.x2 r13.1.x3 r13.1.x4 r13.1.x5) (A6u8.mk p1.Enter.x0 p1.Enter.x1 p1.Enter.x2 p1.Enter.x3 p1.Enter.x4 p1.Enter.x5) (A6u8.mk p1.Leave.x0 p1.Leave.x1 p1.Leave.x2 p1.Leave.x3 p1.Leave.x4 p1.Leave.x5) (A6u8.mk p1.Source.x0 p1.Source.x1 p1.Source.x2 p1.Source.x3 p1.Source.x4 p1.Source.x5) (A6u8.mk p1.Target.x0 p1.Target.x1 p1.Target.x2 p1.Target.x3 p1.Target.x4 p1.Target.x5) p1.Seq (wr .i64 (p1.Ttl - 1)) r11), 0)))))))
noncomputable def body20 : List AV → Nat → AR
  | [v0, v1], _ => .pure (aK 9 k_TForward v0 ∧ aK 39 k_TMeshFrame v1 ∧ (F20 (g_TForward (aL v0)) (g_TMeshFrame (aL v1))).isSome = true) (.tup [.agg [.int .u8 ((((gt (F20 (g_TForward (aL v0)) (g_TMeshFrame (aL v1)))).1).Own).x0), .int .u8 ((((gt (F20 (g_TForward (aL v0)) (g_TMeshFrame (aL v1)))).1).Own).x1), .int .u8 ((((gt (F20 (g_TForward (aL v0)) (g_TMeshFrame (aL v1)))).1).Own).x2), .int .u8 ((((gt (F20 (g_TForward (aL v0)) (g_TMeshFrame (aL v1)))).1).Own).x3), .int .u8 ((((gt (F20 (g_TForward (aL v0)) (g_TMeshFrame (aL v1)))).1).Own).x4), .int .u8 ((((gt (F20 (g_TForward (aL v0)) (g_TMeshFrame (aL v1)))).1).Own).x5), .int .i64 (((gt (F20 (g_TForward (aL v0)) (g_TMeshFrame (aL v1)))).1).Seq), .ro 7 ((((gt (F20 (g_TForward (aL v0)) (g_TMeshFrame (aL v1)))).1).Seen).length) false (enR c_TForwardMark (((gt (F20 (g_TForward (aL v0)) (g_TMeshFrame (aL v1)))).1).Seen)), .ro 12 ((((gt (F20 (g_TForward (aL v0)) (g_TMeshFrame (aL v1)))).1).Nexts).length) false (enR c_TForwardHop (((gt (F20 (g_TForward (aL v0)) (g_TMeshFrame (aL v1)))).1).Nexts))], .int .u8 ((gt (F20 (g_TForward (aL v0)) (g_TMeshFrame (aL v1)))).2.1), .agg (.int .u8 ((((gt (F20 (g_TForward (aL v0)) (g_TMeshFrame (aL v1)))).2.2.1).From).x0) :: .int .u8 ((((gt (F20 (g_TForward (aL v0)) (g_TMeshFrame (aL v1)))).2.2.1).From).x1) :: .int .u8 ((((gt (F20 (g_TForward (aL v0)) (g_TMeshFrame (aL v1)))).2.2.1).From).x2) :: .int .u8 ((((gt (F20 (g_TForward (aL v0)) (g_TMeshFrame (aL v1)))).2.2.1).From).x3) :: .int .u8 ((((gt (F20 (g_TForward (aL v0)) (g_TMeshFrame (aL v1)))).2.2.1).From).x4) :: .int .u8 ((((gt (F20 (g_TForward (aL v0)) (g_TMeshFrame (aL v1)))).2.2.1).From).x5) :: .int .u8 ((((gt (F20 (g_TForward (aL v0)) (g_TMeshFrame (aL v1)))).2.2.1).To).x0) :: .int .u8 ((((gt (F20 (g_TForward (aL v0)) (g_TMeshFrame (aL v1)))).2.2.1).To).x1) :: .int .u8 ((((gt (F20 (g_TForward (aL v0)) (g_TMeshFrame (aL v1)))).2.2.1).To).x2) :: .int .u8 ((((gt (F20 (g_TForward (aL v0)) (g_TMeshFrame (aL v1)))).2.2.1).To).x3) :: .int .u8 ((((gt (F20 (g_TForward (aL v0)) (g_TMeshFrame (aL v1)))).2.2.1).To).x4) :: .int .u8 ((((gt (F20 (g_TForward (aL v0)) (g_TMeshFrame (aL v1)))).2.2.1).To).x5) :: .int .u8 ((((gt (F20 (g_TForward (aL v0)) (g_TMeshFrame (aL v1)))).2.2.1).Enter).x0) :: .int .u8 ((((gt (F20 (g_TForward (aL v0)) (g_TMeshFrame (aL v1)))).2.2.1).Enter).x1) :: .int .u8 ((((gt (F20 (g_TForward (aL v0)) (g_TMeshFrame (aL v1)))).2.2.1).Enter).x2) :: .int .u8 ((((gt (F20 (g_TForward (aL v0)) (g_TMeshFrame (aL v1)))).2.2.1).Enter).x3) :: .int .u8 ((((gt (F20 (g_TForward (aL v0)) (g_TMeshFrame (aL v1)))).2.2.1).Enter).x4) :: .int .u8 ((((gt (F20 (g_TForward (aL v0)) (g_TMeshFrame (aL v1)))).2.2.1).Enter).x5) :: .int .u8 ((((gt (F20 (g_TForward (aL v0)) (g_TMeshFrame (aL v1)))).2.2.1).Leave).x0) :: .int .u8 ((((gt (F20 (g_TForward (aL v0)) (g_TMeshFrame (aL v1)))).2.2.1).Leave).x1) :: .int .u8 ((((gt (F20 (g_TForward (aL v0)) (g_TMeshFrame (aL v1)))).2.2.1).Leave).x2) :: .int .u8 ((((gt (F20 (g_TForward (aL v0)) (g_TMeshFrame (aL v1)))).2.2.1).Leave).x3) :: .int .u8 ((((gt (F20 (g_TForward (aL v0)) (g_TMeshFrame (aL v1)))).2.2.1).Leave).x4) :: .int .u8 ((((gt (F20 (g_TForward (aL v0)) (g_TMeshFrame (aL v1)))).2.2.1).Leave).x5) :: .int .u8 ((((gt (F20 (g_TForward (aL v0)) (g_TMeshFrame (aL v1)))).2.2.1).Source).x0) :: .int .u8 ((((gt (F20 (g_TForward (aL v0)) (g_TMeshFrame (aL v1)))).2.2.1).Source).x1) :: .int .u8 ((((gt (F20 (g_TForward (aL v0)) (g_TMeshFrame (aL v1)))).2.2.1).Source).x2) :: .int .u8 ((((gt (F20 (g_TForward (aL v0)) (g_TMeshFrame (aL v1)))).2.2.1).Source).x3) :: .int .u8 ((((gt (F20 (g_TForward (aL v0)) (g_TMeshFrame (aL v1)))).2.2.1).Source).x4) :: .int .u8 ((((gt (F20 (g_TForward (aL v0)) (g_TMeshFrame (aL v1)))).2.2.1).Source).x5) :: .int .u8 ((((gt (F20 (g_TForward (aL v0)) (g_TMeshFrame (aL v1)))).2.2.1).Target).x0) :: .int .u8 ((((gt (F20 (g_TForward (aL v0)) (g_TMeshFrame (aL v1)))).2.2.1).Target).x1) :: .int .u8 ((((gt (F20 (g_TForward (aL v0)) (g_TMeshFrame (aL v1)))).2.2.1).Target).x2) :: .int .u8 ((((gt (F20 (g_TForward (aL v0)) (g_TMeshFrame (aL v1)))).2.2.1).Target).x3) :: .int .u8 ((((gt (F20 (g_TForward (aL v0)) (g_TMeshFrame (aL v1)))).2.2.1).Target).x4) :: .int .u8 ((((gt (F20 (g_TForward (aL v0)) (g_TMeshFrame (aL v1)))).2.2.1).Target).x5) :: .int .i64 (((gt (F20 (g_TForward (aL v0)) (g_TMeshFrame (aL v1)))).2.2.1).Seq) :: .int .i64 (((gt (F20 (g_TForward (aL v0)) (g_TMeshFrame (aL v1)))).2.2.1).Ttl) :: .ro 1 ((((gt (F20 (g_TForward (aL v0)) (g_TMeshFrame (aL v1)))).2.2.1).Data).length) false (enR c_u8 (((gt (F20 (g_TForward (aL v0)) (g_TMeshFrame (aL v1)))).2.2.1).Data)) :: []), .int .i64 ((gt (F20 (g_TForward (aL v0)) (g_TMeshFrame (aL v1)))).2.2.2)])
  | _, _ => .fail
set_option maxHeartbeats 4000000 in
set_option maxRecDepth 20000 in
theorem ok20 : FnOk Try.prog 20 (genC body20) := by
  refine gen_fn body20 (rs := [.cell 4 31, .tmp 5, .cell 6 26, .tmp 7]) Try.func20 (by kernel_rfl) rfl rfl ?_
  intro l s ob v ns hb hob
  rcases hb with ⟨hb, rfl⟩ | hb
  · unfold body20 at hb
    split at hb
    · rename_i v0 v1
      injection hb with q1 q2; subst q1 q2
      obtain ⟨hk0_0, hk1_0, hob⟩ := hob
      obtain ⟨r, H⟩ := Option.isSome_iff_exists.1 hob
      rw [H, gt_some]
      have hw0 := wA_TForward hk0_0
      have hw1 := wA_TMeshFrame hk1_0
      generalize g_TForward (aL v0) = p0 at H hw0
      generalize g_TMeshFrame (aL v1) = p1 at H hw1
      refine ⟨[.agg [.int .u8 p0.Own.x0, .int .u8 p0.Own.x1, .int .u8 p0.Own.x2, .int .u8 p0.Own.x3, .int .u8 p0.Own.x4, .int .u8 p0.Own.x5, .int .i64 p0.Seq, .ro 7 p0.Seen.length false (enR c_TForwardMark p0.Seen), .ro 12 p0.Nexts.length false (enR c_TForwardHop p0.Nexts)], .agg (.int .u8 p1.From.x0 :: .int .u8 p1.From.x1 :: .int .u8 p1.From.x2 :: .int .u8 p1.From.x3 :: .int .u8 p1.From.x4 :: .int .u8 p1.From.x5 :: .int .u8 p1.To.x0 :: .int .u8 p1.To.x1 :: .int .u8 p1.To.x2 :: .int .u8 p1.To.x3 :: .int .u8 p1.To.x4 :: .int .u8 p1.To.x5 :: .int .u8 p1.Enter.x0 :: .int .u8 p1.Enter.x1 :: .int .u8 p1.Enter.x2 :: .int .u8 p1.Enter.x3 :: .int .u8 p1.Enter.x4 :: .int .u8 p1.Enter.x5 :: .int .u8 p1.Leave.x0 :: .int .u8 p1.Leave.x1 :: .int .u8 p1.Leave.x2 :: .int .u8 p1.Leave.x3 :: .int .u8 p1.Leave.x4 :: .int .u8 p1.Leave.x5 :: .int .u8 p1.Source.x0 :: .int .u8 p1.Source.x1 :: .int .u8 p1.Source.x2 :: .int .u8 p1.Source.x3 :: .int .u8 p1.Source.x4 :: .int .u8 p1.Source.x5 :: .int .u8 p1.Target.x0 :: .int .u8 p1.Target.x1 :: .int .u8 p1.Target.x2 :: .int .u8 p1.Target.x3 :: .int .u8 p1.Target.x4 :: .int .u8 p1.Target.x5 :: .int .i64 p1.Seq :: .int .i64 p1.Ttl :: .ro 1 p1.Data.length false (enR c_u8 p1.Data) :: [])], .tup [.agg [.int .u8 r.1.Own.x0, .int .u8 r.1.Own.x1, .int .u8 r.1.Own.x2, .int .u8 r.1.Own.x3, .int .u8 r.1.Own.x4, .int .u8 r.1.Own.x5, .int .i64 r.1.Seq, .ro 7 r.1.Seen.length false (enR c_TForwardMark r.1.Seen), .ro 12 r.1.Nexts.length false (enR c_TForwardHop r.1.Nexts)], .int .u8 r.2.1, .agg (.int .u8 r.2.2.1.From.x0 :: .int .u8 r.2.2.1.From.x1 :: .int .u8 r.2.2.1.From.x2 :: .int .u8 r.2.2.1.From.x3 :: .int .u8 r.2.2.1.From.x4 :: .int .u8 r.2.2.1.From.x5 :: .int .u8 r.2.2.1.To.x0 :: .int .u8 r.2.2.1.To.x1 :: .int .u8 r.2.2.1.To.x2 :: .int .u8 r.2.2.1.To.x3 :: .int .u8 r.2.2.1.To.x4 :: .int .u8 r.2.2.1.To.x5 :: .int .u8 r.2.2.1.Enter.x0 :: .int .u8 r.2.2.1.Enter.x1 :: .int .u8 r.2.2.1.Enter.x2 :: .int .u8 r.2.2.1.Enter.x3 :: .int .u8 r.2.2.1.Enter.x4 :: .int .u8 r.2.2.1.Enter.x5 :: .int .u8 r.2.2.1.Leave.x0 :: .int .u8 r.2.2.1.Leave.x1 :: .int .u8 r.2.2.1.Leave.x2 :: .int .u8 r.2.2.1.Leave.x3 :: .int .u8 r.2.2.1.Leave.x4 :: .int .u8 r.2.2.1.Leave.x5 :: .int .u8 r.2.2.1.Source.x0 :: .int .u8 r.2.2.1.Source.x1 :: .int .u8 r.2.2.1.Source.x2 :: .int .u8 r.2.2.1.Source.x3 :: .int .u8 r.2.2.1.Source.x4 :: .int .u8 r.2.2.1.Source.x5 :: .int .u8 r.2.2.1.Target.x0 :: .int .u8 r.2.2.1.Target.x1 :: .int .u8 r.2.2.1.Target.x2 :: .int .u8 r.2.2.1.Target.x3 :: .int .u8 r.2.2.1.Target.x4 :: .int .u8 r.2.2.1.Target.x5 :: .int .i64 r.2.2.1.Seq :: .int .i64 r.2.2.1.Ttl :: .ro 1 r.2.2.1.Data.length false (enR c_u8 r.2.2.1.Data) :: []), .int .i64 r.2.2.2], [], (fun E vs F => FR_wk1 hw0.1 F (fun vs F => FR_wk1 hw1.1 F (fun vs F => F))), by simp only [ren, renL], trivial, ?_⟩
      rw [Try.ntmps20]
      simp only [List.length_cons, List.length_nil, Nat.reduceAdd, Nat.reduceSub, List.replicate_succ, List.replicate_zero, List.cons_append, List.nil_append]
      unfold F20 at H
      try dsimp only at H
      refine sq ctNo_ok ?_
      simp only [go_sem, Nat.reduceLeDiff, Nat.reduceLT, Nat.reduceAdd, Nat.reduceMul, Nat.reduceSub, Nat.reduceEqDiff, Nat.reduceBEq, Int.reduceToNat, reduceCtorEq]
      refine seqM ?_
      refine seqM ?_
      obtain ⟨r1, e2, H⟩ := bsi H
      obtain ⟨f3, H⟩ := need_some.1 H
      replace f3 := g_iff.1 f3
      refine rg ct20t0_ok ?_
      simp only [go_sem, Nat.reduceLeDiff, Nat.reduceLT, Nat.reduceAdd, Nat.reduceMul, Nat.reduceSub, Nat.reduceEqDiff, Nat.reduceBEq, Int.reduceToNat, reduceCtorEq, ct20t0_23, body23, ct20t0_27, body27, e2]
      repeat ((with_reducible refine And.intro ?_ ?_); focus (first | (with_reducible trivial) | omega | exact f3 | (intro g; have q := f3 (by first | exact g | (rw [g]; rfl) | simpa using g); first | exact q | exact ⟨q.1, q.2.1⟩ | exact q.2.2 | omega | exact ⟨g, q⟩ | exact ⟨trivial, q⟩ | exact ⟨g, q.1, q.2.1⟩ | exact ⟨g, q.2.2⟩) | (intro g; (try have q0 := f3 (by first | exact g | (rw [g]; rfl) | simpa using g)); and_intros <;> first | (with_reducible trivial) | assumption | exact nfc | (intro g2; rw [g, g2]; rfl) | (intro g2; assumption) | (simp only [g, Bool.true_and, Bool.and_true, Bool.not_false, Bool.not_true]; assumption) | grind) | (and_intros <;> first | (with_reducible trivial) | omega | assumption | exact nfc | first | exact rfl | exact trivial | exact fitI | exact .inr rfl | exact .inl rfl | exact fun x hx => absurd hx (by omega)) | grind))
      refine condM rfl trivial (fun hc => ?_) (fun hc => ?_)
      · replace H := cond_t hc H
        refine sq ctNo_ok ?_
        simp only [go_sem, Nat.reduceLeDiff, Nat.reduceLT, Nat.reduceAdd, Nat.reduceMul, Nat.reduceSub, Nat.reduceEqDiff, Nat.reduceBEq, Int.reduceToNat, reduceCtorEq]
        repeat ((with_reducible refine And.intro ?_ ?_); focus (first | (with_reducible trivial) | omega | grind))
        refine rg ctNo_ok ?_
        simp only [go_sem, Nat.reduceLeDiff, Nat.reduceLT, Nat.reduceAdd, Nat.reduceMul, Nat.reduceSub, Nat.reduceEqDiff, Nat.reduceBEq, Int.reduceToNat, reduceCtorEq]
        obtain rfl := Option.some.inj H
        refine ⟨[0, 1, 2, 3], ?_, ?_, [], ?_, ?_, rfl⟩
        · simp only [go_sem, Nat.reduceEqDiff, Nat.reduceBEq, Nat.reduceAdd]
          try (and_intros <;> first | (with_reducible trivial) | omega | exact nfc | trivial)
        · simp only [go_sem, Nat.reduceEqDiff, Nat.reduceBEq, Nat.reduceAdd]
          try (and_intros <;> first | (with_reducible trivial) | omega | exact nfc | trivial)
        · simp only [go_sem, Nat.reduceEqDiff, Nat.reduceBEq, Nat.reduceAdd]
          exact Cv_tup (CvL_cons (Cv_agg (CvL_cons Cv_int (CvL_cons Cv_int (CvL_cons Cv_int (CvL_cons Cv_int (CvL_cons Cv_int (CvL_cons Cv_int (CvL_cons Cv_int (CvL_cons (Cv_ronil (α := TForwardMark)) (CvL_cons (Cv_ronil (α := TForwardHop)) CvL_nil)))))))))) (CvL_cons Cv_int (CvL_cons (Cv_agg (CvL_cons Cv_int (CvL_cons Cv_int (CvL_cons Cv_int (CvL_cons Cv_int (CvL_cons Cv_int (CvL_cons Cv_int (CvL_cons Cv_int (CvL_cons Cv_int (CvL_cons Cv_int (CvL_cons Cv_int (CvL_cons Cv_int (CvL_cons Cv_int (CvL_cons Cv_int (CvL_cons Cv_int (CvL_cons Cv_int (CvL_cons Cv_int (CvL_cons Cv_int (CvL_cons Cv_int (CvL_cons Cv_int (CvL_cons Cv_int (CvL_cons Cv_int (CvL_cons Cv_int (CvL_cons Cv_int (CvL_cons Cv_int (CvL_cons Cv_int (CvL_cons Cv_int (CvL_cons Cv_int (CvL_cons Cv_int (CvL_cons Cv_int (CvL_cons Cv_int (CvL_cons Cv_int (CvL_cons Cv_int (CvL_cons Cv_int (CvL_cons Cv_int (CvL_cons Cv_int (CvL_cons Cv_int (CvL_cons Cv_int (CvL_cons Cv_int (CvL_cons (Cv_ronil (α := Int)) CvL_nil)))))))))))))))))))))))))))))))))))))))) (CvL_cons Cv_int CvL_nil))))
        · simp only [go_sem, Nat.reduceEqDiff, Nat.reduceBEq, Nat.reduceAdd, CvH]
      replace H := cond_f hc H
      refine rg ctNo_ok ?_
      simp only [go_sem, Nat.reduceLeDiff, Nat.reduceLT, Nat.reduceAdd, Nat.reduceMul, Nat.reduceSub, Nat.reduceEqDiff, Nat.reduceBEq, Int.reduceToNat, reduceCtorEq]
      refine sq ctNo_ok ?_
      simp only [go_sem, Nat.reduceLeDiff, Nat.reduceLT, Nat.reduceAdd, Nat.reduceMul, Nat.reduceSub, Nat.reduceEqDiff, Nat.reduceBEq, Int.reduceToNat, reduceCtorEq]
      repeat ((with_reducible refine And.intro ?_ ?_); focus (first | (with_reducible trivial) | omega | grind))
      refine seqM ?_
      refine seqM ?_
      obtain ⟨r4, e5, H⟩ := bsi H
      obtain ⟨f6, H⟩ := need_some.1 H
      replace f6 := g_iff.1 f6
      refine rg ct20t1_ok ?_
      simp only [go_sem, Nat.reduceLeDiff, Nat.reduceLT, Nat.reduceAdd, Nat.reduceMul, Nat.reduceSub, Nat.reduceEqDiff, Nat.reduceBEq, Int.reduceToNat, reduceCtorEq, ct20t1_39, body39, ct20t1_40, body40, e5]
      repeat ((with_reducible refine And.intro ?_ ?_); focus (first | (with_reducible trivial) | omega | exact f6 | (intro g; have q := f6 (by first | exact g | (rw [g]; rfl) | simpa using g); first | exact q | exact ⟨q.1, q.2.1⟩ | exact q.2.2 | omega | exact ⟨g, q⟩ | exact ⟨trivial, q⟩ | exact ⟨g, q.1, q.2.1⟩ | exact ⟨g, q.2.2⟩) | (intro g; (try have q0 := f6 (by first | exact g | (rw [g]; rfl) | simpa using g)); and_intros <;> first | (with_reducible trivial) | assumption | exact nfc | (intro g2; rw [g, g2]; rfl) | (intro g2; assumption) | (simp only [g, Bool.true_and, Bool.and_true, Bool.not_false, Bool.not_true]; assumption) | grind) | (and_intros <;> first | (with_reducible trivial) | omega | assumption | exact nfc | first | exact rfl | exact trivial | exact fitI | exact .inr rfl | exact .inl rfl | exact fun x hx => absurd hx (by omega)) | grind))
      refine condM rfl trivial (fun hc => ?_) (fun hc => ?_)
      · replace H := cond_t hc H
        refine seqM ?_
        obtain ⟨r7, e8, H⟩ := bsi H
        refine rg ct20t2_ok ?_
        simp only [go_sem, Nat.reduceLeDiff, Nat.reduceLT, Nat.reduceAdd, Nat.reduceMul, Nat.reduceSub, Nat.reduceEqDiff, Nat.reduceBEq, Int.reduceToNat, reduceCtorEq, ct20t2_41, body41, e8]
        repeat ((with_reducible refine And.intro ?_ ?_); focus (first | (and_intros <;> first | (with_reducible trivial) | omega | assumption | exact nfc | first | exact rfl | exact trivial | exact fitI | exact .inr rfl | exact .inl rfl | exact fun x hx => absurd hx (by omega)) | grind))
        refine rg ctNo_ok ?_
        simp only [go_sem, Nat.reduceLeDiff, Nat.reduceLT, Nat.reduceAdd, Nat.reduceMul, Nat.reduceSub, Nat.reduceEqDiff, Nat.reduceBEq, Int.reduceToNat, reduceCtorEq]
        obtain rfl := Option.some.inj H
        refine ⟨[5, 6, 0, 1, 2, 3, 4], ?_, ?_, [], ?_, ?_, rfl⟩
        · simp only [go_sem, Nat.reduceEqDiff, Nat.reduceBEq, Nat.reduceAdd]
          try (and_intros <;> first | (with_reducible trivial) | omega | exact nfc | trivial)
        · simp only [go_sem, Nat.reduceEqDiff, Nat.reduceBEq, Nat.reduceAdd]
          try (and_intros <;> first | (with_reducible trivial) | omega | exact nfc | trivial)
        · simp only [go_sem, Nat.reduceEqDiff, Nat.reduceBEq, Nat.reduceAdd]
          exact Cv_tup (CvL_cons (Cv_agg (CvL_cons Cv_int (CvL_cons Cv_int (CvL_cons Cv_int (CvL_cons Cv_int (CvL_cons Cv_int (CvL_cons Cv_int (CvL_cons Cv_int (CvL_cons (ro_row (by first | rfl | simp) (fun _ _ _ _ => rfl)) (CvL_cons (ro_row (by first | rfl | simp) (fun _ _ _ _ => rfl)) CvL_nil)))))))))) (CvL_cons Cv_int (CvL_cons (Cv_agg (CvL_cons Cv_int (CvL_cons Cv_int (CvL_cons Cv_int (CvL_cons Cv_int (CvL_cons Cv_int (CvL_cons Cv_int (CvL_cons Cv_int (CvL_cons Cv_int (CvL_cons Cv_int (CvL_cons Cv_int (CvL_cons Cv_int (CvL_cons Cv_int (CvL_cons Cv_int (CvL_cons Cv_int (CvL_cons Cv_int (CvL_cons Cv_int (CvL_cons Cv_int (CvL_cons Cv_int (CvL_cons Cv_int (CvL_cons Cv_int (CvL_cons Cv_int (CvL_cons Cv_int (CvL_cons Cv_int (CvL_cons Cv_int (CvL_cons Cv_int (CvL_cons Cv_int (CvL_cons Cv_int (CvL_cons Cv_int (CvL_cons Cv_int (CvL_cons Cv_int (CvL_cons Cv_int (CvL_cons Cv_int (CvL_cons Cv_int (CvL_cons Cv_int (CvL_cons Cv_int (CvL_cons Cv_int (CvL_cons Cv_int (CvL_cons Cv_int (CvL_cons (Cv_ronil (α := Int)) CvL_nil)))))))))))))))))))))))))))))))))))))))) (CvL_cons Cv_int CvL_nil))))
        · simp only [go_sem, Nat.reduceEqDiff, Nat.reduceBEq, Nat.reduceAdd, CvH]
      replace H := cond_f hc H
      refine rg ctNo_ok ?_
      simp only [go_sem, Nat.reduceLeDiff, Nat.reduceLT, Nat.reduceAdd, Nat.reduceMul, Nat.reduceSub, Nat.reduceEqDiff, Nat.reduceBEq, Int.reduceToNat, reduceCtorEq]
      refine seqM ?_
      obtain ⟨r9, e10, H⟩ := bsi H
      refine rg ct20t3_ok ?_
      simp only [go_sem, Nat.reduceLeDiff, Nat.reduceLT, Nat.reduceAdd, Nat.reduceMul, Nat.reduceSub, Nat.reduceEqDiff, Nat.reduceBEq, Int.reduceToNat, reduceCtorEq, ct20t3_42, body42, e10]
      repeat ((with_reducible refine And.intro ?_ ?_); focus (first | (and_intros <;> first | (with_reducible trivial) | omega | assumption | exact nfc | first | exact rfl | exact trivial | exact fitI | exact .inr rfl | exact .inl rfl | exact fun x hx => absurd hx (by omega)) | grind))
      refine seqM ?_
      obtain ⟨r11, e12, H⟩ := bsi H
      refine rg ct20t4_ok ?_
      simp only [go_sem, Nat.reduceLeDiff, Nat.reduceLT, Nat.reduceAdd, Nat.reduceMul, Nat.reduceSub, Nat.reduceEqDiff, Nat.reduceBEq, Int.reduceToNat, reduceCtorEq, ct20t4_37, body37, e12]
      repeat ((with_reducible refine And.intro ?_ ?_); focus (first | (and_intros <;> first | (with_reducible trivial) | omega | assumption | exact nfc | first | exact rfl | exact trivial | exact fitI | exact .inr rfl | exact .inl rfl | exact fun x hx => absurd hx (by omega)) | grind))
      refine seqM ?_
      obtain ⟨r13, e14, H⟩ := bsi H
      refine rg ct20t5_ok ?_
      simp only [go_sem, Nat.reduceLeDiff, Nat.reduceLT, Nat.reduceAdd, Nat.reduceMul, Nat.reduceSub, Nat.reduceEqDiff, Nat.reduceBEq, Int.reduceToNat, reduceCtorEq, ct20t5_43, body43, e14]
      repeat ((with_reducible refine And.intro ?_ ?_); focus (first | (and_intros <;> first | (with_reducible trivial) | omega | assumption | exact nfc | first | exact rfl | exact trivial | exact fitI | exact .inr rfl | exact .inl rfl | exact fun x hx => absurd hx (by omega)) | grind))
      refine sq ctNo_ok ?_
      simp only [go_sem, Nat.reduceLeDiff, Nat.reduceLT, Nat.reduceAdd, Nat.reduceMul, Nat.reduceSub, Nat.reduceEqDiff, Nat.reduceBEq, Int.reduceToNat, reduceCtorEq]
      refine seqM ?_
      refine blkM ?_
      refine seqM ?_
      obtain ⟨f15, H⟩ := need_some.1 H
      replace f15 := g_iff.1 f15
      refine rg ct20t6_ok ?_
      simp only [go_sem, Nat.reduceLeDiff, Nat.reduceLT, Nat.reduceAdd, Nat.reduceMul, Nat.reduceSub, Nat.reduceEqDiff, Nat.reduceBEq, Int.reduceToNat, reduceCtorEq, ct20t6_39, body39]
      repeat ((with_reducible refine And.intro ?_ ?_); focus (first | (with_reducible trivial) | omega | exact f15 | (intro g; have q := f15 (by first | exact g | (rw [g]; rfl) | simpa using g); first | exact q | exact ⟨q.1, q.2.1⟩ | exact q.2.2 | omega | exact ⟨g, q⟩ | exact ⟨trivial, q⟩ | exact ⟨g, q.1, q.2.1⟩ | exact ⟨g, q.2.2⟩) | (intro g; (try have q0 := f15 (by first | exact g | (rw [g]; rfl) | simpa using g)); and_intros <;> first | (with_reducible trivial) | assumption | exact nfc | (intro g2; rw [g, g2]; rfl) | (intro g2; assumption) | (simp only [g, Bool.true_and, Bool.and_true, Bool.not_false, Bool.not_true]; assumption) | grind) | (and_intros <;> first | (with_reducible trivial) | omega | assumption | exact nfc | first | exact rfl | exact trivial | exact fitI | exact .inr rfl | exact .inl rfl | exact fun x hx => absurd hx (by omega)) | grind))
      refine condM rfl trivial (fun hc => ?_) (fun hc => ?_)
      · replace H := cond_t hc H
        refine seqM ?_
        refine draw_rule shT_ok ctNo_ok 0 (by kernel_rfl) (by kernel_rfl) ?_
        intro an han
        simp only [d_nil, d_cons, nxtD, xrD, xoD, roEq, minL, List.append_nil, refsOp, refs, refsL, mask, maskF, place, placeF, okLog, pairOk, hit, inL, slotsF, ren, renL, rnN, nrH, nrB, nrL, nr, dead0, deadS, List.replicate_zero, List.replicate_succ, Nat.sub_self, Nat.add_zero, Nat.zero_add, Nat.reduceSub, Nat.not_lt_zero, Nat.zero_le, Nat.lt_add_one, go_sem, Nat.reduceLeDiff, Nat.reduceLT, Nat.reduceAdd, Nat.reduceMul, Nat.reduceSub, Nat.reduceEqDiff, Nat.reduceBEq, Int.reduceToNat, reduceCtorEq]
        repeat ((with_reducible refine And.intro ?_ ?_); focus (and_intros <;> first | (with_reducible trivial) | (show anB _ _ _ = true; subst han; kernel_rfl) | (show (anB _ _ _ && _) = true; subst han; kernel_rfl) | omega | assumption | exact nrc | exact nfc | first | exact rfl | exact trivial | exact fitI | exact .inr rfl | exact .inl rfl | exact fun x hx => absurd hx (by omega)))
        refine rg ctNo_ok ?_
        simp only [go_sem, Nat.reduceLeDiff, Nat.reduceLT, Nat.reduceAdd, Nat.reduceMul, Nat.reduceSub, Nat.reduceEqDiff, Nat.reduceBEq, Int.reduceToNat, reduceCtorEq]
        obtain rfl := Option.some.inj H
        refine ⟨[5, 6, 7, 0, 1, 2, 3, 4, 8], ?_, ?_, [], ?_, ?_, rfl⟩
        · simp only [go_sem, Nat.reduceEqDiff, Nat.reduceBEq, Nat.reduceAdd]
          try (and_intros <;> first | (with_reducible trivial) | omega | exact nfc | trivial)
        · simp only [go_sem, Nat.reduceEqDiff, Nat.reduceBEq, Nat.reduceAdd]
          try (and_intros <;> first | (with_reducible trivial) | omega | exact nfc | trivial)
        · simp only [go_sem, Nat.reduceEqDiff, Nat.reduceBEq, Nat.reduceAdd]
          exact Cv_tup (CvL_cons (Cv_agg (CvL_cons Cv_int (CvL_cons Cv_int (CvL_cons Cv_int (CvL_cons Cv_int (CvL_cons Cv_int (CvL_cons Cv_int (CvL_cons Cv_int (CvL_cons (ro_row (by first | rfl | simp) (fun _ _ _ _ => rfl)) (CvL_cons (ro_row (by first | rfl | simp) (fun _ _ _ _ => rfl)) CvL_nil)))))))))) (CvL_cons Cv_int (CvL_cons (Cv_agg (CvL_cons Cv_int (CvL_cons Cv_int (CvL_cons Cv_int (CvL_cons Cv_int (CvL_cons Cv_int (CvL_cons Cv_int (CvL_cons Cv_int (CvL_cons Cv_int (CvL_cons Cv_int (CvL_cons Cv_int (CvL_cons Cv_int (CvL_cons Cv_int (CvL_cons Cv_int (CvL_cons Cv_int (CvL_cons Cv_int (CvL_cons Cv_int (CvL_cons Cv_int (CvL_cons Cv_int (CvL_cons Cv_int (CvL_cons Cv_int (CvL_cons Cv_int (CvL_cons Cv_int (CvL_cons Cv_int (CvL_cons Cv_int (CvL_cons Cv_int (CvL_cons Cv_int (CvL_cons Cv_int (CvL_cons Cv_int (CvL_cons Cv_int (CvL_cons Cv_int (CvL_cons Cv_int (CvL_cons Cv_int (CvL_cons Cv_int (CvL_cons Cv_int (CvL_cons Cv_int (CvL_cons Cv_int (CvL_cons Cv_int (CvL_cons Cv_int (CvL_cons (ro_row (by first | rfl | simp) (fun _ _ _ _ => rfl)) CvL_nil)))))))))))))))))))))))))))))))))))))))) (CvL_cons Cv_int CvL_nil))))
        · simp only [go_sem, Nat.reduceEqDiff, Nat.reduceBEq, Nat.reduceAdd, CvH]
      replace H := cond_f hc H
      refine seqM ?_
      obtain ⟨r16, e17, H⟩ := bsi H
      refine rg ct20t6_ok ?_
      simp only [go_sem, Nat.reduceLeDiff, Nat.reduceLT, Nat.reduceAdd, Nat.reduceMul, Nat.reduceSub, Nat.reduceEqDiff, Nat.reduceBEq, Int.reduceToNat, reduceCtorEq, ct20t6_39, body39, e17]
      repeat ((with_reducible refine And.intro ?_ ?_); focus (first | (and_intros <;> first | (with_reducible trivial) | omega | assumption | exact nfc | first | exact rfl | exact trivial | exact fitI | exact .inr rfl | exact .inl rfl | exact fun x hx => absurd hx (by omega)) | grind))
      refine condM rfl trivial (fun hc => ?_) (fun hc => ?_)
      · replace H := cond_t hc H
        refine draw_rule shT_ok ctNo_ok 0 (by kernel_rfl) (by kernel_rfl) ?_
        intro an han
        simp only [d_nil, d_cons, nxtD, xrD, xoD, roEq, minL, List.append_nil, refsOp, refs, refsL, mask, maskF, place, placeF, okLog, pairOk, hit, inL, slotsF, ren, renL, rnN, nrH, nrB, nrL, nr, dead0, deadS, List.replicate_zero, List.replicate_succ, Nat.sub_self, Nat.add_zero, Nat.zero_add, Nat.reduceSub, Nat.not_lt_zero, Nat.zero_le, Nat.lt_add_one, go_sem, Nat.reduceLeDiff, Nat.reduceLT, Nat.reduceAdd, Nat.reduceMul, Nat.reduceSub, Nat.reduceEqDiff, Nat.reduceBEq, Int.reduceToNat, reduceCtorEq]
        repeat ((with_reducible refine And.intro ?_ ?_); focus (and_intros <;> first | (with_reducible trivial) | (show anB _ _ _ = true; subst han; kernel_rfl) | (show (anB _ _ _ && _) = true; subst han; kernel_rfl) | omega | assumption | exact nrc | exact nfc | first | exact rfl | exact trivial | exact fitI | exact .inr rfl | exact .inl rfl | exact fun x hx => absurd hx (by omega)))
        refine seqM ?_
        refine draw_rule shT_ok ctNo_ok 0 (by kernel_rfl) (by kernel_rfl) ?_
        intro an han
        simp only [d_nil, d_cons, nxtD, xrD, xoD, roEq, minL, List.append_nil, refsOp, refs, refsL, mask, maskF, place, placeF, okLog, pairOk, hit, inL, slotsF, ren, renL, rnN, nrH, nrB, nrL, nr, dead0, deadS, List.replicate_zero, List.replicate_succ, Nat.sub_self, Nat.add_zero, Nat.zero_add, Nat.reduceSub, Nat.not_lt_zero, Nat.zero_le, Nat.lt_add_one, go_sem, Nat.reduceLeDiff, Nat.reduceLT, Nat.reduceAdd, Nat.reduceMul, Nat.reduceSub, Nat.reduceEqDiff, Nat.reduceBEq, Int.reduceToNat, reduceCtorEq]
        repeat ((with_reducible refine And.intro ?_ ?_); focus (and_intros <;> first | (with_reducible trivial) | (show anB _ _ _ = true; subst han; kernel_rfl) | (show (anB _ _ _ && _) = true; subst han; kernel_rfl) | omega | assumption | exact nrc | exact nfc | first | exact rfl | exact trivial | exact fitI | exact .inr rfl | exact .inl rfl | exact fun x hx => absurd hx (by omega)))
        refine seqM ?_
        refine draw_rule shT_ok ctNo_ok 0 (by kernel_rfl) (by kernel_rfl) ?_
        intro an han
        simp only [d_nil, d_cons, nxtD, xrD, xoD, roEq, minL, List.append_nil, refsOp, refs, refsL, mask, maskF, place, placeF, okLog, pairOk, hit, inL, slotsF, ren, renL, rnN, nrH, nrB, nrL, nr, dead0, deadS, List.replicate_zero, List.replicate_succ, Nat.sub_self, Nat.add_zero, Nat.zero_add, Nat.reduceSub, Nat.not_lt_zero, Nat.zero_le, Nat.lt_add_one, go_sem, Nat.reduceLeDiff, Nat.reduceLT, Nat.reduceAdd, Nat.reduceMul, Nat.reduceSub, Nat.reduceEqDiff, Nat.reduceBEq, Int.reduceToNat, reduceCtorEq]
        repeat ((with_reducible refine And.intro ?_ ?_); focus (and_intros <;> first | (with_reducible trivial) | (show anB _ _ _ = true; subst han; kernel_rfl) | (show (anB _ _ _ && _) = true; subst han; kernel_rfl) | omega | assumption | exact nrc | exact nfc | first | exact rfl | exact trivial | exact fitI | exact .inr rfl | exact .inl rfl | exact fun x hx => absurd hx (by omega)))
        refine rg ctNo_ok ?_
        simp only [go_sem, Nat.reduceLeDiff, Nat.reduceLT, Nat.reduceAdd, Nat.reduceMul, Nat.reduceSub, Nat.reduceEqDiff, Nat.reduceBEq, Int.reduceToNat, reduceCtorEq]
        obtain rfl := Option.some.inj H
        refine ⟨[5, 6, 7, 0, 1, 2, 3, 4, 8], ?_, ?_, [], ?_, ?_, rfl⟩
        · simp only [go_sem, Nat.reduceEqDiff, Nat.reduceBEq, Nat.reduceAdd]
          try (and_intros <;> first | (with_reducible trivial) | omega | exact nfc | trivial)
        · simp only [go_sem, Nat.reduceEqDiff, Nat.reduceBEq, Nat.reduceAdd]
          try (and_intros <;> first | (with_reducible trivial) | omega | exact nfc | trivial)
        · simp only [go_sem, Nat.reduceEqDiff, Nat.reduceBEq, Nat.reduceAdd]
          exact Cv_tup (CvL_cons (Cv_agg (CvL_cons Cv_int (CvL_cons Cv_int (CvL_cons Cv_int (CvL_cons Cv_int (CvL_cons Cv_int (CvL_cons Cv_int (CvL_cons Cv_int (CvL_cons (ro_row (by first | rfl | simp) (fun _ _ _ _ => rfl)) (CvL_cons (ro_row (by first | rfl | simp) (fun _ _ _ _ => rfl)) CvL_nil)))))))))) (CvL_cons Cv_int (CvL_cons (Cv_agg (CvL_cons Cv_int (CvL_cons Cv_int (CvL_cons Cv_int (CvL_cons Cv_int (CvL_cons Cv_int (CvL_cons Cv_int (CvL_cons Cv_int (CvL_cons Cv_int (CvL_cons Cv_int (CvL_cons Cv_int (CvL_cons Cv_int (CvL_cons Cv_int (CvL_cons Cv_int (CvL_cons Cv_int (CvL_cons Cv_int (CvL_cons Cv_int (CvL_cons Cv_int (CvL_cons Cv_int (CvL_cons Cv_int (CvL_cons Cv_int (CvL_cons Cv_int (CvL_cons Cv_int (CvL_cons Cv_int (CvL_cons Cv_int (CvL_cons Cv_int (CvL_cons Cv_int (CvL_cons Cv_int (CvL_cons Cv_int (CvL_cons Cv_int (CvL_cons Cv_int (CvL_cons Cv_int (CvL_cons Cv_int (CvL_cons Cv_int (CvL_cons Cv_int (CvL_cons Cv_int (CvL_cons Cv_int (CvL_cons Cv_int (CvL_cons Cv_int (CvL_cons (ro_row (by first | rfl | simp) (fun _ _ _ _ => rfl)) CvL_nil)))))))))))))))))))))))))))))))))))))))) (CvL_cons Cv_int CvL_nil))))
        · simp only [go_sem, Nat.reduceEqDiff, Nat.reduceBEq, Nat.reduceAdd, CvH]
      replace H := cond_f hc H
      refine sq ctNo_ok ?_
      simp only [go_sem, Nat.reduceLeDiff, Nat.reduceLT, Nat.reduceAdd, Nat.reduceMul, Nat.reduceSub, Nat.reduceEqDiff, Nat.reduceBEq, Int.reduceToNat, reduceCtorEq]
      refine condM rfl trivial (fun hc => ?_) (fun hc => ?_)
      · replace H := cond_t hc H
        refine sq ctNo_ok ?_
        simp only [go_sem, Nat.reduceLeDiff, Nat.reduceLT, Nat.reduceAdd, Nat.reduceMul, Nat.reduceSub, Nat.reduceEqDiff, Nat.reduceBEq, Int.reduceToNat, reduceCtorEq]
        repeat ((with_reducible refine And.intro ?_ ?_); focus (first | (with_reducible trivial) | omega | grind))
        refine rg ctNo_ok ?_
        simp only [go_sem, Nat.reduceLeDiff, Nat.reduceLT, Nat.reduceAdd, Nat.reduceMul, Nat.reduceSub, Nat.reduceEqDiff, Nat.reduceBEq, Int.reduceToNat, reduceCtorEq]
        obtain rfl := Option.some.inj H
        refine ⟨[5, 6, 0, 1, 2, 3, 4, 8], ?_, ?_, [], ?_, ?_, rfl⟩
        · simp only [go_sem, Nat.reduceEqDiff, Nat.reduceBEq, Nat.reduceAdd]
          try (and_intros <;> first | (with_reducible trivial) | omega | exact nfc | trivial)
        · simp only [go_sem, Nat.reduceEqDiff, Nat.reduceBEq, Nat.reduceAdd]
          try (and_intros <;> first | (with_reducible trivial) | omega | exact nfc | trivial)
        · simp only [go_sem, Nat.reduceEqDiff, Nat.reduceBEq, Nat.reduceAdd]
          exact Cv_tup (CvL_cons (Cv_agg (CvL_cons Cv_int (CvL_cons Cv_int (CvL_cons Cv_int (CvL_cons Cv_int (CvL_cons Cv_int (CvL_cons Cv_int (CvL_cons Cv_int (CvL_cons (ro_row (by first | rfl | simp) (fun _ _ _ _ => rfl)) (CvL_cons (ro_row (by first | rfl | simp) (fun _ _ _ _ => rfl)) CvL_nil)))))))))) (CvL_cons Cv_int (CvL_cons (Cv_agg (CvL_cons Cv_int (CvL_cons Cv_int (CvL_cons Cv_int (CvL_cons Cv_int (CvL_cons Cv_int (CvL_cons Cv_int (CvL_cons Cv_int (CvL_cons Cv_int (CvL_cons Cv_int (CvL_cons Cv_int (CvL_cons Cv_int (CvL_cons Cv_int (CvL_cons Cv_int (CvL_cons Cv_int (CvL_cons Cv_int (CvL_cons Cv_int (CvL_cons Cv_int (CvL_cons Cv_int (CvL_cons Cv_int (CvL_cons Cv_int (CvL_cons Cv_int (CvL_cons Cv_int (CvL_cons Cv_int (CvL_cons Cv_int (CvL_cons Cv_int (CvL_cons Cv_int (CvL_cons Cv_int (CvL_cons Cv_int (CvL_cons Cv_int (CvL_cons Cv_int (CvL_cons Cv_int (CvL_cons Cv_int (CvL_cons Cv_int (CvL_cons Cv_int (CvL_cons Cv_int (CvL_cons Cv_int (CvL_cons Cv_int (CvL_cons Cv_int (CvL_cons (Cv_ronil (α := Int)) CvL_nil)))))))))))))))))))))))))))))))))))))))) (CvL_cons Cv_int CvL_nil))))
        · simp only [go_sem, Nat.reduceEqDiff, Nat.reduceBEq, Nat.reduceAdd, CvH]
      replace H := cond_f hc H
      refine sq ctNo_ok ?_
      simp only [go_sem, Nat.reduceLeDiff, Nat.reduceLT, Nat.reduceAdd, Nat.reduceMul, Nat.reduceSub, Nat.reduceEqDiff, Nat.reduceBEq, Int.reduceToNat, reduceCtorEq]
      refine condM rfl trivial (fun hc => ?_) (fun hc => ?_)
      · replace H := cond_t hc H
        refine seqM ?_
        refine draw_rule shT_ok ctNo_ok 0 (by kernel_rfl) (by kernel_rfl) ?_
        intro an han
        simp only [d_nil, d_cons, nxtD, xrD, xoD, roEq, minL, List.append_nil, refsOp, refs, refsL, mask, maskF, place, placeF, okLog, pairOk, hit, inL, slotsF, ren, renL, rnN, nrH, nrB, nrL, nr, dead0, deadS, List.replicate_zero, List.replicate_succ, Nat.sub_self, Nat.add_zero, Nat.zero_add, Nat.reduceSub, Nat.not_lt_zero, Nat.zero_le, Nat.lt_add_one, go_sem, Nat.reduceLeDiff, Nat.reduceLT, Nat.reduceAdd, Nat.reduceMul, Nat.reduceSub, Nat.reduceEqDiff, Nat.reduceBEq, Int.reduceToNat, reduceCtorEq]
        repeat ((with_reducible refine And.intro ?_ ?_); focus (and_intros <;> first | (with_reducible trivial) | (show anB _ _ _ = true; subst han; kernel_rfl) | (show (anB _ _ _ && _) = true; subst han; kernel_rfl) | omega | assumption | exact nrc | exact nfc | first | exact rfl | exact trivial | exact fitI | exact .inr rfl | exact .inl rfl | exact fun x hx => absurd hx (by omega)))
        refine rg ctNo_ok ?_
        simp only [go_sem, Nat.reduceLeDiff, Nat.reduceLT, Nat.reduceAdd, Nat.reduceMul, Nat.reduceSub, Nat.reduceEqDiff, Nat.reduceBEq, Int.reduceToNat, reduceCtorEq]
        obtain rfl := Option.some.inj H
        refine ⟨[5, 6, 7, 0, 1, 2, 3, 4, 8], ?_, ?_, [], ?_, ?_, rfl⟩
        · simp only [go_sem, Nat.reduceEqDiff, Nat.reduceBEq, Nat.reduceAdd]
          try (and_intros <;> first | (with_reducible trivial) | omega | exact nfc | trivial)
        · simp only [go_sem, Nat.reduceEqDiff, Nat.reduceBEq, Nat.reduceAdd]
          try (and_intros <;> first | (with_reducible trivial) | omega | exact nfc | trivial)
        · simp only [go_sem, Nat.reduceEqDiff, Nat.reduceBEq, Nat.reduceAdd]
          exact Cv_tup (CvL_cons (Cv_agg (CvL_cons Cv_int (CvL_cons Cv_int (CvL_cons Cv_int (CvL_cons Cv_int (CvL_cons Cv_int (CvL_cons Cv_int (CvL_cons Cv_int (CvL_cons (ro_row (by first | rfl | simp) (fun _ _ _ _ => rfl)) (CvL_cons (ro_row (by first | rfl | simp) (fun _ _ _ _ => rfl)) CvL_nil)))))))))) (CvL_cons Cv_int (CvL_cons (Cv_agg (CvL_cons Cv_int (CvL_cons Cv_int (CvL_cons Cv_int (CvL_cons Cv_int (CvL_cons Cv_int (CvL_cons Cv_int (CvL_cons Cv_int (CvL_cons Cv_int (CvL_cons Cv_int (CvL_cons Cv_int (CvL_cons Cv_int (CvL_cons Cv_int (CvL_cons Cv_int (CvL_cons Cv_int (CvL_cons Cv_int (CvL_cons Cv_int (CvL_cons Cv_int (CvL_cons Cv_int (CvL_cons Cv_int (CvL_cons Cv_int (CvL_cons Cv_int (CvL_cons Cv_int (CvL_cons Cv_int (CvL_cons Cv_int (CvL_cons Cv_int (CvL_cons Cv_int (CvL_cons Cv_int (CvL_cons Cv_int (CvL_cons Cv_int (CvL_cons Cv_int (CvL_cons Cv_int (CvL_cons Cv_int (CvL_cons Cv_int (CvL_cons Cv_int (CvL_cons Cv_int (CvL_cons Cv_int (CvL_cons Cv_int (CvL_cons Cv_int (CvL_cons (ro_row (by first | rfl | simp) (fun _ _ _ _ => rfl)) CvL_nil)))))))))))))))))))))))))))))))))))))))) (CvL_cons Cv_int CvL_nil))))
        · simp only [go_sem, Nat.reduceEqDiff, Nat.reduceBEq, Nat.reduceAdd, CvH]
      replace H := cond_f hc H
      refine rg ctNo_ok ?_
      simp only [go_sem, Nat.reduceLeDiff, Nat.reduceLT, Nat.reduceAdd, Nat.reduceMul, Nat.reduceSub, Nat.reduceEqDiff, Nat.reduceBEq, Int.reduceToNat, reduceCtorEq]
      refine seqM ?_
      refine draw_rule shT_ok ctNo_ok 0 (by kernel_rfl) (by kernel_rfl) ?_
      intro an han
      simp only [d_nil, d_cons, nxtD, xrD, xoD, roEq, minL, List.append_nil, refsOp, refs, refsL, mask, maskF, place, placeF, okLog, pairOk, hit, inL, slotsF, ren, renL, rnN, nrH, nrB, nrL, nr, dead0, deadS, List.replicate_zero, List.replicate_succ, Nat.sub_self, Nat.add_zero, Nat.zero_add, Nat.reduceSub, Nat.not_lt_zero, Nat.zero_le, Nat.lt_add_one, go_sem, Nat.reduceLeDiff, Nat.reduceLT, Nat.reduceAdd, Nat.reduceMul, Nat.reduceSub, Nat.reduceEqDiff, Nat.reduceBEq, Int.reduceToNat, reduceCtorEq]
      repeat ((with_reducible refine And.intro ?_ ?_); focus (and_intros <;> first | (with_reducible trivial) | (show anB _ _ _ = true; subst han; kernel_rfl) | (show (anB _ _ _ && _) = true; subst han; kernel_rfl) | omega | assumption | exact nrc | exact nfc | first | exact rfl | exact trivial | exact fitI | exact .inr rfl | exact .inl rfl | exact fun x hx => absurd hx (by omega)))
      refine seqM ?_
      refine draw_rule shT_ok ctNo_ok 0 (by kernel_rfl) (by kernel_rfl) ?_
      intro an han
      simp only [d_nil, d_cons, nxtD, xrD, xoD, roEq, minL, List.append_nil, refsOp, refs, refsL, mask, maskF, place, placeF, okLog, pairOk, hit, inL, slotsF, ren, renL, rnN, nrH, nrB, nrL, nr, dead0, deadS, List.replicate_zero, List.replicate_succ, Nat.sub_self, Nat.add_zero, Nat.zero_add, Nat.reduceSub, Nat.not_lt_zero, Nat.zero_le, Nat.lt_add_one, go_sem, Nat.reduceLeDiff, Nat.reduceLT, Nat.reduceAdd, Nat.reduceMul, Nat.reduceSub, Nat.reduceEqDiff, Nat.reduceBEq, Int.reduceToNat, reduceCtorEq]
      repeat ((with_reducible refine And.intro ?_ ?_); focus (and_intros <;> first | (with_reducible trivial) | (show anB _ _ _ = true; subst han; kernel_rfl) | (show (anB _ _ _ && _) = true; subst han; kernel_rfl) | omega | assumption | exact nrc | exact nfc | first | exact rfl | exact trivial | exact fitI | exact .inr rfl | exact .inl rfl | exact fun x hx => absurd hx (by omega)))
      refine rg ctNo_ok ?_
      simp only [go_sem, Nat.reduceLeDiff, Nat.reduceLT, Nat.reduceAdd, Nat.reduceMul, Nat.reduceSub, Nat.reduceEqDiff, Nat.reduceBEq, Int.reduceToNat, reduceCtorEq]
      obtain rfl := Option.some.inj H
      refine ⟨[5, 6, 7, 0, 1, 2, 3, 4, 8], ?_, ?_, [], ?_, ?_, rfl⟩
      · simp only [go_sem, Nat.reduceEqDiff, Nat.reduceBEq, Nat.reduceAdd]
        try (and_intros <;> first | (with_reducible trivial) | omega | exact nfc | trivial)
      · simp only [go_sem, Nat.reduceEqDiff, Nat.reduceBEq, Nat.reduceAdd]
        try (and_intros <;> first | (with_reducible trivial) | omega | exact nfc | trivial)
      · simp only [go_sem, Nat.reduceEqDiff, Nat.reduceBEq, Nat.reduceAdd]
        exact Cv_tup (CvL_cons (Cv_agg (CvL_cons Cv_int (CvL_cons Cv_int (CvL_cons Cv_int (CvL_cons Cv_int (CvL_cons Cv_int (CvL_cons Cv_int (CvL_cons Cv_int (CvL_cons (ro_row (by first | rfl | simp) (fun _ _ _ _ => rfl)) (CvL_cons (ro_row (by first | rfl | simp) (fun _ _ _ _ => rfl)) CvL_nil)))))))))) (CvL_cons Cv_int (CvL_cons (Cv_agg (CvL_cons Cv_int (CvL_cons Cv_int (CvL_cons Cv_int (CvL_cons Cv_int (CvL_cons Cv_int (CvL_cons Cv_int (CvL_cons Cv_int (CvL_cons Cv_int (CvL_cons Cv_int (CvL_cons Cv_int (CvL_cons Cv_int (CvL_cons Cv_int (CvL_cons Cv_int (CvL_cons Cv_int (CvL_cons Cv_int (CvL_cons Cv_int (CvL_cons Cv_int (CvL_cons Cv_int (CvL_cons Cv_int (CvL_cons Cv_int (CvL_cons Cv_int (CvL_cons Cv_int (CvL_cons Cv_int (CvL_cons Cv_int (CvL_cons Cv_int (CvL_cons Cv_int (CvL_cons Cv_int (CvL_cons Cv_int (CvL_cons Cv_int (CvL_cons Cv_int (CvL_cons Cv_int (CvL_cons Cv_int (CvL_cons Cv_int (CvL_cons Cv_int (CvL_cons Cv_int (CvL_cons Cv_int (CvL_cons Cv_int (CvL_cons Cv_int (CvL_cons (ro_row (by first | rfl | simp) (fun _ _ _ _ => rfl)) CvL_nil)))))))))))))))))))))))))))))))))))))))) (CvL_cons Cv_int CvL_nil))))
      · simp only [go_sem, Nat.reduceEqDiff, Nat.reduceBEq, Nat.reduceAdd, CvH]
    · cases hb
  · unfold body20 at hb
    split at hb <;> cases hb
/-! bytes.Equal -/
noncomputable def F49 (p0 : List Int) (p1 : List Int) : Option (Bool) :=
  need (u8b p0.length (enR c_u8 p0)) <| need (u8b p1.length (enR c_u8 p1)) <| some (sEq (bytesC p0.length (enR c_u8 p0)) (bytesC p1.length (enR c_u8 p1)))
noncomputable def body49 : List AV → AR
  | [v0, v1] => .pure (lK k_u8 1 v0 ∧ lK k_u8 1 v1 ∧ (F49 (lA g_u8 v0) (lA g_u8 v1)).isSome = true) (.bool (gt (F49 (lA g_u8 v0) (lA g_u8 v1))))
  | _ => .fail
set_option maxHeartbeats 4000000 in
set_option maxRecDepth 20000 in
theorem ok49 : FnOk Try.prog 49 (pureC body49) := by
  refine pure_fnM body49 (rs := [.tmp 4]) Try.func49 (by kernel_rfl) rfl rfl ?_
  intro l ob v hb hob
  unfold body49 at hb
  split at hb
  · rename_i v0 v1
    injection hb with q1 q2; subst q1 q2
    obtain ⟨hk0_0, hk1_0, hob⟩ := hob
    obtain ⟨r, H⟩ := Option.isSome_iff_exists.1 hob
    rw [H, gt_some]
    have hw0 := lK_wk (fun r h => w_u8 h) hk0_0
    have hw1 := lK_wk (fun r h => w_u8 h) hk1_0
    generalize lA g_u8 v0 = p0 at H hw0
    generalize lA g_u8 v1 = p1 at H hw1
    refine ⟨[.ro 1 p0.length false (enR c_u8 p0), .ro 1 p1.length false (enR c_u8 p1)], _, (fun E vs F => FR_wk1 hw0.1 F (fun vs F => FR_wk1 hw1.1 F (fun vs F => F))), rfl, rfl, ?_⟩
    rw [Try.ntmps49]
    simp only [List.length_cons, List.length_nil, Nat.reduceAdd, Nat.reduceSub, List.replicate_succ, List.replicate_zero, List.cons_append, List.nil_append]
    unfold F49 at H
    try dsimp only at H
    refine sq ctNo_ok ?_
    simp only [go_sem, Nat.reduceLeDiff, Nat.reduceLT, Nat.reduceAdd, Nat.reduceMul, Nat.reduceSub, Nat.reduceEqDiff, Nat.reduceBEq, Int.reduceToNat, reduceCtorEq]
    refine seqM ?_
    obtain ⟨f1, H⟩ := need_some.1 H
    replace f1 := u8b_iff.1 f1
    obtain ⟨f2, H⟩ := need_some.1 H
    replace f2 := u8b_iff.1 f2
    refine rg ctNo_ok ?_
    simp only [go_sem, Nat.reduceLeDiff, Nat.reduceLT, Nat.reduceAdd, Nat.reduceMul, Nat.reduceSub, Nat.reduceEqDiff, Nat.reduceBEq, Int.reduceToNat, reduceCtorEq, f1, f2]
    repeat ((with_reducible refine And.intro ?_ ?_); focus (first | (with_reducible trivial) | omega | exact f1 | exact ⟨trivial, f1⟩ | exact f2 | exact ⟨trivial, f2⟩ | grind))
    refine rg ctNo_ok ?_
    simp only [go_sem, Nat.reduceLeDiff, Nat.reduceLT, Nat.reduceAdd, Nat.reduceMul, Nat.reduceSub, Nat.reduceEqDiff, Nat.reduceBEq, Int.reduceToNat, reduceCtorEq]
    obtain rfl := Option.some.inj H
    first | rfl | simp only [Bool.and_false, Bool.false_and, Bool.and_true, Bool.true_and]
  · cases hb
/-! hotspot/forward.Same -/
noncomputable def ct25t0 : Ct := tab [(49, pureC body49)]
theorem ct25t0_ok : CtOk Try.prog ct25t0 := tab_cons ok49 <| tab_nil
theorem ct25t0_49 (l : List AV) (h : List ABlk) : ct25t0 49 l h = pureC body49 l h := rfl
noncomputable def F25 (p0 : TMeshFrame) (p1 : TMeshFrame) : Option (Bool) :=
  need (bif ((((((((bEq p0.From.x0 p1.From.x0 && (bEq p0.From.x1 p1.From.x1 && (bEq p0.From.x2 p1.From.x2 && (bEq p0.From.x3 p1.From.x3 && (bEq p0.From.x4 p1.From.x4 && (bEq p0.From.x5 p1.From.x5)))))) && (bEq p0.To.x0 p1.To.x0 && (bEq p0.To.x1 p1.To.x1 && (bEq p0.To.x2 p1.To.x2 && (bEq p0.To.x3 p1.To.x3 && (bEq p0.To.x4 p1.To.x4 && (bEq p0.To.x5 p1.To.x5))))))) && (bEq p0.Enter.x0 p1.Enter.x0 && (bEq p0.Enter.x1 p1.Enter.x1 && (bEq p0.Enter.x2 p1.Enter.x2 && (bEq p0.Enter.x3 p1.Enter.x3 && (bEq p0.Enter.x4 p1.Enter.x4 && (bEq p0.Enter.x5 p1.Enter.x5))))))) && (bEq p0.Leave.x0 p1.Leave.x0 && (bEq p0.Leave.x1 p1.Leave.x1 && (bEq p0.Leave.x2 p1.Leave.x2 && (bEq p0.Leave.x3 p1.Leave.x3 && (bEq p0.Leave.x4 p1.Leave.x4 && (bEq p0.Leave.x5 p1.Leave.x5))))))) && (bEq p0.Source.x0 p1.Source.x0 && (bEq p0.Source.x1 p1.Source.x1 && (bEq p0.Source.x2 p1.Source.x2 && (bEq p0.Source.x3 p1.Source.x3 && (bEq p0.Source.x4 p1.Source.x4 && (bEq p0.Source.x5 p1.Source.x5))))))) && (bEq p0.Target.x0 p1.Target.x0 && (bEq p0.Target.x1 p1.Target.x1 && (bEq p0.Target.x2 p1.Target.x2 && (bEq p0.Target.x3 p1.Target.x3 && (bEq p0.Target.x4 p1.Target.x4 && (bEq p0.Target.x5 p1.Target.x5))))))) && (bEq p0.Seq p1.Seq)) && (bEq p0.Ttl p1.Ttl)) then ((F49 p0.Data p1.Data).isSome) else true) <| some (((((((((bEq p0.From.x0 p1.From.x0 && (bEq p0.From.x1 p1.From.x1 && (bEq p0.From.x2 p1.From.x2 && (bEq p0.From.x3 p1.From.x3 && (bEq p0.From.x4 p1.From.x4 && (bEq p0.From.x5 p1.From.x5)))))) && (bEq p0.To.x0 p1.To.x0 && (bEq p0.To.x1 p1.To.x1 && (bEq p0.To.x2 p1.To.x2 && (bEq p0.To.x3 p1.To.x3 && (bEq p0.To.x4 p1.To.x4 && (bEq p0.To.x5 p1.To.x5))))))) && (bEq p0.Enter.x0 p1.Enter.x0 && (bEq p0.Enter.x1 p1.Enter.x1 && (bEq p0.Enter.x2 p1.Enter.x2 && (bEq p0.Enter.x3 p1.Enter.x3 && (bEq p0.Enter.x4 p1.Enter.x4 && (bEq p0.Enter.x5 p1.Enter.x5))))))) && (bEq p0.Leave.x0 p1.Leave.x0 && (bEq p0.Leave.x1 p1.Leave.x1 && (bEq p0.Leave.x2 p1.Leave.x2 && (bEq p0.Leave.x3 p1.Leave.x3 && (bEq p0.Leave.x4 p1.Leave.x4 && (bEq p0.Leave.x5 p1.Leave.x5))))))) && (bEq p0.Source.x0 p1.Source.x0 && (bEq p0.Source.x1 p1.Source.x1 && (bEq p0.Source.x2 p1.Source.x2 && (bEq p0.Source.x3 p1.Source.x3 && (bEq p0.Source.x4 p1.Source.x4 && (bEq p0.Source.x5 p1.Source.x5))))))) && (bEq p0.Target.x0 p1.Target.x0 && (bEq p0.Target.x1 p1.Target.x1 && (bEq p0.Target.x2 p1.Target.x2 && (bEq p0.Target.x3 p1.Target.x3 && (bEq p0.Target.x4 p1.Target.x4 && (bEq p0.Target.x5 p1.Target.x5))))))) && (bEq p0.Seq p1.Seq)) && (bEq p0.Ttl p1.Ttl)) && (gt (F49 p0.Data p1.Data)))
noncomputable def body25 : List AV → AR
  | [v0, v1] => .pure (aK 39 k_TMeshFrame v0 ∧ aK 39 k_TMeshFrame v1 ∧ (F25 (g_TMeshFrame (aL v0)) (g_TMeshFrame (aL v1))).isSome = true) (.bool (gt (F25 (g_TMeshFrame (aL v0)) (g_TMeshFrame (aL v1)))))
  | _ => .fail
set_option maxHeartbeats 4000000 in
set_option maxRecDepth 20000 in
theorem ok25 : FnOk Try.prog 25 (pureC body25) := by
  refine pure_fnM body25 (rs := [.tmp 4]) Try.func25 (by kernel_rfl) rfl rfl ?_
  intro l ob v hb hob
  unfold body25 at hb
  split at hb
  · rename_i v0 v1
    injection hb with q1 q2; subst q1 q2
    obtain ⟨hk0_0, hk1_0, hob⟩ := hob
    obtain ⟨r, H⟩ := Option.isSome_iff_exists.1 hob
    rw [H, gt_some]
    have hw0 := wA_TMeshFrame hk0_0
    have hw1 := wA_TMeshFrame hk1_0
    generalize g_TMeshFrame (aL v0) = p0 at H hw0
    generalize g_TMeshFrame (aL v1) = p1 at H hw1
    refine ⟨[.agg (.int .u8 p0.From.x0 :: .int .u8 p0.From.x1 :: .int .u8 p0.From.x2 :: .int .u8 p0.From.x3 :: .int .u8 p0.From.x4 :: .int .u8 p0.From.x5 :: .int .u8 p0.To.x0 :: .int .u8 p0.To.x1 :: .int .u8 p0.To.x2 :: .int .u8 p0.To.x3 :: .int .u8 p0.To.x4 :: .int .u8 p0.To.x5 :: .int .u8 p0.Enter.x0 :: .int .u8 p0.Enter.x1 :: .int .u8 p0.Enter.x2 :: .int .u8 p0.Enter.x3 :: .int .u8 p0.Enter.x4 :: .int .u8 p0.Enter.x5 :: .int .u8 p0.Leave.x0 :: .int .u8 p0.Leave.x1 :: .int .u8 p0.Leave.x2 :: .int .u8 p0.Leave.x3 :: .int .u8 p0.Leave.x4 :: .int .u8 p0.Leave.x5 :: .int .u8 p0.Source.x0 :: .int .u8 p0.Source.x1 :: .int .u8 p0.Source.x2 :: .int .u8 p0.Source.x3 :: .int .u8 p0.Source.x4 :: .int .u8 p0.Source.x5 :: .int .u8 p0.Target.x0 :: .int .u8 p0.Target.x1 :: .int .u8 p0.Target.x2 :: .int .u8 p0.Target.x3 :: .int .u8 p0.Target.x4 :: .int .u8 p0.Target.x5 :: .int .i64 p0.Seq :: .int .i64 p0.Ttl :: .ro 1 p0.Data.length false (enR c_u8 p0.Data) :: []), .agg (.int .u8 p1.From.x0 :: .int .u8 p1.From.x1 :: .int .u8 p1.From.x2 :: .int .u8 p1.From.x3 :: .int .u8 p1.From.x4 :: .int .u8 p1.From.x5 :: .int .u8 p1.To.x0 :: .int .u8 p1.To.x1 :: .int .u8 p1.To.x2 :: .int .u8 p1.To.x3 :: .int .u8 p1.To.x4 :: .int .u8 p1.To.x5 :: .int .u8 p1.Enter.x0 :: .int .u8 p1.Enter.x1 :: .int .u8 p1.Enter.x2 :: .int .u8 p1.Enter.x3 :: .int .u8 p1.Enter.x4 :: .int .u8 p1.Enter.x5 :: .int .u8 p1.Leave.x0 :: .int .u8 p1.Leave.x1 :: .int .u8 p1.Leave.x2 :: .int .u8 p1.Leave.x3 :: .int .u8 p1.Leave.x4 :: .int .u8 p1.Leave.x5 :: .int .u8 p1.Source.x0 :: .int .u8 p1.Source.x1 :: .int .u8 p1.Source.x2 :: .int .u8 p1.Source.x3 :: .int .u8 p1.Source.x4 :: .int .u8 p1.Source.x5 :: .int .u8 p1.Target.x0 :: .int .u8 p1.Target.x1 :: .int .u8 p1.Target.x2 :: .int .u8 p1.Target.x3 :: .int .u8 p1.Target.x4 :: .int .u8 p1.Target.x5 :: .int .i64 p1.Seq :: .int .i64 p1.Ttl :: .ro 1 p1.Data.length false (enR c_u8 p1.Data) :: [])], _, (fun E vs F => FR_wk1 hw0.1 F (fun vs F => FR_wk1 hw1.1 F (fun vs F => F))), rfl, rfl, ?_⟩
    rw [Try.ntmps25]
    simp only [List.length_cons, List.length_nil, Nat.reduceAdd, Nat.reduceSub, List.replicate_succ, List.replicate_zero, List.cons_append, List.nil_append]
    unfold F25 at H
    try dsimp only at H
    refine sq ctNo_ok ?_
    simp only [go_sem, Nat.reduceLeDiff, Nat.reduceLT, Nat.reduceAdd, Nat.reduceMul, Nat.reduceSub, Nat.reduceEqDiff, Nat.reduceBEq, Int.reduceToNat, reduceCtorEq]
    refine seqM ?_
    obtain ⟨f1, H⟩ := need_some.1 H
    replace f1 := g_iff.1 f1
    refine rg ct25t0_ok ?_
    simp (maxSteps := 3000000) only [go_sem, Nat.reduceLeDiff, Nat.reduceLT, Nat.reduceAdd, Nat.reduceMul, Nat.reduceSub, Nat.reduceEqDiff, Nat.reduceBEq, Int.reduceToNat, reduceCtorEq, ct25t0_49, body49, List.append_eq, List.cons_append, List.nil_append, Array.toList_append, List.append_assoc]
    repeat ((with_reducible refine And.intro ?_ ?_); focus (first | (with_reducible trivial) | omega | exact f1 | (intro g; have q := f1 (by first | exact g | (rw [g]; rfl) | simpa using g); first | exact q | exact ⟨q.1, q.2.1⟩ | exact q.2.2 | omega | exact ⟨g, q⟩ | exact ⟨trivial, q⟩ | exact ⟨g, q.1, q.2.1⟩ | exact ⟨g, q.2.2⟩) | (intro g; (try have q0 := f1 (by first | exact g | (rw [g]; rfl) | simpa using g)); and_intros <;> first | (with_reducible trivial) | assumption | exact nfc | (intro g2; rw [g, g2]; rfl) | (intro g2; assumption) | (simp only [g, Bool.true_and, Bool.and_true, Bool.not_false, Bool.not_true]; assumption) | grind) | (and_intros <;> first | (with_reducible trivial) | omega | assumption | exact nfc | first | exact rfl | exact trivial | exact fitI | exact .inr rfl | exact .inl rfl | exact fun x hx => absurd hx (by omega)) | grind))
    refine rg ctNo_ok ?_
    simp only [go_sem, Nat.reduceLeDiff, Nat.reduceLT, Nat.reduceAdd, Nat.reduceMul, Nat.reduceSub, Nat.reduceEqDiff, Nat.reduceBEq, Int.reduceToNat, reduceCtorEq]
    obtain rfl := Option.some.inj H
    first | rfl | simp only [Bool.and_false, Bool.false_and, Bool.and_true, Bool.true_and]
  · cases hb
/-! hotspot/hotspotlaw41.alive -/
noncomputable def ct26t0 : Ct := tab [(31, pureC body31), (35, edC body35)]
theorem ct26t0_ok : CtOk Try.prog ct26t0 := tab_cons ok31 <| tab_cons ok35 <| tab_nil
theorem ct26t0_31 (l : List AV) (h : List ABlk) : ct26t0 31 l h = pureC body31 l h := rfl
theorem ct26t0_35 (l : List AV) (h : List ABlk) : ct26t0 35 l h = edC body35 l h := rfl
noncomputable def ct26t1 : Ct := tab [(30, edC body30), (31, pureC body31)]
theorem ct26t1_ok : CtOk Try.prog ct26t1 := tab_cons ok30 <| tab_cons ok31 <| tab_nil
theorem ct26t1_30 (l : List AV) (h : List ABlk) : ct26t1 30 l h = edC body30 l h := rfl
theorem ct26t1_31 (l : List AV) (h : List ABlk) : ct26t1 31 l h = pureC body31 l h := rfl
noncomputable def ct26t2 : Ct := tab [(31, pureC body31)]
theorem ct26t2_ok : CtOk Try.prog ct26t2 := tab_cons ok31 <| tab_nil
theorem ct26t2_31 (l : List AV) (h : List ABlk) : ct26t2 31 l h = pureC body31 l h := rfl
noncomputable def ct26t3 : Ct := tab [(20, genC body20)]
theorem ct26t3_ok : CtOk Try.prog ct26t3 := tab_cons ok20 <| tab_nil
theorem ct26t3_20 (l : List AV) (h : List ABlk) : ct26t3 20 l h = genC body20 l h := rfl
noncomputable def ct26t4 : Ct := tab [(25, pureC body25)]
theorem ct26t4_ok : CtOk Try.prog ct26t4 := tab_cons ok25 <| tab_nil
theorem ct26t4_25 (l : List AV) (h : List ABlk) : ct26t4 25 l h = pureC body25 l h := rfl
noncomputable def F26 : Option (Bool) :=
  (F31 5).bind fun r1 => (F35 r1).bind fun r3 => (F31 9).bind fun r5 => (F31 7).bind fun r7 => (F30 (TForward.mk (A6u8.mk r3.1.Own.x0 r3.1.Own.x1 r3.1.Own.x2 r3.1.Own.x3 r3.1.Own.x4 r3.1.Own.x5) r3.1.Seq r3.1.Seen r3.1.Nexts) r5 r7).bind fun r9 => (F31 3).bind fun r11 => (F31 5).bind fun r13 => (F31 1).bind fun r15 => (F31 9).bind fun r17 => (some ([1] : List Int)).bind fun w19 => (F20 r9.1 (TMeshFrame.mk (A6u8.mk r11.x0 r11.x1 r11.x2 r11.x3 r11.x4 r11.x5) (A6u8.mk r13.x0 r13.x1 r13.x2 r13.x3 r13.x4 r13.x5) (A6u8.mk r15.x0 r15.x1 r15.x2 r15.x3 r15.x4 r15.x5) (A6u8.mk r17.x0 r17.x1 r17.x2 r17.x3 r17.x4 r17.x5) (A6u8.mk r15.x0 r15.x1 r15.x2 r15.x3 r15.x4 r15.x5) (A6u8.mk r17.x0 r17.x1 r17.x2 r17.x3 r17.x4 r17.x5) 4 4 w19)).bind fun r21 => (F20 r21.1 (TMeshFrame.mk (A6u8.mk r11.x0 r11.x1 r11.x2 r11.x3 r11.x4 r11.x5) (A6u8.mk r13.x0 r13.x1 r13.x2 r13.x3 r13.x4 r13.x5) (A6u8.mk r15.x0 r15.x1 r15.x2 r15.x3 r15.x4 r15.x5) (A6u8.mk r17.x0 r17.x1 r17.x2 r17.x3 r17.x4 r17.x5) (A6u8.mk r15.x0 r15.x1 r15.x2 r15.x3 r15.x4 r15.x5) (A6u8.mk r17.x0 r17.x1 r17.x2 r17.x3 r17.x4 r17.x5) 4 4 w19)).bind fun r23 => (F31 5).bind fun r25 => (F31 7).bind fun r27 => need (bif ((((bEq r3.2 0) && (bEq r9.2 0)) && (bEq r21.2.2.2 0)) && (bEq r21.2.1 2)) then ((F25 r21.2.2.1 (TMeshFrame.mk (A6u8.mk r25.x0 r25.x1 r25.x2 r25.x3 r25.x4 r25.x5) (A6u8.mk r27.x0 r27.x1 r27.x2 r27.x3 r27.x4 r27.x5) (A6u8.mk r15.x0 r15.x1 r15.x2 r15.x3 r15.x4 r15.x5) (A6u8.mk r17.x0 r17.x1 r17.x2 r17.x3 r17.x4 r17.x5) (A6u8.mk r15.x0 r15.x1 r15.x2 r15.x3 r15.x4 r15.x5) (A6u8.mk r17.x0 r17.x1 r17.x2 r17.x3 r17.x4 r17.x5) 4 3 w19)).isSome) else true) <| some (((((((bEq r3.2 0) && (bEq r9.2 0)) && (bEq r21.2.2.2 0)) && (bEq r21.2.1 2)) && (gt (F25 r21.2.2.1 (TMeshFrame.mk (A6u8.mk r25.x0 r25.x1 r25.x2 r25.x3 r25.x4 r25.x5) (A6u8.mk r27.x0 r27.x1 r27.x2 r27.x3 r27.x4 r27.x5) (A6u8.mk r15.x0 r15.x1 r15.x2 r15.x3 r15.x4 r15.x5) (A6u8.mk r17.x0 r17.x1 r17.x2 r17.x3 r17.x4 r17.x5) (A6u8.mk r15.x0 r15.x1 r15.x2 r15.x3 r15.x4 r15.x5) (A6u8.mk r17.x0 r17.x1 r17.x2 r17.x3 r17.x4 r17.x5) 4 3 w19)))) && (bEq r23.2.2.2 0)) && (bEq r23.2.1 0))
noncomputable def body26 : List AV → AR
  | [] => .pure ((F26).isSome = true) (.bool (gt F26))
  | _ => .fail
set_option maxHeartbeats 4000000 in
set_option maxRecDepth 20000 in
theorem ok26 : FnOk Try.prog 26 (pureC body26) := by
  refine pure_fnM body26 (rs := [.tmp 0]) Try.func26 (by kernel_rfl) rfl rfl ?_
  intro l ob v hb hob
  unfold body26 at hb
  split at hb
  · injection hb with q1 q2; subst q1 q2
    obtain ⟨r, H⟩ := Option.isSome_iff_exists.1 hob
    rw [H, gt_some]
    refine ⟨[], _, (fun E vs F => F), rfl, rfl, ?_⟩
    rw [Try.ntmps26]
    simp only [List.length_cons, List.length_nil, Nat.reduceAdd, Nat.reduceSub, List.replicate_succ, List.replicate_zero, List.cons_append, List.nil_append]
    unfold F26 at H
    try dsimp only at H
    refine sq ctNo_ok ?_
    simp only [go_sem, Nat.reduceLeDiff, Nat.reduceLT, Nat.reduceAdd, Nat.reduceMul, Nat.reduceSub, Nat.reduceEqDiff, Nat.reduceBEq, Int.reduceToNat, reduceCtorEq]
    refine seqM ?_
    obtain ⟨r1, e2, H⟩ := bsi H
    obtain ⟨r3, e4, H⟩ := bsi H
    refine rg ct26t0_ok ?_
    simp only [go_sem, Nat.reduceLeDiff, Nat.reduceLT, Nat.reduceAdd, Nat.reduceMul, Nat.reduceSub, Nat.reduceEqDiff, Nat.reduceBEq, Int.reduceToNat, reduceCtorEq, ct26t0_31, body31, ct26t0_35, body35, e2, e4]
    repeat ((with_reducible refine And.intro ?_ ?_); focus (first | (and_intros <;> first | (with_reducible trivial) | omega | assumption | exact nfc | first | exact rfl | exact trivial | exact fitI | exact .inr rfl | exact .inl rfl | exact fun x hx => absurd hx (by omega)) | grind))
    refine seqM ?_
    obtain ⟨r5, e6, H⟩ := bsi H
    obtain ⟨r7, e8, H⟩ := bsi H
    obtain ⟨r9, e10, H⟩ := bsi H
    refine draw_ruleX [(23, [], [0, 1])] shT_ok ct26t1_ok 2 (by kernel_rfl) (by kernel_rfl) ?_
    intro an han
    simp only [d_nil, d_cons, nxtD, xrD, xoD, roEq, minL, List.append_nil, refsOp, refs, refsL, mask, maskF, place, placeF, okLog, pairOk, hit, inL, slotsF, ren, renL, rnN, nrH, nrB, nrL, nr, dead0, deadS, List.replicate_zero, List.replicate_succ, Nat.sub_self, Nat.add_zero, Nat.zero_add, Nat.reduceSub, Nat.not_lt_zero, Nat.zero_le, Nat.lt_add_one, go_sem, Nat.reduceLeDiff, Nat.reduceLT, Nat.reduceAdd, Nat.reduceMul, Nat.reduceSub, Nat.reduceEqDiff, Nat.reduceBEq, Int.reduceToNat, reduceCtorEq, ct26t1_30, body30, ct26t1_31, body31, e6, e8, e10]
    repeat ((with_reducible refine And.intro ?_ ?_); focus (and_intros <;> first | (with_reducible trivial) | (show anB _ _ _ = true; subst han; kernel_rfl) | (show (anB _ _ _ && _) = true; subst han; kernel_rfl) | omega | assumption | exact nrc | exact nfc | first | exact rfl | exact trivial | exact fitI | exact .inr rfl | exact .inl rfl | exact fun x hx => absurd hx (by omega)))
    refine seqM ?_
    obtain ⟨r11, e12, H⟩ := bsi H
    obtain ⟨r13, e14, H⟩ := bsi H
    obtain ⟨r15, e16, H⟩ := bsi H
    obtain ⟨r17, e18, H⟩ := bsi H
    refine rg ct26t2_ok ?_
    simp only [go_sem, Nat.reduceLeDiff, Nat.reduceLT, Nat.reduceAdd, Nat.reduceMul, Nat.reduceSub, Nat.reduceEqDiff, Nat.reduceBEq, Int.reduceToNat, reduceCtorEq, ct26t2_31, body31, e12, e14, e16, e18]
    repeat ((with_reducible refine And.intro ?_ ?_); focus (first | (and_intros <;> first | (with_reducible trivial) | omega | assumption | exact nfc | first | exact rfl | exact trivial | exact fitI | exact .inr rfl | exact .inl rfl | exact fun x hx => absurd hx (by omega) | (intro x hx; (repeat (first | (and_intros <;> (first | exact rfl | exact trivial | exact fitI | exact .inr rfl | exact .inl rfl | exact fun x hx => absurd hx (by omega))) | (exfalso; omega) | (rcases x with _ | x))); done)) | grind))
    refine seqM ?_
    obtain ⟨w19, hw20, H⟩ := bsi H
    replace hw20 := Option.some.inj hw20
    have lhw20 : w19.length = 1 := by rw [← hw20]; exact (by first | rfl | (simp; done) | (simp; omega))
    refine subF_mean (t2 := (.bool false :: .ptr 2 0 0 0 :: .int .i64 r3.2 :: .int .i64 r9.2 :: .ptr 6 0 0 0 :: tp 9 (.tup [.agg [.int .u8 r3.1.Own.x0, .int .u8 r3.1.Own.x1, .int .u8 r3.1.Own.x2, .int .u8 r3.1.Own.x3, .int .u8 r3.1.Own.x4, .int .u8 r3.1.Own.x5, .int .i64 r3.1.Seq, .sl 0 7 0 r3.1.Seen.length false, .sl 1 12 0 r3.1.Nexts.length false], .int .i64 r3.2] :: .agg [.int .u8 r1.x0, .int .u8 r1.x1, .int .u8 r1.x2, .int .u8 r1.x3, .int .u8 r1.x4, .int .u8 r1.x5] :: .tup [.agg [.int .u8 r3.1.Own.x0, .int .u8 r3.1.Own.x1, .int .u8 r3.1.Own.x2, .int .u8 r3.1.Own.x3, .int .u8 r3.1.Own.x4, .int .u8 r3.1.Own.x5, .int .i64 r3.1.Seq, .sl 0 7 0 r3.1.Seen.length false, .sl 1 12 0 r3.1.Nexts.length false], .int .i64 r3.2] :: .agg [.int .u8 r3.1.Own.x0, .int .u8 r3.1.Own.x1, .int .u8 r3.1.Own.x2, .int .u8 r3.1.Own.x3, .int .u8 r3.1.Own.x4, .int .u8 r3.1.Own.x5, .int .i64 r3.1.Seq, .sl 0 7 0 r3.1.Seen.length false, .sl 1 12 0 r3.1.Nexts.length false] :: .int .i64 r3.2 :: .tup [.agg [.int .u8 r9.1.Own.x0, .int .u8 r9.1.Own.x1, .int .u8 r9.1.Own.x2, .int .u8 r9.1.Own.x3, .int .u8 r9.1.Own.x4, .int .u8 r9.1.Own.x5, .int .i64 r9.1.Seq, .sl 3 7 0 r9.1.Seen.length false, .sl 4 12 0 r9.1.Nexts.length false], .int .i64 r9.2] :: .agg [.int .u8 r3.1.Own.x0, .int .u8 r3.1.Own.x1, .int .u8 r3.1.Own.x2, .int .u8 r3.1.Own.x3, .int .u8 r3.1.Own.x4, .int .u8 r3.1.Own.x5, .int .i64 r3.1.Seq, .sl 0 7 0 r3.1.Seen.length false, .sl 1 12 0 r3.1.Nexts.length false] :: .agg [.int .u8 r5.x0, .int .u8 r5.x1, .int .u8 r5.x2, .int .u8 r5.x3, .int .u8 r5.x4, .int .u8 r5.x5] :: .agg [.int .u8 r7.x0, .int .u8 r7.x1, .int .u8 r7.x2, .int .u8 r7.x3, .int .u8 r7.x4, .int .u8 r7.x5] :: .tup [.agg [.int .u8 r9.1.Own.x0, .int .u8 r9.1.Own.x1, .int .u8 r9.1.Own.x2, .int .u8 r9.1.Own.x3, .int .u8 r9.1.Own.x4, .int .u8 r9.1.Own.x5, .int .i64 r9.1.Seq, .sl 3 7 0 r9.1.Seen.length false, .sl 4 12 0 r9.1.Nexts.length false], .int .i64 r9.2] :: .agg [.int .u8 r9.1.Own.x0, .int .u8 r9.1.Own.x1, .int .u8 r9.1.Own.x2, .int .u8 r9.1.Own.x3, .int .u8 r9.1.Own.x4, .int .u8 r9.1.Own.x5, .int .i64 r9.1.Seq, .sl 3 7 0 r9.1.Seen.length false, .sl 4 12 0 r9.1.Nexts.length false] :: .int .i64 r9.2 :: .agg [.int .u8 r11.x0, .int .u8 r11.x1, .int .u8 r11.x2, .int .u8 r11.x3, .int .u8 r11.x4, .int .u8 r11.x5] :: .agg [.int .u8 r13.x0, .int .u8 r13.x1, .int .u8 r13.x2, .int .u8 r13.x3, .int .u8 r13.x4, .int .u8 r13.x5] :: .agg [.int .u8 r15.x0, .int .u8 r15.x1, .int .u8 r15.x2, .int .u8 r15.x3, .int .u8 r15.x4, .int .u8 r15.x5] :: .agg [.int .u8 r17.x0, .int .u8 r17.x1, .int .u8 r17.x2, .int .u8 r17.x3, .int .u8 r17.x4, .int .u8 r17.x5] :: .agg [.int .u8 r15.x0, .int .u8 r15.x1, .int .u8 r15.x2, .int .u8 r15.x3, .int .u8 r15.x4, .int .u8 r15.x5] :: .agg [.int .u8 r17.x0, .int .u8 r17.x1, .int .u8 r17.x2, .int .u8 r17.x3, .int .u8 r17.x4, .int .u8 r17.x5] :: .sl 5 1 0 w19.length false :: .agg (.int .u8 r11.x0 :: .int .u8 r11.x1 :: .int .u8 r11.x2 :: .int .u8 r11.x3 :: .int .u8 r11.x4 :: .int .u8 r11.x5 :: .int .u8 r13.x0 :: .int .u8 r13.x1 :: .int .u8 r13.x2 :: .int .u8 r13.x3 :: .int .u8 r13.x4 :: .int .u8 r13.x5 :: .int .u8 r15.x0 :: .int .u8 r15.x1 :: .int .u8 r15.x2 :: .int .u8 r15.x3 :: .int .u8 r15.x4 :: .int .u8 r15.x5 :: .int .u8 r17.x0 :: .int .u8 r17.x1 :: .int .u8 r17.x2 :: .int .u8 r17.x3 :: .int .u8 r17.x4 :: .int .u8 r17.x5 :: .int .u8 r15.x0 :: .int .u8 r15.x1 :: .int .u8 r15.x2 :: .int .u8 r15.x3 :: .int .u8 r15.x4 :: .int .u8 r15.x5 :: .int .u8 r17.x0 :: .int .u8 r17.x1 :: .int .u8 r17.x2 :: .int .u8 r17.x3 :: .int .u8 r17.x4 :: .int .u8 r17.x5 :: .int .i64 4 :: .int .i64 4 :: .sl 5 1 0 w19.length false :: []) :: tp 49 []))) (h2 := [.row 59 7 r3.1.Seen.length (enR c_TForwardMark r3.1.Seen), .row 90 12 r3.1.Nexts.length (enR c_TForwardHop r3.1.Nexts), .lit 31 [.int .u8 r9.1.Own.x0, .int .u8 r9.1.Own.x1, .int .u8 r9.1.Own.x2, .int .u8 r9.1.Own.x3, .int .u8 r9.1.Own.x4, .int .u8 r9.1.Own.x5, .int .i64 r9.1.Seq, .sl 3 7 0 r9.1.Seen.length false, .sl 4 12 0 r9.1.Nexts.length false], .row 59 7 r9.1.Seen.length (enR c_TForwardMark r9.1.Seen), .row 90 12 r9.1.Nexts.length (enR c_TForwardHop r9.1.Nexts), .row 5 1 w19.length (enR c_u8 w19), .lit 26 (.int .u8 r11.x0 :: .int .u8 r11.x1 :: .int .u8 r11.x2 :: .int .u8 r11.x3 :: .int .u8 r11.x4 :: .int .u8 r11.x5 :: .int .u8 r13.x0 :: .int .u8 r13.x1 :: .int .u8 r13.x2 :: .int .u8 r13.x3 :: .int .u8 r13.x4 :: .int .u8 r13.x5 :: .int .u8 r15.x0 :: .int .u8 r15.x1 :: .int .u8 r15.x2 :: .int .u8 r15.x3 :: .int .u8 r15.x4 :: .int .u8 r15.x5 :: .int .u8 r17.x0 :: .int .u8 r17.x1 :: .int .u8 r17.x2 :: .int .u8 r17.x3 :: .int .u8 r17.x4 :: .int .u8 r17.x5 :: .int .u8 r15.x0 :: .int .u8 r15.x1 :: .int .u8 r15.x2 :: .int .u8 r15.x3 :: .int .u8 r15.x4 :: .int .u8 r15.x5 :: .int .u8 r17.x0 :: .int .u8 r17.x1 :: .int .u8 r17.x2 :: .int .u8 r17.x3 :: .int .u8 r17.x4 :: .int .u8 r17.x5 :: .int .i64 4 :: .int .i64 4 :: .sl 5 1 0 w19.length false :: [])]) ?_ ?_
    · refine SubF_of ⟨[some 0, some 1, some 2, some 3, some 4, some 5, some 6], ?_, ?_, by rfl, by rfl⟩
      · simp [CvL, Cv, getM, tp, lhw20]
      · exact ⟨CvB_row nr_TForwardMark rfl (fun _ _ _ _ => rfl), CvB_row nr_TForwardHop rfl (fun _ _ _ _ => rfl), (by simp [CvB, CvL, Cv, blkAt, geth, getM, lhw20]), CvB_row nr_TForwardMark rfl (fun _ _ _ _ => rfl), CvB_row nr_TForwardHop rfl (fun _ _ _ _ => rfl), CvB_row nr_u8 lhw20 (hw20 ▸ (lit_row (f := c_u8) [1] (fun _ _ => rfl) rfl)), (by simp [CvB, CvL, Cv, blkAt, geth, getM, lhw20]), trivial⟩
    simp only [tp]
    refine fz_mean [3, 4, 5] ?_ ?_
    · simp only [go_sem, Nat.reduceEqDiff, Nat.reduceBEq, Nat.reduceAdd]
      try (and_intros <;> first | (with_reducible trivial) | omega | exact nfc | trivial)
    simp only [go_sem, Nat.reduceEqDiff, Nat.reduceBEq, Nat.reduceAdd]
    obtain ⟨r21, e22, H⟩ := bsi H
    refine rg ct26t3_ok ?_
    simp only [go_sem, Nat.reduceLeDiff, Nat.reduceLT, Nat.reduceAdd, Nat.reduceMul, Nat.reduceSub, Nat.reduceEqDiff, Nat.reduceBEq, Int.reduceToNat, reduceCtorEq, ct26t3_20, body20, e22]
    repeat ((with_reducible refine And.intro ?_ ?_); focus (first | (and_intros <;> first | (with_reducible trivial) | omega | assumption | exact nfc | first | exact rfl | exact trivial | exact fitI | exact .inr rfl | exact .inl rfl | exact fun x hx => absurd hx (by omega)) | grind))
    refine seqM ?_
    obtain ⟨r23, e24, H⟩ := bsi H
    refine rg ct26t3_ok ?_
    simp only [go_sem, Nat.reduceLeDiff, Nat.reduceLT, Nat.reduceAdd, Nat.reduceMul, Nat.reduceSub, Nat.reduceEqDiff, Nat.reduceBEq, Int.reduceToNat, reduceCtorEq, ct26t3_20, body20, e24]
    repeat ((with_reducible refine And.intro ?_ ?_); focus (first | (and_intros <;> first | (with_reducible trivial) | omega | assumption | exact nfc | first | exact rfl | exact trivial | exact fitI | exact .inr rfl | exact .inl rfl | exact fun x hx => absurd hx (by omega)) | grind))
    refine sq ctNo_ok ?_
    simp only [go_sem, Nat.reduceLeDiff, Nat.reduceLT, Nat.reduceAdd, Nat.reduceMul, Nat.reduceSub, Nat.reduceEqDiff, Nat.reduceBEq, Int.reduceToNat, reduceCtorEq]
    repeat ((with_reducible refine And.intro ?_ ?_); focus (first | (with_reducible trivial) | omega | grind))
    refine seqM ?_
    obtain ⟨r25, e26, H⟩ := bsi H
    obtain ⟨r27, e28, H⟩ := bsi H
    refine rg ct26t2_ok ?_
    simp only [go_sem, Nat.reduceLeDiff, Nat.reduceLT, Nat.reduceAdd, Nat.reduceMul, Nat.reduceSub, Nat.reduceEqDiff, Nat.reduceBEq, Int.reduceToNat, reduceCtorEq, ct26t2_31, body31, e26, e28]
    repeat ((with_reducible refine And.intro ?_ ?_); focus (first | (and_intros <;> first | (with_reducible trivial) | omega | assumption | exact nfc | first | exact rfl | exact trivial | exact fitI | exact .inr rfl | exact .inl rfl | exact fun x hx => absurd hx (by omega)) | grind))
    refine seqM ?_
    obtain ⟨f29, H⟩ := need_some.1 H
    replace f29 := g_iff.1 f29
    refine rg ct26t4_ok ?_
    simp only [go_sem, Nat.reduceLeDiff, Nat.reduceLT, Nat.reduceAdd, Nat.reduceMul, Nat.reduceSub, Nat.reduceEqDiff, Nat.reduceBEq, Int.reduceToNat, reduceCtorEq, ct26t4_25, body25]
    repeat ((with_reducible refine And.intro ?_ ?_); focus (first | (with_reducible trivial) | omega | exact f29 | (intro g; have q := f29 (by first | exact g | (rw [g]; rfl) | simpa using g); first | exact q | exact ⟨q.1, q.2.1⟩ | exact q.2.2 | omega | exact ⟨g, q⟩ | exact ⟨trivial, q⟩ | exact ⟨g, q.1, q.2.1⟩ | exact ⟨g, q.2.2⟩) | (intro g; (try have q0 := f29 (by first | exact g | (rw [g]; rfl) | simpa using g)); and_intros <;> first | (with_reducible trivial) | assumption | exact nfc | (intro g2; rw [g, g2]; rfl) | (intro g2; assumption) | (simp only [g, Bool.true_and, Bool.and_true, Bool.not_false, Bool.not_true]; assumption) | grind) | (and_intros <;> first | (with_reducible trivial) | omega | assumption | exact nfc | first | exact rfl | exact trivial | exact fitI | exact .inr rfl | exact .inl rfl | exact fun x hx => absurd hx (by omega)) | grind))
    refine rg ctNo_ok ?_
    simp only [go_sem, Nat.reduceLeDiff, Nat.reduceLT, Nat.reduceAdd, Nat.reduceMul, Nat.reduceSub, Nat.reduceEqDiff, Nat.reduceBEq, Int.reduceToNat, reduceCtorEq]
    obtain rfl := Option.some.inj H
    first | rfl | simp only [Bool.and_false, Bool.false_and, Bool.and_true, Bool.true_and]
  · cases hb
/-! hotspot/hotspotref41.Great -/
noncomputable def F10 (p0 : TForward) (p1 : List Int) : Option (Bool) :=
  some (((bLt 140 (p0.Seen.length : Nat)) || (bLt 80 (p0.Nexts.length : Nat))) || (bLt 2400 (p1.length : Nat)))
noncomputable def body10 : List AV → AR
  | [v0, v1] => .pure (aK 9 k_TForward v0 ∧ lK k_u8 1 v1 ∧ (F10 (g_TForward (aL v0)) (lA g_u8 v1)).isSome = true) (.bool (gt (F10 (g_TForward (aL v0)) (lA g_u8 v1))))
  | _ => .fail
set_option maxHeartbeats 4000000 in
set_option maxRecDepth 20000 in
theorem ok10 : FnOk Try.prog 10 (pureC body10) := by
  refine pure_fnM body10 (rs := [.tmp 4]) Try.func10 (by kernel_rfl) rfl rfl ?_
  intro l ob v hb hob
  unfold body10 at hb
  split at hb
  · rename_i v0 v1
    injection hb with q1 q2; subst q1 q2
    obtain ⟨hk0_0, hk1_0, hob⟩ := hob
    obtain ⟨r, H⟩ := Option.isSome_iff_exists.1 hob
    rw [H, gt_some]
    have hw0 := wA_TForward hk0_0
    have hw1 := lK_wk (fun r h => w_u8 h) hk1_0
    generalize g_TForward (aL v0) = p0 at H hw0
    generalize lA g_u8 v1 = p1 at H hw1
    refine ⟨[.agg [.int .u8 p0.Own.x0, .int .u8 p0.Own.x1, .int .u8 p0.Own.x2, .int .u8 p0.Own.x3, .int .u8 p0.Own.x4, .int .u8 p0.Own.x5, .int .i64 p0.Seq, .ro 7 p0.Seen.length false (enR c_TForwardMark p0.Seen), .ro 12 p0.Nexts.length false (enR c_TForwardHop p0.Nexts)], .ro 1 p1.length false (enR c_u8 p1)], _, (fun E vs F => FR_wk1 hw0.1 F (fun vs F => FR_wk1 hw1.1 F (fun vs F => F))), rfl, rfl, ?_⟩
    rw [Try.ntmps10]
    simp only [List.length_cons, List.length_nil, Nat.reduceAdd, Nat.reduceSub, List.replicate_succ, List.replicate_zero, List.cons_append, List.nil_append]
    unfold F10 at H
    try dsimp only at H
    refine sq ctNo_ok ?_
    simp only [go_sem, Nat.reduceLeDiff, Nat.reduceLT, Nat.reduceAdd, Nat.reduceMul, Nat.reduceSub, Nat.reduceEqDiff, Nat.reduceBEq, Int.reduceToNat, reduceCtorEq]
    refine sq ctNo_ok ?_
    simp only [go_sem, Nat.reduceLeDiff, Nat.reduceLT, Nat.reduceAdd, Nat.reduceMul, Nat.reduceSub, Nat.reduceEqDiff, Nat.reduceBEq, Int.reduceToNat, reduceCtorEq]
    repeat ((with_reducible refine And.intro ?_ ?_); focus (first | (with_reducible trivial) | omega | (intro g; and_intros <;> first | (with_reducible trivial) | assumption | exact nfc | (intro g2; rw [g, g2]; rfl) | (intro g2; assumption) | (simp only [g, Bool.true_and, Bool.and_true, Bool.not_false, Bool.not_true]; assumption) | grind) | (and_intros <;> first | (with_reducible trivial) | omega | assumption | exact nfc | first | exact rfl | exact trivial | exact fitI | exact .inr rfl | exact .inl rfl | exact fun x hx => absurd hx (by omega)) | grind))
    refine rg ctNo_ok ?_
    simp only [go_sem, Nat.reduceLeDiff, Nat.reduceLT, Nat.reduceAdd, Nat.reduceMul, Nat.reduceSub, Nat.reduceEqDiff, Nat.reduceBEq, Int.reduceToNat, reduceCtorEq]
    obtain rfl := Option.some.inj H
    first | rfl | simp only [Bool.and_false, Bool.false_and, Bool.and_true, Bool.true_and]
  · cases hb
/-! hotspot/hotspotref41.Has -/
noncomputable def F28_L1 (p0 : List TForwardMark) (p1 : TForwardMark) (v1_1 : Int) : Option (Lp (Int) ((Unit) ⊕ (Bool))) :=
  bif (bLt v1_1 (p0.length : Nat)) then (need (inb v1_1 p0.length) <| bif (bEq (((gd p0 v1_1.toNat).Enter).x0) p1.Enter.x0 && (bEq (((gd p0 v1_1.toNat).Enter).x1) p1.Enter.x1 && (bEq (((gd p0 v1_1.toNat).Enter).x2) p1.Enter.x2 && (bEq (((gd p0 v1_1.toNat).Enter).x3) p1.Enter.x3 && (bEq (((gd p0 v1_1.toNat).Enter).x4) p1.Enter.x4 && (bEq (((gd p0 v1_1.toNat).Enter).x5) p1.Enter.x5 && (bEq ((gd p0 v1_1.toNat).Seq) p1.Seq))))))) then (some (.done (.inr true))) else (some (.next (wr .i64 (v1_1 + 1))))) else (some (.done (.inl ())))
noncomputable def F28 (p0 : List TForwardMark) (p1 : TForwardMark) : Option (Bool) :=
  lp (loopD (fun s => F28_L1 p0 p1 s) 0) (fun e => some false) some
noncomputable def body28 : List AV → AR
  | [v0, v1] => .pure (lK k_TForwardMark 7 v0 ∧ aK 7 k_TForwardMark v1 ∧ (F28 (lA g_TForwardMark v0) (g_TForwardMark (aL v1))).isSome = true) (.bool (gt (F28 (lA g_TForwardMark v0) (g_TForwardMark (aL v1)))))
  | _ => .fail
set_option maxHeartbeats 4000000 in
set_option maxRecDepth 20000 in
theorem ok28 : FnOk Try.prog 28 (pureC body28) := by
  refine pure_fnM body28 (rs := [.tmp 4]) Try.func28 (by kernel_rfl) rfl rfl ?_
  intro l ob v hb hob
  unfold body28 at hb
  split at hb
  · rename_i v0 v1
    injection hb with q1 q2; subst q1 q2
    obtain ⟨hk0_0, hk1_0, hob⟩ := hob
    obtain ⟨r, H⟩ := Option.isSome_iff_exists.1 hob
    rw [H, gt_some]
    have hw0 := lK_wk (fun r h => w_TForwardMark h) hk0_0
    have hw1 := wA_TForwardMark hk1_0
    generalize lA g_TForwardMark v0 = p0 at H hw0
    generalize g_TForwardMark (aL v1) = p1 at H hw1
    refine ⟨[.ro 7 p0.length false (enR c_TForwardMark p0), .agg [.int .u8 p1.Enter.x0, .int .u8 p1.Enter.x1, .int .u8 p1.Enter.x2, .int .u8 p1.Enter.x3, .int .u8 p1.Enter.x4, .int .u8 p1.Enter.x5, .int .i64 p1.Seq]], _, (fun E vs F => FR_wk1 hw0.1 F (fun vs F => FR_wk1 hw1.1 F (fun vs F => F))), rfl, rfl, ?_⟩
    rw [Try.ntmps28]
    simp only [List.length_cons, List.length_nil, Nat.reduceAdd, Nat.reduceSub, List.replicate_succ, List.replicate_zero, List.cons_append, List.nil_append]
    unfold F28 at H
    try dsimp only at H
    refine sq ctNo_ok ?_
    simp only [go_sem, Nat.reduceLeDiff, Nat.reduceLT, Nat.reduceAdd, Nat.reduceMul, Nat.reduceSub, Nat.reduceEqDiff, Nat.reduceBEq, Int.reduceToNat, reduceCtorEq]
    refine seqM ?_
    refine sq ctNo_ok ?_
    simp only [go_sem, Nat.reduceLeDiff, Nat.reduceLT, Nat.reduceAdd, Nat.reduceMul, Nat.reduceSub, Nat.reduceEqDiff, Nat.reduceBEq, Int.reduceToNat, reduceCtorEq]
    refine blkM ?_
    refine loop_den (fun s : Int => (.ro 7 p0.length false (enR c_TForwardMark p0) :: .top :: .top :: .ptr 0 0 0 0 :: .top :: .int .i64 s :: tp 12 [])) (fun s => [.lit 59 [.int .u8 p1.Enter.x0, .int .u8 p1.Enter.x1, .int .u8 p1.Enter.x2, .int .u8 p1.Enter.x3, .int .u8 p1.Enter.x4, .int .u8 p1.Enter.x5, .int .i64 p1.Seq]]) (fun e : Unit => (tp 18 [])) (fun e => [.dead]) H ?_ (fun v1_1 o H hn1_1 hn2_1 => ?_) (fun e H => ?_)
    · refine SubF_of ⟨[some 0], ?_, ?_, by rfl, by rfl⟩
      · simp [CvL, Cv, getM, tp]
      · exact ⟨(by simp [CvB, CvL, Cv, blkAt, geth, getM]), trivial⟩
    · unfold F28_L1 at H
      try dsimp only at H ⊢
      try simp only [tp]
      refine seqM ?_
      refine sq ctNo_ok ?_
      simp only [go_sem, Nat.reduceLeDiff, Nat.reduceLT, Nat.reduceAdd, Nat.reduceMul, Nat.reduceSub, Nat.reduceEqDiff, Nat.reduceBEq, Int.reduceToNat, reduceCtorEq]
      repeat ((with_reducible refine And.intro ?_ ?_); focus (first | (and_intros <;> first | (with_reducible trivial) | omega | assumption | exact nfc | first | exact rfl | exact trivial | exact fitI | exact .inr rfl | exact .inl rfl | exact fun x hx => absurd hx (by omega)) | grind))
      refine condM' rfl trivial (fun hc => ?_) (fun hc => ?_)
      · replace H := cond_f hc H
        refine rg ctNo_ok ?_
        simp only [go_sem, Nat.reduceLeDiff, Nat.reduceLT, Nat.reduceAdd, Nat.reduceMul, Nat.reduceSub, Nat.reduceEqDiff, Nat.reduceBEq, Int.reduceToNat, reduceCtorEq]
        refine ⟨_, (Option.some.inj H).symm, ?_⟩
        refine SubF_of ⟨[some 0], ?_, ?_, by rfl, by rfl⟩
        · simp [CvL, Cv, getM, tp]
        · exact ⟨CvB_dead, trivial⟩
      replace H := cond_t hc H
      refine rg ctNo_ok ?_
      simp only [go_sem, Nat.reduceLeDiff, Nat.reduceLT, Nat.reduceAdd, Nat.reduceMul, Nat.reduceSub, Nat.reduceEqDiff, Nat.reduceBEq, Int.reduceToNat, reduceCtorEq]
      refine seqM ?_
      refine blkM ?_
      refine seqM ?_
      obtain ⟨f1, H⟩ := need_some.1 H
      replace f1 := inb_iff.1 f1
      refine draw_quiet shT_ok ctNo_ok (by kernel_rfl) (by kernel_rfl) ?_
      simp only [go_sem, Nat.reduceLeDiff, Nat.reduceLT, Nat.reduceAdd, Nat.reduceMul, Nat.reduceSub, Nat.reduceEqDiff, Nat.reduceBEq, Int.reduceToNat, reduceCtorEq, f1]
      repeat ((with_reducible refine And.intro ?_ ?_); focus (first | (with_reducible trivial) | omega | grind))
      refine condM rfl trivial (fun hc => ?_) (fun hc => ?_)
      · replace H := cond_t hc H
        refine sq ctNo_ok ?_
        simp only [go_sem, Nat.reduceLeDiff, Nat.reduceLT, Nat.reduceAdd, Nat.reduceMul, Nat.reduceSub, Nat.reduceEqDiff, Nat.reduceBEq, Int.reduceToNat, reduceCtorEq]
        refine rg ctNo_ok ?_
        simp only [go_sem, Nat.reduceLeDiff, Nat.reduceLT, Nat.reduceAdd, Nat.reduceMul, Nat.reduceSub, Nat.reduceEqDiff, Nat.reduceBEq, Int.reduceToNat, reduceCtorEq]
        have H := hn2_1 _ (Option.some.inj H).symm
        obtain rfl := Option.some.inj H
        first | rfl | simp only [Bool.and_false, Bool.false_and, Bool.and_true, Bool.true_and]
      replace H := cond_f hc H
      refine rg ctNo_ok ?_
      simp only [go_sem, Nat.reduceLeDiff, Nat.reduceLT, Nat.reduceAdd, Nat.reduceMul, Nat.reduceSub, Nat.reduceEqDiff, Nat.reduceBEq, Int.reduceToNat, reduceCtorEq]
      refine rg ctNo_ok ?_
      simp only [go_sem, Nat.reduceLeDiff, Nat.reduceLT, Nat.reduceAdd, Nat.reduceMul, Nat.reduceSub, Nat.reduceEqDiff, Nat.reduceBEq, Int.reduceToNat, reduceCtorEq]
      refine ⟨_, (Option.some.inj H).symm, ?_⟩
      refine SubF_of ⟨[some 0], ?_, ?_, by rfl, by rfl⟩
      · simp [CvL, Cv, getM, tp]
      · exact ⟨(by simp [CvB, CvL, Cv, blkAt, geth, getM]), trivial⟩
    · try dsimp only at H ⊢
      try simp only [tp]
      try simp only [m_normal, k_normal, b_normal, kL_normal, r_normal]
      refine sq ctNo_ok ?_
      simp only [go_sem, Nat.reduceLeDiff, Nat.reduceLT, Nat.reduceAdd, Nat.reduceMul, Nat.reduceSub, Nat.reduceEqDiff, Nat.reduceBEq, Int.reduceToNat, reduceCtorEq]
      refine rg ctNo_ok ?_
      simp only [go_sem, Nat.reduceLeDiff, Nat.reduceLT, Nat.reduceAdd, Nat.reduceMul, Nat.reduceSub, Nat.reduceEqDiff, Nat.reduceBEq, Int.reduceToNat, reduceCtorEq]
      obtain rfl := Option.some.inj H
      first | rfl | simp only [Bool.and_false, Bool.false_and, Bool.and_true, Bool.true_and]
  · cases hb
/-! hotspot/hotspotlaw41.ForwardOnce -/
noncomputable def ct5t0 : Ct := tab [(26, pureC body26)]
theorem ct5t0_ok : CtOk Try.prog ct5t0 := tab_cons ok26 <| tab_nil
theorem ct5t0_26 (l : List AV) (h : List ABlk) : ct5t0 26 l h = pureC body26 l h := rfl
noncomputable def ct5t1 : Ct := tab [(10, pureC body10)]
theorem ct5t1_ok : CtOk Try.prog ct5t1 := tab_cons ok10 <| tab_nil
theorem ct5t1_10 (l : List AV) (h : List ABlk) : ct5t1 10 l h = pureC body10 l h := rfl
noncomputable def ct5t2 : Ct := tab [(27, pureC body27)]
theorem ct5t2_ok : CtOk Try.prog ct5t2 := tab_cons ok27 <| tab_nil
theorem ct5t2_27 (l : List AV) (h : List ABlk) : ct5t2 27 l h = pureC body27 l h := rfl
noncomputable def ct5t3 : Ct := tab [(20, genC body20)]
theorem ct5t3_ok : CtOk Try.prog ct5t3 := tab_cons ok20 <| tab_nil
theorem ct5t3_20 (l : List AV) (h : List ABlk) : ct5t3 20 l h = genC body20 l h := rfl
noncomputable def ct5t4 : Ct := tab [(27, pureC body27), (28, pureC body28)]
theorem ct5t4_ok : CtOk Try.prog ct5t4 := tab_cons ok27 <| tab_cons ok28 <| tab_nil
theorem ct5t4_27 (l : List AV) (h : List ABlk) : ct5t4 27 l h = pureC body27 l h := rfl
theorem ct5t4_28 (l : List AV) (h : List ABlk) : ct5t4 28 l h = pureC body28 l h := rfl
noncomputable def ct5t5 : Ct := tab [(23, pureC body23)]
theorem ct5t5_ok : CtOk Try.prog ct5t5 := tab_cons ok23 <| tab_nil
theorem ct5t5_23 (l : List AV) (h : List ABlk) : ct5t5 23 l h = pureC body23 l h := rfl
noncomputable def F5_L1 (p1 : List TMeshFrame) (r1 : Bool) (v1_1 : Int) (v1_2 : Int) (v1_3 : Int) (v1_4 : Int) (v1_5 : Int) (v1_6 : Int) (v1_7 : Int) (v1_8 : Int) (v1_9 : List TForwardMark) (v1_10 : List TForwardHop) (v1_11 : List TForwardMark) : Option (Lp (Int × Int × Int × Int × Int × Int × Int × Int × (List TForwardMark) × (List TForwardHop) × (List TForwardMark)) ((Unit) ⊕ (Bool))) :=
  bif (bLt v1_1 (p1.length : Nat)) then (need (inb v1_1 p1.length) <| bif (bLt 100 (((gd p1 v1_1.toNat).Data).length : Nat)) then (some (.done (.inr r1))) else (need (inb v1_1 p1.length) <| (F20 (TForward.mk (A6u8.mk v1_2 v1_3 v1_4 v1_5 v1_6 v1_7) v1_8 v1_9 v1_10) (TMeshFrame.mk (A6u8.mk (((gd p1 v1_1.toNat).From).x0) (((gd p1 v1_1.toNat).From).x1) (((gd p1 v1_1.toNat).From).x2) (((gd p1 v1_1.toNat).From).x3) (((gd p1 v1_1.toNat).From).x4) (((gd p1 v1_1.toNat).From).x5)) (A6u8.mk (((gd p1 v1_1.toNat).To).x0) (((gd p1 v1_1.toNat).To).x1) (((gd p1 v1_1.toNat).To).x2) (((gd p1 v1_1.toNat).To).x3) (((gd p1 v1_1.toNat).To).x4) (((gd p1 v1_1.toNat).To).x5)) (A6u8.mk (((gd p1 v1_1.toNat).Enter).x0) (((gd p1 v1_1.toNat).Enter).x1) (((gd p1 v1_1.toNat).Enter).x2) (((gd p1 v1_1.toNat).Enter).x3) (((gd p1 v1_1.toNat).Enter).x4) (((gd p1 v1_1.toNat).Enter).x5)) (A6u8.mk (((gd p1 v1_1.toNat).Leave).x0) (((gd p1 v1_1.toNat).Leave).x1) (((gd p1 v1_1.toNat).Leave).x2) (((gd p1 v1_1.toNat).Leave).x3) (((gd p1 v1_1.toNat).Leave).x4) (((gd p1 v1_1.toNat).Leave).x5)) (A6u8.mk (((gd p1 v1_1.toNat).Source).x0) (((gd p1 v1_1.toNat).Source).x1) (((gd p1 v1_1.toNat).Source).x2) (((gd p1 v1_1.toNat).Source).x3) (((gd p1 v1_1.toNat).Source).x4) (((gd p1 v1_1.toNat).Source).x5)) (A6u8.mk (((gd p1 v1_1.toNat).Target).x0) (((gd p1 v1_1.toNat).Target).x1) (((gd p1 v1_1.toNat).Target).x2) (((gd p1 v1_1.toNat).Target).x3) (((gd p1 v1_1.toNat).Target).x4) (((gd p1 v1_1.toNat).Target).x5)) ((gd p1 v1_1.toNat).Seq) ((gd p1 v1_1.toNat).Ttl) ((gd p1 v1_1.toNat).Data))).bind fun r8 => bif (!bEq r8.2.2.2 0) then (some (.next (wr .i64 (v1_1 + 1), v1_2, v1_3, v1_4, v1_5, v1_6, v1_7, v1_8, v1_9, v1_10, v1_11))) else (bif (bEq r8.2.1 0) then (some (.next (wr .i64 (v1_1 + 1), r8.1.Own.x0, r8.1.Own.x1, r8.1.Own.x2, r8.1.Own.x3, r8.1.Own.x4, r8.1.Own.x5, r8.1.Seq, r8.1.Seen, r8.1.Nexts, v1_11))) else (need (inb v1_1 p1.length) <| need (inb v1_1 p1.length) <| (F28 v1_11 (TForwardMark.mk (A6u8.mk (((gd p1 v1_1.toNat).Enter).x0) (((gd p1 v1_1.toNat).Enter).x1) (((gd p1 v1_1.toNat).Enter).x2) (((gd p1 v1_1.toNat).Enter).x3) (((gd p1 v1_1.toNat).Enter).x4) (((gd p1 v1_1.toNat).Enter).x5)) ((gd p1 v1_1.toNat).Seq))).bind fun r12 => need (bif (!r12) then ((F27 r8.1).isSome) else true) <| bif (r12 || (!bEq (gt (F27 r8.1)) 0)) then (some (.done (.inr false))) else (need (capb 16 (v1_11.length + 1)) <| need (bif ((bEq r8.2.1 2) || (bEq r8.2.1 3)) then inb v1_1 p1.length else true) <| need (bif (((bEq r8.2.1 2) || (bEq r8.2.1 3)) && (!((!bEq r8.2.2.1.Ttl (wr .i64 (((gd p1 v1_1.toNat).Ttl) - 1))) || (!(bEq r8.2.2.1.From.x0 r8.1.Own.x0 && (bEq r8.2.2.1.From.x1 r8.1.Own.x1 && (bEq r8.2.2.1.From.x2 r8.1.Own.x2 && (bEq r8.2.2.1.From.x3 r8.1.Own.x3 && (bEq r8.2.2.1.From.x4 r8.1.Own.x4 && (bEq r8.2.2.1.From.x5 r8.1.Own.x5)))))))))) then ((F23 r8.2.2.1).isSome) else true) <| bif (((bEq r8.2.1 2) || (bEq r8.2.1 3)) && (((!bEq r8.2.2.1.Ttl (wr .i64 (((gd p1 v1_1.toNat).Ttl) - 1))) || (!(bEq r8.2.2.1.From.x0 r8.1.Own.x0 && (bEq r8.2.2.1.From.x1 r8.1.Own.x1 && (bEq r8.2.2.1.From.x2 r8.1.Own.x2 && (bEq r8.2.2.1.From.x3 r8.1.Own.x3 && (bEq r8.2.2.1.From.x4 r8.1.Own.x4 && (bEq r8.2.2.1.From.x5 r8.1.Own.x5)))))))) || (!bEq (gt (F23 r8.2.2.1)) 0))) then (some (.done (.inr false))) else (some (.next (wr .i64 (v1_1 + 1), r8.1.Own.x0, r8.1.Own.x1, r8.1.Own.x2, r8.1.Own.x3, r8.1.Own.x4, r8.1.Own.x5, r8.1.Seq, r8.1.Seen, r8.1.Nexts, (v1_11 ++ [(TForwardMark.mk (A6u8.mk (((gd p1 v1_1.toNat).Enter).x0) (((gd p1 v1_1.toNat).Enter).x1) (((gd p1 v1_1.toNat).Enter).x2) (((gd p1 v1_1.toNat).Enter).x3) (((gd p1 v1_1.toNat).Enter).x4) (((gd p1 v1_1.toNat).Enter).x5)) ((gd p1 v1_1.toNat).Seq))]))))))))) else (some (.done (.inl ())))
noncomputable def F5 (p0 : TForward) (p1 : List TMeshFrame) : Option (Bool) :=
  (F26).bind fun r1 => need (bif (!(bLt 100 (p1.length : Nat))) then ((F10 p0 []).isSome) else true) <| bif (((bLt 100 (p1.length : Nat)) || (gt (F10 p0 []))) || (!r1)) then (some r1) else ((F27 (TForward.mk (A6u8.mk p0.Own.x0 p0.Own.x1 p0.Own.x2 p0.Own.x3 p0.Own.x4 p0.Own.x5) p0.Seq [] p0.Nexts)).bind fun r4 => bif (!bEq r4 0) then (some r1) else (lp (loopD (fun s => F5_L1 p1 r1 s.1 s.2.1 s.2.2.1 s.2.2.2.1 s.2.2.2.2.1 s.2.2.2.2.2.1 s.2.2.2.2.2.2.1 s.2.2.2.2.2.2.2.1 s.2.2.2.2.2.2.2.2.1 s.2.2.2.2.2.2.2.2.2.1 s.2.2.2.2.2.2.2.2.2.2) (0, p0.Own.x0, p0.Own.x1, p0.Own.x2, p0.Own.x3, p0.Own.x4, p0.Own.x5, p0.Seq, [], p0.Nexts, [])) (fun e => some r1) some))
noncomputable def body5 : List AV → AR
  | [v0, v1] => .pure (aK 9 k_TForward v0 ∧ lK k_TMeshFrame 39 v1 ∧ (F5 (g_TForward (aL v0)) (lA g_TMeshFrame v1)).isSome = true) (.bool (gt (F5 (g_TForward (aL v0)) (lA g_TMeshFrame v1))))
  | _ => .fail
set_option maxHeartbeats 4000000 in
set_option maxRecDepth 20000 in
theorem ok5 : FnOk Try.prog 5 (pureC body5) := by
  refine pure_fnM body5 (rs := [.tmp 4]) Try.func5 (by kernel_rfl) rfl rfl ?_
  intro l ob v hb hob
  unfold body5 at hb
  split at hb
  · rename_i v0 v1
    injection hb with q1 q2; subst q1 q2
    obtain ⟨hk0_0, hk1_0, hob⟩ := hob
    obtain ⟨r, H⟩ := Option.isSome_iff_exists.1 hob
    rw [H, gt_some]
    have hw0 := wA_TForward hk0_0
    have hw1 := lK_wk (fun r h => w_TMeshFrame h) hk1_0
    generalize g_TForward (aL v0) = p0 at H hw0
    generalize lA g_TMeshFrame v1 = p1 at H hw1
    refine ⟨[.agg [.int .u8 p0.Own.x0, .int .u8 p0.Own.x1, .int .u8 p0.Own.x2, .int .u8 p0.Own.x3, .int .u8 p0.Own.x4, .int .u8 p0.Own.x5, .int .i64 p0.Seq, .ro 7 p0.Seen.length false (enR c_TForwardMark p0.Seen), .ro 12 p0.Nexts.length false (enR c_TForwardHop p0.Nexts)], .ro 39 p1.length false (enR c_TMeshFrame p1)], _, (fun E vs F => FR_wk1 hw0.1 F (fun vs F => FR_wk1 hw1.1 F (fun vs F => F))), rfl, rfl, ?_⟩
    rw [Try.ntmps5]
    simp only [List.length_cons, List.length_nil, Nat.reduceAdd, Nat.reduceSub, List.replicate_succ, List.replicate_zero, List.cons_append, List.nil_append]
    unfold F5 at H
    try dsimp only at H
    refine sq ctNo_ok ?_
    simp only [go_sem, Nat.reduceLeDiff, Nat.reduceLT, Nat.reduceAdd, Nat.reduceMul, Nat.reduceSub, Nat.reduceEqDiff, Nat.reduceBEq, Int.reduceToNat, reduceCtorEq]
    refine seqM ?_
    obtain ⟨r1, e2, H⟩ := bsi H
    refine rg ct5t0_ok ?_
    simp only [go_sem, Nat.reduceLeDiff, Nat.reduceLT, Nat.reduceAdd, Nat.reduceMul, Nat.reduceSub, Nat.reduceEqDiff, Nat.reduceBEq, Int.reduceToNat, reduceCtorEq, ct5t0_26, body26, e2]
    repeat ((with_reducible refine And.intro ?_ ?_); focus (first | (and_intros <;> first | (with_reducible trivial) | omega | assumption | exact nfc | first | exact rfl | exact trivial | exact fitI | exact .inr rfl | exact .inl rfl | exact fun x hx => absurd hx (by omega)) | grind))
    refine seqM ?_
    refine seqM ?_
    obtain ⟨f3, H⟩ := need_some.1 H
    replace f3 := g_iff.1 f3
    refine rg ct5t1_ok ?_
    simp only [go_sem, Nat.reduceLeDiff, Nat.reduceLT, Nat.reduceAdd, Nat.reduceMul, Nat.reduceSub, Nat.reduceEqDiff, Nat.reduceBEq, Int.reduceToNat, reduceCtorEq, ct5t1_10, body10]
    repeat ((with_reducible refine And.intro ?_ ?_); focus (first | (with_reducible trivial) | omega | exact f3 | (intro g; have q := f3 (by first | exact g | (rw [g]; rfl) | simpa using g); first | exact q | exact ⟨q.1, q.2.1⟩ | exact q.2.2 | omega | exact ⟨g, q⟩ | exact ⟨trivial, q⟩ | exact ⟨g, q.1, q.2.1⟩ | exact ⟨g, q.2.2⟩) | (intro g; (try have q0 := f3 (by first | exact g | (rw [g]; rfl) | simpa using g)); and_intros <;> first | (with_reducible trivial) | assumption | exact nfc | (intro g2; rw [g, g2]; rfl) | (intro g2; assumption) | (simp only [g, Bool.true_and, Bool.and_true, Bool.not_false, Bool.not_true]; assumption) | grind) | (and_intros <;> first | (with_reducible trivial) | omega | assumption | exact nfc | first | exact rfl | exact trivial | exact fitI | exact .inr rfl | exact .inl rfl | exact fun x hx => absurd hx (by omega)) | grind))
    refine condM rfl trivial (fun hc => ?_) (fun hc => ?_)
    · replace H := cond_t hc H
      refine sq ctNo_ok ?_
      simp only [go_sem, Nat.reduceLeDiff, Nat.reduceLT, Nat.reduceAdd, Nat.reduceMul, Nat.reduceSub, Nat.reduceEqDiff, Nat.reduceBEq, Int.reduceToNat, reduceCtorEq]
      refine rg ctNo_ok ?_
      simp only [go_sem, Nat.reduceLeDiff, Nat.reduceLT, Nat.reduceAdd, Nat.reduceMul, Nat.reduceSub, Nat.reduceEqDiff, Nat.reduceBEq, Int.reduceToNat, reduceCtorEq]
      obtain rfl := Option.some.inj H
      first | rfl | simp only [Bool.and_false, Bool.false_and, Bool.and_true, Bool.true_and]
    replace H := cond_f hc H
    refine rg ctNo_ok ?_
    simp only [go_sem, Nat.reduceLeDiff, Nat.reduceLT, Nat.reduceAdd, Nat.reduceMul, Nat.reduceSub, Nat.reduceEqDiff, Nat.reduceBEq, Int.reduceToNat, reduceCtorEq]
    refine sq ctNo_ok ?_
    simp only [go_sem, Nat.reduceLeDiff, Nat.reduceLT, Nat.reduceAdd, Nat.reduceMul, Nat.reduceSub, Nat.reduceEqDiff, Nat.reduceBEq, Int.reduceToNat, reduceCtorEq]
    repeat ((with_reducible refine And.intro ?_ ?_); focus (first | (with_reducible trivial) | omega | grind))
    refine seqM ?_
    refine seqM ?_
    obtain ⟨r4, e5, H⟩ := bsi H
    refine rg ct5t2_ok ?_
    simp only [go_sem, Nat.reduceLeDiff, Nat.reduceLT, Nat.reduceAdd, Nat.reduceMul, Nat.reduceSub, Nat.reduceEqDiff, Nat.reduceBEq, Int.reduceToNat, reduceCtorEq, ct5t2_27, body27, e5]
    repeat ((with_reducible refine And.intro ?_ ?_); focus (first | (and_intros <;> first | (with_reducible trivial) | omega | assumption | exact nfc | first | exact rfl | exact trivial | exact fitI | exact .inr rfl | exact .inl rfl | exact fun x hx => absurd hx (by omega)) | grind))
    refine condM rfl trivial (fun hc => ?_) (fun hc => ?_)
    · replace H := cond_t hc H
      refine sq ctNo_ok ?_
      simp only [go_sem, Nat.reduceLeDiff, Nat.reduceLT, Nat.reduceAdd, Nat.reduceMul, Nat.reduceSub, Nat.reduceEqDiff, Nat.reduceBEq, Int.reduceToNat, reduceCtorEq]
      refine rg ctNo_ok ?_
      simp only [go_sem, Nat.reduceLeDiff, Nat.reduceLT, Nat.reduceAdd, Nat.reduceMul, Nat.reduceSub, Nat.reduceEqDiff, Nat.reduceBEq, Int.reduceToNat, reduceCtorEq]
      obtain rfl := Option.some.inj H
      first | rfl | simp only [Bool.and_false, Bool.false_and, Bool.and_true, Bool.true_and]
    replace H := cond_f hc H
    refine rg ctNo_ok ?_
    simp only [go_sem, Nat.reduceLeDiff, Nat.reduceLT, Nat.reduceAdd, Nat.reduceMul, Nat.reduceSub, Nat.reduceEqDiff, Nat.reduceBEq, Int.reduceToNat, reduceCtorEq]
    refine sq ctNo_ok ?_
    simp only [go_sem, Nat.reduceLeDiff, Nat.reduceLT, Nat.reduceAdd, Nat.reduceMul, Nat.reduceSub, Nat.reduceEqDiff, Nat.reduceBEq, Int.reduceToNat, reduceCtorEq]
    refine seqM ?_
    refine sq ctNo_ok ?_
    simp only [go_sem, Nat.reduceLeDiff, Nat.reduceLT, Nat.reduceAdd, Nat.reduceMul, Nat.reduceSub, Nat.reduceEqDiff, Nat.reduceBEq, Int.reduceToNat, reduceCtorEq]
    refine blkM ?_
    refine loop_den (fun s : Int × Int × Int × Int × Int × Int × Int × Int × (List TForwardMark) × (List TForwardHop) × (List TForwardMark) => (.top :: .ro 39 p1.length false (enR c_TMeshFrame p1) :: .ptr 0 0 0 0 :: .top :: .top :: .bool r1 :: .sl 1 7 0 s.2.2.2.2.2.2.2.2.2.2.length false :: .int .i64 s.1 :: tp 106 [])) (fun s => [.lit 31 [.int .u8 s.2.1, .int .u8 s.2.2.1, .int .u8 s.2.2.2.1, .int .u8 s.2.2.2.2.1, .int .u8 s.2.2.2.2.2.1, .int .u8 s.2.2.2.2.2.2.1, .int .i64 s.2.2.2.2.2.2.2.1, .ro 7 s.2.2.2.2.2.2.2.2.1.length false (enR c_TForwardMark s.2.2.2.2.2.2.2.2.1), .ro 12 s.2.2.2.2.2.2.2.2.2.1.length false (enR c_TForwardHop s.2.2.2.2.2.2.2.2.2.1)], .row 59 7 s.2.2.2.2.2.2.2.2.2.2.length (enR c_TForwardMark s.2.2.2.2.2.2.2.2.2.2)]) (fun e : Unit => (tp 5 (.bool r1 :: tp 108 []))) (fun e => [.dead]) H ?_ (fun s o H hn1_1 hn2_1 => ?_) (fun e H => ?_)
    · refine SubF_of ⟨[some 0, none], ?_, ?_, by rfl, by rfl⟩
      · simp [CvL, Cv, getM, tp]
      · exact ⟨(by simp [CvB, CvL, Cv, blkAt, geth, getM]), CvB_none, trivial⟩
    · obtain ⟨v1_1, v1_2, v1_3, v1_4, v1_5, v1_6, v1_7, v1_8, v1_9, v1_10, v1_11⟩ := s
      unfold F5_L1 at H
      try dsimp only at H ⊢
      try simp only [tp]
      refine seqM ?_
      refine sq ctNo_ok ?_
      simp only [go_sem, Nat.reduceLeDiff, Nat.reduceLT, Nat.reduceAdd, Nat.reduceMul, Nat.reduceSub, Nat.reduceEqDiff, Nat.reduceBEq, Int.reduceToNat, reduceCtorEq]
      repeat ((with_reducible refine And.intro ?_ ?_); focus (first | (and_intros <;> first | (with_reducible trivial) | omega | assumption | exact nfc | first | exact rfl | exact trivial | exact fitI | exact .inr rfl | exact .inl rfl | exact fun x hx => absurd hx (by omega)) | grind))
      refine condM' rfl trivial (fun hc => ?_) (fun hc => ?_)
      · replace H := cond_f hc H
        refine rg ctNo_ok ?_
        simp only [go_sem, Nat.reduceLeDiff, Nat.reduceLT, Nat.reduceAdd, Nat.reduceMul, Nat.reduceSub, Nat.reduceEqDiff, Nat.reduceBEq, Int.reduceToNat, reduceCtorEq]
        refine ⟨_, (Option.some.inj H).symm, ?_⟩
        refine SubF_of ⟨[some 0], ?_, ?_, by rfl, by rfl⟩
        · simp [CvL, Cv, getM, tp]
        · exact ⟨CvB_dead, trivial⟩
      replace H := cond_t hc H
      refine rg ctNo_ok ?_
      simp only [go_sem, Nat.reduceLeDiff, Nat.reduceLT, Nat.reduceAdd, Nat.reduceMul, Nat.reduceSub, Nat.reduceEqDiff, Nat.reduceBEq, Int.reduceToNat, reduceCtorEq]
      refine seqM ?_
      refine blkM ?_
      refine seqM ?_
      refine seqM ?_
      obtain ⟨f6, H⟩ := need_some.1 H
      replace f6 := inb_iff.1 f6
      refine rg ctNo_ok ?_
      simp only [go_sem, Nat.reduceLeDiff, Nat.reduceLT, Nat.reduceAdd, Nat.reduceMul, Nat.reduceSub, Nat.reduceEqDiff, Nat.reduceBEq, Int.reduceToNat, reduceCtorEq, f6]
      repeat ((with_reducible refine And.intro ?_ ?_); focus (first | (and_intros <;> first | (with_reducible trivial) | omega | assumption | exact nfc | first | exact rfl | exact trivial | exact fitI | exact .inr rfl | exact .inl rfl | exact fun x hx => absurd hx (by omega)) | grind))
      refine condM rfl trivial (fun hc => ?_) (fun hc => ?_)
      · replace H := cond_t hc H
        refine sq ctNo_ok ?_
        simp only [go_sem, Nat.reduceLeDiff, Nat.reduceLT, Nat.reduceAdd, Nat.reduceMul, Nat.reduceSub, Nat.reduceEqDiff, Nat.reduceBEq, Int.reduceToNat, reduceCtorEq]
        refine rg ctNo_ok ?_
        simp only [go_sem, Nat.reduceLeDiff, Nat.reduceLT, Nat.reduceAdd, Nat.reduceMul, Nat.reduceSub, Nat.reduceEqDiff, Nat.reduceBEq, Int.reduceToNat, reduceCtorEq]
        have H := hn2_1 _ (Option.some.inj H).symm
        obtain rfl := Option.some.inj H
        first | rfl | simp only [Bool.and_false, Bool.false_and, Bool.and_true, Bool.true_and]
      replace H := cond_f hc H
      refine rg ctNo_ok ?_
      simp only [go_sem, Nat.reduceLeDiff, Nat.reduceLT, Nat.reduceAdd, Nat.reduceMul, Nat.reduceSub, Nat.reduceEqDiff, Nat.reduceBEq, Int.reduceToNat, reduceCtorEq]
      refine seqM ?_
      obtain ⟨f7, H⟩ := need_some.1 H
      replace f7 := inb_iff.1 f7
      obtain ⟨r8, e9, H⟩ := bsi H
      refine draw_rule shT_ok ct5t3_ok 2 (by kernel_rfl) (by kernel_rfl) ?_
      intro an han
      simp only [d_nil, d_cons, nxtD, xrD, xoD, roEq, minL, List.append_nil, refsOp, refs, refsL, mask, maskF, place, placeF, okLog, pairOk, hit, inL, slotsF, ren, renL, rnN, nrH, nrB, nrL, nr, dead0, deadS, List.replicate_zero, List.replicate_succ, Nat.sub_self, Nat.add_zero, Nat.zero_add, Nat.reduceSub, Nat.not_lt_zero, Nat.zero_le, Nat.lt_add_one, go_sem, Nat.reduceLeDiff, Nat.reduceLT, Nat.reduceAdd, Nat.reduceMul, Nat.reduceSub, Nat.reduceEqDiff, Nat.reduceBEq, Int.reduceToNat, reduceCtorEq, ct5t3_20, body20, f7, e9]
      repeat ((with_reducible refine And.intro ?_ ?_); focus (and_intros <;> first | (with_reducible trivial) | (show anB _ _ _ = true; subst han; kernel_rfl) | (show (anB _ _ _ && _) = true; subst han; kernel_rfl) | omega | assumption | exact nrc | exact nfc | first | exact rfl | exact trivial | exact fitI | exact .inr rfl | exact .inl rfl | exact fun x hx => absurd hx (by omega)))
      refine seqM ?_
      refine sq ctNo_ok ?_
      simp only [go_sem, Nat.reduceLeDiff, Nat.reduceLT, Nat.reduceAdd, Nat.reduceMul, Nat.reduceSub, Nat.reduceEqDiff, Nat.reduceBEq, Int.reduceToNat, reduceCtorEq]
      refine condM rfl trivial (fun hc => ?_) (fun hc => ?_)
      · replace H := cond_t hc H
        refine rg ctNo_ok ?_
        simp only [go_sem, Nat.reduceLeDiff, Nat.reduceLT, Nat.reduceAdd, Nat.reduceMul, Nat.reduceSub, Nat.reduceEqDiff, Nat.reduceBEq, Int.reduceToNat, reduceCtorEq]
        refine rg ctNo_ok ?_
        simp only [go_sem, Nat.reduceLeDiff, Nat.reduceLT, Nat.reduceAdd, Nat.reduceMul, Nat.reduceSub, Nat.reduceEqDiff, Nat.reduceBEq, Int.reduceToNat, reduceCtorEq]
        refine ⟨_, (Option.some.inj H).symm, ?_⟩
        refine SubF_of ⟨[some 0, some 1], ?_, ?_, by rfl, by rfl⟩
        · simp [CvL, Cv, getM, tp]
        · exact ⟨(by simp [CvB, CvL, Cv, blkAt, geth, getM]), CvB_row nr_TForwardMark (by first | rfl | (simp; done) | (simp; omega)) (fun _ _ _ _ => rfl), trivial⟩
      replace H := cond_f hc H
      refine rg ctNo_ok ?_
      simp only [go_sem, Nat.reduceLeDiff, Nat.reduceLT, Nat.reduceAdd, Nat.reduceMul, Nat.reduceSub, Nat.reduceEqDiff, Nat.reduceBEq, Int.reduceToNat, reduceCtorEq]
      refine sq ctNo_ok ?_
      simp only [go_sem, Nat.reduceLeDiff, Nat.reduceLT, Nat.reduceAdd, Nat.reduceMul, Nat.reduceSub, Nat.reduceEqDiff, Nat.reduceBEq, Int.reduceToNat, reduceCtorEq]
      repeat ((with_reducible refine And.intro ?_ ?_); focus (first | (with_reducible trivial) | omega | grind))
      refine seqM ?_
      refine sq ctNo_ok ?_
      simp only [go_sem, Nat.reduceLeDiff, Nat.reduceLT, Nat.reduceAdd, Nat.reduceMul, Nat.reduceSub, Nat.reduceEqDiff, Nat.reduceBEq, Int.reduceToNat, reduceCtorEq]
      refine condM rfl trivial (fun hc => ?_) (fun hc => ?_)
      · replace H := cond_t hc H
        refine rg ctNo_ok ?_
        simp only [go_sem, Nat.reduceLeDiff, Nat.reduceLT, Nat.reduceAdd, Nat.reduceMul, Nat.reduceSub, Nat.reduceEqDiff, Nat.reduceBEq, Int.reduceToNat, reduceCtorEq]
        refine rg ctNo_ok ?_
        simp only [go_sem, Nat.reduceLeDiff, Nat.reduceLT, Nat.reduceAdd, Nat.reduceMul, Nat.reduceSub, Nat.reduceEqDiff, Nat.reduceBEq, Int.reduceToNat, reduceCtorEq]
        refine ⟨_, (Option.some.inj H).symm, ?_⟩
        refine SubF_of ⟨[some 0, some 1], ?_, ?_, by rfl, by rfl⟩
        · simp [CvL, Cv, getM, tp]
        · exact ⟨(by simp [CvB, CvL, Cv, blkAt, geth, getM]), CvB_row nr_TForwardMark (by first | rfl | (simp; done) | (simp; omega)) (fun _ _ _ _ => rfl), trivial⟩
      replace H := cond_f hc H
      refine rg ctNo_ok ?_
      simp only [go_sem, Nat.reduceLeDiff, Nat.reduceLT, Nat.reduceAdd, Nat.reduceMul, Nat.reduceSub, Nat.reduceEqDiff, Nat.reduceBEq, Int.reduceToNat, reduceCtorEq]
      refine seqM ?_
      obtain ⟨f10, H⟩ := need_some.1 H
      replace f10 := inb_iff.1 f10
      obtain ⟨f11, H⟩ := need_some.1 H
      replace f11 := inb_iff.1 f11
      refine draw_rule shT_ok ctNo_ok 1 (by kernel_rfl) (by kernel_rfl) ?_
      intro an han
      simp only [d_nil, d_cons, nxtD, xrD, xoD, roEq, minL, List.append_nil, refsOp, refs, refsL, mask, maskF, place, placeF, okLog, pairOk, hit, inL, slotsF, ren, renL, rnN, nrH, nrB, nrL, nr, dead0, deadS, List.replicate_zero, List.replicate_succ, Nat.sub_self, Nat.add_zero, Nat.zero_add, Nat.reduceSub, Nat.not_lt_zero, Nat.zero_le, Nat.lt_add_one, go_sem, Nat.reduceLeDiff, Nat.reduceLT, Nat.reduceAdd, Nat.reduceMul, Nat.reduceSub, Nat.reduceEqDiff, Nat.reduceBEq, Int.reduceToNat, reduceCtorEq, f10, f11]
      repeat ((with_reducible refine And.intro ?_ ?_); focus (and_intros <;> first | (with_reducible trivial) | (show anB _ _ _ = true; subst han; kernel_rfl) | (show (anB _ _ _ && _) = true; subst han; kernel_rfl) | omega | assumption | exact nrc | exact nfc | first | exact rfl | exact trivial | exact fitI | exact .inr rfl | exact .inl rfl | exact fun x hx => absurd hx (by omega)))
      refine seqM ?_
      refine seqM ?_
      obtain ⟨r12, e13, H⟩ := bsi H
      obtain ⟨f14, H⟩ := need_some.1 H
      replace f14 := g_iff.1 f14
      refine rg ct5t4_ok ?_
      simp only [go_sem, Nat.reduceLeDiff, Nat.reduceLT, Nat.reduceAdd, Nat.reduceMul, Nat.reduceSub, Nat.reduceEqDiff, Nat.reduceBEq, Int.reduceToNat, reduceCtorEq, ct5t4_27, body27, ct5t4_28, body28, e13]
      repeat ((with_reducible refine And.intro ?_ ?_); focus (first | (with_reducible trivial) | omega | exact f14 | (intro g; have q := f14 (by first | exact g | (rw [g]; rfl) | simpa using g); first | exact q | exact ⟨q.1, q.2.1⟩ | exact q.2.2 | omega | exact ⟨g, q⟩ | exact ⟨trivial, q⟩ | exact ⟨g, q.1, q.2.1⟩ | exact ⟨g, q.2.2⟩) | (intro g; (try have q0 := f14 (by first | exact g | (rw [g]; rfl) | simpa using g)); and_intros <;> first | (with_reducible trivial) | assumption | exact nfc | (intro g2; rw [g, g2]; rfl) | (intro g2; assumption) | (simp only [g, Bool.true_and, Bool.and_true, Bool.not_false, Bool.not_true]; assumption) | grind) | (and_intros <;> first | (with_reducible trivial) | omega | assumption | exact nfc | first | exact rfl | exact trivial | exact fitI | exact .inr rfl | exact .inl rfl | exact fun x hx => absurd hx (by omega)) | grind))
      refine condM rfl trivial (fun hc => ?_) (fun hc => ?_)
      · replace H := cond_t hc H
        refine sq ctNo_ok ?_
        simp only [go_sem, Nat.reduceLeDiff, Nat.reduceLT, Nat.reduceAdd, Nat.reduceMul, Nat.reduceSub, Nat.reduceEqDiff, Nat.reduceBEq, Int.reduceToNat, reduceCtorEq]
        refine rg ctNo_ok ?_
        simp only [go_sem, Nat.reduceLeDiff, Nat.reduceLT, Nat.reduceAdd, Nat.reduceMul, Nat.reduceSub, Nat.reduceEqDiff, Nat.reduceBEq, Int.reduceToNat, reduceCtorEq]
        have H := hn2_1 _ (Option.some.inj H).symm
        obtain rfl := Option.some.inj H
        first | rfl | simp only [Bool.and_false, Bool.false_and, Bool.and_true, Bool.true_and]
      replace H := cond_f hc H
      refine rg ctNo_ok ?_
      simp only [go_sem, Nat.reduceLeDiff, Nat.reduceLT, Nat.reduceAdd, Nat.reduceMul, Nat.reduceSub, Nat.reduceEqDiff, Nat.reduceBEq, Int.reduceToNat, reduceCtorEq]
      refine seqM ?_
      obtain ⟨f15, H⟩ := need_some.1 H
      replace f15 := capb_iff.1 f15
      refine rg ctNo_ok ?_
      simp only [go_sem, Nat.reduceLeDiff, Nat.reduceLT, Nat.reduceAdd, Nat.reduceMul, Nat.reduceSub, Nat.reduceEqDiff, Nat.reduceBEq, Int.reduceToNat, reduceCtorEq, f15]
      repeat ((with_reducible refine And.intro ?_ ?_); focus (first | (and_intros <;> first | (with_reducible trivial) | omega | assumption | exact nfc | first | exact rfl | exact trivial | exact fitI | exact .inr rfl | exact .inl rfl | exact fun x hx => absurd hx (by omega) | (intro x hx; (repeat (first | (and_intros <;> (first | exact rfl | exact trivial | exact fitI | exact .inr rfl | exact .inl rfl | exact fun x hx => absurd hx (by omega))) | (exfalso; omega) | (rcases x with _ | x))); done) | (refine Fit_app ?_ ?_ <;> first | exact fitI | (intro x hx; (repeat (first | (and_intros <;> (first | exact rfl | exact trivial | exact fitI | exact .inr rfl | exact .inl rfl | exact fun x hx => absurd hx (by omega))) | (exfalso; omega) | (rcases x with _ | x))); done) | (refine Fit_app ?_ ?_ <;> first | exact fitI | (intro x hx; (repeat (first | (and_intros <;> (first | exact rfl | exact trivial | exact fitI | exact .inr rfl | exact .inl rfl | exact fun x hx => absurd hx (by omega))) | (exfalso; omega) | (rcases x with _ | x))); done)))) | grind))
      refine seqM ?_
      obtain ⟨f16, H⟩ := need_some.1 H
      replace f16 := g_iff.1 f16
      replace f16 := fun g => inb_iff.1 (f16 g)
      obtain ⟨f17, H⟩ := need_some.1 H
      replace f17 := g_iff.1 f17
      refine draw_quiet shT_ok ct5t5_ok (by kernel_rfl) (by kernel_rfl) ?_
      simp only [go_sem, Nat.reduceLeDiff, Nat.reduceLT, Nat.reduceAdd, Nat.reduceMul, Nat.reduceSub, Nat.reduceEqDiff, Nat.reduceBEq, Int.reduceToNat, reduceCtorEq, ct5t5_23, body23]
      repeat ((with_reducible refine And.intro ?_ ?_); focus (first | (with_reducible trivial) | omega | exact f16 | exact f17 | (intro g; have q := f16 (by first | exact g | (rw [g]; rfl) | simpa using g); first | exact q | exact ⟨q.1, q.2.1⟩ | exact q.2.2 | omega | exact ⟨g, q⟩ | exact ⟨trivial, q⟩ | exact ⟨g, q.1, q.2.1⟩ | exact ⟨g, q.2.2⟩) | (intro g; have q := f17 (by first | exact g | (rw [g]; rfl) | simpa using g); first | exact q | exact ⟨q.1, q.2.1⟩ | exact q.2.2 | omega | exact ⟨g, q⟩ | exact ⟨trivial, q⟩ | exact ⟨g, q.1, q.2.1⟩ | exact ⟨g, q.2.2⟩) | (intro g; (try have q0 := f16 (by first | exact g | (rw [g]; rfl) | simpa using g)); (try have q1 := f17 (by first | exact g | (rw [g]; rfl) | simpa using g)); and_intros <;> first | (with_reducible trivial) | assumption | exact nfc | (intro g2; rw [g, g2]; rfl) | (intro g2; assumption) | (simp only [g, Bool.true_and, Bool.and_true, Bool.not_false, Bool.not_true]; assumption) | grind) | (and_intros <;> first | (with_reducible trivial) | omega | assumption | exact nfc | first | exact rfl | exact trivial | exact fitI | exact .inr rfl | exact .inl rfl | exact fun x hx => absurd hx (by omega) | (intro x hx; (repeat (first | (and_intros <;> (first | exact rfl | exact trivial | exact fitI | exact .inr rfl | exact .inl rfl | exact fun x hx => absurd hx (by omega))) | (exfalso; omega) | (rcases x with _ | x))); done) | (refine Fit_app ?_ ?_ <;> first | exact fitI | (intro x hx; (repeat (first | (and_intros <;> (first | exact rfl | exact trivial | exact fitI | exact .inr rfl | exact .inl rfl | exact fun x hx => absurd hx (by omega))) | (exfalso; omega) | (rcases x with _ | x))); done) | (refine Fit_app ?_ ?_ <;> first | exact fitI | (intro x hx; (repeat (first | (and_intros <;> (first | exact rfl | exact trivial | exact fitI | exact .inr rfl | exact .inl rfl | exact fun x hx => absurd hx (by omega))) | (exfalso; omega) | (rcases x with _ | x))); done)))) | grind))
      refine condM rfl trivial (fun hc => ?_) (fun hc => ?_)
      · replace H := cond_t hc H
        refine sq ctNo_ok ?_
        simp only [go_sem, Nat.reduceLeDiff, Nat.reduceLT, Nat.reduceAdd, Nat.reduceMul, Nat.reduceSub, Nat.reduceEqDiff, Nat.reduceBEq, Int.reduceToNat, reduceCtorEq]
        refine rg ctNo_ok ?_
        simp only [go_sem, Nat.reduceLeDiff, Nat.reduceLT, Nat.reduceAdd, Nat.reduceMul, Nat.reduceSub, Nat.reduceEqDiff, Nat.reduceBEq, Int.reduceToNat, reduceCtorEq]
        have H := hn2_1 _ (Option.some.inj H).symm
        obtain rfl := Option.some.inj H
        first | rfl | simp only [Bool.and_false, Bool.false_and, Bool.and_true, Bool.true_and]
      replace H := cond_f hc H
      refine rg ctNo_ok ?_
      simp only [go_sem, Nat.reduceLeDiff, Nat.reduceLT, Nat.reduceAdd, Nat.reduceMul, Nat.reduceSub, Nat.reduceEqDiff, Nat.reduceBEq, Int.reduceToNat, reduceCtorEq]
      refine rg ctNo_ok ?_
      simp only [go_sem, Nat.reduceLeDiff, Nat.reduceLT, Nat.reduceAdd, Nat.reduceMul, Nat.reduceSub, Nat.reduceEqDiff, Nat.reduceBEq, Int.reduceToNat, reduceCtorEq]
      refine ⟨_, (Option.some.inj H).symm, ?_⟩
      refine SubF_of ⟨[some 0, some 6], ?_, ?_, by rfl, by rfl⟩
      · simp [CvL, Cv, getM, tp]
      · exact ⟨(by simp [CvB, CvL, Cv, blkAt, geth, getM]), CvB_row nr_TForwardMark (by first | rfl | (simp; done) | (simp; omega)) (app_row (f := c_TForwardMark) v1_11 [(TForwardMark.mk (A6u8.mk (((gd p1 v1_1.toNat).Enter).x0) (((gd p1 v1_1.toNat).Enter).x1) (((gd p1 v1_1.toNat).Enter).x2) (((gd p1 v1_1.toNat).Enter).x3) (((gd p1 v1_1.toNat).Enter).x4) (((gd p1 v1_1.toNat).Enter).x5)) ((gd p1 v1_1.toNat).Seq))] (fun _ _ _ _ => rfl) (lit_row (f := c_TForwardMark) [(TForwardMark.mk (A6u8.mk (((gd p1 v1_1.toNat).Enter).x0) (((gd p1 v1_1.toNat).Enter).x1) (((gd p1 v1_1.toNat).Enter).x2) (((gd p1 v1_1.toNat).Enter).x3) (((gd p1 v1_1.toNat).Enter).x4) (((gd p1 v1_1.toNat).Enter).x5)) ((gd p1 v1_1.toNat).Seq))] (fun _ _ => rfl) rfl)), trivial⟩
    · try dsimp only at H ⊢
      try simp only [tp]
      try simp only [m_normal, k_normal, b_normal, kL_normal, r_normal]
      refine sq ctNo_ok ?_
      simp only [go_sem, Nat.reduceLeDiff, Nat.reduceLT, Nat.reduceAdd, Nat.reduceMul, Nat.reduceSub, Nat.reduceEqDiff, Nat.reduceBEq, Int.reduceToNat, reduceCtorEq]
      refine rg ctNo_ok ?_
      simp only [go_sem, Nat.reduceLeDiff, Nat.reduceLT, Nat.reduceAdd, Nat.reduceMul, Nat.reduceSub, Nat.reduceEqDiff, Nat.reduceBEq, Int.reduceToNat, reduceCtorEq]
      obtain rfl := Option.some.inj H
      first | rfl | simp only [Bool.and_false, Bool.false_and, Bool.and_true, Bool.true_and]
  · cases hb
end Go.Proofs.Ytbahnppiobafoaa
