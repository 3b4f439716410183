/-
  What ForwardNames reaches.
-/
import Derived.Test.YtbahnppiobafoaaY9p2
namespace Go.Proofs.Ytbahnppiobafoaa
open Go.Am
set_option linter.unusedVariables false
set_option linter.unusedSimpArgs false
attribute [local go_sem] w_skip w_label w_goto w_scope k_goto b_goto l_goto s_normal s_exit s_ret s_goto w_region w_draw w_seq w_cond w_block w_exit w_ret w_loop k_normal k_exit k_ret b_normal b_exit b_ret l_normal l_exit l_ret m_normal m_exit m_ret m_goto kL_normal kL_exit kL_ret kS_normal kS_exit kS_ret kS_goto r_normal r_ret o_nil o_cons q_nil q_cons nxt gval gvd gvl gvw dstOf evO ogOp ogC og ogL ogP ogO rho rhoO strip optOk getL setL setT absC absV absL pO hO evLoad ldB geth seth evStore stRes stB evBox evAlloc evFieldAddr evField evIndexAddr evBin2 binI binB binNR binU nilR_isEmpty nilR_t nilR_0 nilR_s evInt evStr evUn evConv cvO evPick mrg evExtract evNil evCall mapR evBuiltin evLen2 vcells vcOk atom tabF cnd retK resFin resL resA resC resCons evBuild evBuildP placeS placeA fillA fillOk putL getP nxtQ pureC_eq pureR genC_eq genR roV roL roOb roObL roW roWL roWOb roWObL nref nrefL binA binN eqSh eqRes evIndex evIndex2 evIndexS evSlice evSlice2 evSliceS evBound evConv2 cvS evAppend appRes srcOf evMake evBuildSlice repL evFn evMin evMax freshC freshR sub_enR0 evClear evClearR evCopy evCopyR lenS cutS Bool.or_false Bool.false_or Bool.or_true Bool.true_or Bool.and_false Bool.false_and Option.map_some Option.map_none Option.getD_some Option.getD_none Option.bind_some Option.bind_none Option.or_some Option.or_none Option.none_or Option.isSome_none Option.isNone_none Option.isNone_some List.nil_append List.cons_append List.append_nil cond_true cond_false List.length_cons List.length_nil beq_self_eq_true Bool.and_true Bool.true_and Bool.not_true Bool.not_false true_and and_true and_self true_implies implies_true ne_eq not_false_eq_true Bool.false_eq_true Bool.true_eq_false false_implies Nat.lt_irrefl Nat.le_refl Nat.succ_ne_self imp_self Bool.cond_false_right Bool.cond_true_left decide_true decide_false Bool.not_eq_true' Bool.not_eq_false' Bool.not_not Nat.zero_mul Nat.zero_add Nat.add_zero Nat.mul_one Nat.one_mul Bool.cond_self tsz3 tby3 tagg3 tslice3 tarr3 tzero3 tzn3 tplaces3 tint3 tstr3 tnoint3 tbool3 tany3 tintk3 tbytes3 tsz4 tby4 tagg4 tslice4 tarr4 tzero4 tzn4 tplaces4 tint4 tstr4 tnoint4 tbool4 tany4 tintk4 tbytes4 tsz5 tby5 tagg5 tslice5 tarr5 tzero5 tzn5 tplaces5 tint5 tstr5 tnoint5 tbool5 tany5 tintk5 tbytes5 tsz9 tby9 tagg9 tslice9 tarr9 tzero9 tzn9 tplaces9 tint9 tstr9 tnoint9 tbool9 tany9 tintk9 tbytes9 tsz23 tby23 tagg23 tslice23 tarr23 tzero23 tzn23 tplaces23 tint23 tstr23 tnoint23 tbool23 tany23 tintk23 tbytes23 tsz24 tby24 tagg24 tslice24 tarr24 tzero24 tzn24 tplaces24 tint24 tstr24 tnoint24 tbool24 tany24 tintk24 tbytes24 tsz26 tby26 tagg26 tslice26 tarr26 tzero26 tzn26 tplaces26 tint26 tstr26 tnoint26 tbool26 tany26 tintk26 tbytes26 tfld26_0 tfld26_1 tfld26_2 tfld26_3 tfld26_4 tfld26_5 tfld26_6 tfld26_7 tfld26_8 tsz28 tby28 tagg28 tslice28 tarr28 tzero28 tzn28 tplaces28 tint28 tstr28 tnoint28 tbool28 tany28 tintk28 tbytes28 tsz29 tby29 tagg29 tslice29 tarr29 tzero29 tzn29 tplaces29 tint29 tstr29 tnoint29 tbool29 tany29 tintk29 tbytes29 tsz31 tby31 tagg31 tslice31 tarr31 tzero31 tzn31 tplaces31 tint31 tstr31 tnoint31 tbool31 tany31 tintk31 tbytes31 tfld31_0 tfld31_1 tfld31_2 tfld31_3 tsz33 tby33 tagg33 tslice33 tarr33 tzero33 tzn33 tplaces33 tint33 tstr33 tnoint33 tbool33 tany33 tintk33 tbytes33 tsz55 tby55 tagg55 tslice55 tarr55 tzero55 tzn55 tplaces55 tint55 tstr55 tnoint55 tbool55 tany55 tintk55 tbytes55 tsz59 tby59 tagg59 tslice59 tarr59 tzero59 tzn59 tplaces59 tint59 tstr59 tnoint59 tbool59 tany59 tintk59 tbytes59 tfld59_0 tfld59_1 tsz62 tby62 tagg62 tslice62 tarr62 tzn62 tplaces62 tint62 tstr62 tnoint62 tbool62 tany62 tintk62 tbytes62 tsz64 tby64 tagg64 tslice64 tarr64 tzero64 tzn64 tplaces64 tint64 tstr64 tnoint64 tbool64 tany64 tintk64 tbytes64 tsz70 tby70 tagg70 tslice70 tarr70 tzero70 tzn70 tplaces70 tint70 tstr70 tnoint70 tbool70 tany70 tintk70 tbytes70 tsz73 tby73 tagg73 tslice73 tarr73 tzero73 tzn73 tplaces73 tint73 tstr73 tnoint73 tbool73 tany73 tintk73 tbytes73 tsz75 tby75 tagg75 tslice75 tarr75 tzero75 tzn75 tplaces75 tint75 tstr75 tnoint75 tbool75 tany75 tintk75 tbytes75 tsz76 tby76 tagg76 tslice76 tarr76 tzero76 tzn76 tplaces76 tint76 tstr76 tnoint76 tbool76 tany76 tintk76 tbytes76 tsz78 tby78 tagg78 tslice78 tarr78 tzero78 tzn78 tplaces78 tint78 tstr78 tnoint78 tbool78 tany78 tintk78 tbytes78 tsz80 tby80 tagg80 tslice80 tarr80 tzero80 tzn80 tplaces80 tint80 tstr80 tnoint80 tbool80 tany80 tintk80 tbytes80 tfld80_0 tfld80_1 tsz84 tby84 tagg84 tslice84 tarr84 tzero84 tzn84 tplaces84 tint84 tstr84 tnoint84 tbool84 tany84 tintk84 tbytes84 tsz85 tby85 tagg85 tslice85 tarr85 tzero85 tzn85 tplaces85 tint85 tstr85 tnoint85 tbool85 tany85 tintk85 tbytes85 tsz86 tby86 tagg86 tslice86 tarr86 tzero86 tzn86 tplaces86 tint86 tstr86 tnoint86 tbool86 tany86 tintk86 tbytes86 tsz90 tby90 tagg90 tslice90 tarr90 tzero90 tzn90 tplaces90 tint90 tstr90 tnoint90 tbool90 tany90 tintk90 tbytes90 tfld90_0 tfld90_1 tsz105 tby105 tagg105 tslice105 tarr105 tzero105 tzn105 tplaces105 tint105 tstr105 tnoint105 tbool105 tany105 tintk105 tbytes105 tsz110 tby110 tagg110 tslice110 tarr110 tzero110 tzn110 tplaces110 tint110 tstr110 tnoint110 tbool110 tany110 tintk110 tbytes110 tsz114 tby114 tagg114 tslice114 tarr114 tzero114 tzn114 tplaces114 tint114 tstr114 tnoint114 tbool114 tany114 tintk114 tbytes114 e_u8_0 fit_u8 de_u8 g_u8 k_u8 e_i64_0 fit_i64 de_i64 g_i64 k_i64 e_b_0 fit_b de_b g_b k_b e_s_0 fit_s de_s g_s k_s e_A6u8_0 e_A6u8_1 e_A6u8_2 e_A6u8_3 e_A6u8_4 e_A6u8_5 fit_A6u8 de_A6u8 g_A6u8 k_A6u8 eta_A6u8 e_lu8_0 fit_lu8 de_lu8 g_lu8 k_lu8 e_TMeshFrame_0 e_TMeshFrame_1 e_TMeshFrame_2 e_TMeshFrame_3 e_TMeshFrame_4 e_TMeshFrame_5 e_TMeshFrame_6 e_TMeshFrame_7 e_TMeshFrame_8 e_TMeshFrame_9 e_TMeshFrame_10 e_TMeshFrame_11 e_TMeshFrame_12 e_TMeshFrame_13 e_TMeshFrame_14 e_TMeshFrame_15 e_TMeshFrame_16 e_TMeshFrame_17 e_TMeshFrame_18 e_TMeshFrame_19 e_TMeshFrame_20 e_TMeshFrame_21 e_TMeshFrame_22 e_TMeshFrame_23 e_TMeshFrame_24 e_TMeshFrame_25 e_TMeshFrame_26 e_TMeshFrame_27 e_TMeshFrame_28 e_TMeshFrame_29 e_TMeshFrame_30 e_TMeshFrame_31 e_TMeshFrame_32 e_TMeshFrame_33 e_TMeshFrame_34 e_TMeshFrame_35 e_TMeshFrame_36 e_TMeshFrame_37 e_TMeshFrame_38 fit_TMeshFrame de_TMeshFrame g_TMeshFrame k_TMeshFrame eta_TMeshFrame e_TForwardMark_0 e_TForwardMark_1 e_TForwardMark_2 e_TForwardMark_3 e_TForwardMark_4 e_TForwardMark_5 e_TForwardMark_6 fit_TForwardMark de_TForwardMark g_TForwardMark k_TForwardMark eta_TForwardMark e_lTForwardMark_0 fit_lTForwardMark de_lTForwardMark g_lTForwardMark k_lTForwardMark e_TForwardHop_0 e_TForwardHop_1 e_TForwardHop_2 e_TForwardHop_3 e_TForwardHop_4 e_TForwardHop_5 e_TForwardHop_6 e_TForwardHop_7 e_TForwardHop_8 e_TForwardHop_9 e_TForwardHop_10 e_TForwardHop_11 fit_TForwardHop de_TForwardHop g_TForwardHop k_TForwardHop eta_TForwardHop e_lTForwardHop_0 fit_lTForwardHop de_lTForwardHop g_lTForwardHop k_lTForwardHop e_TForward_0 e_TForward_1 e_TForward_2 e_TForward_3 e_TForward_4 e_TForward_5 e_TForward_6 e_TForward_7 e_TForward_8 fit_TForward de_TForward g_TForward k_TForward eta_TForward e_lTMeshFrame_0 fit_lTMeshFrame de_lTMeshFrame g_lTMeshFrame k_lTMeshFrame e_A8i64_0 e_A8i64_1 e_A8i64_2 e_A8i64_3 e_A8i64_4 e_A8i64_5 e_A8i64_6 e_A8i64_7 fit_A8i64 de_A8i64 g_A8i64 k_A8i64 eta_A8i64 e_li64_0 fit_li64 de_li64 g_li64 k_li64 e_A8b_0 e_A8b_1 e_A8b_2 e_A8b_3 e_A8b_4 e_A8b_5 e_A8b_6 e_A8b_7 fit_A8b de_A8b g_A8b k_A8b eta_A8b e_lb_0 fit_lb de_lb g_lb k_lb e_A8A8b_0 e_A8A8b_1 e_A8A8b_2 e_A8A8b_3 e_A8A8b_4 e_A8A8b_5 e_A8A8b_6 e_A8A8b_7 e_A8A8b_8 e_A8A8b_9 e_A8A8b_10 e_A8A8b_11 e_A8A8b_12 e_A8A8b_13 e_A8A8b_14 e_A8A8b_15 e_A8A8b_16 e_A8A8b_17 e_A8A8b_18 e_A8A8b_19 e_A8A8b_20 e_A8A8b_21 e_A8A8b_22 e_A8A8b_23 e_A8A8b_24 e_A8A8b_25 e_A8A8b_26 e_A8A8b_27 e_A8A8b_28 e_A8A8b_29 e_A8A8b_30 e_A8A8b_31 e_A8A8b_32 e_A8A8b_33 e_A8A8b_34 e_A8A8b_35 e_A8A8b_36 e_A8A8b_37 e_A8A8b_38 e_A8A8b_39 e_A8A8b_40 e_A8A8b_41 e_A8A8b_42 e_A8A8b_43 e_A8A8b_44 e_A8A8b_45 e_A8A8b_46 e_A8A8b_47 e_A8A8b_48 e_A8A8b_49 e_A8A8b_50 e_A8A8b_51 e_A8A8b_52 e_A8A8b_53 e_A8A8b_54 e_A8A8b_55 e_A8A8b_56 e_A8A8b_57 e_A8A8b_58 e_A8A8b_59 e_A8A8b_60 e_A8A8b_61 e_A8A8b_62 e_A8A8b_63 fit_A8A8b de_A8A8b g_A8A8b k_A8A8b eta_A8A8b e_Ttravel_0 e_Ttravel_1 e_Ttravel_2 e_Ttravel_3 e_Ttravel_4 e_Ttravel_5 e_Ttravel_6 e_Ttravel_7 e_Ttravel_8 e_Ttravel_9 e_Ttravel_10 e_Ttravel_11 e_Ttravel_12 e_Ttravel_13 e_Ttravel_14 e_Ttravel_15 e_Ttravel_16 e_Ttravel_17 e_Ttravel_18 e_Ttravel_19 e_Ttravel_20 e_Ttravel_21 e_Ttravel_22 e_Ttravel_23 e_Ttravel_24 e_Ttravel_25 e_Ttravel_26 e_Ttravel_27 e_Ttravel_28 e_Ttravel_29 e_Ttravel_30 e_Ttravel_31 e_Ttravel_32 e_Ttravel_33 e_Ttravel_34 e_Ttravel_35 e_Ttravel_36 e_Ttravel_37 e_Ttravel_38 e_Ttravel_39 fit_Ttravel de_Ttravel g_Ttravel k_Ttravel eta_Ttravel e_lTtravel_0 fit_lTtravel de_lTtravel g_lTtravel k_lTtravel e_u64_0 fit_u64 de_u64 g_u64 k_u64 e_lA6u8_0 fit_lA6u8 de_lA6u8 g_lA6u8 k_lA6u8 e_A6A6u8_0 e_A6A6u8_1 e_A6A6u8_2 e_A6A6u8_3 e_A6A6u8_4 e_A6A6u8_5 e_A6A6u8_6 e_A6A6u8_7 e_A6A6u8_8 e_A6A6u8_9 e_A6A6u8_10 e_A6A6u8_11 e_A6A6u8_12 e_A6A6u8_13 e_A6A6u8_14 e_A6A6u8_15 e_A6A6u8_16 e_A6A6u8_17 e_A6A6u8_18 e_A6A6u8_19 e_A6A6u8_20 e_A6A6u8_21 e_A6A6u8_22 e_A6A6u8_23 e_A6A6u8_24 e_A6A6u8_25 e_A6A6u8_26 e_A6A6u8_27 e_A6A6u8_28 e_A6A6u8_29 e_A6A6u8_30 e_A6A6u8_31 e_A6A6u8_32 e_A6A6u8_33 e_A6A6u8_34 e_A6A6u8_35 fit_A6A6u8 de_A6A6u8 g_A6A6u8 k_A6A6u8 eta_A6A6u8 deR_0 deR_1 deR_2 deR_3 deR_4 deR_5 deR_6 deR_7 deR_8 deR_9 deR_10 deR_11 deR_12 litC_x0 litC_x1 litC_x2 litC_x3 litC_x4 litC_x5 litC_x6 litC_x7 litC_x8 litC_x9 litC_x10 litC_x11 strE_u8 Fit_0 Option.isSome_some gt_some gd_one evCopyL tabR sub_enR List.drop_zero xrD xoD roEq minL rK rM rG aL aK iK bK sK lK iA bA sA lA or_true true_or Int.toNat_natCast shT_23 shT_59 shT_64 shT_73 shT_86 shT_90 Int.toNat_zero Int.cast_ofNat_Int aLs roD roDOb deadL edC edR nodupB rnm rnmL rnmB rnmH rnm_bif rnmB_bif putH dropH rhoN ptB slN litL celL pK isLit oS isRow inL fzV fzL fzOb fzObL fzH fzHF fzB fzObB fzObH rowOb
/-! hotspot/forward.Decode -/
noncomputable def ct14t0 : Ct := tab [(37, edC body37)]
theorem ct14t0_ok : CtOk Try.prog ct14t0 := tab_cons ok37 <| tab_nil
theorem ct14t0_37 (l : List AV) (h : List ABlk) : ct14t0 37 l h = edC body37 l h := rfl
noncomputable def ct14t1 : Ct := tab [(23, pureC body23)]
theorem ct14t1_ok : CtOk Try.prog ct14t1 := tab_cons ok23 <| tab_nil
theorem ct14t1_23 (l : List AV) (h : List ABlk) : ct14t1 23 l h = pureC body23 l h := rfl
noncomputable def F14 (p0 : List Int) : Option (TMeshFrame × Int) :=
  need (bif (bLt 0 (p0.length : Nat)) then inb 0 p0.length else true) <| bif ((bLt 0 (p0.length : Nat)) && (bEq (gd p0 0) 1)) then (bif (bLt (p0.length : Nat) 40) then (some ((TMeshFrame.mk (A6u8.mk 0 0 0 0 0 0) (A6u8.mk 0 0 0 0 0 0) (A6u8.mk 0 0 0 0 0 0) (A6u8.mk 0 0 0 0 0 0) (A6u8.mk 0 0 0 0 0 0) (A6u8.mk 0 0 0 0 0 0) 0 0 []), 10)) else (need (slb 4 (p0.length : Nat) p0.length) <| need (decide (6 ≤ p0.length - 4)) <| need (slb 10 (p0.length : Nat) p0.length) <| need (decide (6 ≤ p0.length - 10)) <| need (slb 16 (p0.length : Nat) p0.length) <| need (decide (6 ≤ p0.length - 16)) <| need (slb 22 (p0.length : Nat) p0.length) <| need (decide (6 ≤ p0.length - 22)) <| need (slb 28 (p0.length : Nat) p0.length) <| need (decide (6 ≤ p0.length - 28)) <| need (slb 34 (p0.length : Nat) p0.length) <| need (decide (6 ≤ p0.length - 34)) <| need (inb 2 p0.length) <| need (inb 3 p0.length) <| need (inb 1 p0.length) <| need (slb 40 (p0.length : Nat) p0.length) <| (F37 (deR g_u8 (p0.length - 40) (enR c_u8 (p0.drop 40)))).bind fun r19 => need (inb 0 p0.length) <| need (bif (!((bLt 1 (gd p0 0)) || ((bEq (gd (p0.drop 28) 0) (gd (p0.drop 16) 0) && (bEq (gd (p0.drop 28) 1) (gd (p0.drop 16) 1) && (bEq (gd (p0.drop 28) 2) (gd (p0.drop 16) 2) && (bEq (gd (p0.drop 28) 3) (gd (p0.drop 16) 3) && (bEq (gd (p0.drop 28) 4) (gd (p0.drop 16) 4) && (bEq (gd (p0.drop 28) 5) (gd (p0.drop 16) 5))))))) && (bEq (gd (p0.drop 34) 0) (gd (p0.drop 22) 0) && (bEq (gd (p0.drop 34) 1) (gd (p0.drop 22) 1) && (bEq (gd (p0.drop 34) 2) (gd (p0.drop 22) 2) && (bEq (gd (p0.drop 34) 3) (gd (p0.drop 22) 3) && (bEq (gd (p0.drop 34) 4) (gd (p0.drop 22) 4) && (bEq (gd (p0.drop 34) 5) (gd (p0.drop 22) 5)))))))))) then ((F23 (TMeshFrame.mk (A6u8.mk (gd (p0.drop 4) 0) (gd (p0.drop 4) 1) (gd (p0.drop 4) 2) (gd (p0.drop 4) 3) (gd (p0.drop 4) 4) (gd (p0.drop 4) 5)) (A6u8.mk (gd (p0.drop 10) 0) (gd (p0.drop 10) 1) (gd (p0.drop 10) 2) (gd (p0.drop 10) 3) (gd (p0.drop 10) 4) (gd (p0.drop 10) 5)) (A6u8.mk (gd (p0.drop 16) 0) (gd (p0.drop 16) 1) (gd (p0.drop 16) 2) (gd (p0.drop 16) 3) (gd (p0.drop 16) 4) (gd (p0.drop 16) 5)) (A6u8.mk (gd (p0.drop 22) 0) (gd (p0.drop 22) 1) (gd (p0.drop 22) 2) (gd (p0.drop 22) 3) (gd (p0.drop 22) 4) (gd (p0.drop 22) 5)) (A6u8.mk (gd (p0.drop 28) 0) (gd (p0.drop 28) 1) (gd (p0.drop 28) 2) (gd (p0.drop 28) 3) (gd (p0.drop 28) 4) (gd (p0.drop 28) 5)) (A6u8.mk (gd (p0.drop 34) 0) (gd (p0.drop 34) 1) (gd (p0.drop 34) 2) (gd (p0.drop 34) 3) (gd (p0.drop 34) 4) (gd (p0.drop 34) 5)) (orI .i64 (wr .i64 (gd p0 2)) (shlI .i64 (wr .i64 (gd p0 3)) 8)) (wr .i64 (gd p0 1)) r19)).isSome) else true) <| bif (((bLt 1 (gd p0 0)) || ((bEq (gd (p0.drop 28) 0) (gd (p0.drop 16) 0) && (bEq (gd (p0.drop 28) 1) (gd (p0.drop 16) 1) && (bEq (gd (p0.drop 28) 2) (gd (p0.drop 16) 2) && (bEq (gd (p0.drop 28) 3) (gd (p0.drop 16) 3) && (bEq (gd (p0.drop 28) 4) (gd (p0.drop 16) 4) && (bEq (gd (p0.drop 28) 5) (gd (p0.drop 16) 5))))))) && (bEq (gd (p0.drop 34) 0) (gd (p0.drop 22) 0) && (bEq (gd (p0.drop 34) 1) (gd (p0.drop 22) 1) && (bEq (gd (p0.drop 34) 2) (gd (p0.drop 22) 2) && (bEq (gd (p0.drop 34) 3) (gd (p0.drop 22) 3) && (bEq (gd (p0.drop 34) 4) (gd (p0.drop 22) 4) && (bEq (gd (p0.drop 34) 5) (gd (p0.drop 22) 5))))))))) || (!bEq (gt (F23 (TMeshFrame.mk (A6u8.mk (gd (p0.drop 4) 0) (gd (p0.drop 4) 1) (gd (p0.drop 4) 2) (gd (p0.drop 4) 3) (gd (p0.drop 4) 4) (gd (p0.drop 4) 5)) (A6u8.mk (gd (p0.drop 10) 0) (gd (p0.drop 10) 1) (gd (p0.drop 10) 2) (gd (p0.drop 10) 3) (gd (p0.drop 10) 4) (gd (p0.drop 10) 5)) (A6u8.mk (gd (p0.drop 16) 0) (gd (p0.drop 16) 1) (gd (p0.drop 16) 2) (gd (p0.drop 16) 3) (gd (p0.drop 16) 4) (gd (p0.drop 16) 5)) (A6u8.mk (gd (p0.drop 22) 0) (gd (p0.drop 22) 1) (gd (p0.drop 22) 2) (gd (p0.drop 22) 3) (gd (p0.drop 22) 4) (gd (p0.drop 22) 5)) (A6u8.mk (gd (p0.drop 28) 0) (gd (p0.drop 28) 1) (gd (p0.drop 28) 2) (gd (p0.drop 28) 3) (gd (p0.drop 28) 4) (gd (p0.drop 28) 5)) (A6u8.mk (gd (p0.drop 34) 0) (gd (p0.drop 34) 1) (gd (p0.drop 34) 2) (gd (p0.drop 34) 3) (gd (p0.drop 34) 4) (gd (p0.drop 34) 5)) (orI .i64 (wr .i64 (gd p0 2)) (shlI .i64 (wr .i64 (gd p0 3)) 8)) (wr .i64 (gd p0 1)) r19))) 0)) then (some ((TMeshFrame.mk (A6u8.mk 0 0 0 0 0 0) (A6u8.mk 0 0 0 0 0 0) (A6u8.mk 0 0 0 0 0 0) (A6u8.mk 0 0 0 0 0 0) (A6u8.mk 0 0 0 0 0 0) (A6u8.mk 0 0 0 0 0 0) 0 0 []), 12)) else (some ((TMeshFrame.mk (A6u8.mk (gd (p0.drop 4) 0) (gd (p0.drop 4) 1) (gd (p0.drop 4) 2) (gd (p0.drop 4) 3) (gd (p0.drop 4) 4) (gd (p0.drop 4) 5)) (A6u8.mk (gd (p0.drop 10) 0) (gd (p0.drop 10) 1) (gd (p0.drop 10) 2) (gd (p0.drop 10) 3) (gd (p0.drop 10) 4) (gd (p0.drop 10) 5)) (A6u8.mk (gd (p0.drop 16) 0) (gd (p0.drop 16) 1) (gd (p0.drop 16) 2) (gd (p0.drop 16) 3) (gd (p0.drop 16) 4) (gd (p0.drop 16) 5)) (A6u8.mk (gd (p0.drop 22) 0) (gd (p0.drop 22) 1) (gd (p0.drop 22) 2) (gd (p0.drop 22) 3) (gd (p0.drop 22) 4) (gd (p0.drop 22) 5)) (A6u8.mk (gd (p0.drop 28) 0) (gd (p0.drop 28) 1) (gd (p0.drop 28) 2) (gd (p0.drop 28) 3) (gd (p0.drop 28) 4) (gd (p0.drop 28) 5)) (A6u8.mk (gd (p0.drop 34) 0) (gd (p0.drop 34) 1) (gd (p0.drop 34) 2) (gd (p0.drop 34) 3) (gd (p0.drop 34) 4) (gd (p0.drop 34) 5)) (orI .i64 (wr .i64 (gd p0 2)) (shlI .i64 (wr .i64 (gd p0 3)) 8)) (wr .i64 (gd p0 1)) r19), 0)))) else (bif (bLt (p0.length : Nat) 28) then (some ((TMeshFrame.mk (A6u8.mk 0 0 0 0 0 0) (A6u8.mk 0 0 0 0 0 0) (A6u8.mk 0 0 0 0 0 0) (A6u8.mk 0 0 0 0 0 0) (A6u8.mk 0 0 0 0 0 0) (A6u8.mk 0 0 0 0 0 0) 0 0 []), 10)) else (need (slb 4 (p0.length : Nat) p0.length) <| need (decide (6 ≤ p0.length - 4)) <| need (slb 10 (p0.length : Nat) p0.length) <| need (decide (6 ≤ p0.length - 10)) <| need (slb 16 (p0.length : Nat) p0.length) <| need (decide (6 ≤ p0.length - 16)) <| need (slb 22 (p0.length : Nat) p0.length) <| need (decide (6 ≤ p0.length - 22)) <| need (inb 2 p0.length) <| need (inb 3 p0.length) <| need (inb 1 p0.length) <| need (slb 28 (p0.length : Nat) p0.length) <| (F37 (deR g_u8 (p0.length - 28) (enR c_u8 (p0.drop 28)))).bind fun r36 => need (inb 0 p0.length) <| need (bif (!(bLt 1 (gd p0 0))) then ((F23 (TMeshFrame.mk (A6u8.mk (gd (p0.drop 4) 0) (gd (p0.drop 4) 1) (gd (p0.drop 4) 2) (gd (p0.drop 4) 3) (gd (p0.drop 4) 4) (gd (p0.drop 4) 5)) (A6u8.mk (gd (p0.drop 10) 0) (gd (p0.drop 10) 1) (gd (p0.drop 10) 2) (gd (p0.drop 10) 3) (gd (p0.drop 10) 4) (gd (p0.drop 10) 5)) (A6u8.mk (gd (p0.drop 16) 0) (gd (p0.drop 16) 1) (gd (p0.drop 16) 2) (gd (p0.drop 16) 3) (gd (p0.drop 16) 4) (gd (p0.drop 16) 5)) (A6u8.mk (gd (p0.drop 22) 0) (gd (p0.drop 22) 1) (gd (p0.drop 22) 2) (gd (p0.drop 22) 3) (gd (p0.drop 22) 4) (gd (p0.drop 22) 5)) (A6u8.mk (gd (p0.drop 16) 0) (gd (p0.drop 16) 1) (gd (p0.drop 16) 2) (gd (p0.drop 16) 3) (gd (p0.drop 16) 4) (gd (p0.drop 16) 5)) (A6u8.mk (gd (p0.drop 22) 0) (gd (p0.drop 22) 1) (gd (p0.drop 22) 2) (gd (p0.drop 22) 3) (gd (p0.drop 22) 4) (gd (p0.drop 22) 5)) (orI .i64 (wr .i64 (gd p0 2)) (shlI .i64 (wr .i64 (gd p0 3)) 8)) (wr .i64 (gd p0 1)) r36)).isSome) else true) <| bif ((bLt 1 (gd p0 0)) || (!bEq (gt (F23 (TMeshFrame.mk (A6u8.mk (gd (p0.drop 4) 0) (gd (p0.drop 4) 1) (gd (p0.drop 4) 2) (gd (p0.drop 4) 3) (gd (p0.drop 4) 4) (gd (p0.drop 4) 5)) (A6u8.mk (gd (p0.drop 10) 0) (gd (p0.drop 10) 1) (gd (p0.drop 10) 2) (gd (p0.drop 10) 3) (gd (p0.drop 10) 4) (gd (p0.drop 10) 5)) (A6u8.mk (gd (p0.drop 16) 0) (gd (p0.drop 16) 1) (gd (p0.drop 16) 2) (gd (p0.drop 16) 3) (gd (p0.drop 16) 4) (gd (p0.drop 16) 5)) (A6u8.mk (gd (p0.drop 22) 0) (gd (p0.drop 22) 1) (gd (p0.drop 22) 2) (gd (p0.drop 22) 3) (gd (p0.drop 22) 4) (gd (p0.drop 22) 5)) (A6u8.mk (gd (p0.drop 16) 0) (gd (p0.drop 16) 1) (gd (p0.drop 16) 2) (gd (p0.drop 16) 3) (gd (p0.drop 16) 4) (gd (p0.drop 16) 5)) (A6u8.mk (gd (p0.drop 22) 0) (gd (p0.drop 22) 1) (gd (p0.drop 22) 2) (gd (p0.drop 22) 3) (gd (p0.drop 22) 4) (gd (p0.drop 22) 5)) (orI .i64 (wr .i64 (gd p0 2)) (shlI .i64 (wr .i64 (gd p0 3)) 8)) (wr .i64 (gd p0 1)) r36))) 0)) then (some ((TMeshFrame.mk (A6u8.mk 0 0 0 0 0 0) (A6u8.mk 0 0 0 0 0 0) (A6u8.mk 0 0 0 0 0 0) (A6u8.mk 0 0 0 0 0 0) (A6u8.mk 0 0 0 0 0 0) (A6u8.mk 0 0 0 0 0 0) 0 0 []), 12)) else (some ((TMeshFrame.mk (A6u8.mk (gd (p0.drop 4) 0) (gd (p0.drop 4) 1) (gd (p0.drop 4) 2) (gd (p0.drop 4) 3) (gd (p0.drop 4) 4) (gd (p0.drop 4) 5)) (A6u8.mk (gd (p0.drop 10) 0) (gd (p0.drop 10) 1) (gd (p0.drop 10) 2) (gd (p0.drop 10) 3) (gd (p0.drop 10) 4) (gd (p0.drop 10) 5)) (A6u8.mk (gd (p0.drop 16) 0) (gd (p0.drop 16) 1) (gd (p0.drop 16) 2) (gd (p0.drop 16) 3) (gd (p0.drop 16) 4) (gd (p0.drop 16) 5)) (A6u8.mk (gd (p0.drop 22) 0) (gd (p0.drop 22) 1) (gd (p0.drop 22) 2) (gd (p0.drop 22) 3) (gd (p0.drop 22) 4) (gd (p0.drop 22) 5)) (A6u8.mk (gd (p0.drop 16) 0) (gd (p0.drop 16) 1) (gd (p0.drop 16) 2) (gd (p0.drop 16) 3) (gd (p0.drop 16) 4) (gd (p0.drop 16) 5)) (A6u8.mk (gd (p0.drop 22) 0) (gd (p0.drop 22) 1) (gd (p0.drop 22) 2) (gd (p0.drop 22) 3) (gd (p0.drop 22) 4) (gd (p0.drop 22) 5)) (orI .i64 (wr .i64 (gd p0 2)) (shlI .i64 (wr .i64 (gd p0 3)) 8)) (wr .i64 (gd p0 1)) r36), 0))))
noncomputable def body14 : List AV → List ABlk → ED
  | [v0], h => .ed [] (lK k_u8 1 (roD (deadL h []) v0) ∧ roDOb (deadL h []) v0 ∧ (F14 (lA g_u8 (roD (deadL h []) v0))).isSome = true) (.tup [.agg (.int .u8 ((((gt (F14 (lA g_u8 (roD (deadL h []) v0)))).1).From).x0) :: .int .u8 ((((gt (F14 (lA g_u8 (roD (deadL h []) v0)))).1).From).x1) :: .int .u8 ((((gt (F14 (lA g_u8 (roD (deadL h []) v0)))).1).From).x2) :: .int .u8 ((((gt (F14 (lA g_u8 (roD (deadL h []) v0)))).1).From).x3) :: .int .u8 ((((gt (F14 (lA g_u8 (roD (deadL h []) v0)))).1).From).x4) :: .int .u8 ((((gt (F14 (lA g_u8 (roD (deadL h []) v0)))).1).From).x5) :: .int .u8 ((((gt (F14 (lA g_u8 (roD (deadL h []) v0)))).1).To).x0) :: .int .u8 ((((gt (F14 (lA g_u8 (roD (deadL h []) v0)))).1).To).x1) :: .int .u8 ((((gt (F14 (lA g_u8 (roD (deadL h []) v0)))).1).To).x2) :: .int .u8 ((((gt (F14 (lA g_u8 (roD (deadL h []) v0)))).1).To).x3) :: .int .u8 ((((gt (F14 (lA g_u8 (roD (deadL h []) v0)))).1).To).x4) :: .int .u8 ((((gt (F14 (lA g_u8 (roD (deadL h []) v0)))).1).To).x5) :: .int .u8 ((((gt (F14 (lA g_u8 (roD (deadL h []) v0)))).1).Enter).x0) :: .int .u8 ((((gt (F14 (lA g_u8 (roD (deadL h []) v0)))).1).Enter).x1) :: .int .u8 ((((gt (F14 (lA g_u8 (roD (deadL h []) v0)))).1).Enter).x2) :: .int .u8 ((((gt (F14 (lA g_u8 (roD (deadL h []) v0)))).1).Enter).x3) :: .int .u8 ((((gt (F14 (lA g_u8 (roD (deadL h []) v0)))).1).Enter).x4) :: .int .u8 ((((gt (F14 (lA g_u8 (roD (deadL h []) v0)))).1).Enter).x5) :: .int .u8 ((((gt (F14 (lA g_u8 (roD (deadL h []) v0)))).1).Leave).x0) :: .int .u8 ((((gt (F14 (lA g_u8 (roD (deadL h []) v0)))).1).Leave).x1) :: .int .u8 ((((gt (F14 (lA g_u8 (roD (deadL h []) v0)))).1).Leave).x2) :: .int .u8 ((((gt (F14 (lA g_u8 (roD (deadL h []) v0)))).1).Leave).x3) :: .int .u8 ((((gt (F14 (lA g_u8 (roD (deadL h []) v0)))).1).Leave).x4) :: .int .u8 ((((gt (F14 (lA g_u8 (roD (deadL h []) v0)))).1).Leave).x5) :: .int .u8 ((((gt (F14 (lA g_u8 (roD (deadL h []) v0)))).1).Source).x0) :: .int .u8 ((((gt (F14 (lA g_u8 (roD (deadL h []) v0)))).1).Source).x1) :: .int .u8 ((((gt (F14 (lA g_u8 (roD (deadL h []) v0)))).1).Source).x2) :: .int .u8 ((((gt (F14 (lA g_u8 (roD (deadL h []) v0)))).1).Source).x3) :: .int .u8 ((((gt (F14 (lA g_u8 (roD (deadL h []) v0)))).1).Source).x4) :: .int .u8 ((((gt (F14 (lA g_u8 (roD (deadL h []) v0)))).1).Source).x5) :: .int .u8 ((((gt (F14 (lA g_u8 (roD (deadL h []) v0)))).1).Target).x0) :: .int .u8 ((((gt (F14 (lA g_u8 (roD (deadL h []) v0)))).1).Target).x1) :: .int .u8 ((((gt (F14 (lA g_u8 (roD (deadL h []) v0)))).1).Target).x2) :: .int .u8 ((((gt (F14 (lA g_u8 (roD (deadL h []) v0)))).1).Target).x3) :: .int .u8 ((((gt (F14 (lA g_u8 (roD (deadL h []) v0)))).1).Target).x4) :: .int .u8 ((((gt (F14 (lA g_u8 (roD (deadL h []) v0)))).1).Target).x5) :: .int .i64 (((gt (F14 (lA g_u8 (roD (deadL h []) v0)))).1).Seq) :: .int .i64 (((gt (F14 (lA g_u8 (roD (deadL h []) v0)))).1).Ttl) :: .sl 0 1 0 ((((gt (F14 (lA g_u8 (roD (deadL h []) v0)))).1).Data).length) false :: []), .int .i64 ((gt (F14 (lA g_u8 (roD (deadL h []) v0)))).2)]) [.row 5 1 ((((gt (F14 (lA g_u8 (roD (deadL h []) v0)))).1).Data).length) (enR c_u8 (((gt (F14 (lA g_u8 (roD (deadL h []) v0)))).1).Data))]
  | _, _ => .fail
set_option maxHeartbeats 4000000 in
set_option maxRecDepth 20000 in
theorem ok14 : FnOk Try.prog 14 (edC body14) := by
  refine edit_fnV body14 (rs := [.cell 2 26, .tmp 3]) Try.func14 (by kernel_rfl) rfl rfl ?_
  intro l h bs ob q0 g0 hb hob
  unfold body14 at hb
  split at hb
  · rename_i v0
    injection hb with q1 q2 q3 q4; subst q1 q2 q3 q4
    obtain ⟨hk0_0, hk0_1, hob⟩ := hob
    obtain ⟨r, H⟩ := Option.isSome_iff_exists.1 hob
    rw [H, gt_some]
    have hw0 := lK_wk (fun r h => w_u8 h) hk0_0
    obtain ⟨p0, hp_p0⟩ : ∃ p0, p0 = lA g_u8 (roD (deadL h []) v0) := ⟨_, rfl⟩
    rw [← hp_p0] at H hw0
    refine ⟨[.ro 1 p0.length false (enR c_u8 p0)], [], rfl, ⟨(EW_view hk0_1 hw0), trivial⟩, trivial, trivial, ⟨(nfB_en nr_u8), trivial⟩, ⟨noroB_en, trivial⟩, (by first | (simp only [noro, noroL, and_self]; done) | (simp only [noro, noroL]; and_intros <;> first | trivial | exact noro_bif (by simp only [noro]) (by simp only [noro]) | (simp only [noro, noroL, and_self]))), ?_⟩
    rw [Try.ntmps14]
    simp only [List.length_cons, List.length_nil, Nat.reduceAdd, Nat.reduceSub, List.replicate_succ, List.replicate_zero, List.cons_append, List.nil_append]
    unfold F14 at H
    try dsimp only at H
    refine sq ctNo_ok ?_
    simp only [go_sem, Nat.reduceLeDiff, Nat.reduceLT, Nat.reduceAdd, Nat.reduceMul, Nat.reduceSub, Nat.reduceEqDiff, Nat.reduceBEq, Int.reduceToNat, reduceCtorEq]
    refine sq ctNo_ok ?_
    simp only [go_sem, Nat.reduceLeDiff, Nat.reduceLT, Nat.reduceAdd, Nat.reduceMul, Nat.reduceSub, Nat.reduceEqDiff, Nat.reduceBEq, Int.reduceToNat, reduceCtorEq]
    refine seqM ?_
    refine seqM ?_
    obtain ⟨f1, H⟩ := need_some.1 H
    replace f1 := g_iff.1 f1
    replace f1 := fun g => inb_iff.1 (f1 g)
    refine rg ctNo_ok ?_
    simp only [go_sem, Nat.reduceLeDiff, Nat.reduceLT, Nat.reduceAdd, Nat.reduceMul, Nat.reduceSub, Nat.reduceEqDiff, Nat.reduceBEq, Int.reduceToNat, reduceCtorEq]
    repeat ((with_reducible refine And.intro ?_ ?_); focus (first | (with_reducible trivial) | omega | exact f1 | (intro g; have q := f1 (by first | exact g | (rw [g]; rfl) | simpa using g); first | exact q | exact ⟨q.1, q.2.1⟩ | exact q.2.2 | omega | exact ⟨g, q⟩ | exact ⟨trivial, q⟩ | exact ⟨g, q.1, q.2.1⟩ | exact ⟨g, q.2.2⟩) | (intro g; (try have q0 := f1 (by first | exact g | (rw [g]; rfl) | simpa using g)); and_intros <;> first | (with_reducible trivial) | assumption | exact nfc | (intro g2; rw [g, g2]; rfl) | (intro g2; assumption) | (simp only [g, Bool.true_and, Bool.and_true, Bool.not_false, Bool.not_true]; assumption) | grind) | (and_intros <;> first | (with_reducible trivial) | omega | assumption | exact nfc | first | exact rfl | exact trivial | exact fitI | exact .inr rfl | exact .inl rfl | exact fun x hx => absurd hx (by omega)) | grind))
    refine condM' rfl trivial (fun hc => ?_) (fun hc => ?_)
    · replace H := cond_f hc H
      refine rg ctNo_ok ?_
      simp only [go_sem, Nat.reduceLeDiff, Nat.reduceLT, Nat.reduceAdd, Nat.reduceMul, Nat.reduceSub, Nat.reduceEqDiff, Nat.reduceBEq, Int.reduceToNat, reduceCtorEq]
      refine seqM ?_
      refine sq ctNo_ok ?_
      simp only [go_sem, Nat.reduceLeDiff, Nat.reduceLT, Nat.reduceAdd, Nat.reduceMul, Nat.reduceSub, Nat.reduceEqDiff, Nat.reduceBEq, Int.reduceToNat, reduceCtorEq]
      repeat ((with_reducible refine And.intro ?_ ?_); focus (first | (and_intros <;> first | (with_reducible trivial) | omega | assumption | exact nfc | first | exact rfl | exact trivial | exact fitI | exact .inr rfl | exact .inl rfl | exact fun x hx => absurd hx (by omega)) | grind))
      refine condM rfl trivial (fun hc => ?_) (fun hc => ?_)
      · replace H := cond_t hc H
        refine sq ctNo_ok ?_
        simp only [go_sem, Nat.reduceLeDiff, Nat.reduceLT, Nat.reduceAdd, Nat.reduceMul, Nat.reduceSub, Nat.reduceEqDiff, Nat.reduceBEq, Int.reduceToNat, reduceCtorEq]
        repeat ((with_reducible refine And.intro ?_ ?_); focus (first | (with_reducible trivial) | omega | grind))
        refine rg ctNo_ok ?_
        simp only [go_sem, Nat.reduceLeDiff, Nat.reduceLT, Nat.reduceAdd, Nat.reduceMul, Nat.reduceSub, Nat.reduceEqDiff, Nat.reduceBEq, Int.reduceToNat, reduceCtorEq]
        obtain rfl := Option.some.inj H
        refine RetE_mk [] [none] ?_ ?_ ?_ ?_ (by rfl) (by rfl)
        · simp only [go_sem, Nat.reduceEqDiff, Nat.reduceBEq, Nat.reduceAdd]
          try (and_intros <;> first | (with_reducible trivial) | omega | exact nfc | trivial)
        · simp only [go_sem, Nat.reduceEqDiff, Nat.reduceBEq, Nat.reduceAdd]
          try (and_intros <;> first | (with_reducible trivial) | omega | exact nfc | trivial)
        · simp only [go_sem, Nat.reduceEqDiff, Nat.reduceBEq, Nat.reduceAdd]
          exact Cv_tup (CvL_cons (by first | (simp [Cv, CvL, getM, gt_some]; done) | (simp [Cv, CvL, getM, gt_some]; omega)) (CvL_cons (by simp [Cv, CvL, getM, gt_some]) CvL_nil))
        · simp only [go_sem, Nat.reduceEqDiff, Nat.reduceBEq, Nat.reduceAdd, CvH, gt_some, Option.isSome_some, Option.isSome_none]
          exact CvB_none
      replace H := cond_f hc H
      refine rg ctNo_ok ?_
      simp only [go_sem, Nat.reduceLeDiff, Nat.reduceLT, Nat.reduceAdd, Nat.reduceMul, Nat.reduceSub, Nat.reduceEqDiff, Nat.reduceBEq, Int.reduceToNat, reduceCtorEq]
      refine sq ctNo_ok ?_
      simp only [go_sem, Nat.reduceLeDiff, Nat.reduceLT, Nat.reduceAdd, Nat.reduceMul, Nat.reduceSub, Nat.reduceEqDiff, Nat.reduceBEq, Int.reduceToNat, reduceCtorEq]
      refine seqM ?_
      refine sq ctNo_ok ?_
      simp only [go_sem, Nat.reduceLeDiff, Nat.reduceLT, Nat.reduceAdd, Nat.reduceMul, Nat.reduceSub, Nat.reduceEqDiff, Nat.reduceBEq, Int.reduceToNat, reduceCtorEq, (by decide : wr IntKind.i64 ((28 : Int) - 4) = 24), (by decide : wr IntKind.i64 (Int.tdiv 24 6) = 4)]
      repeat ((with_reducible refine And.intro ?_ ?_); focus (first | (with_reducible trivial) | omega | grind))
      refine blkM ?_
      refine loop_roundsM 5 ?_
      refine rndM ?_
      refine sq ctNo_ok ?_
      simp only [go_sem, Nat.reduceLeDiff, Nat.reduceLT, Nat.reduceAdd, Nat.reduceMul, Nat.reduceSub, Nat.reduceEqDiff, Nat.reduceBEq, Int.reduceToNat, reduceCtorEq, (by decide : bLt (0) (4) = true)]
      refine seqM ?_
      refine condM rfl trivial (fun hc => ?_) (fun hc => ?_)
      rotate_left
      · cases hc
      refine rg ctNo_ok ?_
      simp only [go_sem, Nat.reduceLeDiff, Nat.reduceLT, Nat.reduceAdd, Nat.reduceMul, Nat.reduceSub, Nat.reduceEqDiff, Nat.reduceBEq, Int.reduceToNat, reduceCtorEq]
      refine seqM ?_
      refine blkM ?_
      refine sq ctNo_ok ?_
      simp only [go_sem, Nat.reduceLeDiff, Nat.reduceLT, Nat.reduceAdd, Nat.reduceMul, Nat.reduceSub, Nat.reduceEqDiff, Nat.reduceBEq, Int.reduceToNat, reduceCtorEq]
      obtain ⟨f24, H⟩ := need_some.1 H
      replace f24 := slb_iff.1 f24
      obtain ⟨f25, H⟩ := need_some.1 H
      replace f25 := decide_eq_true_iff.1 f25
      refine draw_rule shT_ok ctNo_ok 0 (by kernel_rfl) (by kernel_rfl) ?_
      intro an han
      simp only [d_nil, d_cons, nxtD, xrD, xoD, roEq, minL, List.append_nil, refsOp, refs, refsL, mask, maskF, place, placeF, okLog, pairOk, hit, inL, slotsF, ren, renL, rnN, nrH, nrB, nrL, nr, dead0, deadS, List.replicate_zero, List.replicate_succ, Nat.sub_self, Nat.add_zero, Nat.zero_add, Nat.reduceSub, Nat.not_lt_zero, Nat.zero_le, Nat.lt_add_one, go_sem, Nat.reduceLeDiff, Nat.reduceLT, Nat.reduceAdd, Nat.reduceMul, Nat.reduceSub, Nat.reduceEqDiff, Nat.reduceBEq, Int.reduceToNat, reduceCtorEq, (by decide : wr IntKind.i64 ((6 : Int) * 0) = 0), (by decide : wr IntKind.i64 ((4 : Int) + 0) = 4), f24, f25]
      repeat ((with_reducible refine And.intro ?_ ?_); focus (and_intros <;> first | (with_reducible trivial) | (show anB _ _ _ = true; subst han; kernel_rfl) | (show (anB _ _ _ && _) = true; subst han; kernel_rfl) | omega | assumption | exact nrc | exact nfc | first | exact rfl | exact trivial | exact fitI | exact .inr rfl | exact .inl rfl | exact fun x hx => absurd hx (by omega) | (intro x hx; (repeat (first | (and_intros <;> (first | exact rfl | exact trivial | exact fitI | exact .inr rfl | exact .inl rfl | exact fun x hx => absurd hx (by omega))) | (exfalso; omega) | (rcases x with _ | x))); done)))
      refine rg ctNo_ok ?_
      simp only [go_sem, Nat.reduceLeDiff, Nat.reduceLT, Nat.reduceAdd, Nat.reduceMul, Nat.reduceSub, Nat.reduceEqDiff, Nat.reduceBEq, Int.reduceToNat, reduceCtorEq, (by decide : wr IntKind.i64 ((0 : Int) + 1) = 1)]
      refine rndM ?_
      refine sq ctNo_ok ?_
      simp only [go_sem, Nat.reduceLeDiff, Nat.reduceLT, Nat.reduceAdd, Nat.reduceMul, Nat.reduceSub, Nat.reduceEqDiff, Nat.reduceBEq, Int.reduceToNat, reduceCtorEq, (by decide : bLt (1) (4) = true)]
      refine seqM ?_
      refine condM rfl trivial (fun hc => ?_) (fun hc => ?_)
      rotate_left
      · cases hc
      refine rg ctNo_ok ?_
      simp only [go_sem, Nat.reduceLeDiff, Nat.reduceLT, Nat.reduceAdd, Nat.reduceMul, Nat.reduceSub, Nat.reduceEqDiff, Nat.reduceBEq, Int.reduceToNat, reduceCtorEq]
      refine seqM ?_
      refine blkM ?_
      refine sq ctNo_ok ?_
      simp only [go_sem, Nat.reduceLeDiff, Nat.reduceLT, Nat.reduceAdd, Nat.reduceMul, Nat.reduceSub, Nat.reduceEqDiff, Nat.reduceBEq, Int.reduceToNat, reduceCtorEq]
      obtain ⟨f26, H⟩ := need_some.1 H
      replace f26 := slb_iff.1 f26
      obtain ⟨f27, H⟩ := need_some.1 H
      replace f27 := decide_eq_true_iff.1 f27
      refine draw_rule shT_ok ctNo_ok 0 (by kernel_rfl) (by kernel_rfl) ?_
      intro an han
      simp only [d_nil, d_cons, nxtD, xrD, xoD, roEq, minL, List.append_nil, refsOp, refs, refsL, mask, maskF, place, placeF, okLog, pairOk, hit, inL, slotsF, ren, renL, rnN, nrH, nrB, nrL, nr, dead0, deadS, List.replicate_zero, List.replicate_succ, Nat.sub_self, Nat.add_zero, Nat.zero_add, Nat.reduceSub, Nat.not_lt_zero, Nat.zero_le, Nat.lt_add_one, go_sem, Nat.reduceLeDiff, Nat.reduceLT, Nat.reduceAdd, Nat.reduceMul, Nat.reduceSub, Nat.reduceEqDiff, Nat.reduceBEq, Int.reduceToNat, reduceCtorEq, (by decide : wr IntKind.i64 ((6 : Int) * 1) = 6), (by decide : wr IntKind.i64 ((4 : Int) + 6) = 10), f26, f27]
      repeat ((with_reducible refine And.intro ?_ ?_); focus (and_intros <;> first | (with_reducible trivial) | (show anB _ _ _ = true; subst han; kernel_rfl) | (show (anB _ _ _ && _) = true; subst han; kernel_rfl) | omega | assumption | exact nrc | exact nfc | first | exact rfl | exact trivial | exact fitI | exact .inr rfl | exact .inl rfl | exact fun x hx => absurd hx (by omega) | (intro x hx; (repeat (first | (and_intros <;> (first | exact rfl | exact trivial | exact fitI | exact .inr rfl | exact .inl rfl | exact fun x hx => absurd hx (by omega))) | (exfalso; omega) | (rcases x with _ | x))); done)))
      refine rg ctNo_ok ?_
      simp only [go_sem, Nat.reduceLeDiff, Nat.reduceLT, Nat.reduceAdd, Nat.reduceMul, Nat.reduceSub, Nat.reduceEqDiff, Nat.reduceBEq, Int.reduceToNat, reduceCtorEq, (by decide : wr IntKind.i64 ((1 : Int) + 1) = 2)]
      refine rndM ?_
      refine sq ctNo_ok ?_
      simp only [go_sem, Nat.reduceLeDiff, Nat.reduceLT, Nat.reduceAdd, Nat.reduceMul, Nat.reduceSub, Nat.reduceEqDiff, Nat.reduceBEq, Int.reduceToNat, reduceCtorEq, (by decide : bLt (2) (4) = true)]
      refine seqM ?_
      refine condM rfl trivial (fun hc => ?_) (fun hc => ?_)
      rotate_left
      · cases hc
      refine rg ctNo_ok ?_
      simp only [go_sem, Nat.reduceLeDiff, Nat.reduceLT, Nat.reduceAdd, Nat.reduceMul, Nat.reduceSub, Nat.reduceEqDiff, Nat.reduceBEq, Int.reduceToNat, reduceCtorEq]
      refine seqM ?_
      refine blkM ?_
      refine sq ctNo_ok ?_
      simp only [go_sem, Nat.reduceLeDiff, Nat.reduceLT, Nat.reduceAdd, Nat.reduceMul, Nat.reduceSub, Nat.reduceEqDiff, Nat.reduceBEq, Int.reduceToNat, reduceCtorEq]
      obtain ⟨f28, H⟩ := need_some.1 H
      replace f28 := slb_iff.1 f28
      obtain ⟨f29, H⟩ := need_some.1 H
      replace f29 := decide_eq_true_iff.1 f29
      refine draw_rule shT_ok ctNo_ok 0 (by kernel_rfl) (by kernel_rfl) ?_
      intro an han
      simp only [d_nil, d_cons, nxtD, xrD, xoD, roEq, minL, List.append_nil, refsOp, refs, refsL, mask, maskF, place, placeF, okLog, pairOk, hit, inL, slotsF, ren, renL, rnN, nrH, nrB, nrL, nr, dead0, deadS, List.replicate_zero, List.replicate_succ, Nat.sub_self, Nat.add_zero, Nat.zero_add, Nat.reduceSub, Nat.not_lt_zero, Nat.zero_le, Nat.lt_add_one, go_sem, Nat.reduceLeDiff, Nat.reduceLT, Nat.reduceAdd, Nat.reduceMul, Nat.reduceSub, Nat.reduceEqDiff, Nat.reduceBEq, Int.reduceToNat, reduceCtorEq, (by decide : wr IntKind.i64 ((6 : Int) * 2) = 12), (by decide : wr IntKind.i64 ((4 : Int) + 12) = 16), f28, f29]
      repeat ((with_reducible refine And.intro ?_ ?_); focus (and_intros <;> first | (with_reducible trivial) | (show anB _ _ _ = true; subst han; kernel_rfl) | (show (anB _ _ _ && _) = true; subst han; kernel_rfl) | omega | assumption | exact nrc | exact nfc | first | exact rfl | exact trivial | exact fitI | exact .inr rfl | exact .inl rfl | exact fun x hx => absurd hx (by omega) | (intro x hx; (repeat (first | (and_intros <;> (first | exact rfl | exact trivial | exact fitI | exact .inr rfl | exact .inl rfl | exact fun x hx => absurd hx (by omega))) | (exfalso; omega) | (rcases x with _ | x))); done)))
      refine rg ctNo_ok ?_
      simp only [go_sem, Nat.reduceLeDiff, Nat.reduceLT, Nat.reduceAdd, Nat.reduceMul, Nat.reduceSub, Nat.reduceEqDiff, Nat.reduceBEq, Int.reduceToNat, reduceCtorEq, (by decide : wr IntKind.i64 ((2 : Int) + 1) = 3)]
      refine rndM ?_
      refine sq ctNo_ok ?_
      simp only [go_sem, Nat.reduceLeDiff, Nat.reduceLT, Nat.reduceAdd, Nat.reduceMul, Nat.reduceSub, Nat.reduceEqDiff, Nat.reduceBEq, Int.reduceToNat, reduceCtorEq, (by decide : bLt (3) (4) = true)]
      refine seqM ?_
      refine condM rfl trivial (fun hc => ?_) (fun hc => ?_)
      rotate_left
      · cases hc
      refine rg ctNo_ok ?_
      simp only [go_sem, Nat.reduceLeDiff, Nat.reduceLT, Nat.reduceAdd, Nat.reduceMul, Nat.reduceSub, Nat.reduceEqDiff, Nat.reduceBEq, Int.reduceToNat, reduceCtorEq]
      refine seqM ?_
      refine blkM ?_
      refine sq ctNo_ok ?_
      simp only [go_sem, Nat.reduceLeDiff, Nat.reduceLT, Nat.reduceAdd, Nat.reduceMul, Nat.reduceSub, Nat.reduceEqDiff, Nat.reduceBEq, Int.reduceToNat, reduceCtorEq]
      obtain ⟨f30, H⟩ := need_some.1 H
      replace f30 := slb_iff.1 f30
      obtain ⟨f31, H⟩ := need_some.1 H
      replace f31 := decide_eq_true_iff.1 f31
      refine draw_rule shT_ok ctNo_ok 0 (by kernel_rfl) (by kernel_rfl) ?_
      intro an han
      simp only [d_nil, d_cons, nxtD, xrD, xoD, roEq, minL, List.append_nil, refsOp, refs, refsL, mask, maskF, place, placeF, okLog, pairOk, hit, inL, slotsF, ren, renL, rnN, nrH, nrB, nrL, nr, dead0, deadS, List.replicate_zero, List.replicate_succ, Nat.sub_self, Nat.add_zero, Nat.zero_add, Nat.reduceSub, Nat.not_lt_zero, Nat.zero_le, Nat.lt_add_one, go_sem, Nat.reduceLeDiff, Nat.reduceLT, Nat.reduceAdd, Nat.reduceMul, Nat.reduceSub, Nat.reduceEqDiff, Nat.reduceBEq, Int.reduceToNat, reduceCtorEq, (by decide : wr IntKind.i64 ((6 : Int) * 3) = 18), (by decide : wr IntKind.i64 ((4 : Int) + 18) = 22), f30, f31]
      repeat ((with_reducible refine And.intro ?_ ?_); focus (and_intros <;> first | (with_reducible trivial) | (show anB _ _ _ = true; subst han; kernel_rfl) | (show (anB _ _ _ && _) = true; subst han; kernel_rfl) | omega | assumption | exact nrc | exact nfc | first | exact rfl | exact trivial | exact fitI | exact .inr rfl | exact .inl rfl | exact fun x hx => absurd hx (by omega) | (intro x hx; (repeat (first | (and_intros <;> (first | exact rfl | exact trivial | exact fitI | exact .inr rfl | exact .inl rfl | exact fun x hx => absurd hx (by omega))) | (exfalso; omega) | (rcases x with _ | x))); done)))
      refine rg ctNo_ok ?_
      simp only [go_sem, Nat.reduceLeDiff, Nat.reduceLT, Nat.reduceAdd, Nat.reduceMul, Nat.reduceSub, Nat.reduceEqDiff, Nat.reduceBEq, Int.reduceToNat, reduceCtorEq, (by decide : wr IntKind.i64 ((3 : Int) + 1) = 4)]
      refine rndM ?_
      refine sq ctNo_ok ?_
      simp only [go_sem, Nat.reduceLeDiff, Nat.reduceLT, Nat.reduceAdd, Nat.reduceMul, Nat.reduceSub, Nat.reduceEqDiff, Nat.reduceBEq, Int.reduceToNat, reduceCtorEq, (by decide : bLt (4) (4) = false)]
      refine seqM ?_
      refine condM rfl trivial (fun hc => ?_) (fun hc => ?_)
      · cases hc
      refine rg ctNo_ok ?_
      simp only [go_sem, Nat.reduceLeDiff, Nat.reduceLT, Nat.reduceAdd, Nat.reduceMul, Nat.reduceSub, Nat.reduceEqDiff, Nat.reduceBEq, Int.reduceToNat, reduceCtorEq]
      refine seqM ?_
      refine sq ctNo_ok ?_
      simp only [go_sem, Nat.reduceLeDiff, Nat.reduceLT, Nat.reduceAdd, Nat.reduceMul, Nat.reduceSub, Nat.reduceEqDiff, Nat.reduceBEq, Int.reduceToNat, reduceCtorEq, (by decide : bEq (28) (28) = true)]
      refine condM rfl trivial (fun hc => ?_) (fun hc => ?_)
      rotate_left
      · cases hc
      refine rg ctNo_ok ?_
      simp only [go_sem, Nat.reduceLeDiff, Nat.reduceLT, Nat.reduceAdd, Nat.reduceMul, Nat.reduceSub, Nat.reduceEqDiff, Nat.reduceBEq, Int.reduceToNat, reduceCtorEq]
      repeat ((with_reducible refine And.intro ?_ ?_); focus (first | (with_reducible trivial) | omega | grind))
      refine seqM ?_
      obtain ⟨f32, H⟩ := need_some.1 H
      replace f32 := inb_iff.1 f32
      obtain ⟨f33, H⟩ := need_some.1 H
      replace f33 := inb_iff.1 f33
      obtain ⟨f34, H⟩ := need_some.1 H
      replace f34 := inb_iff.1 f34
      obtain ⟨f35, H⟩ := need_some.1 H
      replace f35 := slb_iff.1 f35
      obtain ⟨r36, e37, H⟩ := bsi H
      (try simp only [go_sem, Nat.reduceLeDiff, Nat.reduceLT, Nat.reduceAdd, Nat.reduceMul, Nat.reduceSub, Nat.reduceEqDiff, Nat.reduceBEq, Int.reduceToNat, reduceCtorEq] at e37)
      refine draw_rule shT_ok ct14t0_ok 2 (by kernel_rfl) (by kernel_rfl) ?_
      intro an han
      simp only [d_nil, d_cons, nxtD, xrD, xoD, roEq, minL, List.append_nil, refsOp, refs, refsL, mask, maskF, place, placeF, okLog, pairOk, hit, inL, slotsF, ren, renL, rnN, nrH, nrB, nrL, nr, dead0, deadS, List.replicate_zero, List.replicate_succ, Nat.sub_self, Nat.add_zero, Nat.zero_add, Nat.reduceSub, Nat.not_lt_zero, Nat.zero_le, Nat.lt_add_one, go_sem, Nat.reduceLeDiff, Nat.reduceLT, Nat.reduceAdd, Nat.reduceMul, Nat.reduceSub, Nat.reduceEqDiff, Nat.reduceBEq, Int.reduceToNat, reduceCtorEq, ct14t0_37, body37, f32, f33, f34, f35, e37]
      repeat ((with_reducible refine And.intro ?_ ?_); focus (and_intros <;> first | (with_reducible trivial) | (show anB _ _ _ = true; subst han; kernel_rfl) | (show (anB _ _ _ && _) = true; subst han; kernel_rfl) | omega | assumption | exact nrc | exact nfc | first | exact rfl | exact trivial | exact fitI | exact .inr rfl | exact .inl rfl | exact fun x hx => absurd hx (by omega) | (intro x hx; (repeat (first | (and_intros <;> (first | exact rfl | exact trivial | exact fitI | exact .inr rfl | exact .inl rfl | exact fun x hx => absurd hx (by omega))) | (exfalso; omega) | (rcases x with _ | x))); done)))
      refine seqM ?_
      refine seqM ?_
      obtain ⟨f38, H⟩ := need_some.1 H
      replace f38 := inb_iff.1 f38
      obtain ⟨f39, H⟩ := need_some.1 H
      replace f39 := g_iff.1 f39
      refine rg ct14t1_ok ?_
      simp only [go_sem, Nat.reduceLeDiff, Nat.reduceLT, Nat.reduceAdd, Nat.reduceMul, Nat.reduceSub, Nat.reduceEqDiff, Nat.reduceBEq, Int.reduceToNat, reduceCtorEq, ct14t1_23, body23, (by decide : bEq (28) (40) = false), f38]
      repeat ((with_reducible refine And.intro ?_ ?_); focus (first | (with_reducible trivial) | omega | exact f39 | (intro g; have q := f39 (by first | exact g | (rw [g]; rfl) | simpa using g); first | exact q | exact ⟨q.1, q.2.1⟩ | exact q.2.2 | omega | exact ⟨g, q⟩ | exact ⟨trivial, q⟩ | exact ⟨g, q.1, q.2.1⟩ | exact ⟨g, q.2.2⟩) | (intro g; (try have q0 := f39 (by first | exact g | (rw [g]; rfl) | simpa using g)); and_intros <;> first | (with_reducible trivial) | assumption | exact nfc | (intro g2; rw [g, g2]; rfl) | (intro g2; assumption) | (simp only [g, Bool.true_and, Bool.and_true, Bool.not_false, Bool.not_true]; assumption) | grind) | (and_intros <;> first | (with_reducible trivial) | omega | assumption | exact nfc | first | exact rfl | exact trivial | exact fitI | exact .inr rfl | exact .inl rfl | exact fun x hx => absurd hx (by omega) | (intro x hx; (repeat (first | (and_intros <;> (first | exact rfl | exact trivial | exact fitI | exact .inr rfl | exact .inl rfl | exact fun x hx => absurd hx (by omega))) | (exfalso; omega) | (rcases x with _ | x))); done)) | grind))
      refine condM rfl trivial (fun hc => ?_) (fun hc => ?_)
      · replace H := cond_t hc H
        refine sq ctNo_ok ?_
        simp only [go_sem, Nat.reduceLeDiff, Nat.reduceLT, Nat.reduceAdd, Nat.reduceMul, Nat.reduceSub, Nat.reduceEqDiff, Nat.reduceBEq, Int.reduceToNat, reduceCtorEq]
        repeat ((with_reducible refine And.intro ?_ ?_); focus (first | (with_reducible trivial) | omega | grind))
        refine rg ctNo_ok ?_
        simp only [go_sem, Nat.reduceLeDiff, Nat.reduceLT, Nat.reduceAdd, Nat.reduceMul, Nat.reduceSub, Nat.reduceEqDiff, Nat.reduceBEq, Int.reduceToNat, reduceCtorEq]
        obtain rfl := Option.some.inj H
        refine RetE_mk [] [none] ?_ ?_ ?_ ?_ (by rfl) (by rfl)
        · simp only [go_sem, Nat.reduceEqDiff, Nat.reduceBEq, Nat.reduceAdd]
          try (and_intros <;> first | (with_reducible trivial) | omega | exact nfc | trivial)
        · simp only [go_sem, Nat.reduceEqDiff, Nat.reduceBEq, Nat.reduceAdd]
          try (and_intros <;> first | (with_reducible trivial) | omega | exact nfc | trivial)
        · simp only [go_sem, Nat.reduceEqDiff, Nat.reduceBEq, Nat.reduceAdd]
          exact Cv_tup (CvL_cons (by first | (simp [Cv, CvL, getM, gt_some]; done) | (simp [Cv, CvL, getM, gt_some]; omega)) (CvL_cons (by simp [Cv, CvL, getM, gt_some]) CvL_nil))
        · simp only [go_sem, Nat.reduceEqDiff, Nat.reduceBEq, Nat.reduceAdd, CvH, gt_some, Option.isSome_some, Option.isSome_none]
          exact CvB_none
      replace H := cond_f hc H
      refine rg ctNo_ok ?_
      simp only [go_sem, Nat.reduceLeDiff, Nat.reduceLT, Nat.reduceAdd, Nat.reduceMul, Nat.reduceSub, Nat.reduceEqDiff, Nat.reduceBEq, Int.reduceToNat, reduceCtorEq]
      refine sq ctNo_ok ?_
      simp only [go_sem, Nat.reduceLeDiff, Nat.reduceLT, Nat.reduceAdd, Nat.reduceMul, Nat.reduceSub, Nat.reduceEqDiff, Nat.reduceBEq, Int.reduceToNat, reduceCtorEq]
      repeat ((with_reducible refine And.intro ?_ ?_); focus (first | (with_reducible trivial) | omega | grind))
      refine rg ctNo_ok ?_
      simp only [go_sem, Nat.reduceLeDiff, Nat.reduceLT, Nat.reduceAdd, Nat.reduceMul, Nat.reduceSub, Nat.reduceEqDiff, Nat.reduceBEq, Int.reduceToNat, reduceCtorEq]
      obtain rfl := Option.some.inj H
      refine RetE_mk [] [some 2] ?_ ?_ ?_ ?_ (by rfl) (by rfl)
      · simp only [go_sem, Nat.reduceEqDiff, Nat.reduceBEq, Nat.reduceAdd]
        try (and_intros <;> first | (with_reducible trivial) | omega | exact nfc | trivial)
      · simp only [go_sem, Nat.reduceEqDiff, Nat.reduceBEq, Nat.reduceAdd]
        try (and_intros <;> first | (with_reducible trivial) | omega | exact nfc | trivial)
      · simp only [go_sem, Nat.reduceEqDiff, Nat.reduceBEq, Nat.reduceAdd]
        exact Cv_tup (CvL_cons (by first | (simp [Cv, CvL, getM, gt_some]; done) | (simp [Cv, CvL, getM, gt_some]; omega)) (CvL_cons (by simp [Cv, CvL, getM, gt_some]) CvL_nil))
      · simp only [go_sem, Nat.reduceEqDiff, Nat.reduceBEq, Nat.reduceAdd, CvH, gt_some, Option.isSome_some, Option.isSome_none]
        exact CvB_row nr_u8 (by first | rfl | (simp; done) | (simp; omega)) (fun _ _ _ _ => rfl)
    replace H := cond_t hc H
    refine rg ctNo_ok ?_
    simp only [go_sem, Nat.reduceLeDiff, Nat.reduceLT, Nat.reduceAdd, Nat.reduceMul, Nat.reduceSub, Nat.reduceEqDiff, Nat.reduceBEq, Int.reduceToNat, reduceCtorEq]
    refine seqM ?_
    refine sq ctNo_ok ?_
    simp only [go_sem, Nat.reduceLeDiff, Nat.reduceLT, Nat.reduceAdd, Nat.reduceMul, Nat.reduceSub, Nat.reduceEqDiff, Nat.reduceBEq, Int.reduceToNat, reduceCtorEq]
    repeat ((with_reducible refine And.intro ?_ ?_); focus (first | (and_intros <;> first | (with_reducible trivial) | omega | assumption | exact nfc | first | exact rfl | exact trivial | exact fitI | exact .inr rfl | exact .inl rfl | exact fun x hx => absurd hx (by omega)) | grind))
    refine condM rfl trivial (fun hc => ?_) (fun hc => ?_)
    · replace H := cond_t hc H
      refine sq ctNo_ok ?_
      simp only [go_sem, Nat.reduceLeDiff, Nat.reduceLT, Nat.reduceAdd, Nat.reduceMul, Nat.reduceSub, Nat.reduceEqDiff, Nat.reduceBEq, Int.reduceToNat, reduceCtorEq]
      repeat ((with_reducible refine And.intro ?_ ?_); focus (first | (with_reducible trivial) | omega | grind))
      refine rg ctNo_ok ?_
      simp only [go_sem, Nat.reduceLeDiff, Nat.reduceLT, Nat.reduceAdd, Nat.reduceMul, Nat.reduceSub, Nat.reduceEqDiff, Nat.reduceBEq, Int.reduceToNat, reduceCtorEq]
      obtain rfl := Option.some.inj H
      refine RetE_mk [] [none] ?_ ?_ ?_ ?_ (by rfl) (by rfl)
      · simp only [go_sem, Nat.reduceEqDiff, Nat.reduceBEq, Nat.reduceAdd]
        try (and_intros <;> first | (with_reducible trivial) | omega | exact nfc | trivial)
      · simp only [go_sem, Nat.reduceEqDiff, Nat.reduceBEq, Nat.reduceAdd]
        try (and_intros <;> first | (with_reducible trivial) | omega | exact nfc | trivial)
      · simp only [go_sem, Nat.reduceEqDiff, Nat.reduceBEq, Nat.reduceAdd]
        exact Cv_tup (CvL_cons (by first | (simp [Cv, CvL, getM, gt_some]; done) | (simp [Cv, CvL, getM, gt_some]; omega)) (CvL_cons (by simp [Cv, CvL, getM, gt_some]) CvL_nil))
      · simp only [go_sem, Nat.reduceEqDiff, Nat.reduceBEq, Nat.reduceAdd, CvH, gt_some, Option.isSome_some, Option.isSome_none]
        exact CvB_none
    replace H := cond_f hc H
    refine rg ctNo_ok ?_
    simp only [go_sem, Nat.reduceLeDiff, Nat.reduceLT, Nat.reduceAdd, Nat.reduceMul, Nat.reduceSub, Nat.reduceEqDiff, Nat.reduceBEq, Int.reduceToNat, reduceCtorEq]
    refine sq ctNo_ok ?_
    simp only [go_sem, Nat.reduceLeDiff, Nat.reduceLT, Nat.reduceAdd, Nat.reduceMul, Nat.reduceSub, Nat.reduceEqDiff, Nat.reduceBEq, Int.reduceToNat, reduceCtorEq]
    refine seqM ?_
    refine sq ctNo_ok ?_
    simp only [go_sem, Nat.reduceLeDiff, Nat.reduceLT, Nat.reduceAdd, Nat.reduceMul, Nat.reduceSub, Nat.reduceEqDiff, Nat.reduceBEq, Int.reduceToNat, reduceCtorEq, (by decide : wr IntKind.i64 ((40 : Int) - 4) = 36), (by decide : wr IntKind.i64 (Int.tdiv 36 6) = 6)]
    repeat ((with_reducible refine And.intro ?_ ?_); focus (first | (with_reducible trivial) | omega | grind))
    refine blkM ?_
    refine loop_roundsM 7 ?_
    refine rndM ?_
    refine sq ctNo_ok ?_
    simp only [go_sem, Nat.reduceLeDiff, Nat.reduceLT, Nat.reduceAdd, Nat.reduceMul, Nat.reduceSub, Nat.reduceEqDiff, Nat.reduceBEq, Int.reduceToNat, reduceCtorEq, (by decide : bLt (0) (6) = true)]
    refine seqM ?_
    refine condM rfl trivial (fun hc => ?_) (fun hc => ?_)
    rotate_left
    · cases hc
    refine rg ctNo_ok ?_
    simp only [go_sem, Nat.reduceLeDiff, Nat.reduceLT, Nat.reduceAdd, Nat.reduceMul, Nat.reduceSub, Nat.reduceEqDiff, Nat.reduceBEq, Int.reduceToNat, reduceCtorEq]
    refine seqM ?_
    refine blkM ?_
    refine sq ctNo_ok ?_
    simp only [go_sem, Nat.reduceLeDiff, Nat.reduceLT, Nat.reduceAdd, Nat.reduceMul, Nat.reduceSub, Nat.reduceEqDiff, Nat.reduceBEq, Int.reduceToNat, reduceCtorEq]
    obtain ⟨f3, H⟩ := need_some.1 H
    replace f3 := slb_iff.1 f3
    obtain ⟨f4, H⟩ := need_some.1 H
    replace f4 := decide_eq_true_iff.1 f4
    refine draw_rule shT_ok ctNo_ok 0 (by kernel_rfl) (by kernel_rfl) ?_
    intro an han
    simp only [d_nil, d_cons, nxtD, xrD, xoD, roEq, minL, List.append_nil, refsOp, refs, refsL, mask, maskF, place, placeF, okLog, pairOk, hit, inL, slotsF, ren, renL, rnN, nrH, nrB, nrL, nr, dead0, deadS, List.replicate_zero, List.replicate_succ, Nat.sub_self, Nat.add_zero, Nat.zero_add, Nat.reduceSub, Nat.not_lt_zero, Nat.zero_le, Nat.lt_add_one, go_sem, Nat.reduceLeDiff, Nat.reduceLT, Nat.reduceAdd, Nat.reduceMul, Nat.reduceSub, Nat.reduceEqDiff, Nat.reduceBEq, Int.reduceToNat, reduceCtorEq, (by decide : wr IntKind.i64 ((6 : Int) * 0) = 0), (by decide : wr IntKind.i64 ((4 : Int) + 0) = 4), f3, f4]
    repeat ((with_reducible refine And.intro ?_ ?_); focus (and_intros <;> first | (with_reducible trivial) | (show anB _ _ _ = true; subst han; kernel_rfl) | (show (anB _ _ _ && _) = true; subst han; kernel_rfl) | omega | assumption | exact nrc | exact nfc | first | exact rfl | exact trivial | exact fitI | exact .inr rfl | exact .inl rfl | exact fun x hx => absurd hx (by omega) | (intro x hx; (repeat (first | (and_intros <;> (first | exact rfl | exact trivial | exact fitI | exact .inr rfl | exact .inl rfl | exact fun x hx => absurd hx (by omega))) | (exfalso; omega) | (rcases x with _ | x))); done)))
    refine rg ctNo_ok ?_
    simp only [go_sem, Nat.reduceLeDiff, Nat.reduceLT, Nat.reduceAdd, Nat.reduceMul, Nat.reduceSub, Nat.reduceEqDiff, Nat.reduceBEq, Int.reduceToNat, reduceCtorEq, (by decide : wr IntKind.i64 ((0 : Int) + 1) = 1)]
    refine rndM ?_
    refine sq ctNo_ok ?_
    simp only [go_sem, Nat.reduceLeDiff, Nat.reduceLT, Nat.reduceAdd, Nat.reduceMul, Nat.reduceSub, Nat.reduceEqDiff, Nat.reduceBEq, Int.reduceToNat, reduceCtorEq, (by decide : bLt (1) (6) = true)]
    refine seqM ?_
    refine condM rfl trivial (fun hc => ?_) (fun hc => ?_)
    rotate_left
    · cases hc
    refine rg ctNo_ok ?_
    simp only [go_sem, Nat.reduceLeDiff, Nat.reduceLT, Nat.reduceAdd, Nat.reduceMul, Nat.reduceSub, Nat.reduceEqDiff, Nat.reduceBEq, Int.reduceToNat, reduceCtorEq]
    refine seqM ?_
    refine blkM ?_
    refine sq ctNo_ok ?_
    simp only [go_sem, Nat.reduceLeDiff, Nat.reduceLT, Nat.reduceAdd, Nat.reduceMul, Nat.reduceSub, Nat.reduceEqDiff, Nat.reduceBEq, Int.reduceToNat, reduceCtorEq]
    obtain ⟨f5, H⟩ := need_some.1 H
    replace f5 := slb_iff.1 f5
    obtain ⟨f6, H⟩ := need_some.1 H
    replace f6 := decide_eq_true_iff.1 f6
    refine draw_rule shT_ok ctNo_ok 0 (by kernel_rfl) (by kernel_rfl) ?_
    intro an han
    simp only [d_nil, d_cons, nxtD, xrD, xoD, roEq, minL, List.append_nil, refsOp, refs, refsL, mask, maskF, place, placeF, okLog, pairOk, hit, inL, slotsF, ren, renL, rnN, nrH, nrB, nrL, nr, dead0, deadS, List.replicate_zero, List.replicate_succ, Nat.sub_self, Nat.add_zero, Nat.zero_add, Nat.reduceSub, Nat.not_lt_zero, Nat.zero_le, Nat.lt_add_one, go_sem, Nat.reduceLeDiff, Nat.reduceLT, Nat.reduceAdd, Nat.reduceMul, Nat.reduceSub, Nat.reduceEqDiff, Nat.reduceBEq, Int.reduceToNat, reduceCtorEq, (by decide : wr IntKind.i64 ((6 : Int) * 1) = 6), (by decide : wr IntKind.i64 ((4 : Int) + 6) = 10), f5, f6]
    repeat ((with_reducible refine And.intro ?_ ?_); focus (and_intros <;> first | (with_reducible trivial) | (show anB _ _ _ = true; subst han; kernel_rfl) | (show (anB _ _ _ && _) = true; subst han; kernel_rfl) | omega | assumption | exact nrc | exact nfc | first | exact rfl | exact trivial | exact fitI | exact .inr rfl | exact .inl rfl | exact fun x hx => absurd hx (by omega) | (intro x hx; (repeat (first | (and_intros <;> (first | exact rfl | exact trivial | exact fitI | exact .inr rfl | exact .inl rfl | exact fun x hx => absurd hx (by omega))) | (exfalso; omega) | (rcases x with _ | x))); done)))
    refine rg ctNo_ok ?_
    simp only [go_sem, Nat.reduceLeDiff, Nat.reduceLT, Nat.reduceAdd, Nat.reduceMul, Nat.reduceSub, Nat.reduceEqDiff, Nat.reduceBEq, Int.reduceToNat, reduceCtorEq, (by decide : wr IntKind.i64 ((1 : Int) + 1) = 2)]
    refine rndM ?_
    refine sq ctNo_ok ?_
    simp only [go_sem, Nat.reduceLeDiff, Nat.reduceLT, Nat.reduceAdd, Nat.reduceMul, Nat.reduceSub, Nat.reduceEqDiff, Nat.reduceBEq, Int.reduceToNat, reduceCtorEq, (by decide : bLt (2) (6) = true)]
    refine seqM ?_
    refine condM rfl trivial (fun hc => ?_) (fun hc => ?_)
    rotate_left
    · cases hc
    refine rg ctNo_ok ?_
    simp only [go_sem, Nat.reduceLeDiff, Nat.reduceLT, Nat.reduceAdd, Nat.reduceMul, Nat.reduceSub, Nat.reduceEqDiff, Nat.reduceBEq, Int.reduceToNat, reduceCtorEq]
    refine seqM ?_
    refine blkM ?_
    refine sq ctNo_ok ?_
    simp only [go_sem, Nat.reduceLeDiff, Nat.reduceLT, Nat.reduceAdd, Nat.reduceMul, Nat.reduceSub, Nat.reduceEqDiff, Nat.reduceBEq, Int.reduceToNat, reduceCtorEq]
    obtain ⟨f7, H⟩ := need_some.1 H
    replace f7 := slb_iff.1 f7
    obtain ⟨f8, H⟩ := need_some.1 H
    replace f8 := decide_eq_true_iff.1 f8
    refine draw_rule shT_ok ctNo_ok 0 (by kernel_rfl) (by kernel_rfl) ?_
    intro an han
    simp only [d_nil, d_cons, nxtD, xrD, xoD, roEq, minL, List.append_nil, refsOp, refs, refsL, mask, maskF, place, placeF, okLog, pairOk, hit, inL, slotsF, ren, renL, rnN, nrH, nrB, nrL, nr, dead0, deadS, List.replicate_zero, List.replicate_succ, Nat.sub_self, Nat.add_zero, Nat.zero_add, Nat.reduceSub, Nat.not_lt_zero, Nat.zero_le, Nat.lt_add_one, go_sem, Nat.reduceLeDiff, Nat.reduceLT, Nat.reduceAdd, Nat.reduceMul, Nat.reduceSub, Nat.reduceEqDiff, Nat.reduceBEq, Int.reduceToNat, reduceCtorEq, (by decide : wr IntKind.i64 ((6 : Int) * 2) = 12), (by decide : wr IntKind.i64 ((4 : Int) + 12) = 16), f7, f8]
    repeat ((with_reducible refine And.intro ?_ ?_); focus (and_intros <;> first | (with_reducible trivial) | (show anB _ _ _ = true; subst han; kernel_rfl) | (show (anB _ _ _ && _) = true; subst han; kernel_rfl) | omega | assumption | exact nrc | exact nfc | first | exact rfl | exact trivial | exact fitI | exact .inr rfl | exact .inl rfl | exact fun x hx => absurd hx (by omega) | (intro x hx; (repeat (first | (and_intros <;> (first | exact rfl | exact trivial | exact fitI | exact .inr rfl | exact .inl rfl | exact fun x hx => absurd hx (by omega))) | (exfalso; omega) | (rcases x with _ | x))); done)))
    refine rg ctNo_ok ?_
    simp only [go_sem, Nat.reduceLeDiff, Nat.reduceLT, Nat.reduceAdd, Nat.reduceMul, Nat.reduceSub, Nat.reduceEqDiff, Nat.reduceBEq, Int.reduceToNat, reduceCtorEq, (by decide : wr IntKind.i64 ((2 : Int) + 1) = 3)]
    refine rndM ?_
    refine sq ctNo_ok ?_
    simp only [go_sem, Nat.reduceLeDiff, Nat.reduceLT, Nat.reduceAdd, Nat.reduceMul, Nat.reduceSub, Nat.reduceEqDiff, Nat.reduceBEq, Int.reduceToNat, reduceCtorEq, (by decide : bLt (3) (6) = true)]
    refine seqM ?_
    refine condM rfl trivial (fun hc => ?_) (fun hc => ?_)
    rotate_left
    · cases hc
    refine rg ctNo_ok ?_
    simp only [go_sem, Nat.reduceLeDiff, Nat.reduceLT, Nat.reduceAdd, Nat.reduceMul, Nat.reduceSub, Nat.reduceEqDiff, Nat.reduceBEq, Int.reduceToNat, reduceCtorEq]
    refine seqM ?_
    refine blkM ?_
    refine sq ctNo_ok ?_
    simp only [go_sem, Nat.reduceLeDiff, Nat.reduceLT, Nat.reduceAdd, Nat.reduceMul, Nat.reduceSub, Nat.reduceEqDiff, Nat.reduceBEq, Int.reduceToNat, reduceCtorEq]
    obtain ⟨f9, H⟩ := need_some.1 H
    replace f9 := slb_iff.1 f9
    obtain ⟨f10, H⟩ := need_some.1 H
    replace f10 := decide_eq_true_iff.1 f10
    refine draw_rule shT_ok ctNo_ok 0 (by kernel_rfl) (by kernel_rfl) ?_
    intro an han
    simp only [d_nil, d_cons, nxtD, xrD, xoD, roEq, minL, List.append_nil, refsOp, refs, refsL, mask, maskF, place, placeF, okLog, pairOk, hit, inL, slotsF, ren, renL, rnN, nrH, nrB, nrL, nr, dead0, deadS, List.replicate_zero, List.replicate_succ, Nat.sub_self, Nat.add_zero, Nat.zero_add, Nat.reduceSub, Nat.not_lt_zero, Nat.zero_le, Nat.lt_add_one, go_sem, Nat.reduceLeDiff, Nat.reduceLT, Nat.reduceAdd, Nat.reduceMul, Nat.reduceSub, Nat.reduceEqDiff, Nat.reduceBEq, Int.reduceToNat, reduceCtorEq, (by decide : wr IntKind.i64 ((6 : Int) * 3) = 18), (by decide : wr IntKind.i64 ((4 : Int) + 18) = 22), f9, f10]
    repeat ((with_reducible refine And.intro ?_ ?_); focus (and_intros <;> first | (with_reducible trivial) | (show anB _ _ _ = true; subst han; kernel_rfl) | (show (anB _ _ _ && _) = true; subst han; kernel_rfl) | omega | assumption | exact nrc | exact nfc | first | exact rfl | exact trivial | exact fitI | exact .inr rfl | exact .inl rfl | exact fun x hx => absurd hx (by omega) | (intro x hx; (repeat (first | (and_intros <;> (first | exact rfl | exact trivial | exact fitI | exact .inr rfl | exact .inl rfl | exact fun x hx => absurd hx (by omega))) | (exfalso; omega) | (rcases x with _ | x))); done)))
    refine rg ctNo_ok ?_
    simp only [go_sem, Nat.reduceLeDiff, Nat.reduceLT, Nat.reduceAdd, Nat.reduceMul, Nat.reduceSub, Nat.reduceEqDiff, Nat.reduceBEq, Int.reduceToNat, reduceCtorEq, (by decide : wr IntKind.i64 ((3 : Int) + 1) = 4)]
    refine rndM ?_
    refine sq ctNo_ok ?_
    simp only [go_sem, Nat.reduceLeDiff, Nat.reduceLT, Nat.reduceAdd, Nat.reduceMul, Nat.reduceSub, Nat.reduceEqDiff, Nat.reduceBEq, Int.reduceToNat, reduceCtorEq, (by decide : bLt (4) (6) = true)]
    refine seqM ?_
    refine condM rfl trivial (fun hc => ?_) (fun hc => ?_)
    rotate_left
    · cases hc
    refine rg ctNo_ok ?_
    simp only [go_sem, Nat.reduceLeDiff, Nat.reduceLT, Nat.reduceAdd, Nat.reduceMul, Nat.reduceSub, Nat.reduceEqDiff, Nat.reduceBEq, Int.reduceToNat, reduceCtorEq]
    refine seqM ?_
    refine blkM ?_
    refine sq ctNo_ok ?_
    simp only [go_sem, Nat.reduceLeDiff, Nat.reduceLT, Nat.reduceAdd, Nat.reduceMul, Nat.reduceSub, Nat.reduceEqDiff, Nat.reduceBEq, Int.reduceToNat, reduceCtorEq]
    obtain ⟨f11, H⟩ := need_some.1 H
    replace f11 := slb_iff.1 f11
    obtain ⟨f12, H⟩ := need_some.1 H
    replace f12 := decide_eq_true_iff.1 f12
    refine draw_rule shT_ok ctNo_ok 0 (by kernel_rfl) (by kernel_rfl) ?_
    intro an han
    simp only [d_nil, d_cons, nxtD, xrD, xoD, roEq, minL, List.append_nil, refsOp, refs, refsL, mask, maskF, place, placeF, okLog, pairOk, hit, inL, slotsF, ren, renL, rnN, nrH, nrB, nrL, nr, dead0, deadS, List.replicate_zero, List.replicate_succ, Nat.sub_self, Nat.add_zero, Nat.zero_add, Nat.reduceSub, Nat.not_lt_zero, Nat.zero_le, Nat.lt_add_one, go_sem, Nat.reduceLeDiff, Nat.reduceLT, Nat.reduceAdd, Nat.reduceMul, Nat.reduceSub, Nat.reduceEqDiff, Nat.reduceBEq, Int.reduceToNat, reduceCtorEq, (by decide : wr IntKind.i64 ((6 : Int) * 4) = 24), (by decide : wr IntKind.i64 ((4 : Int) + 24) = 28), f11, f12]
    repeat ((with_reducible refine And.intro ?_ ?_); focus (and_intros <;> first | (with_reducible trivial) | (show anB _ _ _ = true; subst han; kernel_rfl) | (show (anB _ _ _ && _) = true; subst han; kernel_rfl) | omega | assumption | exact nrc | exact nfc | first | exact rfl | exact trivial | exact fitI | exact .inr rfl | exact .inl rfl | exact fun x hx => absurd hx (by omega) | (intro x hx; (repeat (first | (and_intros <;> (first | exact rfl | exact trivial | exact fitI | exact .inr rfl | exact .inl rfl | exact fun x hx => absurd hx (by omega))) | (exfalso; omega) | (rcases x with _ | x))); done)))
    refine rg ctNo_ok ?_
    simp only [go_sem, Nat.reduceLeDiff, Nat.reduceLT, Nat.reduceAdd, Nat.reduceMul, Nat.reduceSub, Nat.reduceEqDiff, Nat.reduceBEq, Int.reduceToNat, reduceCtorEq, (by decide : wr IntKind.i64 ((4 : Int) + 1) = 5)]
    refine rndM ?_
    refine sq ctNo_ok ?_
    simp only [go_sem, Nat.reduceLeDiff, Nat.reduceLT, Nat.reduceAdd, Nat.reduceMul, Nat.reduceSub, Nat.reduceEqDiff, Nat.reduceBEq, Int.reduceToNat, reduceCtorEq, (by decide : bLt (5) (6) = true)]
    refine seqM ?_
    refine condM rfl trivial (fun hc => ?_) (fun hc => ?_)
    rotate_left
    · cases hc
    refine rg ctNo_ok ?_
    simp only [go_sem, Nat.reduceLeDiff, Nat.reduceLT, Nat.reduceAdd, Nat.reduceMul, Nat.reduceSub, Nat.reduceEqDiff, Nat.reduceBEq, Int.reduceToNat, reduceCtorEq]
    refine seqM ?_
    refine blkM ?_
    refine sq ctNo_ok ?_
    simp only [go_sem, Nat.reduceLeDiff, Nat.reduceLT, Nat.reduceAdd, Nat.reduceMul, Nat.reduceSub, Nat.reduceEqDiff, Nat.reduceBEq, Int.reduceToNat, reduceCtorEq]
    obtain ⟨f13, H⟩ := need_some.1 H
    replace f13 := slb_iff.1 f13
    obtain ⟨f14, H⟩ := need_some.1 H
    replace f14 := decide_eq_true_iff.1 f14
    refine draw_rule shT_ok ctNo_ok 0 (by kernel_rfl) (by kernel_rfl) ?_
    intro an han
    simp only [d_nil, d_cons, nxtD, xrD, xoD, roEq, minL, List.append_nil, refsOp, refs, refsL, mask, maskF, place, placeF, okLog, pairOk, hit, inL, slotsF, ren, renL, rnN, nrH, nrB, nrL, nr, dead0, deadS, List.replicate_zero, List.replicate_succ, Nat.sub_self, Nat.add_zero, Nat.zero_add, Nat.reduceSub, Nat.not_lt_zero, Nat.zero_le, Nat.lt_add_one, go_sem, Nat.reduceLeDiff, Nat.reduceLT, Nat.reduceAdd, Nat.reduceMul, Nat.reduceSub, Nat.reduceEqDiff, Nat.reduceBEq, Int.reduceToNat, reduceCtorEq, (by decide : wr IntKind.i64 ((6 : Int) * 5) = 30), (by decide : wr IntKind.i64 ((4 : Int) + 30) = 34), f13, f14]
    repeat ((with_reducible refine And.intro ?_ ?_); focus (and_intros <;> first | (with_reducible trivial) | (show anB _ _ _ = true; subst han; kernel_rfl) | (show (anB _ _ _ && _) = true; subst han; kernel_rfl) | omega | assumption | exact nrc | exact nfc | first | exact rfl | exact trivial | exact fitI | exact .inr rfl | exact .inl rfl | exact fun x hx => absurd hx (by omega) | (intro x hx; (repeat (first | (and_intros <;> (first | exact rfl | exact trivial | exact fitI | exact .inr rfl | exact .inl rfl | exact fun x hx => absurd hx (by omega))) | (exfalso; omega) | (rcases x with _ | x))); done)))
    refine rg ctNo_ok ?_
    simp only [go_sem, Nat.reduceLeDiff, Nat.reduceLT, Nat.reduceAdd, Nat.reduceMul, Nat.reduceSub, Nat.reduceEqDiff, Nat.reduceBEq, Int.reduceToNat, reduceCtorEq, (by decide : wr IntKind.i64 ((5 : Int) + 1) = 6)]
    refine rndM ?_
    refine sq ctNo_ok ?_
    simp only [go_sem, Nat.reduceLeDiff, Nat.reduceLT, Nat.reduceAdd, Nat.reduceMul, Nat.reduceSub, Nat.reduceEqDiff, Nat.reduceBEq, Int.reduceToNat, reduceCtorEq, (by decide : bLt (6) (6) = false)]
    refine seqM ?_
    refine condM rfl trivial (fun hc => ?_) (fun hc => ?_)
    · cases hc
    refine rg ctNo_ok ?_
    simp only [go_sem, Nat.reduceLeDiff, Nat.reduceLT, Nat.reduceAdd, Nat.reduceMul, Nat.reduceSub, Nat.reduceEqDiff, Nat.reduceBEq, Int.reduceToNat, reduceCtorEq]
    refine seqM ?_
    refine sq ctNo_ok ?_
    simp only [go_sem, Nat.reduceLeDiff, Nat.reduceLT, Nat.reduceAdd, Nat.reduceMul, Nat.reduceSub, Nat.reduceEqDiff, Nat.reduceBEq, Int.reduceToNat, reduceCtorEq, (by decide : bEq (40) (28) = false)]
    refine condM rfl trivial (fun hc => ?_) (fun hc => ?_)
    · cases hc
    refine rg ctNo_ok ?_
    simp only [go_sem, Nat.reduceLeDiff, Nat.reduceLT, Nat.reduceAdd, Nat.reduceMul, Nat.reduceSub, Nat.reduceEqDiff, Nat.reduceBEq, Int.reduceToNat, reduceCtorEq]
    refine seqM ?_
    obtain ⟨f15, H⟩ := need_some.1 H
    replace f15 := inb_iff.1 f15
    obtain ⟨f16, H⟩ := need_some.1 H
    replace f16 := inb_iff.1 f16
    obtain ⟨f17, H⟩ := need_some.1 H
    replace f17 := inb_iff.1 f17
    obtain ⟨f18, H⟩ := need_some.1 H
    replace f18 := slb_iff.1 f18
    obtain ⟨r19, e20, H⟩ := bsi H
    (try simp only [go_sem, Nat.reduceLeDiff, Nat.reduceLT, Nat.reduceAdd, Nat.reduceMul, Nat.reduceSub, Nat.reduceEqDiff, Nat.reduceBEq, Int.reduceToNat, reduceCtorEq] at e20)
    refine draw_rule shT_ok ct14t0_ok 2 (by kernel_rfl) (by kernel_rfl) ?_
    intro an han
    simp only [d_nil, d_cons, nxtD, xrD, xoD, roEq, minL, List.append_nil, refsOp, refs, refsL, mask, maskF, place, placeF, okLog, pairOk, hit, inL, slotsF, ren, renL, rnN, nrH, nrB, nrL, nr, dead0, deadS, List.replicate_zero, List.replicate_succ, Nat.sub_self, Nat.add_zero, Nat.zero_add, Nat.reduceSub, Nat.not_lt_zero, Nat.zero_le, Nat.lt_add_one, go_sem, Nat.reduceLeDiff, Nat.reduceLT, Nat.reduceAdd, Nat.reduceMul, Nat.reduceSub, Nat.reduceEqDiff, Nat.reduceBEq, Int.reduceToNat, reduceCtorEq, ct14t0_37, body37, f15, f16, f17, f18, e20]
    repeat ((with_reducible refine And.intro ?_ ?_); focus (and_intros <;> first | (with_reducible trivial) | (show anB _ _ _ = true; subst han; kernel_rfl) | (show (anB _ _ _ && _) = true; subst han; kernel_rfl) | omega | assumption | exact nrc | exact nfc | first | exact rfl | exact trivial | exact fitI | exact .inr rfl | exact .inl rfl | exact fun x hx => absurd hx (by omega) | (intro x hx; (repeat (first | (and_intros <;> (first | exact rfl | exact trivial | exact fitI | exact .inr rfl | exact .inl rfl | exact fun x hx => absurd hx (by omega))) | (exfalso; omega) | (rcases x with _ | x))); done)))
    refine seqM ?_
    refine seqM ?_
    obtain ⟨f21, H⟩ := need_some.1 H
    replace f21 := inb_iff.1 f21
    obtain ⟨f22, H⟩ := need_some.1 H
    replace f22 := g_iff.1 f22
    refine rg ct14t1_ok ?_
    simp only [go_sem, Nat.reduceLeDiff, Nat.reduceLT, Nat.reduceAdd, Nat.reduceMul, Nat.reduceSub, Nat.reduceEqDiff, Nat.reduceBEq, Int.reduceToNat, reduceCtorEq, ct14t1_23, body23, (by decide : bEq (40) (40) = true), f21]
    repeat ((with_reducible refine And.intro ?_ ?_); focus (first | (with_reducible trivial) | omega | exact f22 | (intro g; have q := f22 (by first | exact g | (rw [g]; rfl) | simpa using g); first | exact q | exact ⟨q.1, q.2.1⟩ | exact q.2.2 | omega | exact ⟨g, q⟩ | exact ⟨trivial, q⟩ | exact ⟨g, q.1, q.2.1⟩ | exact ⟨g, q.2.2⟩) | (intro g; (try have q0 := f22 (by first | exact g | (rw [g]; rfl) | simpa using g)); and_intros <;> first | (with_reducible trivial) | assumption | exact nfc | (intro g2; rw [g, g2]; rfl) | (intro g2; assumption) | (simp only [g, Bool.true_and, Bool.and_true, Bool.not_false, Bool.not_true]; assumption) | grind) | (and_intros <;> first | (with_reducible trivial) | omega | assumption | exact nfc | first | exact rfl | exact trivial | exact fitI | exact .inr rfl | exact .inl rfl | exact fun x hx => absurd hx (by omega) | (intro x hx; (repeat (first | (and_intros <;> (first | exact rfl | exact trivial | exact fitI | exact .inr rfl | exact .inl rfl | exact fun x hx => absurd hx (by omega))) | (exfalso; omega) | (rcases x with _ | x))); done)) | grind))
    refine condM rfl trivial (fun hc => ?_) (fun hc => ?_)
    · replace H := cond_t hc H
      refine sq ctNo_ok ?_
      simp only [go_sem, Nat.reduceLeDiff, Nat.reduceLT, Nat.reduceAdd, Nat.reduceMul, Nat.reduceSub, Nat.reduceEqDiff, Nat.reduceBEq, Int.reduceToNat, reduceCtorEq]
      repeat ((with_reducible refine And.intro ?_ ?_); focus (first | (with_reducible trivial) | omega | grind))
      refine rg ctNo_ok ?_
      simp only [go_sem, Nat.reduceLeDiff, Nat.reduceLT, Nat.reduceAdd, Nat.reduceMul, Nat.reduceSub, Nat.reduceEqDiff, Nat.reduceBEq, Int.reduceToNat, reduceCtorEq]
      obtain rfl := Option.some.inj H
      refine RetE_mk [] [none] ?_ ?_ ?_ ?_ (by rfl) (by rfl)
      · simp only [go_sem, Nat.reduceEqDiff, Nat.reduceBEq, Nat.reduceAdd]
        try (and_intros <;> first | (with_reducible trivial) | omega | exact nfc | trivial)
      · simp only [go_sem, Nat.reduceEqDiff, Nat.reduceBEq, Nat.reduceAdd]
        try (and_intros <;> first | (with_reducible trivial) | omega | exact nfc | trivial)
      · simp only [go_sem, Nat.reduceEqDiff, Nat.reduceBEq, Nat.reduceAdd]
        exact Cv_tup (CvL_cons (by first | (simp [Cv, CvL, getM, gt_some]; done) | (simp [Cv, CvL, getM, gt_some]; omega)) (CvL_cons (by simp [Cv, CvL, getM, gt_some]) CvL_nil))
      · simp only [go_sem, Nat.reduceEqDiff, Nat.reduceBEq, Nat.reduceAdd, CvH, gt_some, Option.isSome_some, Option.isSome_none]
        exact CvB_none
    replace H := cond_f hc H
    refine rg ctNo_ok ?_
    simp only [go_sem, Nat.reduceLeDiff, Nat.reduceLT, Nat.reduceAdd, Nat.reduceMul, Nat.reduceSub, Nat.reduceEqDiff, Nat.reduceBEq, Int.reduceToNat, reduceCtorEq]
    refine sq ctNo_ok ?_
    simp only [go_sem, Nat.reduceLeDiff, Nat.reduceLT, Nat.reduceAdd, Nat.reduceMul, Nat.reduceSub, Nat.reduceEqDiff, Nat.reduceBEq, Int.reduceToNat, reduceCtorEq]
    repeat ((with_reducible refine And.intro ?_ ?_); focus (first | (with_reducible trivial) | omega | grind))
    refine rg ctNo_ok ?_
    simp only [go_sem, Nat.reduceLeDiff, Nat.reduceLT, Nat.reduceAdd, Nat.reduceMul, Nat.reduceSub, Nat.reduceEqDiff, Nat.reduceBEq, Int.reduceToNat, reduceCtorEq]
    obtain rfl := Option.some.inj H
    refine RetE_mk [] [some 2] ?_ ?_ ?_ ?_ (by rfl) (by rfl)
    · simp only [go_sem, Nat.reduceEqDiff, Nat.reduceBEq, Nat.reduceAdd]
      try (and_intros <;> first | (with_reducible trivial) | omega | exact nfc | trivial)
    · simp only [go_sem, Nat.reduceEqDiff, Nat.reduceBEq, Nat.reduceAdd]
      try (and_intros <;> first | (with_reducible trivial) | omega | exact nfc | trivial)
    · simp only [go_sem, Nat.reduceEqDiff, Nat.reduceBEq, Nat.reduceAdd]
      exact Cv_tup (CvL_cons (by first | (simp [Cv, CvL, getM, gt_some]; done) | (simp [Cv, CvL, getM, gt_some]; omega)) (CvL_cons (by simp [Cv, CvL, getM, gt_some]) CvL_nil))
    · simp only [go_sem, Nat.reduceEqDiff, Nat.reduceBEq, Nat.reduceAdd, CvH, gt_some, Option.isSome_some, Option.isSome_none]
      exact CvB_row nr_u8 (by first | rfl | (simp; done) | (simp; omega)) (fun _ _ _ _ => rfl)
  · cases hb
/-! bytes.Equal -/
noncomputable def F49 (p0 : List Int) (p1 : List Int) : Option (Bool) :=
  need (u8b p0.length (enR c_u8 p0)) <| need (u8b p1.length (enR c_u8 p1)) <| some (sEq (bytesC p0.length (enR c_u8 p0)) (bytesC p1.length (enR c_u8 p1)))
noncomputable def body49 : List AV → AR
  | [v0, v1] => .pure (lK k_u8 1 v0 ∧ lK k_u8 1 v1 ∧ (F49 (lA g_u8 v0) (lA g_u8 v1)).isSome = true) (.bool (gt (F49 (lA g_u8 v0) (lA g_u8 v1))))
  | _ => .fail
set_option maxHeartbeats 4000000 in
set_option maxRecDepth 20000 in
theorem ok49 : FnOk Try.prog 49 (pureC body49) := by
  refine pure_fnM body49 (rs := [.tmp 4]) Try.func49 (by kernel_rfl) rfl rfl ?_
  intro l ob v hb hob
  unfold body49 at hb
  split at hb
  · rename_i v0 v1
    injection hb with q1 q2; subst q1 q2
    obtain ⟨hk0_0, hk1_0, hob⟩ := hob
    obtain ⟨r, H⟩ := Option.isSome_iff_exists.1 hob
    rw [H, gt_some]
    have hw0 := lK_wk (fun r h => w_u8 h) hk0_0
    have hw1 := lK_wk (fun r h => w_u8 h) hk1_0
    generalize lA g_u8 v0 = p0 at H hw0
    generalize lA g_u8 v1 = p1 at H hw1
    refine ⟨[.ro 1 p0.length false (enR c_u8 p0), .ro 1 p1.length false (enR c_u8 p1)], _, (fun E vs F => FR_wk1 hw0.1 F (fun vs F => FR_wk1 hw1.1 F (fun vs F => F))), rfl, rfl, ?_⟩
    rw [Try.ntmps49]
    simp only [List.length_cons, List.length_nil, Nat.reduceAdd, Nat.reduceSub, List.replicate_succ, List.replicate_zero, List.cons_append, List.nil_append]
    unfold F49 at H
    try dsimp only at H
    refine sq ctNo_ok ?_
    simp only [go_sem, Nat.reduceLeDiff, Nat.reduceLT, Nat.reduceAdd, Nat.reduceMul, Nat.reduceSub, Nat.reduceEqDiff, Nat.reduceBEq, Int.reduceToNat, reduceCtorEq]
    refine seqM ?_
    obtain ⟨f1, H⟩ := need_some.1 H
    replace f1 := u8b_iff.1 f1
    obtain ⟨f2, H⟩ := need_some.1 H
    replace f2 := u8b_iff.1 f2
    refine rg ctNo_ok ?_
    simp only [go_sem, Nat.reduceLeDiff, Nat.reduceLT, Nat.reduceAdd, Nat.reduceMul, Nat.reduceSub, Nat.reduceEqDiff, Nat.reduceBEq, Int.reduceToNat, reduceCtorEq, f1, f2]
    repeat ((with_reducible refine And.intro ?_ ?_); focus (first | (with_reducible trivial) | omega | exact f1 | exact ⟨trivial, f1⟩ | exact f2 | exact ⟨trivial, f2⟩ | grind))
    refine rg ctNo_ok ?_
    simp only [go_sem, Nat.reduceLeDiff, Nat.reduceLT, Nat.reduceAdd, Nat.reduceMul, Nat.reduceSub, Nat.reduceEqDiff, Nat.reduceBEq, Int.reduceToNat, reduceCtorEq]
    obtain rfl := Option.some.inj H
    first | rfl | simp only [Bool.and_false, Bool.false_and, Bool.and_true, Bool.true_and]
  · cases hb
/-! hotspot/forward.Same -/
noncomputable def ct25t0 : Ct := tab [(49, pureC body49)]
theorem ct25t0_ok : CtOk Try.prog ct25t0 := tab_cons ok49 <| tab_nil
theorem ct25t0_49 (l : List AV) (h : List ABlk) : ct25t0 49 l h = pureC body49 l h := rfl
noncomputable def F25 (p0 : TMeshFrame) (p1 : TMeshFrame) : Option (Bool) :=
  need (bif ((((((((bEq p0.From.x0 p1.From.x0 && (bEq p0.From.x1 p1.From.x1 && (bEq p0.From.x2 p1.From.x2 && (bEq p0.From.x3 p1.From.x3 && (bEq p0.From.x4 p1.From.x4 && (bEq p0.From.x5 p1.From.x5)))))) && (bEq p0.To.x0 p1.To.x0 && (bEq p0.To.x1 p1.To.x1 && (bEq p0.To.x2 p1.To.x2 && (bEq p0.To.x3 p1.To.x3 && (bEq p0.To.x4 p1.To.x4 && (bEq p0.To.x5 p1.To.x5))))))) && (bEq p0.Enter.x0 p1.Enter.x0 && (bEq p0.Enter.x1 p1.Enter.x1 && (bEq p0.Enter.x2 p1.Enter.x2 && (bEq p0.Enter.x3 p1.Enter.x3 && (bEq p0.Enter.x4 p1.Enter.x4 && (bEq p0.Enter.x5 p1.Enter.x5))))))) && (bEq p0.Leave.x0 p1.Leave.x0 && (bEq p0.Leave.x1 p1.Leave.x1 && (bEq p0.Leave.x2 p1.Leave.x2 && (bEq p0.Leave.x3 p1.Leave.x3 && (bEq p0.Leave.x4 p1.Leave.x4 && (bEq p0.Leave.x5 p1.Leave.x5))))))) && (bEq p0.Source.x0 p1.Source.x0 && (bEq p0.Source.x1 p1.Source.x1 && (bEq p0.Source.x2 p1.Source.x2 && (bEq p0.Source.x3 p1.Source.x3 && (bEq p0.Source.x4 p1.Source.x4 && (bEq p0.Source.x5 p1.Source.x5))))))) && (bEq p0.Target.x0 p1.Target.x0 && (bEq p0.Target.x1 p1.Target.x1 && (bEq p0.Target.x2 p1.Target.x2 && (bEq p0.Target.x3 p1.Target.x3 && (bEq p0.Target.x4 p1.Target.x4 && (bEq p0.Target.x5 p1.Target.x5))))))) && (bEq p0.Seq p1.Seq)) && (bEq p0.Ttl p1.Ttl)) then ((F49 p0.Data p1.Data).isSome) else true) <| some (((((((((bEq p0.From.x0 p1.From.x0 && (bEq p0.From.x1 p1.From.x1 && (bEq p0.From.x2 p1.From.x2 && (bEq p0.From.x3 p1.From.x3 && (bEq p0.From.x4 p1.From.x4 && (bEq p0.From.x5 p1.From.x5)))))) && (bEq p0.To.x0 p1.To.x0 && (bEq p0.To.x1 p1.To.x1 && (bEq p0.To.x2 p1.To.x2 && (bEq p0.To.x3 p1.To.x3 && (bEq p0.To.x4 p1.To.x4 && (bEq p0.To.x5 p1.To.x5))))))) && (bEq p0.Enter.x0 p1.Enter.x0 && (bEq p0.Enter.x1 p1.Enter.x1 && (bEq p0.Enter.x2 p1.Enter.x2 && (bEq p0.Enter.x3 p1.Enter.x3 && (bEq p0.Enter.x4 p1.Enter.x4 && (bEq p0.Enter.x5 p1.Enter.x5))))))) && (bEq p0.Leave.x0 p1.Leave.x0 && (bEq p0.Leave.x1 p1.Leave.x1 && (bEq p0.Leave.x2 p1.Leave.x2 && (bEq p0.Leave.x3 p1.Leave.x3 && (bEq p0.Leave.x4 p1.Leave.x4 && (bEq p0.Leave.x5 p1.Leave.x5))))))) && (bEq p0.Source.x0 p1.Source.x0 && (bEq p0.Source.x1 p1.Source.x1 && (bEq p0.Source.x2 p1.Source.x2 && (bEq p0.Source.x3 p1.Source.x3 && (bEq p0.Source.x4 p1.Source.x4 && (bEq p0.Source.x5 p1.Source.x5))))))) && (bEq p0.Target.x0 p1.Target.x0 && (bEq p0.Target.x1 p1.Target.x1 && (bEq p0.Target.x2 p1.Target.x2 && (bEq p0.Target.x3 p1.Target.x3 && (bEq p0.Target.x4 p1.Target.x4 && (bEq p0.Target.x5 p1.Target.x5))))))) && (bEq p0.Seq p1.Seq)) && (bEq p0.Ttl p1.Ttl)) && (gt (F49 p0.Data p1.Data)))
noncomputable def body25 : List AV → AR
  | [v0, v1] => .pure (aK 39 k_TMeshFrame v0 ∧ aK 39 k_TMeshFrame v1 ∧ (F25 (g_TMeshFrame (aL v0)) (g_TMeshFrame (aL v1))).isSome = true) (.bool (gt (F25 (g_TMeshFrame (aL v0)) (g_TMeshFrame (aL v1)))))
  | _ => .fail
set_option maxHeartbeats 4000000 in
set_option maxRecDepth 20000 in
theorem ok25 : FnOk Try.prog 25 (pureC body25) := by
  refine pure_fnM body25 (rs := [.tmp 4]) Try.func25 (by kernel_rfl) rfl rfl ?_
  intro l ob v hb hob
  unfold body25 at hb
  split at hb
  · rename_i v0 v1
    injection hb with q1 q2; subst q1 q2
    obtain ⟨hk0_0, hk1_0, hob⟩ := hob
    obtain ⟨r, H⟩ := Option.isSome_iff_exists.1 hob
    rw [H, gt_some]
    have hw0 := wA_TMeshFrame hk0_0
    have hw1 := wA_TMeshFrame hk1_0
    generalize g_TMeshFrame (aL v0) = p0 at H hw0
    generalize g_TMeshFrame (aL v1) = p1 at H hw1
    refine ⟨[.agg (.int .u8 p0.From.x0 :: .int .u8 p0.From.x1 :: .int .u8 p0.From.x2 :: .int .u8 p0.From.x3 :: .int .u8 p0.From.x4 :: .int .u8 p0.From.x5 :: .int .u8 p0.To.x0 :: .int .u8 p0.To.x1 :: .int .u8 p0.To.x2 :: .int .u8 p0.To.x3 :: .int .u8 p0.To.x4 :: .int .u8 p0.To.x5 :: .int .u8 p0.Enter.x0 :: .int .u8 p0.Enter.x1 :: .int .u8 p0.Enter.x2 :: .int .u8 p0.Enter.x3 :: .int .u8 p0.Enter.x4 :: .int .u8 p0.Enter.x5 :: .int .u8 p0.Leave.x0 :: .int .u8 p0.Leave.x1 :: .int .u8 p0.Leave.x2 :: .int .u8 p0.Leave.x3 :: .int .u8 p0.Leave.x4 :: .int .u8 p0.Leave.x5 :: .int .u8 p0.Source.x0 :: .int .u8 p0.Source.x1 :: .int .u8 p0.Source.x2 :: .int .u8 p0.Source.x3 :: .int .u8 p0.Source.x4 :: .int .u8 p0.Source.x5 :: .int .u8 p0.Target.x0 :: .int .u8 p0.Target.x1 :: .int .u8 p0.Target.x2 :: .int .u8 p0.Target.x3 :: .int .u8 p0.Target.x4 :: .int .u8 p0.Target.x5 :: .int .i64 p0.Seq :: .int .i64 p0.Ttl :: .ro 1 p0.Data.length false (enR c_u8 p0.Data) :: []), .agg (.int .u8 p1.From.x0 :: .int .u8 p1.From.x1 :: .int .u8 p1.From.x2 :: .int .u8 p1.From.x3 :: .int .u8 p1.From.x4 :: .int .u8 p1.From.x5 :: .int .u8 p1.To.x0 :: .int .u8 p1.To.x1 :: .int .u8 p1.To.x2 :: .int .u8 p1.To.x3 :: .int .u8 p1.To.x4 :: .int .u8 p1.To.x5 :: .int .u8 p1.Enter.x0 :: .int .u8 p1.Enter.x1 :: .int .u8 p1.Enter.x2 :: .int .u8 p1.Enter.x3 :: .int .u8 p1.Enter.x4 :: .int .u8 p1.Enter.x5 :: .int .u8 p1.Leave.x0 :: .int .u8 p1.Leave.x1 :: .int .u8 p1.Leave.x2 :: .int .u8 p1.Leave.x3 :: .int .u8 p1.Leave.x4 :: .int .u8 p1.Leave.x5 :: .int .u8 p1.Source.x0 :: .int .u8 p1.Source.x1 :: .int .u8 p1.Source.x2 :: .int .u8 p1.Source.x3 :: .int .u8 p1.Source.x4 :: .int .u8 p1.Source.x5 :: .int .u8 p1.Target.x0 :: .int .u8 p1.Target.x1 :: .int .u8 p1.Target.x2 :: .int .u8 p1.Target.x3 :: .int .u8 p1.Target.x4 :: .int .u8 p1.Target.x5 :: .int .i64 p1.Seq :: .int .i64 p1.Ttl :: .ro 1 p1.Data.length false (enR c_u8 p1.Data) :: [])], _, (fun E vs F => FR_wk1 hw0.1 F (fun vs F => FR_wk1 hw1.1 F (fun vs F => F))), rfl, rfl, ?_⟩
    rw [Try.ntmps25]
    simp only [List.length_cons, List.length_nil, Nat.reduceAdd, Nat.reduceSub, List.replicate_succ, List.replicate_zero, List.cons_append, List.nil_append]
    unfold F25 at H
    try dsimp only at H
    refine sq ctNo_ok ?_
    simp only [go_sem, Nat.reduceLeDiff, Nat.reduceLT, Nat.reduceAdd, Nat.reduceMul, Nat.reduceSub, Nat.reduceEqDiff, Nat.reduceBEq, Int.reduceToNat, reduceCtorEq]
    refine seqM ?_
    obtain ⟨f1, H⟩ := need_some.1 H
    replace f1 := g_iff.1 f1
    refine rg ct25t0_ok ?_
    simp (maxSteps := 3000000) only [go_sem, Nat.reduceLeDiff, Nat.reduceLT, Nat.reduceAdd, Nat.reduceMul, Nat.reduceSub, Nat.reduceEqDiff, Nat.reduceBEq, Int.reduceToNat, reduceCtorEq, ct25t0_49, body49, List.append_eq, List.cons_append, List.nil_append, Array.toList_append, List.append_assoc]
    repeat ((with_reducible refine And.intro ?_ ?_); focus (first | (with_reducible trivial) | omega | exact f1 | (intro g; have q := f1 (by first | exact g | (rw [g]; rfl) | simpa using g); first | exact q | exact ⟨q.1, q.2.1⟩ | exact q.2.2 | omega | exact ⟨g, q⟩ | exact ⟨trivial, q⟩ | exact ⟨g, q.1, q.2.1⟩ | exact ⟨g, q.2.2⟩) | (intro g; (try have q0 := f1 (by first | exact g | (rw [g]; rfl) | simpa using g)); and_intros <;> first | (with_reducible trivial) | assumption | exact nfc | (intro g2; rw [g, g2]; rfl) | (intro g2; assumption) | (simp only [g, Bool.true_and, Bool.and_true, Bool.not_false, Bool.not_true]; assumption) | grind) | (and_intros <;> first | (with_reducible trivial) | omega | assumption | exact nfc | first | exact rfl | exact trivial | exact fitI | exact .inr rfl | exact .inl rfl | exact fun x hx => absurd hx (by omega)) | grind))
    refine rg ctNo_ok ?_
    simp only [go_sem, Nat.reduceLeDiff, Nat.reduceLT, Nat.reduceAdd, Nat.reduceMul, Nat.reduceSub, Nat.reduceEqDiff, Nat.reduceBEq, Int.reduceToNat, reduceCtorEq]
    obtain rfl := Option.some.inj H
    first | rfl | simp only [Bool.and_false, Bool.false_and, Bool.and_true, Bool.true_and]
  · cases hb
/-! hotspot/hotspotlaw41.alive -/
noncomputable def ct26t0 : Ct := tab [(31, pureC body31), (35, edC body35)]
theorem ct26t0_ok : CtOk Try.prog ct26t0 := tab_cons ok31 <| tab_cons ok35 <| tab_nil
theorem ct26t0_31 (l : List AV) (h : List ABlk) : ct26t0 31 l h = pureC body31 l h := rfl
theorem ct26t0_35 (l : List AV) (h : List ABlk) : ct26t0 35 l h = edC body35 l h := rfl
noncomputable def ct26t1 : Ct := tab [(30, edC body30), (31, pureC body31)]
theorem ct26t1_ok : CtOk Try.prog ct26t1 := tab_cons ok30 <| tab_cons ok31 <| tab_nil
theorem ct26t1_30 (l : List AV) (h : List ABlk) : ct26t1 30 l h = edC body30 l h := rfl
theorem ct26t1_31 (l : List AV) (h : List ABlk) : ct26t1 31 l h = pureC body31 l h := rfl
noncomputable def ct26t2 : Ct := tab [(31, pureC body31)]
theorem ct26t2_ok : CtOk Try.prog ct26t2 := tab_cons ok31 <| tab_nil
theorem ct26t2_31 (l : List AV) (h : List ABlk) : ct26t2 31 l h = pureC body31 l h := rfl
noncomputable def ct26t3 : Ct := tab [(20, edC body20)]
theorem ct26t3_ok : CtOk Try.prog ct26t3 := tab_cons ok20 <| tab_nil
theorem ct26t3_20 (l : List AV) (h : List ABlk) : ct26t3 20 l h = edC body20 l h := rfl
noncomputable def ct26t4 : Ct := tab [(25, pureC body25)]
theorem ct26t4_ok : CtOk Try.prog ct26t4 := tab_cons ok25 <| tab_nil
theorem ct26t4_25 (l : List AV) (h : List ABlk) : ct26t4 25 l h = pureC body25 l h := rfl
noncomputable def F26 : Option (Bool) :=
  (F31 5).bind fun r1 => (F35 r1).bind fun r3 => (F31 9).bind fun r5 => (F31 7).bind fun r7 => (F30 (TForward.mk (A6u8.mk r3.1.Own.x0 r3.1.Own.x1 r3.1.Own.x2 r3.1.Own.x3 r3.1.Own.x4 r3.1.Own.x5) r3.1.Seq r3.1.Seen r3.1.Nexts) r5 r7).bind fun r9 => (F31 3).bind fun r11 => (F31 5).bind fun r13 => (F31 1).bind fun r15 => (F31 9).bind fun r17 => (some ([1] : List Int)).bind fun w19 => (F20 (TForward.mk (A6u8.mk r9.1.Own.x0 r9.1.Own.x1 r9.1.Own.x2 r9.1.Own.x3 r9.1.Own.x4 r9.1.Own.x5) r9.1.Seq r9.1.Seen r9.1.Nexts) (TMeshFrame.mk (A6u8.mk r11.x0 r11.x1 r11.x2 r11.x3 r11.x4 r11.x5) (A6u8.mk r13.x0 r13.x1 r13.x2 r13.x3 r13.x4 r13.x5) (A6u8.mk r15.x0 r15.x1 r15.x2 r15.x3 r15.x4 r15.x5) (A6u8.mk r17.x0 r17.x1 r17.x2 r17.x3 r17.x4 r17.x5) (A6u8.mk r15.x0 r15.x1 r15.x2 r15.x3 r15.x4 r15.x5) (A6u8.mk r17.x0 r17.x1 r17.x2 r17.x3 r17.x4 r17.x5) 4 4 w19)).bind fun r21 => (F20 (TForward.mk (A6u8.mk r21.1.Own.x0 r21.1.Own.x1 r21.1.Own.x2 r21.1.Own.x3 r21.1.Own.x4 r21.1.Own.x5) r21.1.Seq r21.1.Seen r21.1.Nexts) (TMeshFrame.mk (A6u8.mk r11.x0 r11.x1 r11.x2 r11.x3 r11.x4 r11.x5) (A6u8.mk r13.x0 r13.x1 r13.x2 r13.x3 r13.x4 r13.x5) (A6u8.mk r15.x0 r15.x1 r15.x2 r15.x3 r15.x4 r15.x5) (A6u8.mk r17.x0 r17.x1 r17.x2 r17.x3 r17.x4 r17.x5) (A6u8.mk r15.x0 r15.x1 r15.x2 r15.x3 r15.x4 r15.x5) (A6u8.mk r17.x0 r17.x1 r17.x2 r17.x3 r17.x4 r17.x5) 4 4 w19)).bind fun r23 => (F31 5).bind fun r25 => (F31 7).bind fun r27 => need (bif ((((bEq r3.2 0) && (bEq r9.2 0)) && (bEq r21.2.2.2 0)) && (bEq r21.2.1 2)) then ((F25 (TMeshFrame.mk (A6u8.mk r21.2.2.1.From.x0 r21.2.2.1.From.x1 r21.2.2.1.From.x2 r21.2.2.1.From.x3 r21.2.2.1.From.x4 r21.2.2.1.From.x5) (A6u8.mk r21.2.2.1.To.x0 r21.2.2.1.To.x1 r21.2.2.1.To.x2 r21.2.2.1.To.x3 r21.2.2.1.To.x4 r21.2.2.1.To.x5) (A6u8.mk r21.2.2.1.Enter.x0 r21.2.2.1.Enter.x1 r21.2.2.1.Enter.x2 r21.2.2.1.Enter.x3 r21.2.2.1.Enter.x4 r21.2.2.1.Enter.x5) (A6u8.mk r21.2.2.1.Leave.x0 r21.2.2.1.Leave.x1 r21.2.2.1.Leave.x2 r21.2.2.1.Leave.x3 r21.2.2.1.Leave.x4 r21.2.2.1.Leave.x5) (A6u8.mk r21.2.2.1.Source.x0 r21.2.2.1.Source.x1 r21.2.2.1.Source.x2 r21.2.2.1.Source.x3 r21.2.2.1.Source.x4 r21.2.2.1.Source.x5) (A6u8.mk r21.2.2.1.Target.x0 r21.2.2.1.Target.x1 r21.2.2.1.Target.x2 r21.2.2.1.Target.x3 r21.2.2.1.Target.x4 r21.2.2.1.Target.x5) r21.2.2.1.Seq r21.2.2.1.Ttl r21.2.2.1.Data) (TMeshFrame.mk (A6u8.mk r25.x0 r25.x1 r25.x2 r25.x3 r25.x4 r25.x5) (A6u8.mk r27.x0 r27.x1 r27.x2 r27.x3 r27.x4 r27.x5) (A6u8.mk r15.x0 r15.x1 r15.x2 r15.x3 r15.x4 r15.x5) (A6u8.mk r17.x0 r17.x1 r17.x2 r17.x3 r17.x4 r17.x5) (A6u8.mk r15.x0 r15.x1 r15.x2 r15.x3 r15.x4 r15.x5) (A6u8.mk r17.x0 r17.x1 r17.x2 r17.x3 r17.x4 r17.x5) 4 3 w19)).isSome) else true) <| some (((((((bEq r3.2 0) && (bEq r9.2 0)) && (bEq r21.2.2.2 0)) && (bEq r21.2.1 2)) && (gt (F25 (TMeshFrame.mk (A6u8.mk r21.2.2.1.From.x0 r21.2.2.1.From.x1 r21.2.2.1.From.x2 r21.2.2.1.From.x3 r21.2.2.1.From.x4 r21.2.2.1.From.x5) (A6u8.mk r21.2.2.1.To.x0 r21.2.2.1.To.x1 r21.2.2.1.To.x2 r21.2.2.1.To.x3 r21.2.2.1.To.x4 r21.2.2.1.To.x5) (A6u8.mk r21.2.2.1.Enter.x0 r21.2.2.1.Enter.x1 r21.2.2.1.Enter.x2 r21.2.2.1.Enter.x3 r21.2.2.1.Enter.x4 r21.2.2.1.Enter.x5) (A6u8.mk r21.2.2.1.Leave.x0 r21.2.2.1.Leave.x1 r21.2.2.1.Leave.x2 r21.2.2.1.Leave.x3 r21.2.2.1.Leave.x4 r21.2.2.1.Leave.x5) (A6u8.mk r21.2.2.1.Source.x0 r21.2.2.1.Source.x1 r21.2.2.1.Source.x2 r21.2.2.1.Source.x3 r21.2.2.1.Source.x4 r21.2.2.1.Source.x5) (A6u8.mk r21.2.2.1.Target.x0 r21.2.2.1.Target.x1 r21.2.2.1.Target.x2 r21.2.2.1.Target.x3 r21.2.2.1.Target.x4 r21.2.2.1.Target.x5) r21.2.2.1.Seq r21.2.2.1.Ttl r21.2.2.1.Data) (TMeshFrame.mk (A6u8.mk r25.x0 r25.x1 r25.x2 r25.x3 r25.x4 r25.x5) (A6u8.mk r27.x0 r27.x1 r27.x2 r27.x3 r27.x4 r27.x5) (A6u8.mk r15.x0 r15.x1 r15.x2 r15.x3 r15.x4 r15.x5) (A6u8.mk r17.x0 r17.x1 r17.x2 r17.x3 r17.x4 r17.x5) (A6u8.mk r15.x0 r15.x1 r15.x2 r15.x3 r15.x4 r15.x5) (A6u8.mk r17.x0 r17.x1 r17.x2 r17.x3 r17.x4 r17.x5) 4 3 w19)))) && (bEq r23.2.2.2 0)) && (bEq r23.2.1 0))
noncomputable def body26 : List AV → AR
  | [] => .pure ((F26).isSome = true) (.bool (gt F26))
  | _ => .fail
set_option maxHeartbeats 4000000 in
set_option maxRecDepth 20000 in
theorem ok26 : FnOk Try.prog 26 (pureC body26) := by
  refine pure_fnM body26 (rs := [.tmp 0]) Try.func26 (by kernel_rfl) rfl rfl ?_
  intro l ob v hb hob
  unfold body26 at hb
  split at hb
  · injection hb with q1 q2; subst q1 q2
    obtain ⟨r, H⟩ := Option.isSome_iff_exists.1 hob
    rw [H, gt_some]
    refine ⟨[], _, (fun E vs F => F), rfl, rfl, ?_⟩
    rw [Try.ntmps26]
    simp only [List.length_cons, List.length_nil, Nat.reduceAdd, Nat.reduceSub, List.replicate_succ, List.replicate_zero, List.cons_append, List.nil_append]
    unfold F26 at H
    try dsimp only at H
    refine sq ctNo_ok ?_
    simp only [go_sem, Nat.reduceLeDiff, Nat.reduceLT, Nat.reduceAdd, Nat.reduceMul, Nat.reduceSub, Nat.reduceEqDiff, Nat.reduceBEq, Int.reduceToNat, reduceCtorEq]
    refine seqM ?_
    obtain ⟨r1, e2, H⟩ := bsi H
    obtain ⟨r3, e4, H⟩ := bsi H
    refine rg ct26t0_ok ?_
    simp only [go_sem, Nat.reduceLeDiff, Nat.reduceLT, Nat.reduceAdd, Nat.reduceMul, Nat.reduceSub, Nat.reduceEqDiff, Nat.reduceBEq, Int.reduceToNat, reduceCtorEq, ct26t0_31, body31, ct26t0_35, body35, e2, e4]
    repeat ((with_reducible refine And.intro ?_ ?_); focus (first | (and_intros <;> first | (with_reducible trivial) | omega | assumption | exact nfc | first | exact rfl | exact trivial | exact fitI | exact .inr rfl | exact .inl rfl | exact fun x hx => absurd hx (by omega)) | grind))
    refine seqM ?_
    obtain ⟨r5, e6, H⟩ := bsi H
    obtain ⟨r7, e8, H⟩ := bsi H
    obtain ⟨r9, e10, H⟩ := bsi H
    refine draw_ruleX [(23, [], [0, 1])] shT_ok ct26t1_ok 2 (by kernel_rfl) (by kernel_rfl) ?_
    intro an han
    simp only [d_nil, d_cons, nxtD, xrD, xoD, roEq, minL, List.append_nil, refsOp, refs, refsL, mask, maskF, place, placeF, okLog, pairOk, hit, inL, slotsF, ren, renL, rnN, nrH, nrB, nrL, nr, dead0, deadS, List.replicate_zero, List.replicate_succ, Nat.sub_self, Nat.add_zero, Nat.zero_add, Nat.reduceSub, Nat.not_lt_zero, Nat.zero_le, Nat.lt_add_one, go_sem, Nat.reduceLeDiff, Nat.reduceLT, Nat.reduceAdd, Nat.reduceMul, Nat.reduceSub, Nat.reduceEqDiff, Nat.reduceBEq, Int.reduceToNat, reduceCtorEq, ct26t1_30, body30, ct26t1_31, body31, e6, e8, e10]
    repeat ((with_reducible refine And.intro ?_ ?_); focus (and_intros <;> first | (with_reducible trivial) | (show anB _ _ _ = true; subst han; kernel_rfl) | (show (anB _ _ _ && _) = true; subst han; kernel_rfl) | omega | assumption | exact nrc | exact nfc | first | exact rfl | exact trivial | exact fitI | exact .inr rfl | exact .inl rfl | exact fun x hx => absurd hx (by omega)))
    refine seqM ?_
    obtain ⟨r11, e12, H⟩ := bsi H
    obtain ⟨r13, e14, H⟩ := bsi H
    obtain ⟨r15, e16, H⟩ := bsi H
    obtain ⟨r17, e18, H⟩ := bsi H
    refine rg ct26t2_ok ?_
    simp only [go_sem, Nat.reduceLeDiff, Nat.reduceLT, Nat.reduceAdd, Nat.reduceMul, Nat.reduceSub, Nat.reduceEqDiff, Nat.reduceBEq, Int.reduceToNat, reduceCtorEq, ct26t2_31, body31, e12, e14, e16, e18]
    repeat ((with_reducible refine And.intro ?_ ?_); focus (first | (and_intros <;> first | (with_reducible trivial) | omega | assumption | exact nfc | first | exact rfl | exact trivial | exact fitI | exact .inr rfl | exact .inl rfl | exact fun x hx => absurd hx (by omega) | (intro x hx; (repeat (first | (and_intros <;> (first | exact rfl | exact trivial | exact fitI | exact .inr rfl | exact .inl rfl | exact fun x hx => absurd hx (by omega))) | (exfalso; omega) | (rcases x with _ | x))); done)) | grind))
    refine seqM ?_
    obtain ⟨w19, hw20, H⟩ := bsi H
    replace hw20 := Option.some.inj hw20
    have lhw20 : w19.length = 1 := by rw [← hw20]; exact (by first | rfl | (simp; done) | (simp; omega))
    refine subF_mean (t2 := (.bool false :: .ptr 2 0 0 0 :: .int .i64 r3.2 :: .int .i64 r9.2 :: .ptr 6 0 0 0 :: tp 9 (.tup [.agg [.int .u8 r3.1.Own.x0, .int .u8 r3.1.Own.x1, .int .u8 r3.1.Own.x2, .int .u8 r3.1.Own.x3, .int .u8 r3.1.Own.x4, .int .u8 r3.1.Own.x5, .int .i64 r3.1.Seq, .sl 0 7 0 r3.1.Seen.length false, .sl 1 12 0 r3.1.Nexts.length false], .int .i64 r3.2] :: .agg [.int .u8 r1.x0, .int .u8 r1.x1, .int .u8 r1.x2, .int .u8 r1.x3, .int .u8 r1.x4, .int .u8 r1.x5] :: .tup [.agg [.int .u8 r3.1.Own.x0, .int .u8 r3.1.Own.x1, .int .u8 r3.1.Own.x2, .int .u8 r3.1.Own.x3, .int .u8 r3.1.Own.x4, .int .u8 r3.1.Own.x5, .int .i64 r3.1.Seq, .sl 0 7 0 r3.1.Seen.length false, .sl 1 12 0 r3.1.Nexts.length false], .int .i64 r3.2] :: .agg [.int .u8 r3.1.Own.x0, .int .u8 r3.1.Own.x1, .int .u8 r3.1.Own.x2, .int .u8 r3.1.Own.x3, .int .u8 r3.1.Own.x4, .int .u8 r3.1.Own.x5, .int .i64 r3.1.Seq, .sl 0 7 0 r3.1.Seen.length false, .sl 1 12 0 r3.1.Nexts.length false] :: .int .i64 r3.2 :: .tup [.agg [.int .u8 r9.1.Own.x0, .int .u8 r9.1.Own.x1, .int .u8 r9.1.Own.x2, .int .u8 r9.1.Own.x3, .int .u8 r9.1.Own.x4, .int .u8 r9.1.Own.x5, .int .i64 r9.1.Seq, .sl 3 7 0 r9.1.Seen.length false, .sl 4 12 0 r9.1.Nexts.length false], .int .i64 r9.2] :: .agg [.int .u8 r3.1.Own.x0, .int .u8 r3.1.Own.x1, .int .u8 r3.1.Own.x2, .int .u8 r3.1.Own.x3, .int .u8 r3.1.Own.x4, .int .u8 r3.1.Own.x5, .int .i64 r3.1.Seq, .sl 0 7 0 r3.1.Seen.length false, .sl 1 12 0 r3.1.Nexts.length false] :: .agg [.int .u8 r5.x0, .int .u8 r5.x1, .int .u8 r5.x2, .int .u8 r5.x3, .int .u8 r5.x4, .int .u8 r5.x5] :: .agg [.int .u8 r7.x0, .int .u8 r7.x1, .int .u8 r7.x2, .int .u8 r7.x3, .int .u8 r7.x4, .int .u8 r7.x5] :: .tup [.agg [.int .u8 r9.1.Own.x0, .int .u8 r9.1.Own.x1, .int .u8 r9.1.Own.x2, .int .u8 r9.1.Own.x3, .int .u8 r9.1.Own.x4, .int .u8 r9.1.Own.x5, .int .i64 r9.1.Seq, .sl 3 7 0 r9.1.Seen.length false, .sl 4 12 0 r9.1.Nexts.length false], .int .i64 r9.2] :: .agg [.int .u8 r9.1.Own.x0, .int .u8 r9.1.Own.x1, .int .u8 r9.1.Own.x2, .int .u8 r9.1.Own.x3, .int .u8 r9.1.Own.x4, .int .u8 r9.1.Own.x5, .int .i64 r9.1.Seq, .sl 3 7 0 r9.1.Seen.length false, .sl 4 12 0 r9.1.Nexts.length false] :: .int .i64 r9.2 :: .agg [.int .u8 r11.x0, .int .u8 r11.x1, .int .u8 r11.x2, .int .u8 r11.x3, .int .u8 r11.x4, .int .u8 r11.x5] :: .agg [.int .u8 r13.x0, .int .u8 r13.x1, .int .u8 r13.x2, .int .u8 r13.x3, .int .u8 r13.x4, .int .u8 r13.x5] :: .agg [.int .u8 r15.x0, .int .u8 r15.x1, .int .u8 r15.x2, .int .u8 r15.x3, .int .u8 r15.x4, .int .u8 r15.x5] :: .agg [.int .u8 r17.x0, .int .u8 r17.x1, .int .u8 r17.x2, .int .u8 r17.x3, .int .u8 r17.x4, .int .u8 r17.x5] :: .agg [.int .u8 r15.x0, .int .u8 r15.x1, .int .u8 r15.x2, .int .u8 r15.x3, .int .u8 r15.x4, .int .u8 r15.x5] :: .agg [.int .u8 r17.x0, .int .u8 r17.x1, .int .u8 r17.x2, .int .u8 r17.x3, .int .u8 r17.x4, .int .u8 r17.x5] :: .sl 5 1 0 w19.length false :: .agg (.int .u8 r11.x0 :: .int .u8 r11.x1 :: .int .u8 r11.x2 :: .int .u8 r11.x3 :: .int .u8 r11.x4 :: .int .u8 r11.x5 :: .int .u8 r13.x0 :: .int .u8 r13.x1 :: .int .u8 r13.x2 :: .int .u8 r13.x3 :: .int .u8 r13.x4 :: .int .u8 r13.x5 :: .int .u8 r15.x0 :: .int .u8 r15.x1 :: .int .u8 r15.x2 :: .int .u8 r15.x3 :: .int .u8 r15.x4 :: .int .u8 r15.x5 :: .int .u8 r17.x0 :: .int .u8 r17.x1 :: .int .u8 r17.x2 :: .int .u8 r17.x3 :: .int .u8 r17.x4 :: .int .u8 r17.x5 :: .int .u8 r15.x0 :: .int .u8 r15.x1 :: .int .u8 r15.x2 :: .int .u8 r15.x3 :: .int .u8 r15.x4 :: .int .u8 r15.x5 :: .int .u8 r17.x0 :: .int .u8 r17.x1 :: .int .u8 r17.x2 :: .int .u8 r17.x3 :: .int .u8 r17.x4 :: .int .u8 r17.x5 :: .int .i64 4 :: .int .i64 4 :: .sl 5 1 0 w19.length false :: []) :: tp 49 []))) (h2 := [.row 59 7 r3.1.Seen.length (enR c_TForwardMark r3.1.Seen), .row 90 12 r3.1.Nexts.length (enR c_TForwardHop r3.1.Nexts), .lit 31 [.int .u8 r9.1.Own.x0, .int .u8 r9.1.Own.x1, .int .u8 r9.1.Own.x2, .int .u8 r9.1.Own.x3, .int .u8 r9.1.Own.x4, .int .u8 r9.1.Own.x5, .int .i64 r9.1.Seq, .sl 3 7 0 r9.1.Seen.length false, .sl 4 12 0 r9.1.Nexts.length false], .row 59 7 r9.1.Seen.length (enR c_TForwardMark r9.1.Seen), .row 90 12 r9.1.Nexts.length (enR c_TForwardHop r9.1.Nexts), .row 5 1 w19.length (enR c_u8 w19), .lit 26 (.int .u8 r11.x0 :: .int .u8 r11.x1 :: .int .u8 r11.x2 :: .int .u8 r11.x3 :: .int .u8 r11.x4 :: .int .u8 r11.x5 :: .int .u8 r13.x0 :: .int .u8 r13.x1 :: .int .u8 r13.x2 :: .int .u8 r13.x3 :: .int .u8 r13.x4 :: .int .u8 r13.x5 :: .int .u8 r15.x0 :: .int .u8 r15.x1 :: .int .u8 r15.x2 :: .int .u8 r15.x3 :: .int .u8 r15.x4 :: .int .u8 r15.x5 :: .int .u8 r17.x0 :: .int .u8 r17.x1 :: .int .u8 r17.x2 :: .int .u8 r17.x3 :: .int .u8 r17.x4 :: .int .u8 r17.x5 :: .int .u8 r15.x0 :: .int .u8 r15.x1 :: .int .u8 r15.x2 :: .int .u8 r15.x3 :: .int .u8 r15.x4 :: .int .u8 r15.x5 :: .int .u8 r17.x0 :: .int .u8 r17.x1 :: .int .u8 r17.x2 :: .int .u8 r17.x3 :: .int .u8 r17.x4 :: .int .u8 r17.x5 :: .int .i64 4 :: .int .i64 4 :: .sl 5 1 0 w19.length false :: [])]) ?_ ?_
    · refine SubF_of ⟨[some 0, some 1, some 2, some 3, some 4, some 5, some 6], ?_, ?_, by rfl, by rfl⟩
      · simp [CvL, Cv, getM, tp, lhw20]
      · exact ⟨CvB_row nr_TForwardMark rfl (fun _ _ _ _ => rfl), CvB_row nr_TForwardHop rfl (fun _ _ _ _ => rfl), (by simp [CvB, CvL, Cv, blkAt, geth, getM, lhw20]), CvB_row nr_TForwardMark rfl (fun _ _ _ _ => rfl), CvB_row nr_TForwardHop rfl (fun _ _ _ _ => rfl), CvB_row nr_u8 lhw20 (hw20 ▸ (lit_row (f := c_u8) [1] (fun _ _ => rfl) rfl)), (by simp [CvB, CvL, Cv, blkAt, geth, getM, lhw20]), trivial⟩
    simp only [tp]
    obtain ⟨r21, e22, H⟩ := bsi H
    refine rg ct26t3_ok ?_
    simp only [go_sem, Nat.reduceLeDiff, Nat.reduceLT, Nat.reduceAdd, Nat.reduceMul, Nat.reduceSub, Nat.reduceEqDiff, Nat.reduceBEq, Int.reduceToNat, reduceCtorEq, ct26t3_20, body20, e22]
    repeat ((with_reducible refine And.intro ?_ ?_); focus (first | (and_intros <;> first | (with_reducible trivial) | omega | assumption | exact nfc | first | exact rfl | exact trivial | exact fitI | exact .inr rfl | exact .inl rfl | exact fun x hx => absurd hx (by omega)) | grind))
    refine seqM ?_
    obtain ⟨r23, e24, H⟩ := bsi H
    refine rg ct26t3_ok ?_
    simp only [go_sem, Nat.reduceLeDiff, Nat.reduceLT, Nat.reduceAdd, Nat.reduceMul, Nat.reduceSub, Nat.reduceEqDiff, Nat.reduceBEq, Int.reduceToNat, reduceCtorEq, ct26t3_20, body20, e24]
    repeat ((with_reducible refine And.intro ?_ ?_); focus (first | (and_intros <;> first | (with_reducible trivial) | omega | assumption | exact nfc | first | exact rfl | exact trivial | exact fitI | exact .inr rfl | exact .inl rfl | exact fun x hx => absurd hx (by omega)) | grind))
    refine sq ctNo_ok ?_
    simp only [go_sem, Nat.reduceLeDiff, Nat.reduceLT, Nat.reduceAdd, Nat.reduceMul, Nat.reduceSub, Nat.reduceEqDiff, Nat.reduceBEq, Int.reduceToNat, reduceCtorEq]
    repeat ((with_reducible refine And.intro ?_ ?_); focus (first | (with_reducible trivial) | omega | grind))
    refine seqM ?_
    obtain ⟨r25, e26, H⟩ := bsi H
    obtain ⟨r27, e28, H⟩ := bsi H
    refine rg ct26t2_ok ?_
    simp only [go_sem, Nat.reduceLeDiff, Nat.reduceLT, Nat.reduceAdd, Nat.reduceMul, Nat.reduceSub, Nat.reduceEqDiff, Nat.reduceBEq, Int.reduceToNat, reduceCtorEq, ct26t2_31, body31, e26, e28]
    repeat ((with_reducible refine And.intro ?_ ?_); focus (first | (and_intros <;> first | (with_reducible trivial) | omega | assumption | exact nfc | first | exact rfl | exact trivial | exact fitI | exact .inr rfl | exact .inl rfl | exact fun x hx => absurd hx (by omega)) | grind))
    refine seqM ?_
    obtain ⟨f29, H⟩ := need_some.1 H
    replace f29 := g_iff.1 f29
    refine rg ct26t4_ok ?_
    simp only [go_sem, Nat.reduceLeDiff, Nat.reduceLT, Nat.reduceAdd, Nat.reduceMul, Nat.reduceSub, Nat.reduceEqDiff, Nat.reduceBEq, Int.reduceToNat, reduceCtorEq, ct26t4_25, body25]
    repeat ((with_reducible refine And.intro ?_ ?_); focus (first | (with_reducible trivial) | omega | exact f29 | (intro g; have q := f29 (by first | exact g | (rw [g]; rfl) | simpa using g); first | exact q | exact ⟨q.1, q.2.1⟩ | exact q.2.2 | omega | exact ⟨g, q⟩ | exact ⟨trivial, q⟩ | exact ⟨g, q.1, q.2.1⟩ | exact ⟨g, q.2.2⟩) | (intro g; (try have q0 := f29 (by first | exact g | (rw [g]; rfl) | simpa using g)); and_intros <;> first | (with_reducible trivial) | assumption | exact nfc | (intro g2; rw [g, g2]; rfl) | (intro g2; assumption) | (simp only [g, Bool.true_and, Bool.and_true, Bool.not_false, Bool.not_true]; assumption) | grind) | (and_intros <;> first | (with_reducible trivial) | omega | assumption | exact nfc | first | exact rfl | exact trivial | exact fitI | exact .inr rfl | exact .inl rfl | exact fun x hx => absurd hx (by omega)) | grind))
    refine rg ctNo_ok ?_
    simp only [go_sem, Nat.reduceLeDiff, Nat.reduceLT, Nat.reduceAdd, Nat.reduceMul, Nat.reduceSub, Nat.reduceEqDiff, Nat.reduceBEq, Int.reduceToNat, reduceCtorEq]
    obtain rfl := Option.some.inj H
    first | rfl | simp only [Bool.and_false, Bool.false_and, Bool.and_true, Bool.true_and]
  · cases hb
/-! hotspot/hotspotlaw41.ForwardNames -/
noncomputable def ct9t0 : Ct := tab [(34, pureC body34), (35, edC body35)]
theorem ct9t0_ok : CtOk Try.prog ct9t0 := tab_cons ok34 <| tab_cons ok35 <| tab_nil
theorem ct9t0_34 (l : List AV) (h : List ABlk) : ct9t0 34 l h = pureC body34 l h := rfl
theorem ct9t0_35 (l : List AV) (h : List ABlk) : ct9t0 35 l h = edC body35 l h := rfl
noncomputable def ct9t1 : Ct := tab [(31, pureC body31), (35, edC body35)]
theorem ct9t1_ok : CtOk Try.prog ct9t1 := tab_cons ok31 <| tab_cons ok35 <| tab_nil
theorem ct9t1_31 (l : List AV) (h : List ABlk) : ct9t1 31 l h = pureC body31 l h := rfl
theorem ct9t1_35 (l : List AV) (h : List ABlk) : ct9t1 35 l h = edC body35 l h := rfl
noncomputable def ct9t2 : Ct := tab [(30, edC body30), (31, pureC body31)]
theorem ct9t2_ok : CtOk Try.prog ct9t2 := tab_cons ok30 <| tab_cons ok31 <| tab_nil
theorem ct9t2_30 (l : List AV) (h : List ABlk) : ct9t2 30 l h = edC body30 l h := rfl
theorem ct9t2_31 (l : List AV) (h : List ABlk) : ct9t2 31 l h = pureC body31 l h := rfl
noncomputable def ct9t3 : Ct := tab [(30, edC body30), (31, pureC body31), (34, pureC body34)]
theorem ct9t3_ok : CtOk Try.prog ct9t3 := tab_cons ok30 <| tab_cons ok31 <| tab_cons ok34 <| tab_nil
theorem ct9t3_30 (l : List AV) (h : List ABlk) : ct9t3 30 l h = edC body30 l h := rfl
theorem ct9t3_31 (l : List AV) (h : List ABlk) : ct9t3 31 l h = pureC body31 l h := rfl
theorem ct9t3_34 (l : List AV) (h : List ABlk) : ct9t3 34 l h = pureC body34 l h := rfl
noncomputable def ct9t4 : Ct := tab [(31, pureC body31), (36, edC body36)]
theorem ct9t4_ok : CtOk Try.prog ct9t4 := tab_cons ok31 <| tab_cons ok36 <| tab_nil
theorem ct9t4_31 (l : List AV) (h : List ABlk) : ct9t4 31 l h = pureC body31 l h := rfl
theorem ct9t4_36 (l : List AV) (h : List ABlk) : ct9t4 36 l h = edC body36 l h := rfl
noncomputable def ct9t5 : Ct := tab [(31, pureC body31), (32, edC body32)]
theorem ct9t5_ok : CtOk Try.prog ct9t5 := tab_cons ok31 <| tab_cons ok32 <| tab_nil
theorem ct9t5_31 (l : List AV) (h : List ABlk) : ct9t5 31 l h = pureC body31 l h := rfl
theorem ct9t5_32 (l : List AV) (h : List ABlk) : ct9t5 32 l h = edC body32 l h := rfl
noncomputable def ct9t6 : Ct := tab [(31, pureC body31), (32, edC body32), (34, pureC body34)]
theorem ct9t6_ok : CtOk Try.prog ct9t6 := tab_cons ok31 <| tab_cons ok32 <| tab_cons ok34 <| tab_nil
theorem ct9t6_31 (l : List AV) (h : List ABlk) : ct9t6 31 l h = pureC body31 l h := rfl
theorem ct9t6_32 (l : List AV) (h : List ABlk) : ct9t6 32 l h = edC body32 l h := rfl
theorem ct9t6_34 (l : List AV) (h : List ABlk) : ct9t6 34 l h = pureC body34 l h := rfl
noncomputable def ct9t7 : Ct := tab [(34, pureC body34)]
theorem ct9t7_ok : CtOk Try.prog ct9t7 := tab_cons ok34 <| tab_nil
theorem ct9t7_34 (l : List AV) (h : List ABlk) : ct9t7 34 l h = pureC body34 l h := rfl
noncomputable def ct9t8 : Ct := tab [(20, edC body20)]
theorem ct9t8_ok : CtOk Try.prog ct9t8 := tab_cons ok20 <| tab_nil
theorem ct9t8_20 (l : List AV) (h : List ABlk) : ct9t8 20 l h = edC body20 l h := rfl
noncomputable def ct9t9 : Ct := tab [(31, pureC body31)]
theorem ct9t9_ok : CtOk Try.prog ct9t9 := tab_cons ok31 <| tab_nil
theorem ct9t9_31 (l : List AV) (h : List ABlk) : ct9t9 31 l h = pureC body31 l h := rfl
noncomputable def ct9t10 : Ct := tab [(12, edC body12)]
theorem ct9t10_ok : CtOk Try.prog ct9t10 := tab_cons ok12 <| tab_nil
theorem ct9t10_12 (l : List AV) (h : List ABlk) : ct9t10 12 l h = edC body12 l h := rfl
noncomputable def ct9t11 : Ct := tab [(14, edC body14)]
theorem ct9t11_ok : CtOk Try.prog ct9t11 := tab_cons ok14 <| tab_nil
theorem ct9t11_14 (l : List AV) (h : List ABlk) : ct9t11 14 l h = edC body14 l h := rfl
noncomputable def ct9t12 : Ct := tab [(31, pureC body31), (34, pureC body34)]
theorem ct9t12_ok : CtOk Try.prog ct9t12 := tab_cons ok31 <| tab_cons ok34 <| tab_nil
theorem ct9t12_31 (l : List AV) (h : List ABlk) : ct9t12 31 l h = pureC body31 l h := rfl
theorem ct9t12_34 (l : List AV) (h : List ABlk) : ct9t12 34 l h = pureC body34 l h := rfl
noncomputable def ct9t13 : Ct := tab [(26, pureC body26)]
theorem ct9t13_ok : CtOk Try.prog ct9t13 := tab_cons ok26 <| tab_nil
theorem ct9t13_26 (l : List AV) (h : List ABlk) : ct9t13 26 l h = pureC body26 l h := rfl
noncomputable def F9 : Option (Bool) :=
  (F34).bind fun r1 => (F35 r1).bind fun r3 => (F31 1).bind fun r5 => (F35 r5).bind fun r7 => (F31 1).bind fun r9 => (F31 2).bind fun r11 => (F30 (TForward.mk (A6u8.mk r7.1.Own.x0 r7.1.Own.x1 r7.1.Own.x2 r7.1.Own.x3 r7.1.Own.x4 r7.1.Own.x5) r7.1.Seq r7.1.Seen r7.1.Nexts) r9 r11).bind fun r13 => (F34).bind fun r15 => (F31 2).bind fun r17 => (F30 (TForward.mk (A6u8.mk r7.1.Own.x0 r7.1.Own.x1 r7.1.Own.x2 r7.1.Own.x3 r7.1.Own.x4 r7.1.Own.x5) r7.1.Seq r7.1.Seen r7.1.Nexts) r15 r17).bind fun r19 => (F31 2).bind fun r21 => (F36 (TForward.mk (A6u8.mk r7.1.Own.x0 r7.1.Own.x1 r7.1.Own.x2 r7.1.Own.x3 r7.1.Own.x4 r7.1.Own.x5) r7.1.Seq r7.1.Seen r7.1.Nexts) r21).bind fun r23 => (F31 2).bind fun r25 => (F31 1).bind fun r27 => (F32 (TForward.mk (A6u8.mk r7.1.Own.x0 r7.1.Own.x1 r7.1.Own.x2 r7.1.Own.x3 r7.1.Own.x4 r7.1.Own.x5) r7.1.Seq r7.1.Seen r7.1.Nexts) r25 r27 r25 []).bind fun r29 => (F31 1).bind fun r31 => (F31 2).bind fun r33 => (F32 (TForward.mk (A6u8.mk r7.1.Own.x0 r7.1.Own.x1 r7.1.Own.x2 r7.1.Own.x3 r7.1.Own.x4 r7.1.Own.x5) r7.1.Seq r7.1.Seen r7.1.Nexts) r31 r31 r33 []).bind fun r35 => (F34).bind fun r37 => (F31 1).bind fun r39 => (F31 2).bind fun r41 => need (mkb 1 2265 2265) <| (F32 (TForward.mk (A6u8.mk r7.1.Own.x0 r7.1.Own.x1 r7.1.Own.x2 r7.1.Own.x3 r7.1.Own.x4 r7.1.Own.x5) r7.1.Seq r7.1.Seen r7.1.Nexts) r37 r39 r41 (List.replicate 2265 (0 : Int))).bind fun r44 => (some (List.replicate 2265 (0 : Int))).bind fun w46 => (F34).bind fun r48 => (F31 1).bind fun r50 => (F32 (TForward.mk (A6u8.mk r7.1.Own.x0 r7.1.Own.x1 r7.1.Own.x2 r7.1.Own.x3 r7.1.Own.x4 r7.1.Own.x5) r7.1.Seq r7.1.Seen r7.1.Nexts) r48 r50 r48 [5]).bind fun r52 => need (bif (!(((!bEq r52.2.2 0) || (!bEq r52.1.Seq 1)) || (!bEq (r52.1.Seen.length : Nat) 1))) then ((F34).isSome) else true) <| bif (((((!bEq r52.2.2 0) || (!bEq r52.1.Seq 1)) || (!bEq (r52.1.Seen.length : Nat) 1)) || (!(bEq r52.2.1.To.x0 ((gt (F34)).x0) && (bEq r52.2.1.To.x1 ((gt (F34)).x1) && (bEq r52.2.1.To.x2 ((gt (F34)).x2) && (bEq r52.2.1.To.x3 ((gt (F34)).x3) && (bEq r52.2.1.To.x4 ((gt (F34)).x4) && (bEq r52.2.1.To.x5 ((gt (F34)).x5))))))))) || (!bEq r52.2.1.Ttl 31)) then (some false) else ((F31 2).bind fun r55 => (F35 r55).bind fun r57 => (F20 (TForward.mk (A6u8.mk r57.1.Own.x0 r57.1.Own.x1 r57.1.Own.x2 r57.1.Own.x3 r57.1.Own.x4 r57.1.Own.x5) r57.1.Seq r57.1.Seen r57.1.Nexts) (TMeshFrame.mk (A6u8.mk r52.2.1.From.x0 r52.2.1.From.x1 r52.2.1.From.x2 r52.2.1.From.x3 r52.2.1.From.x4 r52.2.1.From.x5) (A6u8.mk r52.2.1.To.x0 r52.2.1.To.x1 r52.2.1.To.x2 r52.2.1.To.x3 r52.2.1.To.x4 r52.2.1.To.x5) (A6u8.mk r52.2.1.Enter.x0 r52.2.1.Enter.x1 r52.2.1.Enter.x2 r52.2.1.Enter.x3 r52.2.1.Enter.x4 r52.2.1.Enter.x5) (A6u8.mk r52.2.1.Leave.x0 r52.2.1.Leave.x1 r52.2.1.Leave.x2 r52.2.1.Leave.x3 r52.2.1.Leave.x4 r52.2.1.Leave.x5) (A6u8.mk r52.2.1.Source.x0 r52.2.1.Source.x1 r52.2.1.Source.x2 r52.2.1.Source.x3 r52.2.1.Source.x4 r52.2.1.Source.x5) (A6u8.mk r52.2.1.Target.x0 r52.2.1.Target.x1 r52.2.1.Target.x2 r52.2.1.Target.x3 r52.2.1.Target.x4 r52.2.1.Target.x5) r52.2.1.Seq r52.2.1.Ttl r52.2.1.Data)).bind fun r59 => (F20 (TForward.mk (A6u8.mk r52.1.Own.x0 r52.1.Own.x1 r52.1.Own.x2 r52.1.Own.x3 r52.1.Own.x4 r52.1.Own.x5) r52.1.Seq r52.1.Seen r52.1.Nexts) (TMeshFrame.mk (A6u8.mk r59.2.2.1.From.x0 r59.2.2.1.From.x1 r59.2.2.1.From.x2 r59.2.2.1.From.x3 r59.2.2.1.From.x4 r59.2.2.1.From.x5) (A6u8.mk r59.2.2.1.To.x0 r59.2.2.1.To.x1 r59.2.2.1.To.x2 r59.2.2.1.To.x3 r59.2.2.1.To.x4 r59.2.2.1.To.x5) (A6u8.mk r59.2.2.1.Enter.x0 r59.2.2.1.Enter.x1 r59.2.2.1.Enter.x2 r59.2.2.1.Enter.x3 r59.2.2.1.Enter.x4 r59.2.2.1.Enter.x5) (A6u8.mk r59.2.2.1.Leave.x0 r59.2.2.1.Leave.x1 r59.2.2.1.Leave.x2 r59.2.2.1.Leave.x3 r59.2.2.1.Leave.x4 r59.2.2.1.Leave.x5) (A6u8.mk r59.2.2.1.Source.x0 r59.2.2.1.Source.x1 r59.2.2.1.Source.x2 r59.2.2.1.Source.x3 r59.2.2.1.Source.x4 r59.2.2.1.Source.x5) (A6u8.mk r59.2.2.1.Target.x0 r59.2.2.1.Target.x1 r59.2.2.1.Target.x2 r59.2.2.1.Target.x3 r59.2.2.1.Target.x4 r59.2.2.1.Target.x5) r59.2.2.1.Seq r59.2.2.1.Ttl r59.2.2.1.Data)).bind fun r61 => (F20 (TForward.mk (A6u8.mk r57.1.Own.x0 r57.1.Own.x1 r57.1.Own.x2 r57.1.Own.x3 r57.1.Own.x4 r57.1.Own.x5) r57.1.Seq r57.1.Seen r57.1.Nexts) (TMeshFrame.mk (A6u8.mk r52.2.1.From.x0 r52.2.1.From.x1 r52.2.1.From.x2 r52.2.1.From.x3 r52.2.1.From.x4 r52.2.1.From.x5) (A6u8.mk r52.2.1.To.x0 r52.2.1.To.x1 r52.2.1.To.x2 r52.2.1.To.x3 r52.2.1.To.x4 r52.2.1.To.x5) (A6u8.mk r52.2.1.Enter.x0 r52.2.1.Enter.x1 r52.2.1.Enter.x2 r52.2.1.Enter.x3 r52.2.1.Enter.x4 r52.2.1.Enter.x5) (A6u8.mk r52.2.1.Leave.x0 r52.2.1.Leave.x1 r52.2.1.Leave.x2 r52.2.1.Leave.x3 r52.2.1.Leave.x4 r52.2.1.Leave.x5) (A6u8.mk r52.2.1.Source.x0 r52.2.1.Source.x1 r52.2.1.Source.x2 r52.2.1.Source.x3 r52.2.1.Source.x4 r52.2.1.Source.x5) (A6u8.mk r52.2.1.Target.x0 r52.2.1.Target.x1 r52.2.1.Target.x2 r52.2.1.Target.x3 r52.2.1.Target.x4 r52.2.1.Target.x5) r52.2.1.Seq 1 r52.2.1.Data)).bind fun r63 => (F31 1).bind fun r65 => (F31 2).bind fun r67 => (F31 3).bind fun r69 => (F20 (TForward.mk (A6u8.mk r57.1.Own.x0 r57.1.Own.x1 r57.1.Own.x2 r57.1.Own.x3 r57.1.Own.x4 r57.1.Own.x5) r57.1.Seq r57.1.Seen r57.1.Nexts) (TMeshFrame.mk (A6u8.mk r65.x0 r65.x1 r65.x2 r65.x3 r65.x4 r65.x5) (A6u8.mk r67.x0 r67.x1 r67.x2 r67.x3 r67.x4 r67.x5) (A6u8.mk r65.x0 r65.x1 r65.x2 r65.x3 r65.x4 r65.x5) (A6u8.mk r69.x0 r69.x1 r69.x2 r69.x3 r69.x4 r69.x5) (A6u8.mk r65.x0 r65.x1 r65.x2 r65.x3 r65.x4 r65.x5) (A6u8.mk r69.x0 r69.x1 r69.x2 r69.x3 r69.x4 r69.x5) 0 2 [])).bind fun r71 => (F20 (TForward.mk (A6u8.mk r57.1.Own.x0 r57.1.Own.x1 r57.1.Own.x2 r57.1.Own.x3 r57.1.Own.x4 r57.1.Own.x5) r57.1.Seq r57.1.Seen r57.1.Nexts) (TMeshFrame.mk (A6u8.mk r65.x0 r65.x1 r65.x2 r65.x3 r65.x4 r65.x5) (A6u8.mk r67.x0 r67.x1 r67.x2 r67.x3 r67.x4 r67.x5) (A6u8.mk r65.x0 r65.x1 r65.x2 r65.x3 r65.x4 r65.x5) (A6u8.mk r69.x0 r69.x1 r69.x2 r69.x3 r69.x4 r69.x5) (A6u8.mk r65.x0 r65.x1 r65.x2 r65.x3 r65.x4 r65.x5) (A6u8.mk r69.x0 r69.x1 r69.x2 r69.x3 r69.x4 r69.x5) 0 1 [])).bind fun r73 => (F31 4).bind fun r75 => (F20 (TForward.mk (A6u8.mk r57.1.Own.x0 r57.1.Own.x1 r57.1.Own.x2 r57.1.Own.x3 r57.1.Own.x4 r57.1.Own.x5) r57.1.Seq r57.1.Seen r57.1.Nexts) (TMeshFrame.mk (A6u8.mk r65.x0 r65.x1 r65.x2 r65.x3 r65.x4 r65.x5) (A6u8.mk r75.x0 r75.x1 r75.x2 r75.x3 r75.x4 r75.x5) (A6u8.mk r65.x0 r65.x1 r65.x2 r65.x3 r65.x4 r65.x5) (A6u8.mk r69.x0 r69.x1 r69.x2 r69.x3 r69.x4 r69.x5) (A6u8.mk r65.x0 r65.x1 r65.x2 r65.x3 r65.x4 r65.x5) (A6u8.mk r69.x0 r69.x1 r69.x2 r69.x3 r69.x4 r69.x5) 0 5 [])).bind fun r77 => (F12 (TMeshFrame.mk (A6u8.mk r52.2.1.From.x0 r52.2.1.From.x1 r52.2.1.From.x2 r52.2.1.From.x3 r52.2.1.From.x4 r52.2.1.From.x5) (A6u8.mk r52.2.1.To.x0 r52.2.1.To.x1 r52.2.1.To.x2 r52.2.1.To.x3 r52.2.1.To.x4 r52.2.1.To.x5) (A6u8.mk r52.2.1.Enter.x0 r52.2.1.Enter.x1 r52.2.1.Enter.x2 r52.2.1.Enter.x3 r52.2.1.Enter.x4 r52.2.1.Enter.x5) (A6u8.mk r52.2.1.Leave.x0 r52.2.1.Leave.x1 r52.2.1.Leave.x2 r52.2.1.Leave.x3 r52.2.1.Leave.x4 r52.2.1.Leave.x5) (A6u8.mk r52.2.1.Source.x0 r52.2.1.Source.x1 r52.2.1.Source.x2 r52.2.1.Source.x3 r52.2.1.Source.x4 r52.2.1.Source.x5) (A6u8.mk r52.2.1.Target.x0 r52.2.1.Target.x1 r52.2.1.Target.x2 r52.2.1.Target.x3 r52.2.1.Target.x4 r52.2.1.Target.x5) r52.2.1.Seq r52.2.1.Ttl r52.2.1.Data)).bind fun r79 => (F12 (TMeshFrame.mk (A6u8.mk r59.2.2.1.From.x0 r59.2.2.1.From.x1 r59.2.2.1.From.x2 r59.2.2.1.From.x3 r59.2.2.1.From.x4 r59.2.2.1.From.x5) (A6u8.mk r59.2.2.1.To.x0 r59.2.2.1.To.x1 r59.2.2.1.To.x2 r59.2.2.1.To.x3 r59.2.2.1.To.x4 r59.2.2.1.To.x5) (A6u8.mk r59.2.2.1.Enter.x0 r59.2.2.1.Enter.x1 r59.2.2.1.Enter.x2 r59.2.2.1.Enter.x3 r59.2.2.1.Enter.x4 r59.2.2.1.Enter.x5) (A6u8.mk r59.2.2.1.Leave.x0 r59.2.2.1.Leave.x1 r59.2.2.1.Leave.x2 r59.2.2.1.Leave.x3 r59.2.2.1.Leave.x4 r59.2.2.1.Leave.x5) (A6u8.mk r59.2.2.1.Source.x0 r59.2.2.1.Source.x1 r59.2.2.1.Source.x2 r59.2.2.1.Source.x3 r59.2.2.1.Source.x4 r59.2.2.1.Source.x5) (A6u8.mk r59.2.2.1.Target.x0 r59.2.2.1.Target.x1 r59.2.2.1.Target.x2 r59.2.2.1.Target.x3 r59.2.2.1.Target.x4 r59.2.2.1.Target.x5) r59.2.2.1.Seq r59.2.2.1.Ttl r59.2.2.1.Data)).bind fun r81 => bif ((!bEq r79.2 0) || (!bEq (r79.1.length : Nat) 29)) then (some false) else (need (slb 0 27 r79.1.length) <| (F14 (deR g_u8 27 (enR c_u8 r79.1))).bind fun r84 => need (bif (((bEq r59.2.2.2 0) && (bEq r59.2.1 3)) && (bEq r59.2.2.1.Ttl 30)) then ((F31 2).isSome) else true) <| need (bif ((((bEq r59.2.2.2 0) && (bEq r59.2.1 3)) && (bEq r59.2.2.1.Ttl 30)) && (bEq r59.2.2.1.From.x0 ((gt (F31 2)).x0) && (bEq r59.2.2.1.From.x1 ((gt (F31 2)).x1) && (bEq r59.2.2.1.From.x2 ((gt (F31 2)).x2) && (bEq r59.2.2.1.From.x3 ((gt (F31 2)).x3) && (bEq r59.2.2.1.From.x4 ((gt (F31 2)).x4) && (bEq r59.2.2.1.From.x5 ((gt (F31 2)).x5)))))))) then ((F34).isSome) else true) <| (F26).bind fun r88 => need (bif ((r88 && ((((((((bEq r3.2 2) && (bEq r7.2 0)) && (bEq r13.2 2)) && (bEq r19.2 2)) && (bEq r23.2 6)) && (bEq r29.2.2 6)) && (bEq r35.2.2 2)) && (bEq r44.2.2 4))) && (((((((((((((((((bEq r59.2.2.2 0) && (bEq r59.2.1 3)) && (bEq r59.2.2.1.Ttl 30)) && (bEq r59.2.2.1.From.x0 ((gt (F31 2)).x0) && (bEq r59.2.2.1.From.x1 ((gt (F31 2)).x1) && (bEq r59.2.2.1.From.x2 ((gt (F31 2)).x2) && (bEq r59.2.2.1.From.x3 ((gt (F31 2)).x3) && (bEq r59.2.2.1.From.x4 ((gt (F31 2)).x4) && (bEq r59.2.2.1.From.x5 ((gt (F31 2)).x5)))))))) && (bEq r59.2.2.1.To.x0 ((gt (F34)).x0) && (bEq r59.2.2.1.To.x1 ((gt (F34)).x1) && (bEq r59.2.2.1.To.x2 ((gt (F34)).x2) && (bEq r59.2.2.1.To.x3 ((gt (F34)).x3) && (bEq r59.2.2.1.To.x4 ((gt (F34)).x4) && (bEq r59.2.2.1.To.x5 ((gt (F34)).x5)))))))) && (bEq (r59.1.Seen.length : Nat) 1)) && (bEq r61.2.2.2 0)) && (bEq r61.2.1 0)) && (bEq r63.2.2.2 0)) && (bEq r63.2.1 1)) && (bEq r71.2.2.2 0)) && (bEq r71.2.1 4)) && (bEq r71.2.2.1.Ttl 2)) && (bEq r73.2.2.2 0)) && (bEq r73.2.1 0)) && (bEq r77.2.2.2 0)) && (bEq r77.2.1 0))) then inb 0 r79.1.length else true) <| some ((((((r88 && ((((((((bEq r3.2 2) && (bEq r7.2 0)) && (bEq r13.2 2)) && (bEq r19.2 2)) && (bEq r23.2 6)) && (bEq r29.2.2 6)) && (bEq r35.2.2 2)) && (bEq r44.2.2 4))) && (((((((((((((((((bEq r59.2.2.2 0) && (bEq r59.2.1 3)) && (bEq r59.2.2.1.Ttl 30)) && (bEq r59.2.2.1.From.x0 ((gt (F31 2)).x0) && (bEq r59.2.2.1.From.x1 ((gt (F31 2)).x1) && (bEq r59.2.2.1.From.x2 ((gt (F31 2)).x2) && (bEq r59.2.2.1.From.x3 ((gt (F31 2)).x3) && (bEq r59.2.2.1.From.x4 ((gt (F31 2)).x4) && (bEq r59.2.2.1.From.x5 ((gt (F31 2)).x5)))))))) && (bEq r59.2.2.1.To.x0 ((gt (F34)).x0) && (bEq r59.2.2.1.To.x1 ((gt (F34)).x1) && (bEq r59.2.2.1.To.x2 ((gt (F34)).x2) && (bEq r59.2.2.1.To.x3 ((gt (F34)).x3) && (bEq r59.2.2.1.To.x4 ((gt (F34)).x4) && (bEq r59.2.2.1.To.x5 ((gt (F34)).x5)))))))) && (bEq (r59.1.Seen.length : Nat) 1)) && (bEq r61.2.2.2 0)) && (bEq r61.2.1 0)) && (bEq r63.2.2.2 0)) && (bEq r63.2.1 1)) && (bEq r71.2.2.2 0)) && (bEq r71.2.1 4)) && (bEq r71.2.2.1.Ttl 2)) && (bEq r73.2.2.2 0)) && (bEq r73.2.1 0)) && (bEq r77.2.2.2 0)) && (bEq r77.2.1 0))) && (bEq (gd r79.1 0) 0)) && (bEq r81.2 0)) && (bEq (r81.1.length : Nat) 29)) && (bEq r84.2 10))))
noncomputable def body9 : List AV → AR
  | [] => .pure ((F9).isSome = true) (.bool (gt F9))
  | _ => .fail
set_option maxHeartbeats 4000000 in
set_option maxRecDepth 20000 in
theorem ok9 : FnOk Try.prog 9 (pureC body9) := by
  refine pure_fnM body9 (rs := [.tmp 0]) Try.func9 (by kernel_rfl) rfl rfl ?_
  intro l ob v hb hob
  unfold body9 at hb
  split at hb
  · injection hb with q1 q2; subst q1 q2
    obtain ⟨r, H⟩ := Option.isSome_iff_exists.1 hob
    rw [H, gt_some]
    refine ⟨[], _, (fun E vs F => F), rfl, rfl, ?_⟩
    rw [Try.ntmps9]
    simp only [List.length_cons, List.length_nil, Nat.reduceAdd, Nat.reduceSub, List.replicate_succ, List.replicate_zero, List.cons_append, List.nil_append]
    unfold F9 at H
    try dsimp only at H
    refine sq ctNo_ok ?_
    simp only [go_sem, Nat.reduceLeDiff, Nat.reduceLT, Nat.reduceAdd, Nat.reduceMul, Nat.reduceSub, Nat.reduceEqDiff, Nat.reduceBEq, Int.reduceToNat, reduceCtorEq]
    refine seqM ?_
    obtain ⟨r1, e2, H⟩ := bsi H
    obtain ⟨r3, e4, H⟩ := bsi H
    refine rg ct9t0_ok ?_
    simp only [go_sem, Nat.reduceLeDiff, Nat.reduceLT, Nat.reduceAdd, Nat.reduceMul, Nat.reduceSub, Nat.reduceEqDiff, Nat.reduceBEq, Int.reduceToNat, reduceCtorEq, ct9t0_34, body34, ct9t0_35, body35, e2, e4]
    repeat ((with_reducible refine And.intro ?_ ?_); focus (first | (and_intros <;> first | (with_reducible trivial) | omega | assumption | exact nfc | first | exact rfl | exact trivial | exact fitI | exact .inr rfl | exact .inl rfl | exact fun x hx => absurd hx (by omega)) | grind))
    refine seqM ?_
    obtain ⟨r5, e6, H⟩ := bsi H
    obtain ⟨r7, e8, H⟩ := bsi H
    refine rg ct9t1_ok ?_
    simp only [go_sem, Nat.reduceLeDiff, Nat.reduceLT, Nat.reduceAdd, Nat.reduceMul, Nat.reduceSub, Nat.reduceEqDiff, Nat.reduceBEq, Int.reduceToNat, reduceCtorEq, ct9t1_31, body31, ct9t1_35, body35, e6, e8]
    repeat ((with_reducible refine And.intro ?_ ?_); focus (first | (and_intros <;> first | (with_reducible trivial) | omega | assumption | exact nfc | first | exact rfl | exact trivial | exact fitI | exact .inr rfl | exact .inl rfl | exact fun x hx => absurd hx (by omega)) | grind))
    refine seqM ?_
    obtain ⟨r9, e10, H⟩ := bsi H
    obtain ⟨r11, e12, H⟩ := bsi H
    obtain ⟨r13, e14, H⟩ := bsi H
    refine draw_ruleX [(73, [], [3, 4])] shT_ok ct9t2_ok 3 (by kernel_rfl) (by kernel_rfl) ?_
    intro an han
    simp only [d_nil, d_cons, nxtD, xrD, xoD, roEq, minL, List.append_nil, refsOp, refs, refsL, mask, maskF, place, placeF, okLog, pairOk, hit, inL, slotsF, ren, renL, rnN, nrH, nrB, nrL, nr, dead0, deadS, List.replicate_zero, List.replicate_succ, Nat.sub_self, Nat.add_zero, Nat.zero_add, Nat.reduceSub, Nat.not_lt_zero, Nat.zero_le, Nat.lt_add_one, go_sem, Nat.reduceLeDiff, Nat.reduceLT, Nat.reduceAdd, Nat.reduceMul, Nat.reduceSub, Nat.reduceEqDiff, Nat.reduceBEq, Int.reduceToNat, reduceCtorEq, ct9t2_30, body30, ct9t2_31, body31, e10, e12, e14]
    repeat ((with_reducible refine And.intro ?_ ?_); focus (and_intros <;> first | (with_reducible trivial) | (show anB _ _ _ = true; subst han; kernel_rfl) | (show (anB _ _ _ && _) = true; subst han; kernel_rfl) | omega | assumption | exact nrc | exact nfc | first | exact rfl | exact trivial | exact fitI | exact .inr rfl | exact .inl rfl | exact fun x hx => absurd hx (by omega)))
    refine seqM ?_
    obtain ⟨r15, e16, H⟩ := bsi H
    obtain ⟨r17, e18, H⟩ := bsi H
    obtain ⟨r19, e20, H⟩ := bsi H
    refine draw_ruleX [(80, [], [3, 4])] shT_ok ct9t3_ok 3 (by kernel_rfl) (by kernel_rfl) ?_
    intro an han
    simp only [d_nil, d_cons, nxtD, xrD, xoD, roEq, minL, List.append_nil, refsOp, refs, refsL, mask, maskF, place, placeF, okLog, pairOk, hit, inL, slotsF, ren, renL, rnN, nrH, nrB, nrL, nr, dead0, deadS, List.replicate_zero, List.replicate_succ, Nat.sub_self, Nat.add_zero, Nat.zero_add, Nat.reduceSub, Nat.not_lt_zero, Nat.zero_le, Nat.lt_add_one, go_sem, Nat.reduceLeDiff, Nat.reduceLT, Nat.reduceAdd, Nat.reduceMul, Nat.reduceSub, Nat.reduceEqDiff, Nat.reduceBEq, Int.reduceToNat, reduceCtorEq, ct9t3_30, body30, ct9t3_31, body31, ct9t3_34, body34, e16, e18, e20]
    repeat ((with_reducible refine And.intro ?_ ?_); focus (and_intros <;> first | (with_reducible trivial) | (show anB _ _ _ = true; subst han; kernel_rfl) | (show (anB _ _ _ && _) = true; subst han; kernel_rfl) | omega | assumption | exact nrc | exact nfc | first | exact rfl | exact trivial | exact fitI | exact .inr rfl | exact .inl rfl | exact fun x hx => absurd hx (by omega)))
    refine seqM ?_
    obtain ⟨r21, e22, H⟩ := bsi H
    obtain ⟨r23, e24, H⟩ := bsi H
    refine draw_ruleX [(86, [], [3, 4])] shT_ok ct9t4_ok 3 (by kernel_rfl) (by kernel_rfl) ?_
    intro an han
    simp only [d_nil, d_cons, nxtD, xrD, xoD, roEq, minL, List.append_nil, refsOp, refs, refsL, mask, maskF, place, placeF, okLog, pairOk, hit, inL, slotsF, ren, renL, rnN, nrH, nrB, nrL, nr, dead0, deadS, List.replicate_zero, List.replicate_succ, Nat.sub_self, Nat.add_zero, Nat.zero_add, Nat.reduceSub, Nat.not_lt_zero, Nat.zero_le, Nat.lt_add_one, go_sem, Nat.reduceLeDiff, Nat.reduceLT, Nat.reduceAdd, Nat.reduceMul, Nat.reduceSub, Nat.reduceEqDiff, Nat.reduceBEq, Int.reduceToNat, reduceCtorEq, ct9t4_31, body31, ct9t4_36, body36, e22, e24]
    repeat ((with_reducible refine And.intro ?_ ?_); focus (and_intros <;> first | (with_reducible trivial) | (show anB _ _ _ = true; subst han; kernel_rfl) | (show (anB _ _ _ && _) = true; subst han; kernel_rfl) | omega | assumption | exact nrc | exact nfc | first | exact rfl | exact trivial | exact fitI | exact .inr rfl | exact .inl rfl | exact fun x hx => absurd hx (by omega)))
    refine seqM ?_
    obtain ⟨r25, e26, H⟩ := bsi H
    obtain ⟨r27, e28, H⟩ := bsi H
    obtain ⟨r29, e30, H⟩ := bsi H
    refine draw_ruleX [(94, [], [3, 4])] shT_ok ct9t5_ok 5 (by kernel_rfl) (by kernel_rfl) ?_
    intro an han
    simp only [d_nil, d_cons, nxtD, xrD, xoD, roEq, minL, List.append_nil, refsOp, refs, refsL, mask, maskF, place, placeF, okLog, pairOk, hit, inL, slotsF, ren, renL, rnN, nrH, nrB, nrL, nr, dead0, deadS, List.replicate_zero, List.replicate_succ, Nat.sub_self, Nat.add_zero, Nat.zero_add, Nat.reduceSub, Nat.not_lt_zero, Nat.zero_le, Nat.lt_add_one, go_sem, Nat.reduceLeDiff, Nat.reduceLT, Nat.reduceAdd, Nat.reduceMul, Nat.reduceSub, Nat.reduceEqDiff, Nat.reduceBEq, Int.reduceToNat, reduceCtorEq, ct9t5_31, body31, ct9t5_32, body32, e26, e28, e30]
    repeat ((with_reducible refine And.intro ?_ ?_); focus (and_intros <;> first | (with_reducible trivial) | (show anB _ _ _ = true; subst han; kernel_rfl) | (show (anB _ _ _ && _) = true; subst han; kernel_rfl) | omega | assumption | exact nrc | exact nfc | first | exact rfl | exact trivial | exact fitI | exact .inr rfl | exact .inl rfl | exact fun x hx => absurd hx (by omega)))
    refine seqM ?_
    obtain ⟨r31, e32, H⟩ := bsi H
    obtain ⟨r33, e34, H⟩ := bsi H
    obtain ⟨r35, e36, H⟩ := bsi H
    refine draw_ruleX [(103, [], [3, 4])] shT_ok ct9t5_ok 5 (by kernel_rfl) (by kernel_rfl) ?_
    intro an han
    simp only [d_nil, d_cons, nxtD, xrD, xoD, roEq, minL, List.append_nil, refsOp, refs, refsL, mask, maskF, place, placeF, okLog, pairOk, hit, inL, slotsF, ren, renL, rnN, nrH, nrB, nrL, nr, dead0, deadS, List.replicate_zero, List.replicate_succ, Nat.sub_self, Nat.add_zero, Nat.zero_add, Nat.reduceSub, Nat.not_lt_zero, Nat.zero_le, Nat.lt_add_one, go_sem, Nat.reduceLeDiff, Nat.reduceLT, Nat.reduceAdd, Nat.reduceMul, Nat.reduceSub, Nat.reduceEqDiff, Nat.reduceBEq, Int.reduceToNat, reduceCtorEq, ct9t5_31, body31, ct9t5_32, body32, e32, e34, e36]
    repeat ((with_reducible refine And.intro ?_ ?_); focus (and_intros <;> first | (with_reducible trivial) | (show anB _ _ _ = true; subst han; kernel_rfl) | (show (anB _ _ _ && _) = true; subst han; kernel_rfl) | omega | assumption | exact nrc | exact nfc | first | exact rfl | exact trivial | exact fitI | exact .inr rfl | exact .inl rfl | exact fun x hx => absurd hx (by omega)))
    refine seqM ?_
    obtain ⟨r37, e38, H⟩ := bsi H
    obtain ⟨r39, e40, H⟩ := bsi H
    obtain ⟨r41, e42, H⟩ := bsi H
    obtain ⟨f43, H⟩ := need_some.1 H
    replace f43 := mkb_iff.1 f43
    obtain ⟨r44, e45, H⟩ := bsi H
    refine draw_ruleX [(113, [], [3, 4, 25])] shT_ok ct9t6_ok 6 (by kernel_rfl) (by kernel_rfl) ?_
    intro an han
    simp only [d_nil, d_cons, nxtD, xrD, xoD, roEq, minL, List.append_nil, refsOp, refs, refsL, mask, maskF, place, placeF, okLog, pairOk, hit, inL, slotsF, ren, renL, rnN, nrH, nrB, nrL, nr, dead0, deadS, Nat.sub_self, Nat.add_zero, Nat.zero_add, Nat.reduceSub, Nat.not_lt_zero, Nat.zero_le, Nat.lt_add_one, go_sem, Nat.reduceLeDiff, Nat.reduceLT, Nat.reduceAdd, Nat.reduceMul, Nat.reduceSub, Nat.reduceEqDiff, Nat.reduceBEq, Int.reduceToNat, reduceCtorEq, ct9t6_31, body31, ct9t6_32, body32, ct9t6_34, body34, e38, e40, e42, f43, e45, deR_rep, (show g_u8 (getL [.int .u8 0]) = 0 from rfl)]
    repeat ((with_reducible refine And.intro ?_ ?_); focus (and_intros <;> first | (with_reducible trivial) | (show anB _ _ _ = true; subst han; kernel_rfl) | (show (anB _ _ _ && _) = true; subst han; kernel_rfl) | omega | assumption | exact nrc | exact nfc | first | exact rfl | exact trivial | exact fitI | exact .inr rfl | exact .inl rfl | exact fun x hx => absurd hx (by omega) | (intro x hx; (repeat (first | (and_intros <;> (first | exact rfl | exact trivial | exact fitI | exact .inr rfl | exact .inl rfl | exact fun x hx => absurd hx (by omega))) | (exfalso; omega) | (rcases x with _ | x))); done) | exact Fit_rep (kc_u8 0)))
    refine seqM ?_
    obtain ⟨w46, hw47, H⟩ := bsi H
    replace hw47 := Option.some.inj hw47
    have lhw47 : w46.length = 2265 := by rw [← hw47]; exact (by simp)
    refine subF_mean (t2 := (.bool false :: .ptr 2 0 0 0 :: .int .i64 r3.2 :: .ptr 5 0 0 0 :: .int .i64 r7.2 :: .ptr 8 0 0 0 :: .int .i64 r13.2 :: .ptr 11 0 0 0 :: .int .i64 r19.2 :: .ptr 14 0 0 0 :: .int .i64 r23.2 :: .ptr 18 0 0 0 :: .ptr 19 0 0 0 :: .int .i64 r29.2.2 :: .ptr 23 0 0 0 :: .ptr 24 0 0 0 :: .int .i64 r35.2.2 :: .ptr 29 0 0 0 :: .ptr 30 0 0 0 :: .int .i64 r44.2.2 :: tp 39 (.tup [.agg [.int .u8 r3.1.Own.x0, .int .u8 r3.1.Own.x1, .int .u8 r3.1.Own.x2, .int .u8 r3.1.Own.x3, .int .u8 r3.1.Own.x4, .int .u8 r3.1.Own.x5, .int .i64 r3.1.Seq, .sl 0 7 0 r3.1.Seen.length false, .sl 1 12 0 r3.1.Nexts.length false], .int .i64 r3.2] :: .agg [.int .u8 r1.x0, .int .u8 r1.x1, .int .u8 r1.x2, .int .u8 r1.x3, .int .u8 r1.x4, .int .u8 r1.x5] :: .tup [.agg [.int .u8 r3.1.Own.x0, .int .u8 r3.1.Own.x1, .int .u8 r3.1.Own.x2, .int .u8 r3.1.Own.x3, .int .u8 r3.1.Own.x4, .int .u8 r3.1.Own.x5, .int .i64 r3.1.Seq, .sl 0 7 0 r3.1.Seen.length false, .sl 1 12 0 r3.1.Nexts.length false], .int .i64 r3.2] :: .agg [.int .u8 r3.1.Own.x0, .int .u8 r3.1.Own.x1, .int .u8 r3.1.Own.x2, .int .u8 r3.1.Own.x3, .int .u8 r3.1.Own.x4, .int .u8 r3.1.Own.x5, .int .i64 r3.1.Seq, .sl 0 7 0 r3.1.Seen.length false, .sl 1 12 0 r3.1.Nexts.length false] :: .int .i64 r3.2 :: .tup [.agg [.int .u8 r7.1.Own.x0, .int .u8 r7.1.Own.x1, .int .u8 r7.1.Own.x2, .int .u8 r7.1.Own.x3, .int .u8 r7.1.Own.x4, .int .u8 r7.1.Own.x5, .int .i64 r7.1.Seq, .sl 3 7 0 r7.1.Seen.length false, .sl 4 12 0 r7.1.Nexts.length false], .int .i64 r7.2] :: .agg [.int .u8 r5.x0, .int .u8 r5.x1, .int .u8 r5.x2, .int .u8 r5.x3, .int .u8 r5.x4, .int .u8 r5.x5] :: .tup [.agg [.int .u8 r7.1.Own.x0, .int .u8 r7.1.Own.x1, .int .u8 r7.1.Own.x2, .int .u8 r7.1.Own.x3, .int .u8 r7.1.Own.x4, .int .u8 r7.1.Own.x5, .int .i64 r7.1.Seq, .sl 3 7 0 r7.1.Seen.length false, .sl 4 12 0 r7.1.Nexts.length false], .int .i64 r7.2] :: .agg [.int .u8 r7.1.Own.x0, .int .u8 r7.1.Own.x1, .int .u8 r7.1.Own.x2, .int .u8 r7.1.Own.x3, .int .u8 r7.1.Own.x4, .int .u8 r7.1.Own.x5, .int .i64 r7.1.Seq, .sl 3 7 0 r7.1.Seen.length false, .sl 4 12 0 r7.1.Nexts.length false] :: .int .i64 r7.2 :: .tup [.agg [.int .u8 r13.1.Own.x0, .int .u8 r13.1.Own.x1, .int .u8 r13.1.Own.x2, .int .u8 r13.1.Own.x3, .int .u8 r13.1.Own.x4, .int .u8 r13.1.Own.x5, .int .i64 r13.1.Seq, .sl 6 7 0 r13.1.Seen.length false, .sl 7 12 0 r13.1.Nexts.length false], .int .i64 r13.2] :: .agg [.int .u8 r7.1.Own.x0, .int .u8 r7.1.Own.x1, .int .u8 r7.1.Own.x2, .int .u8 r7.1.Own.x3, .int .u8 r7.1.Own.x4, .int .u8 r7.1.Own.x5, .int .i64 r7.1.Seq, .sl 3 7 0 r7.1.Seen.length false, .sl 4 12 0 r7.1.Nexts.length false] :: .agg [.int .u8 r9.x0, .int .u8 r9.x1, .int .u8 r9.x2, .int .u8 r9.x3, .int .u8 r9.x4, .int .u8 r9.x5] :: .agg [.int .u8 r11.x0, .int .u8 r11.x1, .int .u8 r11.x2, .int .u8 r11.x3, .int .u8 r11.x4, .int .u8 r11.x5] :: .tup [.agg [.int .u8 r13.1.Own.x0, .int .u8 r13.1.Own.x1, .int .u8 r13.1.Own.x2, .int .u8 r13.1.Own.x3, .int .u8 r13.1.Own.x4, .int .u8 r13.1.Own.x5, .int .i64 r13.1.Seq, .sl 6 7 0 r13.1.Seen.length false, .sl 7 12 0 r13.1.Nexts.length false], .int .i64 r13.2] :: .agg [.int .u8 r13.1.Own.x0, .int .u8 r13.1.Own.x1, .int .u8 r13.1.Own.x2, .int .u8 r13.1.Own.x3, .int .u8 r13.1.Own.x4, .int .u8 r13.1.Own.x5, .int .i64 r13.1.Seq, .sl 6 7 0 r13.1.Seen.length false, .sl 7 12 0 r13.1.Nexts.length false] :: .int .i64 r13.2 :: .tup [.agg [.int .u8 r19.1.Own.x0, .int .u8 r19.1.Own.x1, .int .u8 r19.1.Own.x2, .int .u8 r19.1.Own.x3, .int .u8 r19.1.Own.x4, .int .u8 r19.1.Own.x5, .int .i64 r19.1.Seq, .sl 9 7 0 r19.1.Seen.length false, .sl 10 12 0 r19.1.Nexts.length false], .int .i64 r19.2] :: .agg [.int .u8 r7.1.Own.x0, .int .u8 r7.1.Own.x1, .int .u8 r7.1.Own.x2, .int .u8 r7.1.Own.x3, .int .u8 r7.1.Own.x4, .int .u8 r7.1.Own.x5, .int .i64 r7.1.Seq, .sl 3 7 0 r7.1.Seen.length false, .sl 4 12 0 r7.1.Nexts.length false] :: .agg [.int .u8 r15.x0, .int .u8 r15.x1, .int .u8 r15.x2, .int .u8 r15.x3, .int .u8 r15.x4, .int .u8 r15.x5] :: .agg [.int .u8 r17.x0, .int .u8 r17.x1, .int .u8 r17.x2, .int .u8 r17.x3, .int .u8 r17.x4, .int .u8 r17.x5] :: .tup [.agg [.int .u8 r19.1.Own.x0, .int .u8 r19.1.Own.x1, .int .u8 r19.1.Own.x2, .int .u8 r19.1.Own.x3, .int .u8 r19.1.Own.x4, .int .u8 r19.1.Own.x5, .int .i64 r19.1.Seq, .sl 9 7 0 r19.1.Seen.length false, .sl 10 12 0 r19.1.Nexts.length false], .int .i64 r19.2] :: .agg [.int .u8 r19.1.Own.x0, .int .u8 r19.1.Own.x1, .int .u8 r19.1.Own.x2, .int .u8 r19.1.Own.x3, .int .u8 r19.1.Own.x4, .int .u8 r19.1.Own.x5, .int .i64 r19.1.Seq, .sl 9 7 0 r19.1.Seen.length false, .sl 10 12 0 r19.1.Nexts.length false] :: .int .i64 r19.2 :: .tup [.agg [.int .u8 r23.1.Own.x0, .int .u8 r23.1.Own.x1, .int .u8 r23.1.Own.x2, .int .u8 r23.1.Own.x3, .int .u8 r23.1.Own.x4, .int .u8 r23.1.Own.x5, .int .i64 r23.1.Seq, .sl 12 7 0 r23.1.Seen.length false, .sl 13 12 0 r23.1.Nexts.length false], .int .i64 r23.2] :: .agg [.int .u8 r7.1.Own.x0, .int .u8 r7.1.Own.x1, .int .u8 r7.1.Own.x2, .int .u8 r7.1.Own.x3, .int .u8 r7.1.Own.x4, .int .u8 r7.1.Own.x5, .int .i64 r7.1.Seq, .sl 3 7 0 r7.1.Seen.length false, .sl 4 12 0 r7.1.Nexts.length false] :: .agg [.int .u8 r21.x0, .int .u8 r21.x1, .int .u8 r21.x2, .int .u8 r21.x3, .int .u8 r21.x4, .int .u8 r21.x5] :: .tup [.agg [.int .u8 r23.1.Own.x0, .int .u8 r23.1.Own.x1, .int .u8 r23.1.Own.x2, .int .u8 r23.1.Own.x3, .int .u8 r23.1.Own.x4, .int .u8 r23.1.Own.x5, .int .i64 r23.1.Seq, .sl 12 7 0 r23.1.Seen.length false, .sl 13 12 0 r23.1.Nexts.length false], .int .i64 r23.2] :: .agg [.int .u8 r23.1.Own.x0, .int .u8 r23.1.Own.x1, .int .u8 r23.1.Own.x2, .int .u8 r23.1.Own.x3, .int .u8 r23.1.Own.x4, .int .u8 r23.1.Own.x5, .int .i64 r23.1.Seq, .sl 12 7 0 r23.1.Seen.length false, .sl 13 12 0 r23.1.Nexts.length false] :: .int .i64 r23.2 :: .tup [.agg [.int .u8 r29.1.Own.x0, .int .u8 r29.1.Own.x1, .int .u8 r29.1.Own.x2, .int .u8 r29.1.Own.x3, .int .u8 r29.1.Own.x4, .int .u8 r29.1.Own.x5, .int .i64 r29.1.Seq, .sl 15 7 0 r29.1.Seen.length false, .sl 16 12 0 r29.1.Nexts.length false], .agg (.int .u8 r29.2.1.From.x0 :: .int .u8 r29.2.1.From.x1 :: .int .u8 r29.2.1.From.x2 :: .int .u8 r29.2.1.From.x3 :: .int .u8 r29.2.1.From.x4 :: .int .u8 r29.2.1.From.x5 :: .int .u8 r29.2.1.To.x0 :: .int .u8 r29.2.1.To.x1 :: .int .u8 r29.2.1.To.x2 :: .int .u8 r29.2.1.To.x3 :: .int .u8 r29.2.1.To.x4 :: .int .u8 r29.2.1.To.x5 :: .int .u8 r29.2.1.Enter.x0 :: .int .u8 r29.2.1.Enter.x1 :: .int .u8 r29.2.1.Enter.x2 :: .int .u8 r29.2.1.Enter.x3 :: .int .u8 r29.2.1.Enter.x4 :: .int .u8 r29.2.1.Enter.x5 :: .int .u8 r29.2.1.Leave.x0 :: .int .u8 r29.2.1.Leave.x1 :: .int .u8 r29.2.1.Leave.x2 :: .int .u8 r29.2.1.Leave.x3 :: .int .u8 r29.2.1.Leave.x4 :: .int .u8 r29.2.1.Leave.x5 :: .int .u8 r29.2.1.Source.x0 :: .int .u8 r29.2.1.Source.x1 :: .int .u8 r29.2.1.Source.x2 :: .int .u8 r29.2.1.Source.x3 :: .int .u8 r29.2.1.Source.x4 :: .int .u8 r29.2.1.Source.x5 :: .int .u8 r29.2.1.Target.x0 :: .int .u8 r29.2.1.Target.x1 :: .int .u8 r29.2.1.Target.x2 :: .int .u8 r29.2.1.Target.x3 :: .int .u8 r29.2.1.Target.x4 :: .int .u8 r29.2.1.Target.x5 :: .int .i64 r29.2.1.Seq :: .int .i64 r29.2.1.Ttl :: .sl 17 1 0 r29.2.1.Data.length false :: []), .int .i64 r29.2.2] :: .agg [.int .u8 r7.1.Own.x0, .int .u8 r7.1.Own.x1, .int .u8 r7.1.Own.x2, .int .u8 r7.1.Own.x3, .int .u8 r7.1.Own.x4, .int .u8 r7.1.Own.x5, .int .i64 r7.1.Seq, .sl 3 7 0 r7.1.Seen.length false, .sl 4 12 0 r7.1.Nexts.length false] :: .agg [.int .u8 r25.x0, .int .u8 r25.x1, .int .u8 r25.x2, .int .u8 r25.x3, .int .u8 r25.x4, .int .u8 r25.x5] :: .agg [.int .u8 r27.x0, .int .u8 r27.x1, .int .u8 r27.x2, .int .u8 r27.x3, .int .u8 r27.x4, .int .u8 r27.x5] :: .agg [.int .u8 r25.x0, .int .u8 r25.x1, .int .u8 r25.x2, .int .u8 r25.x3, .int .u8 r25.x4, .int .u8 r25.x5] :: .tup [.agg [.int .u8 r29.1.Own.x0, .int .u8 r29.1.Own.x1, .int .u8 r29.1.Own.x2, .int .u8 r29.1.Own.x3, .int .u8 r29.1.Own.x4, .int .u8 r29.1.Own.x5, .int .i64 r29.1.Seq, .sl 15 7 0 r29.1.Seen.length false, .sl 16 12 0 r29.1.Nexts.length false], .agg (.int .u8 r29.2.1.From.x0 :: .int .u8 r29.2.1.From.x1 :: .int .u8 r29.2.1.From.x2 :: .int .u8 r29.2.1.From.x3 :: .int .u8 r29.2.1.From.x4 :: .int .u8 r29.2.1.From.x5 :: .int .u8 r29.2.1.To.x0 :: .int .u8 r29.2.1.To.x1 :: .int .u8 r29.2.1.To.x2 :: .int .u8 r29.2.1.To.x3 :: .int .u8 r29.2.1.To.x4 :: .int .u8 r29.2.1.To.x5 :: .int .u8 r29.2.1.Enter.x0 :: .int .u8 r29.2.1.Enter.x1 :: .int .u8 r29.2.1.Enter.x2 :: .int .u8 r29.2.1.Enter.x3 :: .int .u8 r29.2.1.Enter.x4 :: .int .u8 r29.2.1.Enter.x5 :: .int .u8 r29.2.1.Leave.x0 :: .int .u8 r29.2.1.Leave.x1 :: .int .u8 r29.2.1.Leave.x2 :: .int .u8 r29.2.1.Leave.x3 :: .int .u8 r29.2.1.Leave.x4 :: .int .u8 r29.2.1.Leave.x5 :: .int .u8 r29.2.1.Source.x0 :: .int .u8 r29.2.1.Source.x1 :: .int .u8 r29.2.1.Source.x2 :: .int .u8 r29.2.1.Source.x3 :: .int .u8 r29.2.1.Source.x4 :: .int .u8 r29.2.1.Source.x5 :: .int .u8 r29.2.1.Target.x0 :: .int .u8 r29.2.1.Target.x1 :: .int .u8 r29.2.1.Target.x2 :: .int .u8 r29.2.1.Target.x3 :: .int .u8 r29.2.1.Target.x4 :: .int .u8 r29.2.1.Target.x5 :: .int .i64 r29.2.1.Seq :: .int .i64 r29.2.1.Ttl :: .sl 17 1 0 r29.2.1.Data.length false :: []), .int .i64 r29.2.2] :: .agg [.int .u8 r29.1.Own.x0, .int .u8 r29.1.Own.x1, .int .u8 r29.1.Own.x2, .int .u8 r29.1.Own.x3, .int .u8 r29.1.Own.x4, .int .u8 r29.1.Own.x5, .int .i64 r29.1.Seq, .sl 15 7 0 r29.1.Seen.length false, .sl 16 12 0 r29.1.Nexts.length false] :: .agg (.int .u8 r29.2.1.From.x0 :: .int .u8 r29.2.1.From.x1 :: .int .u8 r29.2.1.From.x2 :: .int .u8 r29.2.1.From.x3 :: .int .u8 r29.2.1.From.x4 :: .int .u8 r29.2.1.From.x5 :: .int .u8 r29.2.1.To.x0 :: .int .u8 r29.2.1.To.x1 :: .int .u8 r29.2.1.To.x2 :: .int .u8 r29.2.1.To.x3 :: .int .u8 r29.2.1.To.x4 :: .int .u8 r29.2.1.To.x5 :: .int .u8 r29.2.1.Enter.x0 :: .int .u8 r29.2.1.Enter.x1 :: .int .u8 r29.2.1.Enter.x2 :: .int .u8 r29.2.1.Enter.x3 :: .int .u8 r29.2.1.Enter.x4 :: .int .u8 r29.2.1.Enter.x5 :: .int .u8 r29.2.1.Leave.x0 :: .int .u8 r29.2.1.Leave.x1 :: .int .u8 r29.2.1.Leave.x2 :: .int .u8 r29.2.1.Leave.x3 :: .int .u8 r29.2.1.Leave.x4 :: .int .u8 r29.2.1.Leave.x5 :: .int .u8 r29.2.1.Source.x0 :: .int .u8 r29.2.1.Source.x1 :: .int .u8 r29.2.1.Source.x2 :: .int .u8 r29.2.1.Source.x3 :: .int .u8 r29.2.1.Source.x4 :: .int .u8 r29.2.1.Source.x5 :: .int .u8 r29.2.1.Target.x0 :: .int .u8 r29.2.1.Target.x1 :: .int .u8 r29.2.1.Target.x2 :: .int .u8 r29.2.1.Target.x3 :: .int .u8 r29.2.1.Target.x4 :: .int .u8 r29.2.1.Target.x5 :: .int .i64 r29.2.1.Seq :: .int .i64 r29.2.1.Ttl :: .sl 17 1 0 r29.2.1.Data.length false :: []) :: .int .i64 r29.2.2 :: .tup [.agg [.int .u8 r35.1.Own.x0, .int .u8 r35.1.Own.x1, .int .u8 r35.1.Own.x2, .int .u8 r35.1.Own.x3, .int .u8 r35.1.Own.x4, .int .u8 r35.1.Own.x5, .int .i64 r35.1.Seq, .sl 20 7 0 r35.1.Seen.length false, .sl 21 12 0 r35.1.Nexts.length false], .agg (.int .u8 r35.2.1.From.x0 :: .int .u8 r35.2.1.From.x1 :: .int .u8 r35.2.1.From.x2 :: .int .u8 r35.2.1.From.x3 :: .int .u8 r35.2.1.From.x4 :: .int .u8 r35.2.1.From.x5 :: .int .u8 r35.2.1.To.x0 :: .int .u8 r35.2.1.To.x1 :: .int .u8 r35.2.1.To.x2 :: .int .u8 r35.2.1.To.x3 :: .int .u8 r35.2.1.To.x4 :: .int .u8 r35.2.1.To.x5 :: .int .u8 r35.2.1.Enter.x0 :: .int .u8 r35.2.1.Enter.x1 :: .int .u8 r35.2.1.Enter.x2 :: .int .u8 r35.2.1.Enter.x3 :: .int .u8 r35.2.1.Enter.x4 :: .int .u8 r35.2.1.Enter.x5 :: .int .u8 r35.2.1.Leave.x0 :: .int .u8 r35.2.1.Leave.x1 :: .int .u8 r35.2.1.Leave.x2 :: .int .u8 r35.2.1.Leave.x3 :: .int .u8 r35.2.1.Leave.x4 :: .int .u8 r35.2.1.Leave.x5 :: .int .u8 r35.2.1.Source.x0 :: .int .u8 r35.2.1.Source.x1 :: .int .u8 r35.2.1.Source.x2 :: .int .u8 r35.2.1.Source.x3 :: .int .u8 r35.2.1.Source.x4 :: .int .u8 r35.2.1.Source.x5 :: .int .u8 r35.2.1.Target.x0 :: .int .u8 r35.2.1.Target.x1 :: .int .u8 r35.2.1.Target.x2 :: .int .u8 r35.2.1.Target.x3 :: .int .u8 r35.2.1.Target.x4 :: .int .u8 r35.2.1.Target.x5 :: .int .i64 r35.2.1.Seq :: .int .i64 r35.2.1.Ttl :: .sl 22 1 0 r35.2.1.Data.length false :: []), .int .i64 r35.2.2] :: .agg [.int .u8 r7.1.Own.x0, .int .u8 r7.1.Own.x1, .int .u8 r7.1.Own.x2, .int .u8 r7.1.Own.x3, .int .u8 r7.1.Own.x4, .int .u8 r7.1.Own.x5, .int .i64 r7.1.Seq, .sl 3 7 0 r7.1.Seen.length false, .sl 4 12 0 r7.1.Nexts.length false] :: .agg [.int .u8 r31.x0, .int .u8 r31.x1, .int .u8 r31.x2, .int .u8 r31.x3, .int .u8 r31.x4, .int .u8 r31.x5] :: .agg [.int .u8 r31.x0, .int .u8 r31.x1, .int .u8 r31.x2, .int .u8 r31.x3, .int .u8 r31.x4, .int .u8 r31.x5] :: .agg [.int .u8 r33.x0, .int .u8 r33.x1, .int .u8 r33.x2, .int .u8 r33.x3, .int .u8 r33.x4, .int .u8 r33.x5] :: .tup [.agg [.int .u8 r35.1.Own.x0, .int .u8 r35.1.Own.x1, .int .u8 r35.1.Own.x2, .int .u8 r35.1.Own.x3, .int .u8 r35.1.Own.x4, .int .u8 r35.1.Own.x5, .int .i64 r35.1.Seq, .sl 20 7 0 r35.1.Seen.length false, .sl 21 12 0 r35.1.Nexts.length false], .agg (.int .u8 r35.2.1.From.x0 :: .int .u8 r35.2.1.From.x1 :: .int .u8 r35.2.1.From.x2 :: .int .u8 r35.2.1.From.x3 :: .int .u8 r35.2.1.From.x4 :: .int .u8 r35.2.1.From.x5 :: .int .u8 r35.2.1.To.x0 :: .int .u8 r35.2.1.To.x1 :: .int .u8 r35.2.1.To.x2 :: .int .u8 r35.2.1.To.x3 :: .int .u8 r35.2.1.To.x4 :: .int .u8 r35.2.1.To.x5 :: .int .u8 r35.2.1.Enter.x0 :: .int .u8 r35.2.1.Enter.x1 :: .int .u8 r35.2.1.Enter.x2 :: .int .u8 r35.2.1.Enter.x3 :: .int .u8 r35.2.1.Enter.x4 :: .int .u8 r35.2.1.Enter.x5 :: .int .u8 r35.2.1.Leave.x0 :: .int .u8 r35.2.1.Leave.x1 :: .int .u8 r35.2.1.Leave.x2 :: .int .u8 r35.2.1.Leave.x3 :: .int .u8 r35.2.1.Leave.x4 :: .int .u8 r35.2.1.Leave.x5 :: .int .u8 r35.2.1.Source.x0 :: .int .u8 r35.2.1.Source.x1 :: .int .u8 r35.2.1.Source.x2 :: .int .u8 r35.2.1.Source.x3 :: .int .u8 r35.2.1.Source.x4 :: .int .u8 r35.2.1.Source.x5 :: .int .u8 r35.2.1.Target.x0 :: .int .u8 r35.2.1.Target.x1 :: .int .u8 r35.2.1.Target.x2 :: .int .u8 r35.2.1.Target.x3 :: .int .u8 r35.2.1.Target.x4 :: .int .u8 r35.2.1.Target.x5 :: .int .i64 r35.2.1.Seq :: .int .i64 r35.2.1.Ttl :: .sl 22 1 0 r35.2.1.Data.length false :: []), .int .i64 r35.2.2] :: .agg [.int .u8 r35.1.Own.x0, .int .u8 r35.1.Own.x1, .int .u8 r35.1.Own.x2, .int .u8 r35.1.Own.x3, .int .u8 r35.1.Own.x4, .int .u8 r35.1.Own.x5, .int .i64 r35.1.Seq, .sl 20 7 0 r35.1.Seen.length false, .sl 21 12 0 r35.1.Nexts.length false] :: .agg (.int .u8 r35.2.1.From.x0 :: .int .u8 r35.2.1.From.x1 :: .int .u8 r35.2.1.From.x2 :: .int .u8 r35.2.1.From.x3 :: .int .u8 r35.2.1.From.x4 :: .int .u8 r35.2.1.From.x5 :: .int .u8 r35.2.1.To.x0 :: .int .u8 r35.2.1.To.x1 :: .int .u8 r35.2.1.To.x2 :: .int .u8 r35.2.1.To.x3 :: .int .u8 r35.2.1.To.x4 :: .int .u8 r35.2.1.To.x5 :: .int .u8 r35.2.1.Enter.x0 :: .int .u8 r35.2.1.Enter.x1 :: .int .u8 r35.2.1.Enter.x2 :: .int .u8 r35.2.1.Enter.x3 :: .int .u8 r35.2.1.Enter.x4 :: .int .u8 r35.2.1.Enter.x5 :: .int .u8 r35.2.1.Leave.x0 :: .int .u8 r35.2.1.Leave.x1 :: .int .u8 r35.2.1.Leave.x2 :: .int .u8 r35.2.1.Leave.x3 :: .int .u8 r35.2.1.Leave.x4 :: .int .u8 r35.2.1.Leave.x5 :: .int .u8 r35.2.1.Source.x0 :: .int .u8 r35.2.1.Source.x1 :: .int .u8 r35.2.1.Source.x2 :: .int .u8 r35.2.1.Source.x3 :: .int .u8 r35.2.1.Source.x4 :: .int .u8 r35.2.1.Source.x5 :: .int .u8 r35.2.1.Target.x0 :: .int .u8 r35.2.1.Target.x1 :: .int .u8 r35.2.1.Target.x2 :: .int .u8 r35.2.1.Target.x3 :: .int .u8 r35.2.1.Target.x4 :: .int .u8 r35.2.1.Target.x5 :: .int .i64 r35.2.1.Seq :: .int .i64 r35.2.1.Ttl :: .sl 22 1 0 r35.2.1.Data.length false :: []) :: .int .i64 r35.2.2 :: .tup [.agg [.int .u8 r44.1.Own.x0, .int .u8 r44.1.Own.x1, .int .u8 r44.1.Own.x2, .int .u8 r44.1.Own.x3, .int .u8 r44.1.Own.x4, .int .u8 r44.1.Own.x5, .int .i64 r44.1.Seq, .sl 26 7 0 r44.1.Seen.length false, .sl 27 12 0 r44.1.Nexts.length false], .agg (.int .u8 r44.2.1.From.x0 :: .int .u8 r44.2.1.From.x1 :: .int .u8 r44.2.1.From.x2 :: .int .u8 r44.2.1.From.x3 :: .int .u8 r44.2.1.From.x4 :: .int .u8 r44.2.1.From.x5 :: .int .u8 r44.2.1.To.x0 :: .int .u8 r44.2.1.To.x1 :: .int .u8 r44.2.1.To.x2 :: .int .u8 r44.2.1.To.x3 :: .int .u8 r44.2.1.To.x4 :: .int .u8 r44.2.1.To.x5 :: .int .u8 r44.2.1.Enter.x0 :: .int .u8 r44.2.1.Enter.x1 :: .int .u8 r44.2.1.Enter.x2 :: .int .u8 r44.2.1.Enter.x3 :: .int .u8 r44.2.1.Enter.x4 :: .int .u8 r44.2.1.Enter.x5 :: .int .u8 r44.2.1.Leave.x0 :: .int .u8 r44.2.1.Leave.x1 :: .int .u8 r44.2.1.Leave.x2 :: .int .u8 r44.2.1.Leave.x3 :: .int .u8 r44.2.1.Leave.x4 :: .int .u8 r44.2.1.Leave.x5 :: .int .u8 r44.2.1.Source.x0 :: .int .u8 r44.2.1.Source.x1 :: .int .u8 r44.2.1.Source.x2 :: .int .u8 r44.2.1.Source.x3 :: .int .u8 r44.2.1.Source.x4 :: .int .u8 r44.2.1.Source.x5 :: .int .u8 r44.2.1.Target.x0 :: .int .u8 r44.2.1.Target.x1 :: .int .u8 r44.2.1.Target.x2 :: .int .u8 r44.2.1.Target.x3 :: .int .u8 r44.2.1.Target.x4 :: .int .u8 r44.2.1.Target.x5 :: .int .i64 r44.2.1.Seq :: .int .i64 r44.2.1.Ttl :: .sl 28 1 0 r44.2.1.Data.length false :: []), .int .i64 r44.2.2] :: .agg [.int .u8 r7.1.Own.x0, .int .u8 r7.1.Own.x1, .int .u8 r7.1.Own.x2, .int .u8 r7.1.Own.x3, .int .u8 r7.1.Own.x4, .int .u8 r7.1.Own.x5, .int .i64 r7.1.Seq, .sl 3 7 0 r7.1.Seen.length false, .sl 4 12 0 r7.1.Nexts.length false] :: .agg [.int .u8 r37.x0, .int .u8 r37.x1, .int .u8 r37.x2, .int .u8 r37.x3, .int .u8 r37.x4, .int .u8 r37.x5] :: .agg [.int .u8 r39.x0, .int .u8 r39.x1, .int .u8 r39.x2, .int .u8 r39.x3, .int .u8 r39.x4, .int .u8 r39.x5] :: .agg [.int .u8 r41.x0, .int .u8 r41.x1, .int .u8 r41.x2, .int .u8 r41.x3, .int .u8 r41.x4, .int .u8 r41.x5] :: .sl 25 1 0 w46.length false :: .tup [.agg [.int .u8 r44.1.Own.x0, .int .u8 r44.1.Own.x1, .int .u8 r44.1.Own.x2, .int .u8 r44.1.Own.x3, .int .u8 r44.1.Own.x4, .int .u8 r44.1.Own.x5, .int .i64 r44.1.Seq, .sl 26 7 0 r44.1.Seen.length false, .sl 27 12 0 r44.1.Nexts.length false], .agg (.int .u8 r44.2.1.From.x0 :: .int .u8 r44.2.1.From.x1 :: .int .u8 r44.2.1.From.x2 :: .int .u8 r44.2.1.From.x3 :: .int .u8 r44.2.1.From.x4 :: .int .u8 r44.2.1.From.x5 :: .int .u8 r44.2.1.To.x0 :: .int .u8 r44.2.1.To.x1 :: .int .u8 r44.2.1.To.x2 :: .int .u8 r44.2.1.To.x3 :: .int .u8 r44.2.1.To.x4 :: .int .u8 r44.2.1.To.x5 :: .int .u8 r44.2.1.Enter.x0 :: .int .u8 r44.2.1.Enter.x1 :: .int .u8 r44.2.1.Enter.x2 :: .int .u8 r44.2.1.Enter.x3 :: .int .u8 r44.2.1.Enter.x4 :: .int .u8 r44.2.1.Enter.x5 :: .int .u8 r44.2.1.Leave.x0 :: .int .u8 r44.2.1.Leave.x1 :: .int .u8 r44.2.1.Leave.x2 :: .int .u8 r44.2.1.Leave.x3 :: .int .u8 r44.2.1.Leave.x4 :: .int .u8 r44.2.1.Leave.x5 :: .int .u8 r44.2.1.Source.x0 :: .int .u8 r44.2.1.Source.x1 :: .int .u8 r44.2.1.Source.x2 :: .int .u8 r44.2.1.Source.x3 :: .int .u8 r44.2.1.Source.x4 :: .int .u8 r44.2.1.Source.x5 :: .int .u8 r44.2.1.Target.x0 :: .int .u8 r44.2.1.Target.x1 :: .int .u8 r44.2.1.Target.x2 :: .int .u8 r44.2.1.Target.x3 :: .int .u8 r44.2.1.Target.x4 :: .int .u8 r44.2.1.Target.x5 :: .int .i64 r44.2.1.Seq :: .int .i64 r44.2.1.Ttl :: .sl 28 1 0 r44.2.1.Data.length false :: []), .int .i64 r44.2.2] :: .agg [.int .u8 r44.1.Own.x0, .int .u8 r44.1.Own.x1, .int .u8 r44.1.Own.x2, .int .u8 r44.1.Own.x3, .int .u8 r44.1.Own.x4, .int .u8 r44.1.Own.x5, .int .i64 r44.1.Seq, .sl 26 7 0 r44.1.Seen.length false, .sl 27 12 0 r44.1.Nexts.length false] :: .agg (.int .u8 r44.2.1.From.x0 :: .int .u8 r44.2.1.From.x1 :: .int .u8 r44.2.1.From.x2 :: .int .u8 r44.2.1.From.x3 :: .int .u8 r44.2.1.From.x4 :: .int .u8 r44.2.1.From.x5 :: .int .u8 r44.2.1.To.x0 :: .int .u8 r44.2.1.To.x1 :: .int .u8 r44.2.1.To.x2 :: .int .u8 r44.2.1.To.x3 :: .int .u8 r44.2.1.To.x4 :: .int .u8 r44.2.1.To.x5 :: .int .u8 r44.2.1.Enter.x0 :: .int .u8 r44.2.1.Enter.x1 :: .int .u8 r44.2.1.Enter.x2 :: .int .u8 r44.2.1.Enter.x3 :: .int .u8 r44.2.1.Enter.x4 :: .int .u8 r44.2.1.Enter.x5 :: .int .u8 r44.2.1.Leave.x0 :: .int .u8 r44.2.1.Leave.x1 :: .int .u8 r44.2.1.Leave.x2 :: .int .u8 r44.2.1.Leave.x3 :: .int .u8 r44.2.1.Leave.x4 :: .int .u8 r44.2.1.Leave.x5 :: .int .u8 r44.2.1.Source.x0 :: .int .u8 r44.2.1.Source.x1 :: .int .u8 r44.2.1.Source.x2 :: .int .u8 r44.2.1.Source.x3 :: .int .u8 r44.2.1.Source.x4 :: .int .u8 r44.2.1.Source.x5 :: .int .u8 r44.2.1.Target.x0 :: .int .u8 r44.2.1.Target.x1 :: .int .u8 r44.2.1.Target.x2 :: .int .u8 r44.2.1.Target.x3 :: .int .u8 r44.2.1.Target.x4 :: .int .u8 r44.2.1.Target.x5 :: .int .i64 r44.2.1.Seq :: .int .i64 r44.2.1.Ttl :: .sl 28 1 0 r44.2.1.Data.length false :: []) :: .int .i64 r44.2.2 :: tp 255 []))) (h2 := (.row 59 7 r3.1.Seen.length (enR c_TForwardMark r3.1.Seen) :: .row 90 12 r3.1.Nexts.length (enR c_TForwardHop r3.1.Nexts) :: .lit 31 [.int .u8 r3.1.Own.x0, .int .u8 r3.1.Own.x1, .int .u8 r3.1.Own.x2, .int .u8 r3.1.Own.x3, .int .u8 r3.1.Own.x4, .int .u8 r3.1.Own.x5, .int .i64 r3.1.Seq, .sl 0 7 0 r3.1.Seen.length false, .sl 1 12 0 r3.1.Nexts.length false] :: .row 59 7 r7.1.Seen.length (enR c_TForwardMark r7.1.Seen) :: .row 90 12 r7.1.Nexts.length (enR c_TForwardHop r7.1.Nexts) :: .lit 31 [.int .u8 r7.1.Own.x0, .int .u8 r7.1.Own.x1, .int .u8 r7.1.Own.x2, .int .u8 r7.1.Own.x3, .int .u8 r7.1.Own.x4, .int .u8 r7.1.Own.x5, .int .i64 r7.1.Seq, .sl 3 7 0 r7.1.Seen.length false, .sl 4 12 0 r7.1.Nexts.length false] :: .row 59 7 r13.1.Seen.length (enR c_TForwardMark r13.1.Seen) :: .row 90 12 r13.1.Nexts.length (enR c_TForwardHop r13.1.Nexts) :: .lit 31 [.int .u8 r13.1.Own.x0, .int .u8 r13.1.Own.x1, .int .u8 r13.1.Own.x2, .int .u8 r13.1.Own.x3, .int .u8 r13.1.Own.x4, .int .u8 r13.1.Own.x5, .int .i64 r13.1.Seq, .sl 6 7 0 r13.1.Seen.length false, .sl 7 12 0 r13.1.Nexts.length false] :: .row 59 7 r19.1.Seen.length (enR c_TForwardMark r19.1.Seen) :: .row 90 12 r19.1.Nexts.length (enR c_TForwardHop r19.1.Nexts) :: .lit 31 [.int .u8 r19.1.Own.x0, .int .u8 r19.1.Own.x1, .int .u8 r19.1.Own.x2, .int .u8 r19.1.Own.x3, .int .u8 r19.1.Own.x4, .int .u8 r19.1.Own.x5, .int .i64 r19.1.Seq, .sl 9 7 0 r19.1.Seen.length false, .sl 10 12 0 r19.1.Nexts.length false] :: .row 59 7 r23.1.Seen.length (enR c_TForwardMark r23.1.Seen) :: .row 90 12 r23.1.Nexts.length (enR c_TForwardHop r23.1.Nexts) :: .lit 31 [.int .u8 r23.1.Own.x0, .int .u8 r23.1.Own.x1, .int .u8 r23.1.Own.x2, .int .u8 r23.1.Own.x3, .int .u8 r23.1.Own.x4, .int .u8 r23.1.Own.x5, .int .i64 r23.1.Seq, .sl 12 7 0 r23.1.Seen.length false, .sl 13 12 0 r23.1.Nexts.length false] :: .row 59 7 r29.1.Seen.length (enR c_TForwardMark r29.1.Seen) :: .row 90 12 r29.1.Nexts.length (enR c_TForwardHop r29.1.Nexts) :: .row 5 1 r29.2.1.Data.length (enR c_u8 r29.2.1.Data) :: .lit 31 [.int .u8 r29.1.Own.x0, .int .u8 r29.1.Own.x1, .int .u8 r29.1.Own.x2, .int .u8 r29.1.Own.x3, .int .u8 r29.1.Own.x4, .int .u8 r29.1.Own.x5, .int .i64 r29.1.Seq, .sl 15 7 0 r29.1.Seen.length false, .sl 16 12 0 r29.1.Nexts.length false] :: .lit 26 (.int .u8 r29.2.1.From.x0 :: .int .u8 r29.2.1.From.x1 :: .int .u8 r29.2.1.From.x2 :: .int .u8 r29.2.1.From.x3 :: .int .u8 r29.2.1.From.x4 :: .int .u8 r29.2.1.From.x5 :: .int .u8 r29.2.1.To.x0 :: .int .u8 r29.2.1.To.x1 :: .int .u8 r29.2.1.To.x2 :: .int .u8 r29.2.1.To.x3 :: .int .u8 r29.2.1.To.x4 :: .int .u8 r29.2.1.To.x5 :: .int .u8 r29.2.1.Enter.x0 :: .int .u8 r29.2.1.Enter.x1 :: .int .u8 r29.2.1.Enter.x2 :: .int .u8 r29.2.1.Enter.x3 :: .int .u8 r29.2.1.Enter.x4 :: .int .u8 r29.2.1.Enter.x5 :: .int .u8 r29.2.1.Leave.x0 :: .int .u8 r29.2.1.Leave.x1 :: .int .u8 r29.2.1.Leave.x2 :: .int .u8 r29.2.1.Leave.x3 :: .int .u8 r29.2.1.Leave.x4 :: .int .u8 r29.2.1.Leave.x5 :: .int .u8 r29.2.1.Source.x0 :: .int .u8 r29.2.1.Source.x1 :: .int .u8 r29.2.1.Source.x2 :: .int .u8 r29.2.1.Source.x3 :: .int .u8 r29.2.1.Source.x4 :: .int .u8 r29.2.1.Source.x5 :: .int .u8 r29.2.1.Target.x0 :: .int .u8 r29.2.1.Target.x1 :: .int .u8 r29.2.1.Target.x2 :: .int .u8 r29.2.1.Target.x3 :: .int .u8 r29.2.1.Target.x4 :: .int .u8 r29.2.1.Target.x5 :: .int .i64 r29.2.1.Seq :: .int .i64 r29.2.1.Ttl :: .sl 17 1 0 r29.2.1.Data.length false :: []) :: .row 59 7 r35.1.Seen.length (enR c_TForwardMark r35.1.Seen) :: .row 90 12 r35.1.Nexts.length (enR c_TForwardHop r35.1.Nexts) :: .row 5 1 r35.2.1.Data.length (enR c_u8 r35.2.1.Data) :: .lit 31 [.int .u8 r35.1.Own.x0, .int .u8 r35.1.Own.x1, .int .u8 r35.1.Own.x2, .int .u8 r35.1.Own.x3, .int .u8 r35.1.Own.x4, .int .u8 r35.1.Own.x5, .int .i64 r35.1.Seq, .sl 20 7 0 r35.1.Seen.length false, .sl 21 12 0 r35.1.Nexts.length false] :: .lit 26 (.int .u8 r35.2.1.From.x0 :: .int .u8 r35.2.1.From.x1 :: .int .u8 r35.2.1.From.x2 :: .int .u8 r35.2.1.From.x3 :: .int .u8 r35.2.1.From.x4 :: .int .u8 r35.2.1.From.x5 :: .int .u8 r35.2.1.To.x0 :: .int .u8 r35.2.1.To.x1 :: .int .u8 r35.2.1.To.x2 :: .int .u8 r35.2.1.To.x3 :: .int .u8 r35.2.1.To.x4 :: .int .u8 r35.2.1.To.x5 :: .int .u8 r35.2.1.Enter.x0 :: .int .u8 r35.2.1.Enter.x1 :: .int .u8 r35.2.1.Enter.x2 :: .int .u8 r35.2.1.Enter.x3 :: .int .u8 r35.2.1.Enter.x4 :: .int .u8 r35.2.1.Enter.x5 :: .int .u8 r35.2.1.Leave.x0 :: .int .u8 r35.2.1.Leave.x1 :: .int .u8 r35.2.1.Leave.x2 :: .int .u8 r35.2.1.Leave.x3 :: .int .u8 r35.2.1.Leave.x4 :: .int .u8 r35.2.1.Leave.x5 :: .int .u8 r35.2.1.Source.x0 :: .int .u8 r35.2.1.Source.x1 :: .int .u8 r35.2.1.Source.x2 :: .int .u8 r35.2.1.Source.x3 :: .int .u8 r35.2.1.Source.x4 :: .int .u8 r35.2.1.Source.x5 :: .int .u8 r35.2.1.Target.x0 :: .int .u8 r35.2.1.Target.x1 :: .int .u8 r35.2.1.Target.x2 :: .int .u8 r35.2.1.Target.x3 :: .int .u8 r35.2.1.Target.x4 :: .int .u8 r35.2.1.Target.x5 :: .int .i64 r35.2.1.Seq :: .int .i64 r35.2.1.Ttl :: .sl 22 1 0 r35.2.1.Data.length false :: []) :: .row 5 1 w46.length (enR c_u8 w46) :: .row 59 7 r44.1.Seen.length (enR c_TForwardMark r44.1.Seen) :: .row 90 12 r44.1.Nexts.length (enR c_TForwardHop r44.1.Nexts) :: .row 5 1 r44.2.1.Data.length (enR c_u8 r44.2.1.Data) :: .lit 31 [.int .u8 r44.1.Own.x0, .int .u8 r44.1.Own.x1, .int .u8 r44.1.Own.x2, .int .u8 r44.1.Own.x3, .int .u8 r44.1.Own.x4, .int .u8 r44.1.Own.x5, .int .i64 r44.1.Seq, .sl 26 7 0 r44.1.Seen.length false, .sl 27 12 0 r44.1.Nexts.length false] :: .lit 26 (.int .u8 r44.2.1.From.x0 :: .int .u8 r44.2.1.From.x1 :: .int .u8 r44.2.1.From.x2 :: .int .u8 r44.2.1.From.x3 :: .int .u8 r44.2.1.From.x4 :: .int .u8 r44.2.1.From.x5 :: .int .u8 r44.2.1.To.x0 :: .int .u8 r44.2.1.To.x1 :: .int .u8 r44.2.1.To.x2 :: .int .u8 r44.2.1.To.x3 :: .int .u8 r44.2.1.To.x4 :: .int .u8 r44.2.1.To.x5 :: .int .u8 r44.2.1.Enter.x0 :: .int .u8 r44.2.1.Enter.x1 :: .int .u8 r44.2.1.Enter.x2 :: .int .u8 r44.2.1.Enter.x3 :: .int .u8 r44.2.1.Enter.x4 :: .int .u8 r44.2.1.Enter.x5 :: .int .u8 r44.2.1.Leave.x0 :: .int .u8 r44.2.1.Leave.x1 :: .int .u8 r44.2.1.Leave.x2 :: .int .u8 r44.2.1.Leave.x3 :: .int .u8 r44.2.1.Leave.x4 :: .int .u8 r44.2.1.Leave.x5 :: .int .u8 r44.2.1.Source.x0 :: .int .u8 r44.2.1.Source.x1 :: .int .u8 r44.2.1.Source.x2 :: .int .u8 r44.2.1.Source.x3 :: .int .u8 r44.2.1.Source.x4 :: .int .u8 r44.2.1.Source.x5 :: .int .u8 r44.2.1.Target.x0 :: .int .u8 r44.2.1.Target.x1 :: .int .u8 r44.2.1.Target.x2 :: .int .u8 r44.2.1.Target.x3 :: .int .u8 r44.2.1.Target.x4 :: .int .u8 r44.2.1.Target.x5 :: .int .i64 r44.2.1.Seq :: .int .i64 r44.2.1.Ttl :: .sl 28 1 0 r44.2.1.Data.length false :: []) :: [])) ?_ ?_
    · refine SubF_of ⟨[some 0, some 1, some 2, some 3, some 4, some 5, some 6, some 7, some 8, some 9, some 10, some 11, some 12, some 13, some 14, some 15, some 16, some 17, some 18, some 19, some 20, some 21, some 22, some 23, some 24, some 25, some 26, some 27, some 28, some 29, some 30], ?_, ?_, by rfl, by rfl⟩
      · simp [CvL, Cv, getM, tp, lhw47]
      · exact ⟨CvB_row nr_TForwardMark rfl (fun _ _ _ _ => rfl), CvB_row nr_TForwardHop rfl (fun _ _ _ _ => rfl), (by simp [CvB, CvL, Cv, blkAt, geth, getM, lhw47]), CvB_row nr_TForwardMark rfl (fun _ _ _ _ => rfl), CvB_row nr_TForwardHop rfl (fun _ _ _ _ => rfl), (by simp [CvB, CvL, Cv, blkAt, geth, getM, lhw47]), CvB_row nr_TForwardMark rfl (fun _ _ _ _ => rfl), CvB_row nr_TForwardHop rfl (fun _ _ _ _ => rfl), (by simp [CvB, CvL, Cv, blkAt, geth, getM, lhw47]), CvB_row nr_TForwardMark rfl (fun _ _ _ _ => rfl), CvB_row nr_TForwardHop rfl (fun _ _ _ _ => rfl), (by simp [CvB, CvL, Cv, blkAt, geth, getM, lhw47]), CvB_row nr_TForwardMark rfl (fun _ _ _ _ => rfl), CvB_row nr_TForwardHop rfl (fun _ _ _ _ => rfl), (by simp [CvB, CvL, Cv, blkAt, geth, getM, lhw47]), CvB_row nr_TForwardMark rfl (fun _ _ _ _ => rfl), CvB_row nr_TForwardHop rfl (fun _ _ _ _ => rfl), CvB_row nr_u8 rfl (fun _ _ _ _ => rfl), (by simp [CvB, CvL, Cv, blkAt, geth, getM, lhw47]), (by simp [CvB, CvL, Cv, blkAt, geth, getM, lhw47]), CvB_row nr_TForwardMark rfl (fun _ _ _ _ => rfl), CvB_row nr_TForwardHop rfl (fun _ _ _ _ => rfl), CvB_row nr_u8 rfl (fun _ _ _ _ => rfl), (by simp [CvB, CvL, Cv, blkAt, geth, getM, lhw47]), (by simp [CvB, CvL, Cv, blkAt, geth, getM, lhw47]), CvB_row nr_u8 lhw47 (hw47 ▸ (rep_row (f := c_u8) 2265 0 rfl)), CvB_row nr_TForwardMark rfl (fun _ _ _ _ => rfl), CvB_row nr_TForwardHop rfl (fun _ _ _ _ => rfl), CvB_row nr_u8 rfl (fun _ _ _ _ => rfl), (by simp [CvB, CvL, Cv, blkAt, geth, getM, lhw47]), (by simp [CvB, CvL, Cv, blkAt, geth, getM, lhw47]), trivial⟩
    simp only [tp]
    obtain ⟨r48, e49, H⟩ := bsi H
    obtain ⟨r50, e51, H⟩ := bsi H
    obtain ⟨r52, e53, H⟩ := bsi H
    refine draw_ruleX [(123, [], [3, 4, 31])] shT_ok ct9t6_ok 6 (by kernel_rfl) (by kernel_rfl) ?_
    intro an han
    simp only [d_nil, d_cons, nxtD, xrD, xoD, roEq, minL, List.append_nil, refsOp, refs, refsL, mask, maskF, place, placeF, okLog, pairOk, hit, inL, slotsF, ren, renL, rnN, nrH, nrB, nrL, nr, dead0, deadS, List.replicate_zero, List.replicate_succ, Nat.sub_self, Nat.add_zero, Nat.zero_add, Nat.reduceSub, Nat.not_lt_zero, Nat.zero_le, Nat.lt_add_one, go_sem, Nat.reduceLeDiff, Nat.reduceLT, Nat.reduceAdd, Nat.reduceMul, Nat.reduceSub, Nat.reduceEqDiff, Nat.reduceBEq, Int.reduceToNat, reduceCtorEq, ct9t6_31, body31, ct9t6_32, body32, ct9t6_34, body34, e49, e51, e53]
    repeat ((with_reducible refine And.intro ?_ ?_); focus (and_intros <;> first | (with_reducible trivial) | (show anB _ _ _ = true; subst han; kernel_rfl) | (show (anB _ _ _ && _) = true; subst han; kernel_rfl) | omega | assumption | exact nrc | exact nfc | first | exact rfl | exact trivial | exact fitI | exact .inr rfl | exact .inl rfl | exact fun x hx => absurd hx (by omega) | (intro x hx; (repeat (first | (and_intros <;> (first | exact rfl | exact trivial | exact fitI | exact .inr rfl | exact .inl rfl | exact fun x hx => absurd hx (by omega))) | (exfalso; omega) | (rcases x with _ | x))); done)))
    refine seqM ?_
    refine seqM ?_
    obtain ⟨f54, H⟩ := need_some.1 H
    replace f54 := g_iff.1 f54
    refine draw_quiet shT_ok ct9t7_ok (by kernel_rfl) (by kernel_rfl) ?_
    simp only [go_sem, Nat.reduceLeDiff, Nat.reduceLT, Nat.reduceAdd, Nat.reduceMul, Nat.reduceSub, Nat.reduceEqDiff, Nat.reduceBEq, Int.reduceToNat, reduceCtorEq, ct9t7_34, body34]
    repeat ((with_reducible refine And.intro ?_ ?_); focus (first | (with_reducible trivial) | omega | exact f54 | (intro g; have q := f54 (by first | exact g | (rw [g]; rfl) | simpa using g); first | exact q | exact ⟨q.1, q.2.1⟩ | exact q.2.2 | omega | exact ⟨g, q⟩ | exact ⟨trivial, q⟩ | exact ⟨g, q.1, q.2.1⟩ | exact ⟨g, q.2.2⟩) | (intro g; (try have q0 := f54 (by first | exact g | (rw [g]; rfl) | simpa using g)); and_intros <;> first | (with_reducible trivial) | assumption | exact nfc | (intro g2; rw [g, g2]; rfl) | (intro g2; assumption) | (simp only [g, Bool.true_and, Bool.and_true, Bool.not_false, Bool.not_true]; assumption) | grind) | (and_intros <;> first | (with_reducible trivial) | omega | assumption | exact nfc | first | exact rfl | exact trivial | exact fitI | exact .inr rfl | exact .inl rfl | exact fun x hx => absurd hx (by omega) | (intro x hx; (repeat (first | (and_intros <;> (first | exact rfl | exact trivial | exact fitI | exact .inr rfl | exact .inl rfl | exact fun x hx => absurd hx (by omega))) | (exfalso; omega) | (rcases x with _ | x))); done)) | grind))
    refine condM rfl trivial (fun hc => ?_) (fun hc => ?_)
    · replace H := cond_t hc H
      refine sq ctNo_ok ?_
      simp only [go_sem, Nat.reduceLeDiff, Nat.reduceLT, Nat.reduceAdd, Nat.reduceMul, Nat.reduceSub, Nat.reduceEqDiff, Nat.reduceBEq, Int.reduceToNat, reduceCtorEq]
      refine rg ctNo_ok ?_
      simp only [go_sem, Nat.reduceLeDiff, Nat.reduceLT, Nat.reduceAdd, Nat.reduceMul, Nat.reduceSub, Nat.reduceEqDiff, Nat.reduceBEq, Int.reduceToNat, reduceCtorEq]
      obtain rfl := Option.some.inj H
      first | rfl | simp only [Bool.and_false, Bool.false_and, Bool.and_true, Bool.true_and]
    replace H := cond_f hc H
    refine rg ctNo_ok ?_
    simp only [go_sem, Nat.reduceLeDiff, Nat.reduceLT, Nat.reduceAdd, Nat.reduceMul, Nat.reduceSub, Nat.reduceEqDiff, Nat.reduceBEq, Int.reduceToNat, reduceCtorEq]
    refine seqM ?_
    obtain ⟨r55, e56, H⟩ := bsi H
    obtain ⟨r57, e58, H⟩ := bsi H
    refine rg ct9t1_ok ?_
    simp only [go_sem, Nat.reduceLeDiff, Nat.reduceLT, Nat.reduceAdd, Nat.reduceMul, Nat.reduceSub, Nat.reduceEqDiff, Nat.reduceBEq, Int.reduceToNat, reduceCtorEq, ct9t1_31, body31, ct9t1_35, body35, e56, e58]
    repeat ((with_reducible refine And.intro ?_ ?_); focus (first | (and_intros <;> first | (with_reducible trivial) | omega | assumption | exact nfc | first | exact rfl | exact trivial | exact fitI | exact .inr rfl | exact .inl rfl | exact fun x hx => absurd hx (by omega) | (intro x hx; (repeat (first | (and_intros <;> (first | exact rfl | exact trivial | exact fitI | exact .inr rfl | exact .inl rfl | exact fun x hx => absurd hx (by omega))) | (exfalso; omega) | (rcases x with _ | x))); done)) | grind))
    refine seqM ?_
    obtain ⟨r59, e60, H⟩ := bsi H
    refine rg ct9t8_ok ?_
    simp only [go_sem, Nat.reduceLeDiff, Nat.reduceLT, Nat.reduceAdd, Nat.reduceMul, Nat.reduceSub, Nat.reduceEqDiff, Nat.reduceBEq, Int.reduceToNat, reduceCtorEq, ct9t8_20, body20, e60]
    repeat ((with_reducible refine And.intro ?_ ?_); focus (first | (and_intros <;> first | (with_reducible trivial) | omega | assumption | exact nfc | first | exact rfl | exact trivial | exact fitI | exact .inr rfl | exact .inl rfl | exact fun x hx => absurd hx (by omega) | (intro x hx; (repeat (first | (and_intros <;> (first | exact rfl | exact trivial | exact fitI | exact .inr rfl | exact .inl rfl | exact fun x hx => absurd hx (by omega))) | (exfalso; omega) | (rcases x with _ | x))); done)) | grind))
    refine seqM ?_
    obtain ⟨r61, e62, H⟩ := bsi H
    refine rg ct9t8_ok ?_
    simp only [go_sem, Nat.reduceLeDiff, Nat.reduceLT, Nat.reduceAdd, Nat.reduceMul, Nat.reduceSub, Nat.reduceEqDiff, Nat.reduceBEq, Int.reduceToNat, reduceCtorEq, ct9t8_20, body20, e62]
    repeat ((with_reducible refine And.intro ?_ ?_); focus (first | (and_intros <;> first | (with_reducible trivial) | omega | assumption | exact nfc | first | exact rfl | exact trivial | exact fitI | exact .inr rfl | exact .inl rfl | exact fun x hx => absurd hx (by omega) | (intro x hx; (repeat (first | (and_intros <;> (first | exact rfl | exact trivial | exact fitI | exact .inr rfl | exact .inl rfl | exact fun x hx => absurd hx (by omega))) | (exfalso; omega) | (rcases x with _ | x))); done)) | grind))
    refine sq ctNo_ok ?_
    simp only [go_sem, Nat.reduceLeDiff, Nat.reduceLT, Nat.reduceAdd, Nat.reduceMul, Nat.reduceSub, Nat.reduceEqDiff, Nat.reduceBEq, Int.reduceToNat, reduceCtorEq]
    repeat ((with_reducible refine And.intro ?_ ?_); focus (first | (with_reducible trivial) | omega | grind))
    refine sq ctNo_ok ?_
    simp only [go_sem, Nat.reduceLeDiff, Nat.reduceLT, Nat.reduceAdd, Nat.reduceMul, Nat.reduceSub, Nat.reduceEqDiff, Nat.reduceBEq, Int.reduceToNat, reduceCtorEq]
    repeat ((with_reducible refine And.intro ?_ ?_); focus (first | (with_reducible trivial) | omega | grind))
    refine seqM ?_
    obtain ⟨r63, e64, H⟩ := bsi H
    refine rg ct9t8_ok ?_
    simp only [go_sem, Nat.reduceLeDiff, Nat.reduceLT, Nat.reduceAdd, Nat.reduceMul, Nat.reduceSub, Nat.reduceEqDiff, Nat.reduceBEq, Int.reduceToNat, reduceCtorEq, ct9t8_20, body20, e64]
    repeat ((with_reducible refine And.intro ?_ ?_); focus (first | (and_intros <;> first | (with_reducible trivial) | omega | assumption | exact nfc | first | exact rfl | exact trivial | exact fitI | exact .inr rfl | exact .inl rfl | exact fun x hx => absurd hx (by omega) | (intro x hx; (repeat (first | (and_intros <;> (first | exact rfl | exact trivial | exact fitI | exact .inr rfl | exact .inl rfl | exact fun x hx => absurd hx (by omega))) | (exfalso; omega) | (rcases x with _ | x))); done)) | grind))
    refine seqM ?_
    obtain ⟨r65, e66, H⟩ := bsi H
    obtain ⟨r67, e68, H⟩ := bsi H
    obtain ⟨r69, e70, H⟩ := bsi H
    refine rg ct9t9_ok ?_
    simp only [go_sem, Nat.reduceLeDiff, Nat.reduceLT, Nat.reduceAdd, Nat.reduceMul, Nat.reduceSub, Nat.reduceEqDiff, Nat.reduceBEq, Int.reduceToNat, reduceCtorEq, ct9t9_31, body31, e66, e68, e70]
    repeat ((with_reducible refine And.intro ?_ ?_); focus (first | (and_intros <;> first | (with_reducible trivial) | omega | assumption | exact nfc | first | exact rfl | exact trivial | exact fitI | exact .inr rfl | exact .inl rfl | exact fun x hx => absurd hx (by omega) | (intro x hx; (repeat (first | (and_intros <;> (first | exact rfl | exact trivial | exact fitI | exact .inr rfl | exact .inl rfl | exact fun x hx => absurd hx (by omega))) | (exfalso; omega) | (rcases x with _ | x))); done)) | grind))
    refine seqM ?_
    obtain ⟨r71, e72, H⟩ := bsi H
    refine rg ct9t8_ok ?_
    simp only [go_sem, Nat.reduceLeDiff, Nat.reduceLT, Nat.reduceAdd, Nat.reduceMul, Nat.reduceSub, Nat.reduceEqDiff, Nat.reduceBEq, Int.reduceToNat, reduceCtorEq, ct9t8_20, body20, e72]
    repeat ((with_reducible refine And.intro ?_ ?_); focus (first | (and_intros <;> first | (with_reducible trivial) | omega | assumption | exact nfc | first | exact rfl | exact trivial | exact fitI | exact .inr rfl | exact .inl rfl | exact fun x hx => absurd hx (by omega) | (intro x hx; (repeat (first | (and_intros <;> (first | exact rfl | exact trivial | exact fitI | exact .inr rfl | exact .inl rfl | exact fun x hx => absurd hx (by omega))) | (exfalso; omega) | (rcases x with _ | x))); done)) | grind))
    refine sq ctNo_ok ?_
    simp only [go_sem, Nat.reduceLeDiff, Nat.reduceLT, Nat.reduceAdd, Nat.reduceMul, Nat.reduceSub, Nat.reduceEqDiff, Nat.reduceBEq, Int.reduceToNat, reduceCtorEq]
    repeat ((with_reducible refine And.intro ?_ ?_); focus (first | (with_reducible trivial) | omega | grind))
    refine seqM ?_
    obtain ⟨r73, e74, H⟩ := bsi H
    refine rg ct9t8_ok ?_
    simp only [go_sem, Nat.reduceLeDiff, Nat.reduceLT, Nat.reduceAdd, Nat.reduceMul, Nat.reduceSub, Nat.reduceEqDiff, Nat.reduceBEq, Int.reduceToNat, reduceCtorEq, ct9t8_20, body20, e74]
    repeat ((with_reducible refine And.intro ?_ ?_); focus (first | (and_intros <;> first | (with_reducible trivial) | omega | assumption | exact nfc | first | exact rfl | exact trivial | exact fitI | exact .inr rfl | exact .inl rfl | exact fun x hx => absurd hx (by omega) | (intro x hx; (repeat (first | (and_intros <;> (first | exact rfl | exact trivial | exact fitI | exact .inr rfl | exact .inl rfl | exact fun x hx => absurd hx (by omega))) | (exfalso; omega) | (rcases x with _ | x))); done)) | grind))
    refine seqM ?_
    obtain ⟨r75, e76, H⟩ := bsi H
    refine rg ct9t9_ok ?_
    simp only [go_sem, Nat.reduceLeDiff, Nat.reduceLT, Nat.reduceAdd, Nat.reduceMul, Nat.reduceSub, Nat.reduceEqDiff, Nat.reduceBEq, Int.reduceToNat, reduceCtorEq, ct9t9_31, body31, e76]
    repeat ((with_reducible refine And.intro ?_ ?_); focus (first | (and_intros <;> first | (with_reducible trivial) | omega | assumption | exact nfc | first | exact rfl | exact trivial | exact fitI | exact .inr rfl | exact .inl rfl | exact fun x hx => absurd hx (by omega) | (intro x hx; (repeat (first | (and_intros <;> (first | exact rfl | exact trivial | exact fitI | exact .inr rfl | exact .inl rfl | exact fun x hx => absurd hx (by omega))) | (exfalso; omega) | (rcases x with _ | x))); done)) | grind))
    refine seqM ?_
    obtain ⟨r77, e78, H⟩ := bsi H
    refine rg ct9t8_ok ?_
    simp only [go_sem, Nat.reduceLeDiff, Nat.reduceLT, Nat.reduceAdd, Nat.reduceMul, Nat.reduceSub, Nat.reduceEqDiff, Nat.reduceBEq, Int.reduceToNat, reduceCtorEq, ct9t8_20, body20, e78]
    repeat ((with_reducible refine And.intro ?_ ?_); focus (first | (and_intros <;> first | (with_reducible trivial) | omega | assumption | exact nfc | first | exact rfl | exact trivial | exact fitI | exact .inr rfl | exact .inl rfl | exact fun x hx => absurd hx (by omega) | (intro x hx; (repeat (first | (and_intros <;> (first | exact rfl | exact trivial | exact fitI | exact .inr rfl | exact .inl rfl | exact fun x hx => absurd hx (by omega))) | (exfalso; omega) | (rcases x with _ | x))); done)) | grind))
    refine seqM ?_
    obtain ⟨r79, e80, H⟩ := bsi H
    refine rg ct9t10_ok ?_
    simp only [go_sem, Nat.reduceLeDiff, Nat.reduceLT, Nat.reduceAdd, Nat.reduceMul, Nat.reduceSub, Nat.reduceEqDiff, Nat.reduceBEq, Int.reduceToNat, reduceCtorEq, ct9t10_12, body12, e80]
    repeat ((with_reducible refine And.intro ?_ ?_); focus (first | (and_intros <;> first | (with_reducible trivial) | omega | assumption | exact nfc | first | exact rfl | exact trivial | exact fitI | exact .inr rfl | exact .inl rfl | exact fun x hx => absurd hx (by omega) | (intro x hx; (repeat (first | (and_intros <;> (first | exact rfl | exact trivial | exact fitI | exact .inr rfl | exact .inl rfl | exact fun x hx => absurd hx (by omega))) | (exfalso; omega) | (rcases x with _ | x))); done)) | grind))
    refine seqM ?_
    obtain ⟨r81, e82, H⟩ := bsi H
    refine rg ct9t10_ok ?_
    simp only [go_sem, Nat.reduceLeDiff, Nat.reduceLT, Nat.reduceAdd, Nat.reduceMul, Nat.reduceSub, Nat.reduceEqDiff, Nat.reduceBEq, Int.reduceToNat, reduceCtorEq, ct9t10_12, body12, e82]
    repeat ((with_reducible refine And.intro ?_ ?_); focus (first | (and_intros <;> first | (with_reducible trivial) | omega | assumption | exact nfc | first | exact rfl | exact trivial | exact fitI | exact .inr rfl | exact .inl rfl | exact fun x hx => absurd hx (by omega) | (intro x hx; (repeat (first | (and_intros <;> (first | exact rfl | exact trivial | exact fitI | exact .inr rfl | exact .inl rfl | exact fun x hx => absurd hx (by omega))) | (exfalso; omega) | (rcases x with _ | x))); done)) | grind))
    refine seqM ?_
    refine sq ctNo_ok ?_
    simp only [go_sem, Nat.reduceLeDiff, Nat.reduceLT, Nat.reduceAdd, Nat.reduceMul, Nat.reduceSub, Nat.reduceEqDiff, Nat.reduceBEq, Int.reduceToNat, reduceCtorEq]
    repeat ((with_reducible refine And.intro ?_ ?_); focus (first | (with_reducible trivial) | omega | (intro g; and_intros <;> first | (with_reducible trivial) | assumption | exact nfc | (intro g2; rw [g, g2]; rfl) | (intro g2; assumption) | (simp only [g, Bool.true_and, Bool.and_true, Bool.not_false, Bool.not_true]; assumption) | grind) | (and_intros <;> first | (with_reducible trivial) | omega | assumption | exact nfc | first | exact rfl | exact trivial | exact fitI | exact .inr rfl | exact .inl rfl | exact fun x hx => absurd hx (by omega) | (intro x hx; (repeat (first | (and_intros <;> (first | exact rfl | exact trivial | exact fitI | exact .inr rfl | exact .inl rfl | exact fun x hx => absurd hx (by omega))) | (exfalso; omega) | (rcases x with _ | x))); done)) | grind))
    refine condM rfl trivial (fun hc => ?_) (fun hc => ?_)
    · replace H := cond_t hc H
      refine sq ctNo_ok ?_
      simp only [go_sem, Nat.reduceLeDiff, Nat.reduceLT, Nat.reduceAdd, Nat.reduceMul, Nat.reduceSub, Nat.reduceEqDiff, Nat.reduceBEq, Int.reduceToNat, reduceCtorEq]
      refine rg ctNo_ok ?_
      simp only [go_sem, Nat.reduceLeDiff, Nat.reduceLT, Nat.reduceAdd, Nat.reduceMul, Nat.reduceSub, Nat.reduceEqDiff, Nat.reduceBEq, Int.reduceToNat, reduceCtorEq]
      obtain rfl := Option.some.inj H
      first | rfl | simp only [Bool.and_false, Bool.false_and, Bool.and_true, Bool.true_and]
    replace H := cond_f hc H
    refine rg ctNo_ok ?_
    simp only [go_sem, Nat.reduceLeDiff, Nat.reduceLT, Nat.reduceAdd, Nat.reduceMul, Nat.reduceSub, Nat.reduceEqDiff, Nat.reduceBEq, Int.reduceToNat, reduceCtorEq]
    refine seqM ?_
    obtain ⟨f83, H⟩ := need_some.1 H
    replace f83 := slb_iff.1 f83
    obtain ⟨r84, e85, H⟩ := bsi H
    (try simp only [go_sem, Nat.reduceLeDiff, Nat.reduceLT, Nat.reduceAdd, Nat.reduceMul, Nat.reduceSub, Nat.reduceEqDiff, Nat.reduceBEq, Int.reduceToNat, reduceCtorEq] at e85)
    refine rg ct9t11_ok ?_
    simp only [go_sem, Nat.reduceLeDiff, Nat.reduceLT, Nat.reduceAdd, Nat.reduceMul, Nat.reduceSub, Nat.reduceEqDiff, Nat.reduceBEq, Int.reduceToNat, reduceCtorEq, ct9t11_14, body14, f83, e85]
    repeat ((with_reducible refine And.intro ?_ ?_); focus (first | (and_intros <;> first | (with_reducible trivial) | omega | assumption | exact nfc | first | exact rfl | exact trivial | exact fitI | exact .inr rfl | exact .inl rfl | exact fun x hx => absurd hx (by omega) | (intro x hx; (repeat (first | (and_intros <;> (first | exact rfl | exact trivial | exact fitI | exact .inr rfl | exact .inl rfl | exact fun x hx => absurd hx (by omega))) | (exfalso; omega) | (rcases x with _ | x))); done)) | grind))
    refine sq ctNo_ok ?_
    simp only [go_sem, Nat.reduceLeDiff, Nat.reduceLT, Nat.reduceAdd, Nat.reduceMul, Nat.reduceSub, Nat.reduceEqDiff, Nat.reduceBEq, Int.reduceToNat, reduceCtorEq]
    repeat ((with_reducible refine And.intro ?_ ?_); focus (first | (with_reducible trivial) | omega | grind))
    refine seqM ?_
    obtain ⟨f86, H⟩ := need_some.1 H
    replace f86 := g_iff.1 f86
    obtain ⟨f87, H⟩ := need_some.1 H
    replace f87 := g_iff.1 f87
    refine draw_quiet shT_ok ct9t12_ok (by kernel_rfl) (by kernel_rfl) ?_
    simp (maxSteps := 3000000) only [go_sem, Nat.reduceLeDiff, Nat.reduceLT, Nat.reduceAdd, Nat.reduceMul, Nat.reduceSub, Nat.reduceEqDiff, Nat.reduceBEq, Int.reduceToNat, reduceCtorEq, ct9t12_31, body31, ct9t12_34, body34, List.append_eq, List.cons_append, List.nil_append, Array.toList_append, List.append_assoc]
    repeat ((with_reducible refine And.intro ?_ ?_); focus (first | (with_reducible trivial) | omega | exact f86 | exact f87 | (intro g; have q := f86 (by first | exact g | (rw [g]; rfl) | simpa using g); first | exact q | exact ⟨q.1, q.2.1⟩ | exact q.2.2 | omega | exact ⟨g, q⟩ | exact ⟨trivial, q⟩ | exact ⟨g, q.1, q.2.1⟩ | exact ⟨g, q.2.2⟩) | (intro g; have q := f87 (by first | exact g | (rw [g]; rfl) | simpa using g); first | exact q | exact ⟨q.1, q.2.1⟩ | exact q.2.2 | omega | exact ⟨g, q⟩ | exact ⟨trivial, q⟩ | exact ⟨g, q.1, q.2.1⟩ | exact ⟨g, q.2.2⟩) | (intro g; (try have q0 := f86 (by first | exact g | (rw [g]; rfl) | simpa using g)); (try have q1 := f87 (by first | exact g | (rw [g]; rfl) | simpa using g)); and_intros <;> first | (with_reducible trivial) | assumption | exact nfc | (intro g2; rw [g, g2]; rfl) | (intro g2; assumption) | (simp only [g, Bool.true_and, Bool.and_true, Bool.not_false, Bool.not_true]; assumption) | grind) | (and_intros <;> first | (with_reducible trivial) | omega | assumption | exact nfc | first | exact rfl | exact trivial | exact fitI | exact .inr rfl | exact .inl rfl | exact fun x hx => absurd hx (by omega) | (intro x hx; (repeat (first | (and_intros <;> (first | exact rfl | exact trivial | exact fitI | exact .inr rfl | exact .inl rfl | exact fun x hx => absurd hx (by omega))) | (exfalso; omega) | (rcases x with _ | x))); done)) | grind))
    refine seqM ?_
    obtain ⟨r88, e89, H⟩ := bsi H
    obtain ⟨f90, H⟩ := need_some.1 H
    replace f90 := g_iff.1 f90
    replace f90 := fun g => inb_iff.1 (f90 g)
    refine rg ct9t13_ok ?_
    simp only [go_sem, Nat.reduceLeDiff, Nat.reduceLT, Nat.reduceAdd, Nat.reduceMul, Nat.reduceSub, Nat.reduceEqDiff, Nat.reduceBEq, Int.reduceToNat, reduceCtorEq, ct9t13_26, body26, e89]
    repeat ((with_reducible refine And.intro ?_ ?_); focus (first | (with_reducible trivial) | omega | exact f90 | (intro g; have q := f90 (by first | exact g | (rw [g]; rfl) | simpa using g); first | exact q | exact ⟨q.1, q.2.1⟩ | exact q.2.2 | omega | exact ⟨g, q⟩ | exact ⟨trivial, q⟩ | exact ⟨g, q.1, q.2.1⟩ | exact ⟨g, q.2.2⟩) | (intro g; (try have q0 := f90 (by first | exact g | (rw [g]; rfl) | simpa using g)); and_intros <;> first | (with_reducible trivial) | assumption | exact nfc | (intro g2; rw [g, g2]; rfl) | (intro g2; assumption) | (simp only [g, Bool.true_and, Bool.and_true, Bool.not_false, Bool.not_true]; assumption) | grind) | (and_intros <;> first | (with_reducible trivial) | omega | assumption | exact nfc | first | exact rfl | exact trivial | exact fitI | exact .inr rfl | exact .inl rfl | exact fun x hx => absurd hx (by omega) | (intro x hx; (repeat (first | (and_intros <;> (first | exact rfl | exact trivial | exact fitI | exact .inr rfl | exact .inl rfl | exact fun x hx => absurd hx (by omega))) | (exfalso; omega) | (rcases x with _ | x))); done)) | grind))
    refine rg ctNo_ok ?_
    simp only [go_sem, Nat.reduceLeDiff, Nat.reduceLT, Nat.reduceAdd, Nat.reduceMul, Nat.reduceSub, Nat.reduceEqDiff, Nat.reduceBEq, Int.reduceToNat, reduceCtorEq]
    obtain rfl := Option.some.inj H
    first | rfl | simp only [Bool.and_false, Bool.false_and, Bool.and_true, Bool.true_and]
  · cases hb
end Go.Proofs.Ytbahnppiobafoaa
