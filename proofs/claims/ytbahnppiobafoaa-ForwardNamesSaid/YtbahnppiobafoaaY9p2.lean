/-
  What ForwardNames reaches.
-/
import Derived.Test.YtbahnppiobafoaaY9p1
namespace Go.Proofs.Ytbahnppiobafoaa
open Go.Am
set_option linter.unusedVariables false
set_option linter.unusedSimpArgs false
attribute [local go_sem] w_skip w_label w_goto w_scope k_goto b_goto l_goto s_normal s_exit s_ret s_goto w_region w_draw w_seq w_cond w_block w_exit w_ret w_loop k_normal k_exit k_ret b_normal b_exit b_ret l_normal l_exit l_ret m_normal m_exit m_ret m_goto kL_normal kL_exit kL_ret kS_normal kS_exit kS_ret kS_goto r_normal r_ret o_nil o_cons q_nil q_cons nxt gval gvd gvl gvw dstOf evO ogOp ogC og ogL ogP ogO rho rhoO strip optOk getL setL setT absC absV absL pO hO evLoad ldB geth seth evStore stRes stB evBox evAlloc evFieldAddr evField evIndexAddr evBin2 binI binB binNR binU nilR_isEmpty nilR_t nilR_0 nilR_s evInt evStr evUn evConv cvO evPick mrg evExtract evNil evCall mapR evBuiltin evLen2 vcells vcOk atom tabF cnd retK resFin resL resA resC resCons evBuild evBuildP placeS placeA fillA fillOk putL getP nxtQ pureC_eq pureR genC_eq genR roV roL roOb roObL roW roWL roWOb roWObL nref nrefL binA binN eqSh eqRes evIndex evIndex2 evIndexS evSlice evSlice2 evSliceS evBound evConv2 cvS evAppend appRes srcOf evMake evBuildSlice repL evFn evMin evMax freshC freshR sub_enR0 evClear evClearR evCopy evCopyR lenS cutS Bool.or_false Bool.false_or Bool.or_true Bool.true_or Bool.and_false Bool.false_and Option.map_some Option.map_none Option.getD_some Option.getD_none Option.bind_some Option.bind_none Option.or_some Option.or_none Option.none_or Option.isSome_none Option.isNone_none Option.isNone_some List.nil_append List.cons_append List.append_nil cond_true cond_false List.length_cons List.length_nil beq_self_eq_true Bool.and_true Bool.true_and Bool.not_true Bool.not_false true_and and_true and_self true_implies implies_true ne_eq not_false_eq_true Bool.false_eq_true Bool.true_eq_false false_implies Nat.lt_irrefl Nat.le_refl Nat.succ_ne_self imp_self Bool.cond_false_right Bool.cond_true_left decide_true decide_false Bool.not_eq_true' Bool.not_eq_false' Bool.not_not Nat.zero_mul Nat.zero_add Nat.add_zero Nat.mul_one Nat.one_mul Bool.cond_self tsz3 tby3 tagg3 tslice3 tarr3 tzero3 tzn3 tplaces3 tint3 tstr3 tnoint3 tbool3 tany3 tintk3 tbytes3 tsz4 tby4 tagg4 tslice4 tarr4 tzero4 tzn4 tplaces4 tint4 tstr4 tnoint4 tbool4 tany4 tintk4 tbytes4 tsz5 tby5 tagg5 tslice5 tarr5 tzero5 tzn5 tplaces5 tint5 tstr5 tnoint5 tbool5 tany5 tintk5 tbytes5 tsz9 tby9 tagg9 tslice9 tarr9 tzero9 tzn9 tplaces9 tint9 tstr9 tnoint9 tbool9 tany9 tintk9 tbytes9 tsz23 tby23 tagg23 tslice23 tarr23 tzero23 tzn23 tplaces23 tint23 tstr23 tnoint23 tbool23 tany23 tintk23 tbytes23 tsz24 tby24 tagg24 tslice24 tarr24 tzero24 tzn24 tplaces24 tint24 tstr24 tnoint24 tbool24 tany24 tintk24 tbytes24 tsz26 tby26 tagg26 tslice26 tarr26 tzero26 tzn26 tplaces26 tint26 tstr26 tnoint26 tbool26 tany26 tintk26 tbytes26 tfld26_0 tfld26_1 tfld26_2 tfld26_3 tfld26_4 tfld26_5 tfld26_6 tfld26_7 tfld26_8 tsz28 tby28 tagg28 tslice28 tarr28 tzero28 tzn28 tplaces28 tint28 tstr28 tnoint28 tbool28 tany28 tintk28 tbytes28 tsz29 tby29 tagg29 tslice29 tarr29 tzero29 tzn29 tplaces29 tint29 tstr29 tnoint29 tbool29 tany29 tintk29 tbytes29 tsz31 tby31 tagg31 tslice31 tarr31 tzero31 tzn31 tplaces31 tint31 tstr31 tnoint31 tbool31 tany31 tintk31 tbytes31 tfld31_0 tfld31_1 tfld31_2 tfld31_3 tsz33 tby33 tagg33 tslice33 tarr33 tzero33 tzn33 tplaces33 tint33 tstr33 tnoint33 tbool33 tany33 tintk33 tbytes33 tsz55 tby55 tagg55 tslice55 tarr55 tzero55 tzn55 tplaces55 tint55 tstr55 tnoint55 tbool55 tany55 tintk55 tbytes55 tsz59 tby59 tagg59 tslice59 tarr59 tzero59 tzn59 tplaces59 tint59 tstr59 tnoint59 tbool59 tany59 tintk59 tbytes59 tfld59_0 tfld59_1 tsz62 tby62 tagg62 tslice62 tarr62 tzn62 tplaces62 tint62 tstr62 tnoint62 tbool62 tany62 tintk62 tbytes62 tsz64 tby64 tagg64 tslice64 tarr64 tzero64 tzn64 tplaces64 tint64 tstr64 tnoint64 tbool64 tany64 tintk64 tbytes64 tsz70 tby70 tagg70 tslice70 tarr70 tzero70 tzn70 tplaces70 tint70 tstr70 tnoint70 tbool70 tany70 tintk70 tbytes70 tsz73 tby73 tagg73 tslice73 tarr73 tzero73 tzn73 tplaces73 tint73 tstr73 tnoint73 tbool73 tany73 tintk73 tbytes73 tsz75 tby75 tagg75 tslice75 tarr75 tzero75 tzn75 tplaces75 tint75 tstr75 tnoint75 tbool75 tany75 tintk75 tbytes75 tsz76 tby76 tagg76 tslice76 tarr76 tzero76 tzn76 tplaces76 tint76 tstr76 tnoint76 tbool76 tany76 tintk76 tbytes76 tsz78 tby78 tagg78 tslice78 tarr78 tzero78 tzn78 tplaces78 tint78 tstr78 tnoint78 tbool78 tany78 tintk78 tbytes78 tsz80 tby80 tagg80 tslice80 tarr80 tzero80 tzn80 tplaces80 tint80 tstr80 tnoint80 tbool80 tany80 tintk80 tbytes80 tfld80_0 tfld80_1 tsz84 tby84 tagg84 tslice84 tarr84 tzero84 tzn84 tplaces84 tint84 tstr84 tnoint84 tbool84 tany84 tintk84 tbytes84 tsz85 tby85 tagg85 tslice85 tarr85 tzero85 tzn85 tplaces85 tint85 tstr85 tnoint85 tbool85 tany85 tintk85 tbytes85 tsz86 tby86 tagg86 tslice86 tarr86 tzero86 tzn86 tplaces86 tint86 tstr86 tnoint86 tbool86 tany86 tintk86 tbytes86 tsz90 tby90 tagg90 tslice90 tarr90 tzero90 tzn90 tplaces90 tint90 tstr90 tnoint90 tbool90 tany90 tintk90 tbytes90 tfld90_0 tfld90_1 tsz105 tby105 tagg105 tslice105 tarr105 tzero105 tzn105 tplaces105 tint105 tstr105 tnoint105 tbool105 tany105 tintk105 tbytes105 tsz110 tby110 tagg110 tslice110 tarr110 tzero110 tzn110 tplaces110 tint110 tstr110 tnoint110 tbool110 tany110 tintk110 tbytes110 tsz114 tby114 tagg114 tslice114 tarr114 tzero114 tzn114 tplaces114 tint114 tstr114 tnoint114 tbool114 tany114 tintk114 tbytes114 e_u8_0 fit_u8 de_u8 g_u8 k_u8 e_i64_0 fit_i64 de_i64 g_i64 k_i64 e_b_0 fit_b de_b g_b k_b e_s_0 fit_s de_s g_s k_s e_A6u8_0 e_A6u8_1 e_A6u8_2 e_A6u8_3 e_A6u8_4 e_A6u8_5 fit_A6u8 de_A6u8 g_A6u8 k_A6u8 eta_A6u8 e_lu8_0 fit_lu8 de_lu8 g_lu8 k_lu8 e_TMeshFrame_0 e_TMeshFrame_1 e_TMeshFrame_2 e_TMeshFrame_3 e_TMeshFrame_4 e_TMeshFrame_5 e_TMeshFrame_6 e_TMeshFrame_7 e_TMeshFrame_8 e_TMeshFrame_9 e_TMeshFrame_10 e_TMeshFrame_11 e_TMeshFrame_12 e_TMeshFrame_13 e_TMeshFrame_14 e_TMeshFrame_15 e_TMeshFrame_16 e_TMeshFrame_17 e_TMeshFrame_18 e_TMeshFrame_19 e_TMeshFrame_20 e_TMeshFrame_21 e_TMeshFrame_22 e_TMeshFrame_23 e_TMeshFrame_24 e_TMeshFrame_25 e_TMeshFrame_26 e_TMeshFrame_27 e_TMeshFrame_28 e_TMeshFrame_29 e_TMeshFrame_30 e_TMeshFrame_31 e_TMeshFrame_32 e_TMeshFrame_33 e_TMeshFrame_34 e_TMeshFrame_35 e_TMeshFrame_36 e_TMeshFrame_37 e_TMeshFrame_38 fit_TMeshFrame de_TMeshFrame g_TMeshFrame k_TMeshFrame eta_TMeshFrame e_TForwardMark_0 e_TForwardMark_1 e_TForwardMark_2 e_TForwardMark_3 e_TForwardMark_4 e_TForwardMark_5 e_TForwardMark_6 fit_TForwardMark de_TForwardMark g_TForwardMark k_TForwardMark eta_TForwardMark e_lTForwardMark_0 fit_lTForwardMark de_lTForwardMark g_lTForwardMark k_lTForwardMark e_TForwardHop_0 e_TForwardHop_1 e_TForwardHop_2 e_TForwardHop_3 e_TForwardHop_4 e_TForwardHop_5 e_TForwardHop_6 e_TForwardHop_7 e_TForwardHop_8 e_TForwardHop_9 e_TForwardHop_10 e_TForwardHop_11 fit_TForwardHop de_TForwardHop g_TForwardHop k_TForwardHop eta_TForwardHop e_lTForwardHop_0 fit_lTForwardHop de_lTForwardHop g_lTForwardHop k_lTForwardHop e_TForward_0 e_TForward_1 e_TForward_2 e_TForward_3 e_TForward_4 e_TForward_5 e_TForward_6 e_TForward_7 e_TForward_8 fit_TForward de_TForward g_TForward k_TForward eta_TForward e_lTMeshFrame_0 fit_lTMeshFrame de_lTMeshFrame g_lTMeshFrame k_lTMeshFrame e_A8i64_0 e_A8i64_1 e_A8i64_2 e_A8i64_3 e_A8i64_4 e_A8i64_5 e_A8i64_6 e_A8i64_7 fit_A8i64 de_A8i64 g_A8i64 k_A8i64 eta_A8i64 e_li64_0 fit_li64 de_li64 g_li64 k_li64 e_A8b_0 e_A8b_1 e_A8b_2 e_A8b_3 e_A8b_4 e_A8b_5 e_A8b_6 e_A8b_7 fit_A8b de_A8b g_A8b k_A8b eta_A8b e_lb_0 fit_lb de_lb g_lb k_lb e_A8A8b_0 e_A8A8b_1 e_A8A8b_2 e_A8A8b_3 e_A8A8b_4 e_A8A8b_5 e_A8A8b_6 e_A8A8b_7 e_A8A8b_8 e_A8A8b_9 e_A8A8b_10 e_A8A8b_11 e_A8A8b_12 e_A8A8b_13 e_A8A8b_14 e_A8A8b_15 e_A8A8b_16 e_A8A8b_17 e_A8A8b_18 e_A8A8b_19 e_A8A8b_20 e_A8A8b_21 e_A8A8b_22 e_A8A8b_23 e_A8A8b_24 e_A8A8b_25 e_A8A8b_26 e_A8A8b_27 e_A8A8b_28 e_A8A8b_29 e_A8A8b_30 e_A8A8b_31 e_A8A8b_32 e_A8A8b_33 e_A8A8b_34 e_A8A8b_35 e_A8A8b_36 e_A8A8b_37 e_A8A8b_38 e_A8A8b_39 e_A8A8b_40 e_A8A8b_41 e_A8A8b_42 e_A8A8b_43 e_A8A8b_44 e_A8A8b_45 e_A8A8b_46 e_A8A8b_47 e_A8A8b_48 e_A8A8b_49 e_A8A8b_50 e_A8A8b_51 e_A8A8b_52 e_A8A8b_53 e_A8A8b_54 e_A8A8b_55 e_A8A8b_56 e_A8A8b_57 e_A8A8b_58 e_A8A8b_59 e_A8A8b_60 e_A8A8b_61 e_A8A8b_62 e_A8A8b_63 fit_A8A8b de_A8A8b g_A8A8b k_A8A8b eta_A8A8b e_Ttravel_0 e_Ttravel_1 e_Ttravel_2 e_Ttravel_3 e_Ttravel_4 e_Ttravel_5 e_Ttravel_6 e_Ttravel_7 e_Ttravel_8 e_Ttravel_9 e_Ttravel_10 e_Ttravel_11 e_Ttravel_12 e_Ttravel_13 e_Ttravel_14 e_Ttravel_15 e_Ttravel_16 e_Ttravel_17 e_Ttravel_18 e_Ttravel_19 e_Ttravel_20 e_Ttravel_21 e_Ttravel_22 e_Ttravel_23 e_Ttravel_24 e_Ttravel_25 e_Ttravel_26 e_Ttravel_27 e_Ttravel_28 e_Ttravel_29 e_Ttravel_30 e_Ttravel_31 e_Ttravel_32 e_Ttravel_33 e_Ttravel_34 e_Ttravel_35 e_Ttravel_36 e_Ttravel_37 e_Ttravel_38 e_Ttravel_39 fit_Ttravel de_Ttravel g_Ttravel k_Ttravel eta_Ttravel e_lTtravel_0 fit_lTtravel de_lTtravel g_lTtravel k_lTtravel e_u64_0 fit_u64 de_u64 g_u64 k_u64 e_lA6u8_0 fit_lA6u8 de_lA6u8 g_lA6u8 k_lA6u8 e_A6A6u8_0 e_A6A6u8_1 e_A6A6u8_2 e_A6A6u8_3 e_A6A6u8_4 e_A6A6u8_5 e_A6A6u8_6 e_A6A6u8_7 e_A6A6u8_8 e_A6A6u8_9 e_A6A6u8_10 e_A6A6u8_11 e_A6A6u8_12 e_A6A6u8_13 e_A6A6u8_14 e_A6A6u8_15 e_A6A6u8_16 e_A6A6u8_17 e_A6A6u8_18 e_A6A6u8_19 e_A6A6u8_20 e_A6A6u8_21 e_A6A6u8_22 e_A6A6u8_23 e_A6A6u8_24 e_A6A6u8_25 e_A6A6u8_26 e_A6A6u8_27 e_A6A6u8_28 e_A6A6u8_29 e_A6A6u8_30 e_A6A6u8_31 e_A6A6u8_32 e_A6A6u8_33 e_A6A6u8_34 e_A6A6u8_35 fit_A6A6u8 de_A6A6u8 g_A6A6u8 k_A6A6u8 eta_A6A6u8 deR_0 deR_1 deR_2 deR_3 deR_4 deR_5 deR_6 deR_7 deR_8 deR_9 deR_10 deR_11 deR_12 litC_x0 litC_x1 litC_x2 litC_x3 litC_x4 litC_x5 litC_x6 litC_x7 litC_x8 litC_x9 litC_x10 litC_x11 strE_u8 Fit_0 Option.isSome_some gt_some gd_one evCopyL tabR sub_enR List.drop_zero xrD xoD roEq minL rK rM rG aL aK iK bK sK lK iA bA sA lA or_true true_or Int.toNat_natCast shT_23 shT_59 shT_64 shT_73 shT_86 shT_90 Int.toNat_zero Int.cast_ofNat_Int aLs roD roDOb deadL edC edR nodupB rnm rnmL rnmB rnmH rnm_bif rnmB_bif putH dropH rhoN ptB slN litL celL pK isLit oS isRow inL fzV fzL fzOb fzObL fzH fzHF fzB fzObB fzObH rowOb
/-! hotspot/forward.remember -/
noncomputable def ct42t0 : Ct := tab [(41, edC body41)]
theorem ct42t0_ok : CtOk Try.prog ct42t0 := tab_cons ok41 <| tab_nil
theorem ct42t0_41 (l : List AV) (h : List ABlk) : ct42t0 41 l h = edC body41 l h := rfl
noncomputable def ct42t1 : Ct := tab [(54, edC body54_1)]
theorem ct42t1_ok : CtOk Try.prog ct42t1 := tab_cons ok54_1 <| tab_nil
theorem ct42t1_54 (l : List AV) (h : List ABlk) : ct42t1 54 l h = edC body54_1 l h := rfl
noncomputable def F42 (p0 : TForward) (p1 : A6u8) (p2 : Int) : Option (TForward) :=
  (F41 p0).bind fun r1 => (F54_1 r1.Seen (TForwardMark.mk (A6u8.mk p1.x0 p1.x1 p1.x2 p1.x3 p1.x4 p1.x5) p2)).bind fun r3 => need (capb 16 (r3.length + 1)) <| bif (bLt 128 (r3.length + 1 : Nat)) then (need (slb 1 (r3.length + 1 : Nat) (r3.length + 1)) <| (some [(TForwardMark.mk (A6u8.mk p1.x0 p1.x1 p1.x2 p1.x3 p1.x4 p1.x5) p2)]).bind fun w7 => (some (r3 ++ [(TForwardMark.mk (A6u8.mk p1.x0 p1.x1 p1.x2 p1.x3 p1.x4 p1.x5) p2)])).bind fun w9 => (some (List.drop 1 w9)).bind fun w11 => some (TForward.mk (A6u8.mk r1.Own.x0 r1.Own.x1 r1.Own.x2 r1.Own.x3 r1.Own.x4 r1.Own.x5) r1.Seq w11 r1.Nexts)) else (some (TForward.mk (A6u8.mk r1.Own.x0 r1.Own.x1 r1.Own.x2 r1.Own.x3 r1.Own.x4 r1.Own.x5) r1.Seq (r3 ++ [(TForwardMark.mk (A6u8.mk p1.x0 p1.x1 p1.x2 p1.x3 p1.x4 p1.x5) p2)]) r1.Nexts))
noncomputable def body42 : List AV → List ABlk → ED
  | [v0, v1, v2], h => .ed [] (aK 9 k_TForward (roD (deadL h []) v0) ∧ roDOb (deadL h []) v0 ∧ aK 6 k_A6u8 (roD (deadL h []) v1) ∧ roDOb (deadL h []) v1 ∧ iK .i64 (roD (deadL h []) v2) ∧ roDOb (deadL h []) v2 ∧ (F42 (g_TForward (aL (roD (deadL h []) v0))) (g_A6u8 (aL (roD (deadL h []) v1))) (iA (roD (deadL h []) v2))).isSome = true) (.agg [.int .u8 (((gt (F42 (g_TForward (aL (roD (deadL h []) v0))) (g_A6u8 (aL (roD (deadL h []) v1))) (iA (roD (deadL h []) v2)))).Own).x0), .int .u8 (((gt (F42 (g_TForward (aL (roD (deadL h []) v0))) (g_A6u8 (aL (roD (deadL h []) v1))) (iA (roD (deadL h []) v2)))).Own).x1), .int .u8 (((gt (F42 (g_TForward (aL (roD (deadL h []) v0))) (g_A6u8 (aL (roD (deadL h []) v1))) (iA (roD (deadL h []) v2)))).Own).x2), .int .u8 (((gt (F42 (g_TForward (aL (roD (deadL h []) v0))) (g_A6u8 (aL (roD (deadL h []) v1))) (iA (roD (deadL h []) v2)))).Own).x3), .int .u8 (((gt (F42 (g_TForward (aL (roD (deadL h []) v0))) (g_A6u8 (aL (roD (deadL h []) v1))) (iA (roD (deadL h []) v2)))).Own).x4), .int .u8 (((gt (F42 (g_TForward (aL (roD (deadL h []) v0))) (g_A6u8 (aL (roD (deadL h []) v1))) (iA (roD (deadL h []) v2)))).Own).x5), .int .i64 ((gt (F42 (g_TForward (aL (roD (deadL h []) v0))) (g_A6u8 (aL (roD (deadL h []) v1))) (iA (roD (deadL h []) v2)))).Seq), .sl 0 7 0 (((gt (F42 (g_TForward (aL (roD (deadL h []) v0))) (g_A6u8 (aL (roD (deadL h []) v1))) (iA (roD (deadL h []) v2)))).Seen).length) false, .sl 1 12 0 (((gt (F42 (g_TForward (aL (roD (deadL h []) v0))) (g_A6u8 (aL (roD (deadL h []) v1))) (iA (roD (deadL h []) v2)))).Nexts).length) false]) [.row 59 7 (((gt (F42 (g_TForward (aL (roD (deadL h []) v0))) (g_A6u8 (aL (roD (deadL h []) v1))) (iA (roD (deadL h []) v2)))).Seen).length) (enR c_TForwardMark ((gt (F42 (g_TForward (aL (roD (deadL h []) v0))) (g_A6u8 (aL (roD (deadL h []) v1))) (iA (roD (deadL h []) v2)))).Seen)), .row 90 12 (((gt (F42 (g_TForward (aL (roD (deadL h []) v0))) (g_A6u8 (aL (roD (deadL h []) v1))) (iA (roD (deadL h []) v2)))).Nexts).length) (enR c_TForwardHop ((gt (F42 (g_TForward (aL (roD (deadL h []) v0))) (g_A6u8 (aL (roD (deadL h []) v1))) (iA (roD (deadL h []) v2)))).Nexts))]
  | _, _ => .fail
set_option maxHeartbeats 4000000 in
set_option maxRecDepth 20000 in
theorem ok42 : FnOk Try.prog 42 (edC body42) := by
  refine edit_fnV body42 (rs := [.cell 6 31]) Try.func42 (by kernel_rfl) rfl rfl ?_
  intro l h bs ob q0 g0 hb hob
  unfold body42 at hb
  split at hb
  · rename_i v0 v1 v2
    injection hb with q1 q2 q3 q4; subst q1 q2 q3 q4
    obtain ⟨hk0_0, hk0_1, hk1_0, hk1_1, hk2_0, hk2_1, hob⟩ := hob
    obtain ⟨r, H⟩ := Option.isSome_iff_exists.1 hob
    rw [H, gt_some]
    have hw0 := wA_TForward hk0_0
    obtain ⟨p0, hp_p0⟩ : ∃ p0, p0 = g_TForward (aL (roD (deadL h []) v0)) := ⟨_, rfl⟩
    rw [← hp_p0] at H hw0
    have hw1 := wA_A6u8 hk1_0
    obtain ⟨p1, hp_p1⟩ : ∃ p1, p1 = g_A6u8 (aL (roD (deadL h []) v1)) := ⟨_, rfl⟩
    rw [← hp_p1] at H hw1
    have hw2 := iK_wk hk2_0
    obtain ⟨p2, hp_p2⟩ : ∃ p2, p2 = iA (roD (deadL h []) v2) := ⟨_, rfl⟩
    rw [← hp_p2] at H hw2
    refine ⟨[.agg [.int .u8 p0.Own.x0, .int .u8 p0.Own.x1, .int .u8 p0.Own.x2, .int .u8 p0.Own.x3, .int .u8 p0.Own.x4, .int .u8 p0.Own.x5, .int .i64 p0.Seq, .ro 7 p0.Seen.length false (enR c_TForwardMark p0.Seen), .ro 12 p0.Nexts.length false (enR c_TForwardHop p0.Nexts)], .agg [.int .u8 p1.x0, .int .u8 p1.x1, .int .u8 p1.x2, .int .u8 p1.x3, .int .u8 p1.x4, .int .u8 p1.x5], .int .i64 p2], [], rfl, ⟨(EW_view hk0_1 hw0), ⟨(EW_view hk1_1 hw1), ⟨(EW_view hk2_1 hw2), trivial⟩⟩⟩, trivial, trivial, ⟨(nfB_en nr_TForwardMark), ⟨(nfB_en nr_TForwardHop), trivial⟩⟩, ⟨noroB_en, ⟨noroB_en, trivial⟩⟩, (by first | (simp only [noro, noroL, and_self]; done) | (simp only [noro, noroL]; and_intros <;> first | trivial | exact noro_bif (by simp only [noro]) (by simp only [noro]) | (simp only [noro, noroL, and_self]))), ?_⟩
    rw [Try.ntmps42]
    simp only [List.length_cons, List.length_nil, Nat.reduceAdd, Nat.reduceSub, List.replicate_succ, List.replicate_zero, List.cons_append, List.nil_append]
    unfold F42 at H
    try dsimp only at H
    refine sq ctNo_ok ?_
    simp only [go_sem, Nat.reduceLeDiff, Nat.reduceLT, Nat.reduceAdd, Nat.reduceMul, Nat.reduceSub, Nat.reduceEqDiff, Nat.reduceBEq, Int.reduceToNat, reduceCtorEq]
    refine seqM ?_
    obtain ⟨r1, e2, H⟩ := bsi H
    refine rg ct42t0_ok ?_
    simp only [go_sem, Nat.reduceLeDiff, Nat.reduceLT, Nat.reduceAdd, Nat.reduceMul, Nat.reduceSub, Nat.reduceEqDiff, Nat.reduceBEq, Int.reduceToNat, reduceCtorEq, ct42t0_41, body41, e2]
    repeat ((with_reducible refine And.intro ?_ ?_); focus (first | (and_intros <;> first | (with_reducible trivial) | omega | assumption | exact nfc | first | exact rfl | exact trivial | exact fitI | exact .inr rfl | exact .inl rfl | exact fun x hx => absurd hx (by omega)) | grind))
    refine sq ctNo_ok ?_
    simp only [go_sem, Nat.reduceLeDiff, Nat.reduceLT, Nat.reduceAdd, Nat.reduceMul, Nat.reduceSub, Nat.reduceEqDiff, Nat.reduceBEq, Int.reduceToNat, reduceCtorEq]
    repeat ((with_reducible refine And.intro ?_ ?_); focus (first | (with_reducible trivial) | omega | grind))
    refine seqM ?_
    obtain ⟨r3, e4, H⟩ := bsi H
    obtain ⟨f5, H⟩ := need_some.1 H
    replace f5 := capb_iff.1 f5
    refine draw_ruleX [(16, [], [5])] shT_ok ct42t1_ok 3 (by kernel_rfl) (by kernel_rfl) ?_
    intro an han
    simp only [d_nil, d_cons, nxtD, xrD, xoD, roEq, minL, List.append_nil, refsOp, refs, refsL, mask, maskF, place, placeF, okLog, pairOk, hit, inL, slotsF, ren, renL, rnN, nrH, nrB, nrL, nr, dead0, deadS, List.replicate_zero, List.replicate_succ, Nat.sub_self, Nat.add_zero, Nat.zero_add, Nat.reduceSub, Nat.not_lt_zero, Nat.zero_le, Nat.lt_add_one, go_sem, Nat.reduceLeDiff, Nat.reduceLT, Nat.reduceAdd, Nat.reduceMul, Nat.reduceSub, Nat.reduceEqDiff, Nat.reduceBEq, Int.reduceToNat, reduceCtorEq, ct42t1_54, body54_1, e4, f5]
    repeat ((with_reducible refine And.intro ?_ ?_); focus (and_intros <;> first | (with_reducible trivial) | (show anB _ _ _ = true; subst han; kernel_rfl) | (show (anB _ _ _ && _) = true; subst han; kernel_rfl) | omega | assumption | exact nrc | exact nfc | first | exact rfl | exact trivial | exact fitI | exact .inr rfl | exact .inl rfl | exact fun x hx => absurd hx (by omega) | (intro x hx; (repeat (first | (and_intros <;> (first | exact rfl | exact trivial | exact fitI | exact .inr rfl | exact .inl rfl | exact fun x hx => absurd hx (by omega))) | (exfalso; omega) | (rcases x with _ | x))); done) | (refine Fit_app ?_ ?_ <;> first | exact fitI | (intro x hx; (repeat (first | (and_intros <;> (first | exact rfl | exact trivial | exact fitI | exact .inr rfl | exact .inl rfl | exact fun x hx => absurd hx (by omega))) | (exfalso; omega) | (rcases x with _ | x))); done) | (refine Fit_app ?_ ?_ <;> first | exact fitI | (intro x hx; (repeat (first | (and_intros <;> (first | exact rfl | exact trivial | exact fitI | exact .inr rfl | exact .inl rfl | exact fun x hx => absurd hx (by omega))) | (exfalso; omega) | (rcases x with _ | x))); done)))))
    refine seqM ?_
    refine sq ctNo_ok ?_
    simp only [go_sem, Nat.reduceLeDiff, Nat.reduceLT, Nat.reduceAdd, Nat.reduceMul, Nat.reduceSub, Nat.reduceEqDiff, Nat.reduceBEq, Int.reduceToNat, reduceCtorEq]
    repeat ((with_reducible refine And.intro ?_ ?_); focus (first | (and_intros <;> first | (with_reducible trivial) | omega | assumption | exact nfc | first | exact rfl | exact trivial | exact fitI | exact .inr rfl | exact .inl rfl | exact fun x hx => absurd hx (by omega) | (intro x hx; (repeat (first | (and_intros <;> (first | exact rfl | exact trivial | exact fitI | exact .inr rfl | exact .inl rfl | exact fun x hx => absurd hx (by omega))) | (exfalso; omega) | (rcases x with _ | x))); done) | (refine Fit_app ?_ ?_ <;> first | exact fitI | (intro x hx; (repeat (first | (and_intros <;> (first | exact rfl | exact trivial | exact fitI | exact .inr rfl | exact .inl rfl | exact fun x hx => absurd hx (by omega))) | (exfalso; omega) | (rcases x with _ | x))); done) | (refine Fit_app ?_ ?_ <;> first | exact fitI | (intro x hx; (repeat (first | (and_intros <;> (first | exact rfl | exact trivial | exact fitI | exact .inr rfl | exact .inl rfl | exact fun x hx => absurd hx (by omega))) | (exfalso; omega) | (rcases x with _ | x))); done)))) | grind))
    refine condM' rfl trivial (fun hc => ?_) (fun hc => ?_)
    · replace H := cond_f hc H
      refine rg ctNo_ok ?_
      simp only [go_sem, Nat.reduceLeDiff, Nat.reduceLT, Nat.reduceAdd, Nat.reduceMul, Nat.reduceSub, Nat.reduceEqDiff, Nat.reduceBEq, Int.reduceToNat, reduceCtorEq]
      refine sq ctNo_ok ?_
      simp only [go_sem, Nat.reduceLeDiff, Nat.reduceLT, Nat.reduceAdd, Nat.reduceMul, Nat.reduceSub, Nat.reduceEqDiff, Nat.reduceBEq, Int.reduceToNat, reduceCtorEq]
      repeat ((with_reducible refine And.intro ?_ ?_); focus (first | (with_reducible trivial) | omega | grind))
      refine rg ctNo_ok ?_
      simp only [go_sem, Nat.reduceLeDiff, Nat.reduceLT, Nat.reduceAdd, Nat.reduceMul, Nat.reduceSub, Nat.reduceEqDiff, Nat.reduceBEq, Int.reduceToNat, reduceCtorEq]
      obtain rfl := Option.some.inj H
      refine RetE_mk [] [some 8, some 4] ?_ ?_ ?_ ?_ (by rfl) (by rfl)
      · simp only [go_sem, Nat.reduceEqDiff, Nat.reduceBEq, Nat.reduceAdd]
        try (and_intros <;> first | (with_reducible trivial) | omega | exact nfc | trivial)
      · simp only [go_sem, Nat.reduceEqDiff, Nat.reduceBEq, Nat.reduceAdd]
        try (and_intros <;> first | (with_reducible trivial) | omega | exact nfc | trivial)
      · simp only [go_sem, Nat.reduceEqDiff, Nat.reduceBEq, Nat.reduceAdd]
        exact (by first | (simp [Cv, CvL, getM, gt_some]; done) | (simp [Cv, CvL, getM, gt_some]; omega))
      · simp only [go_sem, Nat.reduceEqDiff, Nat.reduceBEq, Nat.reduceAdd, CvH, gt_some, Option.isSome_some, Option.isSome_none]
        first | exact ⟨CvB_row nr_TForwardMark (by first | rfl | (simp; done) | (simp; omega)) (app_row (f := c_TForwardMark) r3 [(TForwardMark.mk (A6u8.mk p1.x0 p1.x1 p1.x2 p1.x3 p1.x4 p1.x5) p2)] (fun _ _ _ _ => rfl) (lit_row (f := c_TForwardMark) [(TForwardMark.mk (A6u8.mk p1.x0 p1.x1 p1.x2 p1.x3 p1.x4 p1.x5) p2)] (fun _ _ => rfl) rfl)), CvB_row nr_TForwardHop (by first | rfl | (simp; done) | (simp; omega)) (fun _ _ _ _ => rfl)⟩ | trivial
    replace H := cond_t hc H
    obtain ⟨f6, H⟩ := need_some.1 H
    replace f6 := slb_iff.1 f6
    refine rg ctNo_ok ?_
    simp only [go_sem, Nat.reduceLeDiff, Nat.reduceLT, Nat.reduceAdd, Nat.reduceMul, Nat.reduceSub, Nat.reduceEqDiff, Nat.reduceBEq, Int.reduceToNat, reduceCtorEq, f6]
    repeat ((with_reducible refine And.intro ?_ ?_); focus (first | (with_reducible trivial) | omega | grind))
    refine seqM ?_
    obtain ⟨w7, hw8, H⟩ := bsi H
    replace hw8 := Option.some.inj hw8
    have lhw8 : w7.length = 1 := by rw [← hw8]; exact (by first | rfl | (simp; done) | (simp; omega))
    obtain ⟨w9, hw10, H⟩ := bsi H
    replace hw10 := Option.some.inj hw10
    have lhw10 : w9.length = r3.length + 1 := by rw [← hw10]; exact (by first | rfl | (simp; done) | (simp; omega))
    refine subF_mean (t2 := (.agg [.int .u8 p0.Own.x0, .int .u8 p0.Own.x1, .int .u8 p0.Own.x2, .int .u8 p0.Own.x3, .int .u8 p0.Own.x4, .int .u8 p0.Own.x5, .int .i64 p0.Seq, .ro 7 p0.Seen.length false (enR c_TForwardMark p0.Seen), .ro 12 p0.Nexts.length false (enR c_TForwardHop p0.Nexts)] :: .agg [.int .u8 p1.x0, .int .u8 p1.x1, .int .u8 p1.x2, .int .u8 p1.x3, .int .u8 p1.x4, .int .u8 p1.x5] :: .int .i64 p2 :: .ptr 0 0 0 0 :: .ptr 1 0 0 0 :: .top :: .ptr 2 0 0 0 :: .ptr 5 0 0 0 :: .agg [.int .u8 p0.Own.x0, .int .u8 p0.Own.x1, .int .u8 p0.Own.x2, .int .u8 p0.Own.x3, .int .u8 p0.Own.x4, .int .u8 p0.Own.x5, .int .i64 p0.Seq, .ro 7 p0.Seen.length false (enR c_TForwardMark p0.Seen), .ro 12 p0.Nexts.length false (enR c_TForwardHop p0.Nexts)] :: .agg [.int .u8 r1.Own.x0, .int .u8 r1.Own.x1, .int .u8 r1.Own.x2, .int .u8 r1.Own.x3, .int .u8 r1.Own.x4, .int .u8 r1.Own.x5, .int .i64 r1.Seq, .sl 3 7 0 r1.Seen.length false, .sl 4 12 0 r1.Nexts.length false] :: .agg [.int .u8 p1.x0, .int .u8 p1.x1, .int .u8 p1.x2, .int .u8 p1.x3, .int .u8 p1.x4, .int .u8 p1.x5] :: .int .i64 p2 :: .agg [.int .u8 p1.x0, .int .u8 p1.x1, .int .u8 p1.x2, .int .u8 p1.x3, .int .u8 p1.x4, .int .u8 p1.x5, .int .i64 p2] :: .ptr 0 0 0 7 :: .sl 3 7 0 r1.Seen.length false :: .fn 60 [.ptr 5 0 0 0] :: .sl 6 7 0 r3.length false :: .agg [.int .u8 p1.x0, .int .u8 p1.x1, .int .u8 p1.x2, .int .u8 p1.x3, .int .u8 p1.x4, .int .u8 p1.x5, .int .i64 p2] :: .sl 7 7 0 w7.length false :: .sl 8 7 0 w9.length false :: .ptr 0 0 0 7 :: .ptr 0 0 0 7 :: .sl 8 7 0 w9.length false :: .int .i64 (r3.length + 1 : Nat) :: .bool (bLt 128 (r3.length + 1 : Nat)) :: .ptr 0 0 0 7 :: .sl 8 7 0 w9.length false :: .sl 8 7 1 (r3.length + 1 - 1) false :: .ptr 0 0 0 7 :: .top :: [])) (h2 := [.lit 31 [.int .u8 r1.Own.x0, .int .u8 r1.Own.x1, .int .u8 r1.Own.x2, .int .u8 r1.Own.x3, .int .u8 r1.Own.x4, .int .u8 r1.Own.x5, .int .i64 r1.Seq, .sl 8 7 1 (r3.length + 1 - 1) false, .sl 4 12 0 r1.Nexts.length false], .lit 23 [.int .u8 p1.x0, .int .u8 p1.x1, .int .u8 p1.x2, .int .u8 p1.x3, .int .u8 p1.x4, .int .u8 p1.x5], .lit 31 [.int .u8 0, .int .u8 0, .int .u8 0, .int .u8 0, .int .u8 0, .int .u8 0, .int .i64 0, .ro 0 0 true (fun _ _ => .top), .ro 0 0 true (fun _ _ => .top)], .dead, .row 90 12 r1.Nexts.length (enR c_TForwardHop r1.Nexts), .lit 59 [.int .u8 p1.x0, .int .u8 p1.x1, .int .u8 p1.x2, .int .u8 p1.x3, .int .u8 p1.x4, .int .u8 p1.x5, .int .i64 p2], .dead, .row 59 7 w7.length (enR c_TForwardMark w7), .row 59 7 w9.length (enR c_TForwardMark w9)]) ?_ ?_
    · refine SubF_of ⟨[some 0, some 1, some 2, some 3, some 4, some 5, some 6, some 7, some 8], ?_, ?_, by rfl, by rfl⟩
      · simp [CvL, Cv, getM, lhw8, lhw10]
      · exact ⟨(by simp [CvB, CvL, Cv, blkAt, geth, getM, lhw8, lhw10]), (by simp [CvB, CvL, Cv, blkAt, geth, getM, lhw8, lhw10]), (by simp [CvB, CvL, Cv, blkAt, geth, getM, lhw8, lhw10]), CvB_dead, CvB_row nr_TForwardHop rfl (fun _ _ _ _ => rfl), (by simp [CvB, CvL, Cv, blkAt, geth, getM, lhw8, lhw10]), CvB_dead, CvB_row nr_TForwardMark lhw8 (hw8 ▸ (lit_row (f := c_TForwardMark) [(TForwardMark.mk (A6u8.mk p1.x0 p1.x1 p1.x2 p1.x3 p1.x4 p1.x5) p2)] (fun _ _ => rfl) rfl)), CvB_row nr_TForwardMark lhw10 (hw10 ▸ (app_row (f := c_TForwardMark) r3 [(TForwardMark.mk (A6u8.mk p1.x0 p1.x1 p1.x2 p1.x3 p1.x4 p1.x5) p2)] (fun _ _ _ _ => rfl) (lit_row (f := c_TForwardMark) [(TForwardMark.mk (A6u8.mk p1.x0 p1.x1 p1.x2 p1.x3 p1.x4 p1.x5) p2)] (fun _ _ => rfl) rfl))), trivial⟩
    refine rb_mean 8 1 (r3.length + 1 - 1) (by rfl) ?_ ?_
    · first | omega | (simp only [slb_iff] at *; omega)
    simp only [List.length_cons, List.length_nil, Nat.zero_mul, Nat.add_zero, rbV, rbL, rbH, rbHF, rbB, cond_true, cond_false, Bool.and_false, Bool.and_true, Bool.false_and, Bool.true_and, Nat.reduceEqDiff, Nat.reduceBEq, beq_self_eq_true, Nat.reduceAdd, Nat.zero_add, List.cons_append, List.nil_append, sub_enR]
    obtain ⟨w11, hw12, H⟩ := bsi H
    replace hw12 := Option.some.inj hw12
    have lhw12 : w11.length = r3.length + 1 - 1 := by rw [← hw12]; exact (by rw [List.length_drop]; first | done | omega)
    refine subF_mean (t2 := (.agg [.int .u8 p0.Own.x0, .int .u8 p0.Own.x1, .int .u8 p0.Own.x2, .int .u8 p0.Own.x3, .int .u8 p0.Own.x4, .int .u8 p0.Own.x5, .int .i64 p0.Seq, .ro 7 p0.Seen.length false (enR c_TForwardMark p0.Seen), .ro 12 p0.Nexts.length false (enR c_TForwardHop p0.Nexts)] :: .agg [.int .u8 p1.x0, .int .u8 p1.x1, .int .u8 p1.x2, .int .u8 p1.x3, .int .u8 p1.x4, .int .u8 p1.x5] :: .int .i64 p2 :: .ptr 0 0 0 0 :: .ptr 1 0 0 0 :: .top :: .ptr 2 0 0 0 :: .ptr 5 0 0 0 :: .agg [.int .u8 p0.Own.x0, .int .u8 p0.Own.x1, .int .u8 p0.Own.x2, .int .u8 p0.Own.x3, .int .u8 p0.Own.x4, .int .u8 p0.Own.x5, .int .i64 p0.Seq, .ro 7 p0.Seen.length false (enR c_TForwardMark p0.Seen), .ro 12 p0.Nexts.length false (enR c_TForwardHop p0.Nexts)] :: .agg [.int .u8 r1.Own.x0, .int .u8 r1.Own.x1, .int .u8 r1.Own.x2, .int .u8 r1.Own.x3, .int .u8 r1.Own.x4, .int .u8 r1.Own.x5, .int .i64 r1.Seq, .sl 3 7 0 r1.Seen.length false, .sl 4 12 0 r1.Nexts.length false] :: .agg [.int .u8 p1.x0, .int .u8 p1.x1, .int .u8 p1.x2, .int .u8 p1.x3, .int .u8 p1.x4, .int .u8 p1.x5] :: .int .i64 p2 :: .agg [.int .u8 p1.x0, .int .u8 p1.x1, .int .u8 p1.x2, .int .u8 p1.x3, .int .u8 p1.x4, .int .u8 p1.x5, .int .i64 p2] :: .ptr 0 0 0 7 :: .sl 3 7 0 r1.Seen.length false :: .fn 60 [.ptr 5 0 0 0] :: .sl 6 7 0 r3.length false :: .agg [.int .u8 p1.x0, .int .u8 p1.x1, .int .u8 p1.x2, .int .u8 p1.x3, .int .u8 p1.x4, .int .u8 p1.x5, .int .i64 p2] :: .sl 7 7 0 w7.length false :: .sl 8 7 0 w9.length false :: .ptr 0 0 0 7 :: .ptr 0 0 0 7 :: .sl 8 7 0 w9.length false :: .int .i64 (r3.length + 1 : Nat) :: .bool (bLt 128 (r3.length + 1 : Nat)) :: .ptr 0 0 0 7 :: .sl 8 7 0 w9.length false :: .sl 9 7 0 w11.length false :: .ptr 0 0 0 7 :: .top :: [])) (h2 := [.lit 31 [.int .u8 r1.Own.x0, .int .u8 r1.Own.x1, .int .u8 r1.Own.x2, .int .u8 r1.Own.x3, .int .u8 r1.Own.x4, .int .u8 r1.Own.x5, .int .i64 r1.Seq, .sl 9 7 0 w11.length false, .sl 4 12 0 r1.Nexts.length false], .lit 23 [.int .u8 p1.x0, .int .u8 p1.x1, .int .u8 p1.x2, .int .u8 p1.x3, .int .u8 p1.x4, .int .u8 p1.x5], .lit 31 [.int .u8 0, .int .u8 0, .int .u8 0, .int .u8 0, .int .u8 0, .int .u8 0, .int .i64 0, .ro 0 0 true (fun _ _ => .top), .ro 0 0 true (fun _ _ => .top)], .dead, .row 90 12 r1.Nexts.length (enR c_TForwardHop r1.Nexts), .lit 59 [.int .u8 p1.x0, .int .u8 p1.x1, .int .u8 p1.x2, .int .u8 p1.x3, .int .u8 p1.x4, .int .u8 p1.x5, .int .i64 p2], .dead, .row 59 7 w7.length (enR c_TForwardMark w7), .dead, .row 59 7 w11.length (enR c_TForwardMark w11)]) ?_ ?_
    · refine SubF_of ⟨[some 0, some 1, some 2, some 3, some 4, some 5, some 6, some 7, some 8, some 9], ?_, ?_, by rfl, by rfl⟩
      · simp [CvL, Cv, getM, lhw12]
      · exact ⟨(by simp [CvB, CvL, Cv, blkAt, geth, getM, lhw12]), (by simp [CvB, CvL, Cv, blkAt, geth, getM, lhw12]), (by simp [CvB, CvL, Cv, blkAt, geth, getM, lhw12]), CvB_dead, CvB_row nr_TForwardHop rfl (fun _ _ _ _ => rfl), (by simp [CvB, CvL, Cv, blkAt, geth, getM, lhw12]), CvB_dead, CvB_row nr_TForwardMark rfl (fun _ _ _ _ => rfl), CvB_dead, CvB_row nr_TForwardMark lhw12 (hw12 ▸ (fun _ _ _ _ => rfl)), trivial⟩
    refine rg ctNo_ok ?_
    simp only [go_sem, Nat.reduceLeDiff, Nat.reduceLT, Nat.reduceAdd, Nat.reduceMul, Nat.reduceSub, Nat.reduceEqDiff, Nat.reduceBEq, Int.reduceToNat, reduceCtorEq]
    repeat ((with_reducible refine And.intro ?_ ?_); focus (first | (with_reducible trivial) | omega | grind))
    refine rg ctNo_ok ?_
    simp only [go_sem, Nat.reduceLeDiff, Nat.reduceLT, Nat.reduceAdd, Nat.reduceMul, Nat.reduceSub, Nat.reduceEqDiff, Nat.reduceBEq, Int.reduceToNat, reduceCtorEq]
    obtain rfl := Option.some.inj H
    refine RetE_mk [] [some 9, some 4] ?_ ?_ ?_ ?_ (by rfl) (by rfl)
    · simp only [go_sem, Nat.reduceEqDiff, Nat.reduceBEq, Nat.reduceAdd]
      try (and_intros <;> first | (with_reducible trivial) | omega | exact nfc | trivial)
    · simp only [go_sem, Nat.reduceEqDiff, Nat.reduceBEq, Nat.reduceAdd]
      try (and_intros <;> first | (with_reducible trivial) | omega | exact nfc | trivial)
    · simp only [go_sem, Nat.reduceEqDiff, Nat.reduceBEq, Nat.reduceAdd]
      exact (by first | (simp [Cv, CvL, getM, gt_some]; done) | (simp [Cv, CvL, getM, gt_some]; omega))
    · simp only [go_sem, Nat.reduceEqDiff, Nat.reduceBEq, Nat.reduceAdd, CvH, gt_some, Option.isSome_some, Option.isSome_none]
      first | exact ⟨CvB_row nr_TForwardMark (by first | rfl | (simp; done) | (simp; omega)) (fun _ _ _ _ => rfl), CvB_row nr_TForwardHop (by first | rfl | (simp; done) | (simp; omega)) (fun _ _ _ _ => rfl)⟩ | trivial
  · cases hb
/-! hotspot/forward.Send -/
noncomputable def ct32t0 : Ct := tab [(27, pureC body27)]
theorem ct32t0_ok : CtOk Try.prog ct32t0 := tab_cons ok27 <| tab_nil
theorem ct32t0_27 (l : List AV) (h : List ABlk) : ct32t0 27 l h = pureC body27 l h := rfl
noncomputable def ct32t1 : Ct := tab [(43, pureC body43)]
theorem ct32t1_ok : CtOk Try.prog ct32t1 := tab_cons ok43 <| tab_nil
theorem ct32t1_43 (l : List AV) (h : List ABlk) : ct32t1 43 l h = pureC body43 l h := rfl
noncomputable def ct32t2 : Ct := tab [(37, edC body37)]
theorem ct32t2_ok : CtOk Try.prog ct32t2 := tab_cons ok37 <| tab_nil
theorem ct32t2_37 (l : List AV) (h : List ABlk) : ct32t2 37 l h = edC body37 l h := rfl
noncomputable def ct32t3 : Ct := tab [(54, edC body54_0), (55, edC body55)]
theorem ct32t3_ok : CtOk Try.prog ct32t3 := tab_cons ok54_0 <| tab_cons ok55 <| tab_nil
theorem ct32t3_54 (l : List AV) (h : List ABlk) : ct32t3 54 l h = edC body54_0 l h := rfl
theorem ct32t3_55 (l : List AV) (h : List ABlk) : ct32t3 55 l h = edC body55 l h := rfl
noncomputable def ct32t4 : Ct := tab [(42, edC body42)]
theorem ct32t4_ok : CtOk Try.prog ct32t4 := tab_cons ok42 <| tab_nil
theorem ct32t4_42 (l : List AV) (h : List ABlk) : ct32t4 42 l h = edC body42 l h := rfl
noncomputable def ct32t5 : Ct := tab [(39, pureC body39)]
theorem ct32t5_ok : CtOk Try.prog ct32t5 := tab_cons ok39 <| tab_nil
theorem ct32t5_39 (l : List AV) (h : List ABlk) : ct32t5 39 l h = pureC body39 l h := rfl
noncomputable def F32 (p0 : TForward) (p1 : A6u8) (p2 : A6u8) (p3 : A6u8) (p4 : List Int) : Option (TForward × TMeshFrame × Int) :=
  (F27 p0).bind fun r1 => (F43 p0 p1).bind fun r3 => bif (!bEq r1 0) then (bif (!bEq r1 0) then (some ((TForward.mk (A6u8.mk 0 0 0 0 0 0) 0 [] []), (TMeshFrame.mk (A6u8.mk 0 0 0 0 0 0) (A6u8.mk 0 0 0 0 0 0) (A6u8.mk 0 0 0 0 0 0) (A6u8.mk 0 0 0 0 0 0) (A6u8.mk 0 0 0 0 0 0) (A6u8.mk 0 0 0 0 0 0) 0 0 []), r1)) else ((F37 p4).bind fun r5 => (F55 p0.Seen).bind fun r7 => (F54_0 r7 (TForwardMark.mk (A6u8.mk p0.Own.x0 p0.Own.x1 p0.Own.x2 p0.Own.x3 p0.Own.x4 p0.Own.x5) p0.Seq)).bind fun r9 => (F42 (TForward.mk (A6u8.mk p0.Own.x0 p0.Own.x1 p0.Own.x2 p0.Own.x3 p0.Own.x4 p0.Own.x5) p0.Seq r9 p0.Nexts) p0.Own p0.Seq).bind fun r11 => some ((TForward.mk (A6u8.mk r11.Own.x0 r11.Own.x1 r11.Own.x2 r11.Own.x3 r11.Own.x4 r11.Own.x5) ((wr .i64 (r11.Seq + 1)).tmod 65536) r11.Seen r11.Nexts), (TMeshFrame.mk (A6u8.mk p0.Own.x0 p0.Own.x1 p0.Own.x2 p0.Own.x3 p0.Own.x4 p0.Own.x5) (A6u8.mk r3.1.x0 r3.1.x1 r3.1.x2 r3.1.x3 r3.1.x4 r3.1.x5) (A6u8.mk p0.Own.x0 p0.Own.x1 p0.Own.x2 p0.Own.x3 p0.Own.x4 p0.Own.x5) (A6u8.mk p1.x0 p1.x1 p1.x2 p1.x3 p1.x4 p1.x5) (A6u8.mk p2.x0 p2.x1 p2.x2 p2.x3 p2.x4 p2.x5) (A6u8.mk p3.x0 p3.x1 p3.x2 p3.x3 p3.x4 p3.x5) p0.Seq 31 r5), 0))) else (bif (bEq p1.x0 p0.Own.x0 && (bEq p1.x1 p0.Own.x1 && (bEq p1.x2 p0.Own.x2 && (bEq p1.x3 p0.Own.x3 && (bEq p1.x4 p0.Own.x4 && (bEq p1.x5 p0.Own.x5)))))) then (some ((TForward.mk (A6u8.mk 0 0 0 0 0 0) 0 [] []), (TMeshFrame.mk (A6u8.mk 0 0 0 0 0 0) (A6u8.mk 0 0 0 0 0 0) (A6u8.mk 0 0 0 0 0 0) (A6u8.mk 0 0 0 0 0 0) (A6u8.mk 0 0 0 0 0 0) (A6u8.mk 0 0 0 0 0 0) 0 0 []), 2)) else (bif (bLt 2264 (p4.length : Nat)) then (some ((TForward.mk (A6u8.mk 0 0 0 0 0 0) 0 [] []), (TMeshFrame.mk (A6u8.mk 0 0 0 0 0 0) (A6u8.mk 0 0 0 0 0 0) (A6u8.mk 0 0 0 0 0 0) (A6u8.mk 0 0 0 0 0 0) (A6u8.mk 0 0 0 0 0 0) (A6u8.mk 0 0 0 0 0 0) 0 0 []), 4)) else ((F39 p1).bind fun r13 => bif r13 then (bif (!bEq r1 0) then (some ((TForward.mk (A6u8.mk 0 0 0 0 0 0) 0 [] []), (TMeshFrame.mk (A6u8.mk 0 0 0 0 0 0) (A6u8.mk 0 0 0 0 0 0) (A6u8.mk 0 0 0 0 0 0) (A6u8.mk 0 0 0 0 0 0) (A6u8.mk 0 0 0 0 0 0) (A6u8.mk 0 0 0 0 0 0) 0 0 []), r1)) else ((F37 p4).bind fun r15 => (F55 p0.Seen).bind fun r17 => (F54_0 r17 (TForwardMark.mk (A6u8.mk p0.Own.x0 p0.Own.x1 p0.Own.x2 p0.Own.x3 p0.Own.x4 p0.Own.x5) p0.Seq)).bind fun r19 => (F42 (TForward.mk (A6u8.mk p0.Own.x0 p0.Own.x1 p0.Own.x2 p0.Own.x3 p0.Own.x4 p0.Own.x5) p0.Seq r19 p0.Nexts) p0.Own p0.Seq).bind fun r21 => some ((TForward.mk (A6u8.mk r21.Own.x0 r21.Own.x1 r21.Own.x2 r21.Own.x3 r21.Own.x4 r21.Own.x5) ((wr .i64 (r21.Seq + 1)).tmod 65536) r21.Seen r21.Nexts), (TMeshFrame.mk (A6u8.mk p0.Own.x0 p0.Own.x1 p0.Own.x2 p0.Own.x3 p0.Own.x4 p0.Own.x5) (A6u8.mk p1.x0 p1.x1 p1.x2 p1.x3 p1.x4 p1.x5) (A6u8.mk p0.Own.x0 p0.Own.x1 p0.Own.x2 p0.Own.x3 p0.Own.x4 p0.Own.x5) (A6u8.mk p1.x0 p1.x1 p1.x2 p1.x3 p1.x4 p1.x5) (A6u8.mk p2.x0 p2.x1 p2.x2 p2.x3 p2.x4 p2.x5) (A6u8.mk p3.x0 p3.x1 p3.x2 p3.x3 p3.x4 p3.x5) p0.Seq 31 r15), 0))) else (bif (!r3.2) then (some ((TForward.mk (A6u8.mk 0 0 0 0 0 0) 0 [] []), (TMeshFrame.mk (A6u8.mk 0 0 0 0 0 0) (A6u8.mk 0 0 0 0 0 0) (A6u8.mk 0 0 0 0 0 0) (A6u8.mk 0 0 0 0 0 0) (A6u8.mk 0 0 0 0 0 0) (A6u8.mk 0 0 0 0 0 0) 0 0 []), 6)) else (bif (!bEq r1 0) then (some ((TForward.mk (A6u8.mk 0 0 0 0 0 0) 0 [] []), (TMeshFrame.mk (A6u8.mk 0 0 0 0 0 0) (A6u8.mk 0 0 0 0 0 0) (A6u8.mk 0 0 0 0 0 0) (A6u8.mk 0 0 0 0 0 0) (A6u8.mk 0 0 0 0 0 0) (A6u8.mk 0 0 0 0 0 0) 0 0 []), r1)) else ((F37 p4).bind fun r23 => (F55 p0.Seen).bind fun r25 => (F54_0 r25 (TForwardMark.mk (A6u8.mk p0.Own.x0 p0.Own.x1 p0.Own.x2 p0.Own.x3 p0.Own.x4 p0.Own.x5) p0.Seq)).bind fun r27 => (F42 (TForward.mk (A6u8.mk p0.Own.x0 p0.Own.x1 p0.Own.x2 p0.Own.x3 p0.Own.x4 p0.Own.x5) p0.Seq r27 p0.Nexts) p0.Own p0.Seq).bind fun r29 => some ((TForward.mk (A6u8.mk r29.Own.x0 r29.Own.x1 r29.Own.x2 r29.Own.x3 r29.Own.x4 r29.Own.x5) ((wr .i64 (r29.Seq + 1)).tmod 65536) r29.Seen r29.Nexts), (TMeshFrame.mk (A6u8.mk p0.Own.x0 p0.Own.x1 p0.Own.x2 p0.Own.x3 p0.Own.x4 p0.Own.x5) (A6u8.mk r3.1.x0 r3.1.x1 r3.1.x2 r3.1.x3 r3.1.x4 r3.1.x5) (A6u8.mk p0.Own.x0 p0.Own.x1 p0.Own.x2 p0.Own.x3 p0.Own.x4 p0.Own.x5) (A6u8.mk p1.x0 p1.x1 p1.x2 p1.x3 p1.x4 p1.x5) (A6u8.mk p2.x0 p2.x1 p2.x2 p2.x3 p2.x4 p2.x5) (A6u8.mk p3.x0 p3.x1 p3.x2 p3.x3 p3.x4 p3.x5) p0.Seq 31 r23), 0)))))))
noncomputable def body32 : List AV → List ABlk → ED
  | [v0, v1, v2, v3, v4], h => .ed [] (aK 9 k_TForward (roD (deadL h []) v0) ∧ roDOb (deadL h []) v0 ∧ aK 6 k_A6u8 (roD (deadL h []) v1) ∧ roDOb (deadL h []) v1 ∧ aK 6 k_A6u8 (roD (deadL h []) v2) ∧ roDOb (deadL h []) v2 ∧ aK 6 k_A6u8 (roD (deadL h []) v3) ∧ roDOb (deadL h []) v3 ∧ lK k_u8 1 (roD (deadL h []) v4) ∧ roDOb (deadL h []) v4 ∧ (F32 (g_TForward (aL (roD (deadL h []) v0))) (g_A6u8 (aL (roD (deadL h []) v1))) (g_A6u8 (aL (roD (deadL h []) v2))) (g_A6u8 (aL (roD (deadL h []) v3))) (lA g_u8 (roD (deadL h []) v4))).isSome = true) (.tup [.agg [.int .u8 ((((gt (F32 (g_TForward (aL (roD (deadL h []) v0))) (g_A6u8 (aL (roD (deadL h []) v1))) (g_A6u8 (aL (roD (deadL h []) v2))) (g_A6u8 (aL (roD (deadL h []) v3))) (lA g_u8 (roD (deadL h []) v4)))).1).Own).x0), .int .u8 ((((gt (F32 (g_TForward (aL (roD (deadL h []) v0))) (g_A6u8 (aL (roD (deadL h []) v1))) (g_A6u8 (aL (roD (deadL h []) v2))) (g_A6u8 (aL (roD (deadL h []) v3))) (lA g_u8 (roD (deadL h []) v4)))).1).Own).x1), .int .u8 ((((gt (F32 (g_TForward (aL (roD (deadL h []) v0))) (g_A6u8 (aL (roD (deadL h []) v1))) (g_A6u8 (aL (roD (deadL h []) v2))) (g_A6u8 (aL (roD (deadL h []) v3))) (lA g_u8 (roD (deadL h []) v4)))).1).Own).x2), .int .u8 ((((gt (F32 (g_TForward (aL (roD (deadL h []) v0))) (g_A6u8 (aL (roD (deadL h []) v1))) (g_A6u8 (aL (roD (deadL h []) v2))) (g_A6u8 (aL (roD (deadL h []) v3))) (lA g_u8 (roD (deadL h []) v4)))).1).Own).x3), .int .u8 ((((gt (F32 (g_TForward (aL (roD (deadL h []) v0))) (g_A6u8 (aL (roD (deadL h []) v1))) (g_A6u8 (aL (roD (deadL h []) v2))) (g_A6u8 (aL (roD (deadL h []) v3))) (lA g_u8 (roD (deadL h []) v4)))).1).Own).x4), .int .u8 ((((gt (F32 (g_TForward (aL (roD (deadL h []) v0))) (g_A6u8 (aL (roD (deadL h []) v1))) (g_A6u8 (aL (roD (deadL h []) v2))) (g_A6u8 (aL (roD (deadL h []) v3))) (lA g_u8 (roD (deadL h []) v4)))).1).Own).x5), .int .i64 (((gt (F32 (g_TForward (aL (roD (deadL h []) v0))) (g_A6u8 (aL (roD (deadL h []) v1))) (g_A6u8 (aL (roD (deadL h []) v2))) (g_A6u8 (aL (roD (deadL h []) v3))) (lA g_u8 (roD (deadL h []) v4)))).1).Seq), .sl 0 7 0 ((((gt (F32 (g_TForward (aL (roD (deadL h []) v0))) (g_A6u8 (aL (roD (deadL h []) v1))) (g_A6u8 (aL (roD (deadL h []) v2))) (g_A6u8 (aL (roD (deadL h []) v3))) (lA g_u8 (roD (deadL h []) v4)))).1).Seen).length) false, .sl 1 12 0 ((((gt (F32 (g_TForward (aL (roD (deadL h []) v0))) (g_A6u8 (aL (roD (deadL h []) v1))) (g_A6u8 (aL (roD (deadL h []) v2))) (g_A6u8 (aL (roD (deadL h []) v3))) (lA g_u8 (roD (deadL h []) v4)))).1).Nexts).length) false], .agg (.int .u8 ((((gt (F32 (g_TForward (aL (roD (deadL h []) v0))) (g_A6u8 (aL (roD (deadL h []) v1))) (g_A6u8 (aL (roD (deadL h []) v2))) (g_A6u8 (aL (roD (deadL h []) v3))) (lA g_u8 (roD (deadL h []) v4)))).2.1).From).x0) :: .int .u8 ((((gt (F32 (g_TForward (aL (roD (deadL h []) v0))) (g_A6u8 (aL (roD (deadL h []) v1))) (g_A6u8 (aL (roD (deadL h []) v2))) (g_A6u8 (aL (roD (deadL h []) v3))) (lA g_u8 (roD (deadL h []) v4)))).2.1).From).x1) :: .int .u8 ((((gt (F32 (g_TForward (aL (roD (deadL h []) v0))) (g_A6u8 (aL (roD (deadL h []) v1))) (g_A6u8 (aL (roD (deadL h []) v2))) (g_A6u8 (aL (roD (deadL h []) v3))) (lA g_u8 (roD (deadL h []) v4)))).2.1).From).x2) :: .int .u8 ((((gt (F32 (g_TForward (aL (roD (deadL h []) v0))) (g_A6u8 (aL (roD (deadL h []) v1))) (g_A6u8 (aL (roD (deadL h []) v2))) (g_A6u8 (aL (roD (deadL h []) v3))) (lA g_u8 (roD (deadL h []) v4)))).2.1).From).x3) :: .int .u8 ((((gt (F32 (g_TForward (aL (roD (deadL h []) v0))) (g_A6u8 (aL (roD (deadL h []) v1))) (g_A6u8 (aL (roD (deadL h []) v2))) (g_A6u8 (aL (roD (deadL h []) v3))) (lA g_u8 (roD (deadL h []) v4)))).2.1).From).x4) :: .int .u8 ((((gt (F32 (g_TForward (aL (roD (deadL h []) v0))) (g_A6u8 (aL (roD (deadL h []) v1))) (g_A6u8 (aL (roD (deadL h []) v2))) (g_A6u8 (aL (roD (deadL h []) v3))) (lA g_u8 (roD (deadL h []) v4)))).2.1).From).x5) :: .int .u8 ((((gt (F32 (g_TForward (aL (roD (deadL h []) v0))) (g_A6u8 (aL (roD (deadL h []) v1))) (g_A6u8 (aL (roD (deadL h []) v2))) (g_A6u8 (aL (roD (deadL h []) v3))) (lA g_u8 (roD (deadL h []) v4)))).2.1).To).x0) :: .int .u8 ((((gt (F32 (g_TForward (aL (roD (deadL h []) v0))) (g_A6u8 (aL (roD (deadL h []) v1))) (g_A6u8 (aL (roD (deadL h []) v2))) (g_A6u8 (aL (roD (deadL h []) v3))) (lA g_u8 (roD (deadL h []) v4)))).2.1).To).x1) :: .int .u8 ((((gt (F32 (g_TForward (aL (roD (deadL h []) v0))) (g_A6u8 (aL (roD (deadL h []) v1))) (g_A6u8 (aL (roD (deadL h []) v2))) (g_A6u8 (aL (roD (deadL h []) v3))) (lA g_u8 (roD (deadL h []) v4)))).2.1).To).x2) :: .int .u8 ((((gt (F32 (g_TForward (aL (roD (deadL h []) v0))) (g_A6u8 (aL (roD (deadL h []) v1))) (g_A6u8 (aL (roD (deadL h []) v2))) (g_A6u8 (aL (roD (deadL h []) v3))) (lA g_u8 (roD (deadL h []) v4)))).2.1).To).x3) :: .int .u8 ((((gt (F32 (g_TForward (aL (roD (deadL h []) v0))) (g_A6u8 (aL (roD (deadL h []) v1))) (g_A6u8 (aL (roD (deadL h []) v2))) (g_A6u8 (aL (roD (deadL h []) v3))) (lA g_u8 (roD (deadL h []) v4)))).2.1).To).x4) :: .int .u8 ((((gt (F32 (g_TForward (aL (roD (deadL h []) v0))) (g_A6u8 (aL (roD (deadL h []) v1))) (g_A6u8 (aL (roD (deadL h []) v2))) (g_A6u8 (aL (roD (deadL h []) v3))) (lA g_u8 (roD (deadL h []) v4)))).2.1).To).x5) :: .int .u8 ((((gt (F32 (g_TForward (aL (roD (deadL h []) v0))) (g_A6u8 (aL (roD (deadL h []) v1))) (g_A6u8 (aL (roD (deadL h []) v2))) (g_A6u8 (aL (roD (deadL h []) v3))) (lA g_u8 (roD (deadL h []) v4)))).2.1).Enter).x0) :: .int .u8 ((((gt (F32 (g_TForward (aL (roD (deadL h []) v0))) (g_A6u8 (aL (roD (deadL h []) v1))) (g_A6u8 (aL (roD (deadL h []) v2))) (g_A6u8 (aL (roD (deadL h []) v3))) (lA g_u8 (roD (deadL h []) v4)))).2.1).Enter).x1) :: .int .u8 ((((gt (F32 (g_TForward (aL (roD (deadL h []) v0))) (g_A6u8 (aL (roD (deadL h []) v1))) (g_A6u8 (aL (roD (deadL h []) v2))) (g_A6u8 (aL (roD (deadL h []) v3))) (lA g_u8 (roD (deadL h []) v4)))).2.1).Enter).x2) :: .int .u8 ((((gt (F32 (g_TForward (aL (roD (deadL h []) v0))) (g_A6u8 (aL (roD (deadL h []) v1))) (g_A6u8 (aL (roD (deadL h []) v2))) (g_A6u8 (aL (roD (deadL h []) v3))) (lA g_u8 (roD (deadL h []) v4)))).2.1).Enter).x3) :: .int .u8 ((((gt (F32 (g_TForward (aL (roD (deadL h []) v0))) (g_A6u8 (aL (roD (deadL h []) v1))) (g_A6u8 (aL (roD (deadL h []) v2))) (g_A6u8 (aL (roD (deadL h []) v3))) (lA g_u8 (roD (deadL h []) v4)))).2.1).Enter).x4) :: .int .u8 ((((gt (F32 (g_TForward (aL (roD (deadL h []) v0))) (g_A6u8 (aL (roD (deadL h []) v1))) (g_A6u8 (aL (roD (deadL h []) v2))) (g_A6u8 (aL (roD (deadL h []) v3))) (lA g_u8 (roD (deadL h []) v4)))).2.1).Enter).x5) :: .int .u8 ((((gt (F32 (g_TForward (aL (roD (deadL h []) v0))) (g_A6u8 (aL (roD (deadL h []) v1))) (g_A6u8 (aL (roD (deadL h []) v2))) (g_A6u8 (aL (roD (deadL h []) v3))) (lA g_u8 (roD (deadL h []) v4)))).2.1).Leave).x0) :: .int .u8 ((((gt (F32 (g_TForward (aL (roD (deadL h []) v0))) (g_A6u8 (aL (roD (deadL h []) v1))) (g_A6u8 (aL (roD (deadL h []) v2))) (g_A6u8 (aL (roD (deadL h []) v3))) (lA g_u8 (roD (deadL h []) v4)))).2.1).Leave).x1) :: .int .u8 ((((gt (F32 (g_TForward (aL (roD (deadL h []) v0))) (g_A6u8 (aL (roD (deadL h []) v1))) (g_A6u8 (aL (roD (deadL h []) v2))) (g_A6u8 (aL (roD (deadL h []) v3))) (lA g_u8 (roD (deadL h []) v4)))).2.1).Leave).x2) :: .int .u8 ((((gt (F32 (g_TForward (aL (roD (deadL h []) v0))) (g_A6u8 (aL (roD (deadL h []) v1))) (g_A6u8 (aL (roD (deadL h []) v2))) (g_A6u8 (aL (roD (deadL h []) v3))) (lA g_u8 (roD (deadL h []) v4)))).2.1).Leave).x3) :: .int .u8 ((((gt (F32 (g_TForward (aL (roD (deadL h []) v0))) (g_A6u8 (aL (roD (deadL h []) v1))) (g_A6u8 (aL (roD (deadL h []) v2))) (g_A6u8 (aL (roD (deadL h []) v3))) (lA g_u8 (roD (deadL h []) v4)))).2.1).Leave).x4) :: .int .u8 ((((gt (F32 (g_TForward (aL (roD (deadL h []) v0))) (g_A6u8 (aL (roD (deadL h []) v1))) (g_A6u8 (aL (roD (deadL h []) v2))) (g_A6u8 (aL (roD (deadL h []) v3))) (lA g_u8 (roD (deadL h []) v4)))).2.1).Leave).x5) :: .int .u8 ((((gt (F32 (g_TForward (aL (roD (deadL h []) v0))) (g_A6u8 (aL (roD (deadL h []) v1))) (g_A6u8 (aL (roD (deadL h []) v2))) (g_A6u8 (aL (roD (deadL h []) v3))) (lA g_u8 (roD (deadL h []) v4)))).2.1).Source).x0) :: .int .u8 ((((gt (F32 (g_TForward (aL (roD (deadL h []) v0))) (g_A6u8 (aL (roD (deadL h []) v1))) (g_A6u8 (aL (roD (deadL h []) v2))) (g_A6u8 (aL (roD (deadL h []) v3))) (lA g_u8 (roD (deadL h []) v4)))).2.1).Source).x1) :: .int .u8 ((((gt (F32 (g_TForward (aL (roD (deadL h []) v0))) (g_A6u8 (aL (roD (deadL h []) v1))) (g_A6u8 (aL (roD (deadL h []) v2))) (g_A6u8 (aL (roD (deadL h []) v3))) (lA g_u8 (roD (deadL h []) v4)))).2.1).Source).x2) :: .int .u8 ((((gt (F32 (g_TForward (aL (roD (deadL h []) v0))) (g_A6u8 (aL (roD (deadL h []) v1))) (g_A6u8 (aL (roD (deadL h []) v2))) (g_A6u8 (aL (roD (deadL h []) v3))) (lA g_u8 (roD (deadL h []) v4)))).2.1).Source).x3) :: .int .u8 ((((gt (F32 (g_TForward (aL (roD (deadL h []) v0))) (g_A6u8 (aL (roD (deadL h []) v1))) (g_A6u8 (aL (roD (deadL h []) v2))) (g_A6u8 (aL (roD (deadL h []) v3))) (lA g_u8 (roD (deadL h []) v4)))).2.1).Source).x4) :: .int .u8 ((((gt (F32 (g_TForward (aL (roD (deadL h []) v0))) (g_A6u8 (aL (roD (deadL h []) v1))) (g_A6u8 (aL (roD (deadL h []) v2))) (g_A6u8 (aL (roD (deadL h []) v3))) (lA g_u8 (roD (deadL h []) v4)))).2.1).Source).x5) :: .int .u8 ((((gt (F32 (g_TForward (aL (roD (deadL h []) v0))) (g_A6u8 (aL (roD (deadL h []) v1))) (g_A6u8 (aL (roD (deadL h []) v2))) (g_A6u8 (aL (roD (deadL h []) v3))) (lA g_u8 (roD (deadL h []) v4)))).2.1).Target).x0) :: .int .u8 ((((gt (F32 (g_TForward (aL (roD (deadL h []) v0))) (g_A6u8 (aL (roD (deadL h []) v1))) (g_A6u8 (aL (roD (deadL h []) v2))) (g_A6u8 (aL (roD (deadL h []) v3))) (lA g_u8 (roD (deadL h []) v4)))).2.1).Target).x1) :: .int .u8 ((((gt (F32 (g_TForward (aL (roD (deadL h []) v0))) (g_A6u8 (aL (roD (deadL h []) v1))) (g_A6u8 (aL (roD (deadL h []) v2))) (g_A6u8 (aL (roD (deadL h []) v3))) (lA g_u8 (roD (deadL h []) v4)))).2.1).Target).x2) :: .int .u8 ((((gt (F32 (g_TForward (aL (roD (deadL h []) v0))) (g_A6u8 (aL (roD (deadL h []) v1))) (g_A6u8 (aL (roD (deadL h []) v2))) (g_A6u8 (aL (roD (deadL h []) v3))) (lA g_u8 (roD (deadL h []) v4)))).2.1).Target).x3) :: .int .u8 ((((gt (F32 (g_TForward (aL (roD (deadL h []) v0))) (g_A6u8 (aL (roD (deadL h []) v1))) (g_A6u8 (aL (roD (deadL h []) v2))) (g_A6u8 (aL (roD (deadL h []) v3))) (lA g_u8 (roD (deadL h []) v4)))).2.1).Target).x4) :: .int .u8 ((((gt (F32 (g_TForward (aL (roD (deadL h []) v0))) (g_A6u8 (aL (roD (deadL h []) v1))) (g_A6u8 (aL (roD (deadL h []) v2))) (g_A6u8 (aL (roD (deadL h []) v3))) (lA g_u8 (roD (deadL h []) v4)))).2.1).Target).x5) :: .int .i64 (((gt (F32 (g_TForward (aL (roD (deadL h []) v0))) (g_A6u8 (aL (roD (deadL h []) v1))) (g_A6u8 (aL (roD (deadL h []) v2))) (g_A6u8 (aL (roD (deadL h []) v3))) (lA g_u8 (roD (deadL h []) v4)))).2.1).Seq) :: .int .i64 (((gt (F32 (g_TForward (aL (roD (deadL h []) v0))) (g_A6u8 (aL (roD (deadL h []) v1))) (g_A6u8 (aL (roD (deadL h []) v2))) (g_A6u8 (aL (roD (deadL h []) v3))) (lA g_u8 (roD (deadL h []) v4)))).2.1).Ttl) :: .sl 2 1 0 ((((gt (F32 (g_TForward (aL (roD (deadL h []) v0))) (g_A6u8 (aL (roD (deadL h []) v1))) (g_A6u8 (aL (roD (deadL h []) v2))) (g_A6u8 (aL (roD (deadL h []) v3))) (lA g_u8 (roD (deadL h []) v4)))).2.1).Data).length) false :: []), .int .i64 ((gt (F32 (g_TForward (aL (roD (deadL h []) v0))) (g_A6u8 (aL (roD (deadL h []) v1))) (g_A6u8 (aL (roD (deadL h []) v2))) (g_A6u8 (aL (roD (deadL h []) v3))) (lA g_u8 (roD (deadL h []) v4)))).2.2)]) [.row 59 7 ((((gt (F32 (g_TForward (aL (roD (deadL h []) v0))) (g_A6u8 (aL (roD (deadL h []) v1))) (g_A6u8 (aL (roD (deadL h []) v2))) (g_A6u8 (aL (roD (deadL h []) v3))) (lA g_u8 (roD (deadL h []) v4)))).1).Seen).length) (enR c_TForwardMark (((gt (F32 (g_TForward (aL (roD (deadL h []) v0))) (g_A6u8 (aL (roD (deadL h []) v1))) (g_A6u8 (aL (roD (deadL h []) v2))) (g_A6u8 (aL (roD (deadL h []) v3))) (lA g_u8 (roD (deadL h []) v4)))).1).Seen)), .row 90 12 ((((gt (F32 (g_TForward (aL (roD (deadL h []) v0))) (g_A6u8 (aL (roD (deadL h []) v1))) (g_A6u8 (aL (roD (deadL h []) v2))) (g_A6u8 (aL (roD (deadL h []) v3))) (lA g_u8 (roD (deadL h []) v4)))).1).Nexts).length) (enR c_TForwardHop (((gt (F32 (g_TForward (aL (roD (deadL h []) v0))) (g_A6u8 (aL (roD (deadL h []) v1))) (g_A6u8 (aL (roD (deadL h []) v2))) (g_A6u8 (aL (roD (deadL h []) v3))) (lA g_u8 (roD (deadL h []) v4)))).1).Nexts)), .row 5 1 ((((gt (F32 (g_TForward (aL (roD (deadL h []) v0))) (g_A6u8 (aL (roD (deadL h []) v1))) (g_A6u8 (aL (roD (deadL h []) v2))) (g_A6u8 (aL (roD (deadL h []) v3))) (lA g_u8 (roD (deadL h []) v4)))).2.1).Data).length) (enR c_u8 (((gt (F32 (g_TForward (aL (roD (deadL h []) v0))) (g_A6u8 (aL (roD (deadL h []) v1))) (g_A6u8 (aL (roD (deadL h []) v2))) (g_A6u8 (aL (roD (deadL h []) v3))) (lA g_u8 (roD (deadL h []) v4)))).2.1).Data))]
  | _, _ => .fail
set_option maxHeartbeats 4000000 in
set_option maxRecDepth 20000 in
theorem ok32 : FnOk Try.prog 32 (edC body32) := by
  refine edit_fnV body32 (rs := [.cell 10 31, .cell 11 26, .tmp 12]) Try.func32 (by kernel_rfl) rfl rfl ?_
  intro l h bs ob q0 g0 hb hob
  unfold body32 at hb
  split at hb
  · rename_i v0 v1 v2 v3 v4
    injection hb with q1 q2 q3 q4; subst q1 q2 q3 q4
    obtain ⟨hk0_0, hk0_1, hk1_0, hk1_1, hk2_0, hk2_1, hk3_0, hk3_1, hk4_0, hk4_1, hob⟩ := hob
    obtain ⟨r, H⟩ := Option.isSome_iff_exists.1 hob
    rw [H, gt_some]
    have hw0 := wA_TForward hk0_0
    obtain ⟨p0, hp_p0⟩ : ∃ p0, p0 = g_TForward (aL (roD (deadL h []) v0)) := ⟨_, rfl⟩
    rw [← hp_p0] at H hw0
    have hw1 := wA_A6u8 hk1_0
    obtain ⟨p1, hp_p1⟩ : ∃ p1, p1 = g_A6u8 (aL (roD (deadL h []) v1)) := ⟨_, rfl⟩
    rw [← hp_p1] at H hw1
    have hw2 := wA_A6u8 hk2_0
    obtain ⟨p2, hp_p2⟩ : ∃ p2, p2 = g_A6u8 (aL (roD (deadL h []) v2)) := ⟨_, rfl⟩
    rw [← hp_p2] at H hw2
    have hw3 := wA_A6u8 hk3_0
    obtain ⟨p3, hp_p3⟩ : ∃ p3, p3 = g_A6u8 (aL (roD (deadL h []) v3)) := ⟨_, rfl⟩
    rw [← hp_p3] at H hw3
    have hw4 := lK_wk (fun r h => w_u8 h) hk4_0
    obtain ⟨p4, hp_p4⟩ : ∃ p4, p4 = lA g_u8 (roD (deadL h []) v4) := ⟨_, rfl⟩
    rw [← hp_p4] at H hw4
    refine ⟨[.agg [.int .u8 p0.Own.x0, .int .u8 p0.Own.x1, .int .u8 p0.Own.x2, .int .u8 p0.Own.x3, .int .u8 p0.Own.x4, .int .u8 p0.Own.x5, .int .i64 p0.Seq, .ro 7 p0.Seen.length false (enR c_TForwardMark p0.Seen), .ro 12 p0.Nexts.length false (enR c_TForwardHop p0.Nexts)], .agg [.int .u8 p1.x0, .int .u8 p1.x1, .int .u8 p1.x2, .int .u8 p1.x3, .int .u8 p1.x4, .int .u8 p1.x5], .agg [.int .u8 p2.x0, .int .u8 p2.x1, .int .u8 p2.x2, .int .u8 p2.x3, .int .u8 p2.x4, .int .u8 p2.x5], .agg [.int .u8 p3.x0, .int .u8 p3.x1, .int .u8 p3.x2, .int .u8 p3.x3, .int .u8 p3.x4, .int .u8 p3.x5], .ro 1 p4.length false (enR c_u8 p4)], [], rfl, ⟨(EW_view hk0_1 hw0), ⟨(EW_view hk1_1 hw1), ⟨(EW_view hk2_1 hw2), ⟨(EW_view hk3_1 hw3), ⟨(EW_view hk4_1 hw4), trivial⟩⟩⟩⟩⟩, trivial, trivial, ⟨(nfB_en nr_TForwardMark), ⟨(nfB_en nr_TForwardHop), ⟨(nfB_en nr_u8), trivial⟩⟩⟩, ⟨noroB_en, ⟨noroB_en, ⟨noroB_en, trivial⟩⟩⟩, (by first | (simp only [noro, noroL, and_self]; done) | (simp only [noro, noroL]; and_intros <;> first | trivial | exact noro_bif (by simp only [noro]) (by simp only [noro]) | (simp only [noro, noroL, and_self]))), ?_⟩
    rw [Try.ntmps32]
    simp only [List.length_cons, List.length_nil, Nat.reduceAdd, Nat.reduceSub, List.replicate_succ, List.replicate_zero, List.cons_append, List.nil_append]
    unfold F32 at H
    try dsimp only at H
    refine sq ctNo_ok ?_
    simp only [go_sem, Nat.reduceLeDiff, Nat.reduceLT, Nat.reduceAdd, Nat.reduceMul, Nat.reduceSub, Nat.reduceEqDiff, Nat.reduceBEq, Int.reduceToNat, reduceCtorEq]
    refine seqM ?_
    obtain ⟨r1, e2, H⟩ := bsi H
    refine rg ct32t0_ok ?_
    simp only [go_sem, Nat.reduceLeDiff, Nat.reduceLT, Nat.reduceAdd, Nat.reduceMul, Nat.reduceSub, Nat.reduceEqDiff, Nat.reduceBEq, Int.reduceToNat, reduceCtorEq, ct32t0_27, body27, e2]
    repeat ((with_reducible refine And.intro ?_ ?_); focus (first | (and_intros <;> first | (with_reducible trivial) | omega | assumption | exact nfc | first | exact rfl | exact trivial | exact fitI | exact .inr rfl | exact .inl rfl | exact fun x hx => absurd hx (by omega)) | grind))
    refine seqM ?_
    obtain ⟨r3, e4, H⟩ := bsi H
    refine rg ct32t1_ok ?_
    simp only [go_sem, Nat.reduceLeDiff, Nat.reduceLT, Nat.reduceAdd, Nat.reduceMul, Nat.reduceSub, Nat.reduceEqDiff, Nat.reduceBEq, Int.reduceToNat, reduceCtorEq, ct32t1_43, body43, e4]
    repeat ((with_reducible refine And.intro ?_ ?_); focus (first | (and_intros <;> first | (with_reducible trivial) | omega | assumption | exact nfc | first | exact rfl | exact trivial | exact fitI | exact .inr rfl | exact .inl rfl | exact fun x hx => absurd hx (by omega)) | grind))
    refine seqM ?_
    refine blkM ?_
    refine sq ctNo_ok ?_
    simp only [go_sem, Nat.reduceLeDiff, Nat.reduceLT, Nat.reduceAdd, Nat.reduceMul, Nat.reduceSub, Nat.reduceEqDiff, Nat.reduceBEq, Int.reduceToNat, reduceCtorEq]
    refine condM rfl trivial (fun hc => ?_) (fun hc => ?_)
    · replace H := cond_t hc H
      refine rg ctNo_ok ?_
      simp only [go_sem, Nat.reduceLeDiff, Nat.reduceLT, Nat.reduceAdd, Nat.reduceMul, Nat.reduceSub, Nat.reduceEqDiff, Nat.reduceBEq, Int.reduceToNat, reduceCtorEq]
      refine seqM ?_
      refine sq ctNo_ok ?_
      simp only [go_sem, Nat.reduceLeDiff, Nat.reduceLT, Nat.reduceAdd, Nat.reduceMul, Nat.reduceSub, Nat.reduceEqDiff, Nat.reduceBEq, Int.reduceToNat, reduceCtorEq]
      refine condM rfl trivial (fun hc => ?_) (fun hc => ?_)
      · replace H := cond_t hc H
        refine sq ctNo_ok ?_
        simp only [go_sem, Nat.reduceLeDiff, Nat.reduceLT, Nat.reduceAdd, Nat.reduceMul, Nat.reduceSub, Nat.reduceEqDiff, Nat.reduceBEq, Int.reduceToNat, reduceCtorEq]
        repeat ((with_reducible refine And.intro ?_ ?_); focus (first | (with_reducible trivial) | omega | grind))
        refine rg ctNo_ok ?_
        simp only [go_sem, Nat.reduceLeDiff, Nat.reduceLT, Nat.reduceAdd, Nat.reduceMul, Nat.reduceSub, Nat.reduceEqDiff, Nat.reduceBEq, Int.reduceToNat, reduceCtorEq]
        obtain rfl := Option.some.inj H
        refine RetE_mk [] [none, none, none] ?_ ?_ ?_ ?_ (by rfl) (by rfl)
        · simp only [go_sem, Nat.reduceEqDiff, Nat.reduceBEq, Nat.reduceAdd]
          try (and_intros <;> first | (with_reducible trivial) | omega | exact nfc | trivial)
        · simp only [go_sem, Nat.reduceEqDiff, Nat.reduceBEq, Nat.reduceAdd]
          try (and_intros <;> first | (with_reducible trivial) | omega | exact nfc | trivial)
        · simp only [go_sem, Nat.reduceEqDiff, Nat.reduceBEq, Nat.reduceAdd]
          exact Cv_tup (CvL_cons (by first | (simp [Cv, CvL, getM, gt_some]; done) | (simp [Cv, CvL, getM, gt_some]; omega)) (CvL_cons (by first | (simp [Cv, CvL, getM, gt_some]; done) | (simp [Cv, CvL, getM, gt_some]; omega)) (CvL_cons (by simp [Cv, CvL, getM, gt_some]) CvL_nil)))
        · simp only [go_sem, Nat.reduceEqDiff, Nat.reduceBEq, Nat.reduceAdd, CvH, gt_some, Option.isSome_some, Option.isSome_none]
          first | exact ⟨CvB_none, CvB_none, CvB_none⟩ | trivial
      replace H := cond_f hc H
      refine rg ctNo_ok ?_
      simp only [go_sem, Nat.reduceLeDiff, Nat.reduceLT, Nat.reduceAdd, Nat.reduceMul, Nat.reduceSub, Nat.reduceEqDiff, Nat.reduceBEq, Int.reduceToNat, reduceCtorEq]
      refine seqM ?_
      obtain ⟨r5, e6, H⟩ := bsi H
      refine draw_rule shT_ok ct32t2_ok 2 (by kernel_rfl) (by kernel_rfl) ?_
      intro an han
      simp only [d_nil, d_cons, nxtD, xrD, xoD, roEq, minL, List.append_nil, refsOp, refs, refsL, mask, maskF, place, placeF, okLog, pairOk, hit, inL, slotsF, ren, renL, rnN, nrH, nrB, nrL, nr, dead0, deadS, List.replicate_zero, List.replicate_succ, Nat.sub_self, Nat.add_zero, Nat.zero_add, Nat.reduceSub, Nat.not_lt_zero, Nat.zero_le, Nat.lt_add_one, go_sem, Nat.reduceLeDiff, Nat.reduceLT, Nat.reduceAdd, Nat.reduceMul, Nat.reduceSub, Nat.reduceEqDiff, Nat.reduceBEq, Int.reduceToNat, reduceCtorEq, ct32t2_37, body37, e6]
      repeat ((with_reducible refine And.intro ?_ ?_); focus (and_intros <;> first | (with_reducible trivial) | (show anB _ _ _ = true; subst han; kernel_rfl) | (show (anB _ _ _ && _) = true; subst han; kernel_rfl) | omega | assumption | exact nrc | exact nfc | first | exact rfl | exact trivial | exact fitI | exact .inr rfl | exact .inl rfl | exact fun x hx => absurd hx (by omega)))
      refine sq ctNo_ok ?_
      simp only [go_sem, Nat.reduceLeDiff, Nat.reduceLT, Nat.reduceAdd, Nat.reduceMul, Nat.reduceSub, Nat.reduceEqDiff, Nat.reduceBEq, Int.reduceToNat, reduceCtorEq]
      repeat ((with_reducible refine And.intro ?_ ?_); focus (first | (with_reducible trivial) | omega | grind))
      refine seqM ?_
      obtain ⟨r7, e8, H⟩ := bsi H
      obtain ⟨r9, e10, H⟩ := bsi H
      refine rg ct32t3_ok ?_
      simp only [go_sem, Nat.reduceLeDiff, Nat.reduceLT, Nat.reduceAdd, Nat.reduceMul, Nat.reduceSub, Nat.reduceEqDiff, Nat.reduceBEq, Int.reduceToNat, reduceCtorEq, ct32t3_54, body54_0, ct32t3_55, body55, e8, e10]
      repeat ((with_reducible refine And.intro ?_ ?_); focus (first | (and_intros <;> first | (with_reducible trivial) | omega | assumption | exact nfc | first | exact rfl | exact trivial | exact fitI | exact .inr rfl | exact .inl rfl | exact fun x hx => absurd hx (by omega)) | grind))
      refine seqM ?_
      obtain ⟨r11, e12, H⟩ := bsi H
      refine rg ct32t4_ok ?_
      simp only [go_sem, Nat.reduceLeDiff, Nat.reduceLT, Nat.reduceAdd, Nat.reduceMul, Nat.reduceSub, Nat.reduceEqDiff, Nat.reduceBEq, Int.reduceToNat, reduceCtorEq, ct32t4_42, body42, e12]
      repeat ((with_reducible refine And.intro ?_ ?_); focus (first | (and_intros <;> first | (with_reducible trivial) | omega | assumption | exact nfc | first | exact rfl | exact trivial | exact fitI | exact .inr rfl | exact .inl rfl | exact fun x hx => absurd hx (by omega)) | grind))
      refine sq ctNo_ok ?_
      simp only [go_sem, Nat.reduceLeDiff, Nat.reduceLT, Nat.reduceAdd, Nat.reduceMul, Nat.reduceSub, Nat.reduceEqDiff, Nat.reduceBEq, Int.reduceToNat, reduceCtorEq]
      repeat ((with_reducible refine And.intro ?_ ?_); focus (first | (with_reducible trivial) | omega | grind))
      refine seqM ?_
      refine draw_rule shT_ok ctNo_ok 0 (by kernel_rfl) (by kernel_rfl) ?_
      intro an han
      simp only [d_nil, d_cons, nxtD, xrD, xoD, roEq, minL, List.append_nil, refsOp, refs, refsL, mask, maskF, place, placeF, okLog, pairOk, hit, inL, slotsF, ren, renL, rnN, nrH, nrB, nrL, nr, dead0, deadS, List.replicate_zero, List.replicate_succ, Nat.sub_self, Nat.add_zero, Nat.zero_add, Nat.reduceSub, Nat.not_lt_zero, Nat.zero_le, Nat.lt_add_one, go_sem, Nat.reduceLeDiff, Nat.reduceLT, Nat.reduceAdd, Nat.reduceMul, Nat.reduceSub, Nat.reduceEqDiff, Nat.reduceBEq, Int.reduceToNat, reduceCtorEq]
      repeat ((with_reducible refine And.intro ?_ ?_); focus (and_intros <;> first | (with_reducible trivial) | (show anB _ _ _ = true; subst han; kernel_rfl) | (show (anB _ _ _ && _) = true; subst han; kernel_rfl) | omega | assumption | exact nrc | exact nfc | first | exact rfl | exact trivial | exact fitI | exact .inr rfl | exact .inl rfl | exact fun x hx => absurd hx (by omega)))
      refine rg ctNo_ok ?_
      simp only [go_sem, Nat.reduceLeDiff, Nat.reduceLT, Nat.reduceAdd, Nat.reduceMul, Nat.reduceSub, Nat.reduceEqDiff, Nat.reduceBEq, Int.reduceToNat, reduceCtorEq]
      obtain rfl := Option.some.inj H
      refine RetE_mk [] [some 12, some 13, some 7] ?_ ?_ ?_ ?_ (by rfl) (by rfl)
      · simp only [go_sem, Nat.reduceEqDiff, Nat.reduceBEq, Nat.reduceAdd]
        try (and_intros <;> first | (with_reducible trivial) | omega | exact nfc | trivial)
      · simp only [go_sem, Nat.reduceEqDiff, Nat.reduceBEq, Nat.reduceAdd]
        try (and_intros <;> first | (with_reducible trivial) | omega | exact nfc | trivial)
      · simp only [go_sem, Nat.reduceEqDiff, Nat.reduceBEq, Nat.reduceAdd]
        exact Cv_tup (CvL_cons (by first | (simp [Cv, CvL, getM, gt_some]; done) | (simp [Cv, CvL, getM, gt_some]; omega)) (CvL_cons (by first | (simp [Cv, CvL, getM, gt_some]; done) | (simp [Cv, CvL, getM, gt_some]; omega)) (CvL_cons (by simp [Cv, CvL, getM, gt_some]) CvL_nil)))
      · simp only [go_sem, Nat.reduceEqDiff, Nat.reduceBEq, Nat.reduceAdd, CvH, gt_some, Option.isSome_some, Option.isSome_none]
        first | exact ⟨CvB_row nr_TForwardMark (by first | rfl | (simp; done) | (simp; omega)) (fun _ _ _ _ => rfl), CvB_row nr_TForwardHop (by first | rfl | (simp; done) | (simp; omega)) (fun _ _ _ _ => rfl), CvB_row nr_u8 (by first | rfl | (simp; done) | (simp; omega)) (fun _ _ _ _ => rfl)⟩ | trivial
    replace H := cond_f hc H
    refine sq ctNo_ok ?_
    simp only [go_sem, Nat.reduceLeDiff, Nat.reduceLT, Nat.reduceAdd, Nat.reduceMul, Nat.reduceSub, Nat.reduceEqDiff, Nat.reduceBEq, Int.reduceToNat, reduceCtorEq]
    refine condM rfl trivial (fun hc => ?_) (fun hc => ?_)
    · replace H := cond_t hc H
      refine rg ctNo_ok ?_
      simp only [go_sem, Nat.reduceLeDiff, Nat.reduceLT, Nat.reduceAdd, Nat.reduceMul, Nat.reduceSub, Nat.reduceEqDiff, Nat.reduceBEq, Int.reduceToNat, reduceCtorEq]
      refine seqM ?_
      refine sq ctNo_ok ?_
      simp only [go_sem, Nat.reduceLeDiff, Nat.reduceLT, Nat.reduceAdd, Nat.reduceMul, Nat.reduceSub, Nat.reduceEqDiff, Nat.reduceBEq, Int.reduceToNat, reduceCtorEq, (by decide : bEq (2) (0) = false)]
      refine condM rfl trivial (fun hc => ?_) (fun hc => ?_)
      rotate_left
      · cases hc
      refine sq ctNo_ok ?_
      simp only [go_sem, Nat.reduceLeDiff, Nat.reduceLT, Nat.reduceAdd, Nat.reduceMul, Nat.reduceSub, Nat.reduceEqDiff, Nat.reduceBEq, Int.reduceToNat, reduceCtorEq]
      repeat ((with_reducible refine And.intro ?_ ?_); focus (first | (with_reducible trivial) | omega | grind))
      refine rg ctNo_ok ?_
      simp only [go_sem, Nat.reduceLeDiff, Nat.reduceLT, Nat.reduceAdd, Nat.reduceMul, Nat.reduceSub, Nat.reduceEqDiff, Nat.reduceBEq, Int.reduceToNat, reduceCtorEq]
      obtain rfl := Option.some.inj H
      refine RetE_mk [] [none, none, none] ?_ ?_ ?_ ?_ (by rfl) (by rfl)
      · simp only [go_sem, Nat.reduceEqDiff, Nat.reduceBEq, Nat.reduceAdd]
        try (and_intros <;> first | (with_reducible trivial) | omega | exact nfc | trivial)
      · simp only [go_sem, Nat.reduceEqDiff, Nat.reduceBEq, Nat.reduceAdd]
        try (and_intros <;> first | (with_reducible trivial) | omega | exact nfc | trivial)
      · simp only [go_sem, Nat.reduceEqDiff, Nat.reduceBEq, Nat.reduceAdd]
        exact Cv_tup (CvL_cons (by first | (simp [Cv, CvL, getM, gt_some]; done) | (simp [Cv, CvL, getM, gt_some]; omega)) (CvL_cons (by first | (simp [Cv, CvL, getM, gt_some]; done) | (simp [Cv, CvL, getM, gt_some]; omega)) (CvL_cons (by simp [Cv, CvL, getM, gt_some]) CvL_nil)))
      · simp only [go_sem, Nat.reduceEqDiff, Nat.reduceBEq, Nat.reduceAdd, CvH, gt_some, Option.isSome_some, Option.isSome_none]
        first | exact ⟨CvB_none, CvB_none, CvB_none⟩ | trivial
    replace H := cond_f hc H
    refine sq ctNo_ok ?_
    simp only [go_sem, Nat.reduceLeDiff, Nat.reduceLT, Nat.reduceAdd, Nat.reduceMul, Nat.reduceSub, Nat.reduceEqDiff, Nat.reduceBEq, Int.reduceToNat, reduceCtorEq]
    repeat ((with_reducible refine And.intro ?_ ?_); focus (first | (and_intros <;> first | (with_reducible trivial) | omega | assumption | exact nfc | first | exact rfl | exact trivial | exact fitI | exact .inr rfl | exact .inl rfl | exact fun x hx => absurd hx (by omega)) | grind))
    refine condM rfl trivial (fun hc => ?_) (fun hc => ?_)
    · replace H := cond_t hc H
      refine rg ctNo_ok ?_
      simp only [go_sem, Nat.reduceLeDiff, Nat.reduceLT, Nat.reduceAdd, Nat.reduceMul, Nat.reduceSub, Nat.reduceEqDiff, Nat.reduceBEq, Int.reduceToNat, reduceCtorEq]
      refine seqM ?_
      refine sq ctNo_ok ?_
      simp only [go_sem, Nat.reduceLeDiff, Nat.reduceLT, Nat.reduceAdd, Nat.reduceMul, Nat.reduceSub, Nat.reduceEqDiff, Nat.reduceBEq, Int.reduceToNat, reduceCtorEq, (by decide : bEq (4) (0) = false)]
      refine condM rfl trivial (fun hc => ?_) (fun hc => ?_)
      rotate_left
      · cases hc
      refine sq ctNo_ok ?_
      simp only [go_sem, Nat.reduceLeDiff, Nat.reduceLT, Nat.reduceAdd, Nat.reduceMul, Nat.reduceSub, Nat.reduceEqDiff, Nat.reduceBEq, Int.reduceToNat, reduceCtorEq]
      repeat ((with_reducible refine And.intro ?_ ?_); focus (first | (with_reducible trivial) | omega | grind))
      refine rg ctNo_ok ?_
      simp only [go_sem, Nat.reduceLeDiff, Nat.reduceLT, Nat.reduceAdd, Nat.reduceMul, Nat.reduceSub, Nat.reduceEqDiff, Nat.reduceBEq, Int.reduceToNat, reduceCtorEq]
      obtain rfl := Option.some.inj H
      refine RetE_mk [] [none, none, none] ?_ ?_ ?_ ?_ (by rfl) (by rfl)
      · simp only [go_sem, Nat.reduceEqDiff, Nat.reduceBEq, Nat.reduceAdd]
        try (and_intros <;> first | (with_reducible trivial) | omega | exact nfc | trivial)
      · simp only [go_sem, Nat.reduceEqDiff, Nat.reduceBEq, Nat.reduceAdd]
        try (and_intros <;> first | (with_reducible trivial) | omega | exact nfc | trivial)
      · simp only [go_sem, Nat.reduceEqDiff, Nat.reduceBEq, Nat.reduceAdd]
        exact Cv_tup (CvL_cons (by first | (simp [Cv, CvL, getM, gt_some]; done) | (simp [Cv, CvL, getM, gt_some]; omega)) (CvL_cons (by first | (simp [Cv, CvL, getM, gt_some]; done) | (simp [Cv, CvL, getM, gt_some]; omega)) (CvL_cons (by simp [Cv, CvL, getM, gt_some]) CvL_nil)))
      · simp only [go_sem, Nat.reduceEqDiff, Nat.reduceBEq, Nat.reduceAdd, CvH, gt_some, Option.isSome_some, Option.isSome_none]
        first | exact ⟨CvB_none, CvB_none, CvB_none⟩ | trivial
    replace H := cond_f hc H
    refine seqM ?_
    obtain ⟨r13, e14, H⟩ := bsi H
    refine rg ct32t5_ok ?_
    simp only [go_sem, Nat.reduceLeDiff, Nat.reduceLT, Nat.reduceAdd, Nat.reduceMul, Nat.reduceSub, Nat.reduceEqDiff, Nat.reduceBEq, Int.reduceToNat, reduceCtorEq, ct32t5_39, body39, e14]
    repeat ((with_reducible refine And.intro ?_ ?_); focus (first | (and_intros <;> first | (with_reducible trivial) | omega | assumption | exact nfc | first | exact rfl | exact trivial | exact fitI | exact .inr rfl | exact .inl rfl | exact fun x hx => absurd hx (by omega)) | grind))
    refine condM rfl trivial (fun hc => ?_) (fun hc => ?_)
    · replace H := cond_t hc H
      refine rg ctNo_ok ?_
      simp only [go_sem, Nat.reduceLeDiff, Nat.reduceLT, Nat.reduceAdd, Nat.reduceMul, Nat.reduceSub, Nat.reduceEqDiff, Nat.reduceBEq, Int.reduceToNat, reduceCtorEq]
      repeat ((with_reducible refine And.intro ?_ ?_); focus (first | (with_reducible trivial) | omega | grind))
      refine seqM ?_
      refine sq ctNo_ok ?_
      simp only [go_sem, Nat.reduceLeDiff, Nat.reduceLT, Nat.reduceAdd, Nat.reduceMul, Nat.reduceSub, Nat.reduceEqDiff, Nat.reduceBEq, Int.reduceToNat, reduceCtorEq]
      refine condM rfl trivial (fun hc => ?_) (fun hc => ?_)
      · replace H := cond_t hc H
        refine sq ctNo_ok ?_
        simp only [go_sem, Nat.reduceLeDiff, Nat.reduceLT, Nat.reduceAdd, Nat.reduceMul, Nat.reduceSub, Nat.reduceEqDiff, Nat.reduceBEq, Int.reduceToNat, reduceCtorEq]
        repeat ((with_reducible refine And.intro ?_ ?_); focus (first | (with_reducible trivial) | omega | grind))
        refine rg ctNo_ok ?_
        simp only [go_sem, Nat.reduceLeDiff, Nat.reduceLT, Nat.reduceAdd, Nat.reduceMul, Nat.reduceSub, Nat.reduceEqDiff, Nat.reduceBEq, Int.reduceToNat, reduceCtorEq]
        obtain rfl := Option.some.inj H
        refine RetE_mk [] [none, none, none] ?_ ?_ ?_ ?_ (by rfl) (by rfl)
        · simp only [go_sem, Nat.reduceEqDiff, Nat.reduceBEq, Nat.reduceAdd]
          try (and_intros <;> first | (with_reducible trivial) | omega | exact nfc | trivial)
        · simp only [go_sem, Nat.reduceEqDiff, Nat.reduceBEq, Nat.reduceAdd]
          try (and_intros <;> first | (with_reducible trivial) | omega | exact nfc | trivial)
        · simp only [go_sem, Nat.reduceEqDiff, Nat.reduceBEq, Nat.reduceAdd]
          exact Cv_tup (CvL_cons (by first | (simp [Cv, CvL, getM, gt_some]; done) | (simp [Cv, CvL, getM, gt_some]; omega)) (CvL_cons (by first | (simp [Cv, CvL, getM, gt_some]; done) | (simp [Cv, CvL, getM, gt_some]; omega)) (CvL_cons (by simp [Cv, CvL, getM, gt_some]) CvL_nil)))
        · simp only [go_sem, Nat.reduceEqDiff, Nat.reduceBEq, Nat.reduceAdd, CvH, gt_some, Option.isSome_some, Option.isSome_none]
          first | exact ⟨CvB_none, CvB_none, CvB_none⟩ | trivial
      replace H := cond_f hc H
      refine rg ctNo_ok ?_
      simp only [go_sem, Nat.reduceLeDiff, Nat.reduceLT, Nat.reduceAdd, Nat.reduceMul, Nat.reduceSub, Nat.reduceEqDiff, Nat.reduceBEq, Int.reduceToNat, reduceCtorEq]
      refine seqM ?_
      obtain ⟨r15, e16, H⟩ := bsi H
      refine draw_rule shT_ok ct32t2_ok 2 (by kernel_rfl) (by kernel_rfl) ?_
      intro an han
      simp only [d_nil, d_cons, nxtD, xrD, xoD, roEq, minL, List.append_nil, refsOp, refs, refsL, mask, maskF, place, placeF, okLog, pairOk, hit, inL, slotsF, ren, renL, rnN, nrH, nrB, nrL, nr, dead0, deadS, List.replicate_zero, List.replicate_succ, Nat.sub_self, Nat.add_zero, Nat.zero_add, Nat.reduceSub, Nat.not_lt_zero, Nat.zero_le, Nat.lt_add_one, go_sem, Nat.reduceLeDiff, Nat.reduceLT, Nat.reduceAdd, Nat.reduceMul, Nat.reduceSub, Nat.reduceEqDiff, Nat.reduceBEq, Int.reduceToNat, reduceCtorEq, ct32t2_37, body37, e16]
      repeat ((with_reducible refine And.intro ?_ ?_); focus (and_intros <;> first | (with_reducible trivial) | (show anB _ _ _ = true; subst han; kernel_rfl) | (show (anB _ _ _ && _) = true; subst han; kernel_rfl) | omega | assumption | exact nrc | exact nfc | first | exact rfl | exact trivial | exact fitI | exact .inr rfl | exact .inl rfl | exact fun x hx => absurd hx (by omega)))
      refine sq ctNo_ok ?_
      simp only [go_sem, Nat.reduceLeDiff, Nat.reduceLT, Nat.reduceAdd, Nat.reduceMul, Nat.reduceSub, Nat.reduceEqDiff, Nat.reduceBEq, Int.reduceToNat, reduceCtorEq]
      repeat ((with_reducible refine And.intro ?_ ?_); focus (first | (with_reducible trivial) | omega | grind))
      refine seqM ?_
      obtain ⟨r17, e18, H⟩ := bsi H
      obtain ⟨r19, e20, H⟩ := bsi H
      refine rg ct32t3_ok ?_
      simp only [go_sem, Nat.reduceLeDiff, Nat.reduceLT, Nat.reduceAdd, Nat.reduceMul, Nat.reduceSub, Nat.reduceEqDiff, Nat.reduceBEq, Int.reduceToNat, reduceCtorEq, ct32t3_54, body54_0, ct32t3_55, body55, e18, e20]
      repeat ((with_reducible refine And.intro ?_ ?_); focus (first | (and_intros <;> first | (with_reducible trivial) | omega | assumption | exact nfc | first | exact rfl | exact trivial | exact fitI | exact .inr rfl | exact .inl rfl | exact fun x hx => absurd hx (by omega)) | grind))
      refine seqM ?_
      obtain ⟨r21, e22, H⟩ := bsi H
      refine rg ct32t4_ok ?_
      simp only [go_sem, Nat.reduceLeDiff, Nat.reduceLT, Nat.reduceAdd, Nat.reduceMul, Nat.reduceSub, Nat.reduceEqDiff, Nat.reduceBEq, Int.reduceToNat, reduceCtorEq, ct32t4_42, body42, e22]
      repeat ((with_reducible refine And.intro ?_ ?_); focus (first | (and_intros <;> first | (with_reducible trivial) | omega | assumption | exact nfc | first | exact rfl | exact trivial | exact fitI | exact .inr rfl | exact .inl rfl | exact fun x hx => absurd hx (by omega)) | grind))
      refine sq ctNo_ok ?_
      simp only [go_sem, Nat.reduceLeDiff, Nat.reduceLT, Nat.reduceAdd, Nat.reduceMul, Nat.reduceSub, Nat.reduceEqDiff, Nat.reduceBEq, Int.reduceToNat, reduceCtorEq]
      repeat ((with_reducible refine And.intro ?_ ?_); focus (first | (with_reducible trivial) | omega | grind))
      refine seqM ?_
      refine draw_rule shT_ok ctNo_ok 0 (by kernel_rfl) (by kernel_rfl) ?_
      intro an han
      simp only [d_nil, d_cons, nxtD, xrD, xoD, roEq, minL, List.append_nil, refsOp, refs, refsL, mask, maskF, place, placeF, okLog, pairOk, hit, inL, slotsF, ren, renL, rnN, nrH, nrB, nrL, nr, dead0, deadS, List.replicate_zero, List.replicate_succ, Nat.sub_self, Nat.add_zero, Nat.zero_add, Nat.reduceSub, Nat.not_lt_zero, Nat.zero_le, Nat.lt_add_one, go_sem, Nat.reduceLeDiff, Nat.reduceLT, Nat.reduceAdd, Nat.reduceMul, Nat.reduceSub, Nat.reduceEqDiff, Nat.reduceBEq, Int.reduceToNat, reduceCtorEq]
      repeat ((with_reducible refine And.intro ?_ ?_); focus (and_intros <;> first | (with_reducible trivial) | (show anB _ _ _ = true; subst han; kernel_rfl) | (show (anB _ _ _ && _) = true; subst han; kernel_rfl) | omega | assumption | exact nrc | exact nfc | first | exact rfl | exact trivial | exact fitI | exact .inr rfl | exact .inl rfl | exact fun x hx => absurd hx (by omega)))
      refine rg ctNo_ok ?_
      simp only [go_sem, Nat.reduceLeDiff, Nat.reduceLT, Nat.reduceAdd, Nat.reduceMul, Nat.reduceSub, Nat.reduceEqDiff, Nat.reduceBEq, Int.reduceToNat, reduceCtorEq]
      obtain rfl := Option.some.inj H
      refine RetE_mk [] [some 12, some 13, some 7] ?_ ?_ ?_ ?_ (by rfl) (by rfl)
      · simp only [go_sem, Nat.reduceEqDiff, Nat.reduceBEq, Nat.reduceAdd]
        try (and_intros <;> first | (with_reducible trivial) | omega | exact nfc | trivial)
      · simp only [go_sem, Nat.reduceEqDiff, Nat.reduceBEq, Nat.reduceAdd]
        try (and_intros <;> first | (with_reducible trivial) | omega | exact nfc | trivial)
      · simp only [go_sem, Nat.reduceEqDiff, Nat.reduceBEq, Nat.reduceAdd]
        exact Cv_tup (CvL_cons (by first | (simp [Cv, CvL, getM, gt_some]; done) | (simp [Cv, CvL, getM, gt_some]; omega)) (CvL_cons (by first | (simp [Cv, CvL, getM, gt_some]; done) | (simp [Cv, CvL, getM, gt_some]; omega)) (CvL_cons (by simp [Cv, CvL, getM, gt_some]) CvL_nil)))
      · simp only [go_sem, Nat.reduceEqDiff, Nat.reduceBEq, Nat.reduceAdd, CvH, gt_some, Option.isSome_some, Option.isSome_none]
        first | exact ⟨CvB_row nr_TForwardMark (by first | rfl | (simp; done) | (simp; omega)) (fun _ _ _ _ => rfl), CvB_row nr_TForwardHop (by first | rfl | (simp; done) | (simp; omega)) (fun _ _ _ _ => rfl), CvB_row nr_u8 (by first | rfl | (simp; done) | (simp; omega)) (fun _ _ _ _ => rfl)⟩ | trivial
    replace H := cond_f hc H
    refine sq ctNo_ok ?_
    simp only [go_sem, Nat.reduceLeDiff, Nat.reduceLT, Nat.reduceAdd, Nat.reduceMul, Nat.reduceSub, Nat.reduceEqDiff, Nat.reduceBEq, Int.reduceToNat, reduceCtorEq]
    refine condM rfl trivial (fun hc => ?_) (fun hc => ?_)
    · replace H := cond_t hc H
      refine rg ctNo_ok ?_
      simp only [go_sem, Nat.reduceLeDiff, Nat.reduceLT, Nat.reduceAdd, Nat.reduceMul, Nat.reduceSub, Nat.reduceEqDiff, Nat.reduceBEq, Int.reduceToNat, reduceCtorEq]
      refine seqM ?_
      refine sq ctNo_ok ?_
      simp only [go_sem, Nat.reduceLeDiff, Nat.reduceLT, Nat.reduceAdd, Nat.reduceMul, Nat.reduceSub, Nat.reduceEqDiff, Nat.reduceBEq, Int.reduceToNat, reduceCtorEq, (by decide : bEq (6) (0) = false)]
      refine condM rfl trivial (fun hc => ?_) (fun hc => ?_)
      rotate_left
      · cases hc
      refine sq ctNo_ok ?_
      simp only [go_sem, Nat.reduceLeDiff, Nat.reduceLT, Nat.reduceAdd, Nat.reduceMul, Nat.reduceSub, Nat.reduceEqDiff, Nat.reduceBEq, Int.reduceToNat, reduceCtorEq]
      repeat ((with_reducible refine And.intro ?_ ?_); focus (first | (with_reducible trivial) | omega | grind))
      refine rg ctNo_ok ?_
      simp only [go_sem, Nat.reduceLeDiff, Nat.reduceLT, Nat.reduceAdd, Nat.reduceMul, Nat.reduceSub, Nat.reduceEqDiff, Nat.reduceBEq, Int.reduceToNat, reduceCtorEq]
      obtain rfl := Option.some.inj H
      refine RetE_mk [] [none, none, none] ?_ ?_ ?_ ?_ (by rfl) (by rfl)
      · simp only [go_sem, Nat.reduceEqDiff, Nat.reduceBEq, Nat.reduceAdd]
        try (and_intros <;> first | (with_reducible trivial) | omega | exact nfc | trivial)
      · simp only [go_sem, Nat.reduceEqDiff, Nat.reduceBEq, Nat.reduceAdd]
        try (and_intros <;> first | (with_reducible trivial) | omega | exact nfc | trivial)
      · simp only [go_sem, Nat.reduceEqDiff, Nat.reduceBEq, Nat.reduceAdd]
        exact Cv_tup (CvL_cons (by first | (simp [Cv, CvL, getM, gt_some]; done) | (simp [Cv, CvL, getM, gt_some]; omega)) (CvL_cons (by first | (simp [Cv, CvL, getM, gt_some]; done) | (simp [Cv, CvL, getM, gt_some]; omega)) (CvL_cons (by simp [Cv, CvL, getM, gt_some]) CvL_nil)))
      · simp only [go_sem, Nat.reduceEqDiff, Nat.reduceBEq, Nat.reduceAdd, CvH, gt_some, Option.isSome_some, Option.isSome_none]
        first | exact ⟨CvB_none, CvB_none, CvB_none⟩ | trivial
    replace H := cond_f hc H
    refine rg ctNo_ok ?_
    simp only [go_sem, Nat.reduceLeDiff, Nat.reduceLT, Nat.reduceAdd, Nat.reduceMul, Nat.reduceSub, Nat.reduceEqDiff, Nat.reduceBEq, Int.reduceToNat, reduceCtorEq]
    refine seqM ?_
    refine sq ctNo_ok ?_
    simp only [go_sem, Nat.reduceLeDiff, Nat.reduceLT, Nat.reduceAdd, Nat.reduceMul, Nat.reduceSub, Nat.reduceEqDiff, Nat.reduceBEq, Int.reduceToNat, reduceCtorEq]
    refine condM rfl trivial (fun hc => ?_) (fun hc => ?_)
    · replace H := cond_t hc H
      refine sq ctNo_ok ?_
      simp only [go_sem, Nat.reduceLeDiff, Nat.reduceLT, Nat.reduceAdd, Nat.reduceMul, Nat.reduceSub, Nat.reduceEqDiff, Nat.reduceBEq, Int.reduceToNat, reduceCtorEq]
      repeat ((with_reducible refine And.intro ?_ ?_); focus (first | (with_reducible trivial) | omega | grind))
      refine rg ctNo_ok ?_
      simp only [go_sem, Nat.reduceLeDiff, Nat.reduceLT, Nat.reduceAdd, Nat.reduceMul, Nat.reduceSub, Nat.reduceEqDiff, Nat.reduceBEq, Int.reduceToNat, reduceCtorEq]
      obtain rfl := Option.some.inj H
      refine RetE_mk [] [none, none, none] ?_ ?_ ?_ ?_ (by rfl) (by rfl)
      · simp only [go_sem, Nat.reduceEqDiff, Nat.reduceBEq, Nat.reduceAdd]
        try (and_intros <;> first | (with_reducible trivial) | omega | exact nfc | trivial)
      · simp only [go_sem, Nat.reduceEqDiff, Nat.reduceBEq, Nat.reduceAdd]
        try (and_intros <;> first | (with_reducible trivial) | omega | exact nfc | trivial)
      · simp only [go_sem, Nat.reduceEqDiff, Nat.reduceBEq, Nat.reduceAdd]
        exact Cv_tup (CvL_cons (by first | (simp [Cv, CvL, getM, gt_some]; done) | (simp [Cv, CvL, getM, gt_some]; omega)) (CvL_cons (by first | (simp [Cv, CvL, getM, gt_some]; done) | (simp [Cv, CvL, getM, gt_some]; omega)) (CvL_cons (by simp [Cv, CvL, getM, gt_some]) CvL_nil)))
      · simp only [go_sem, Nat.reduceEqDiff, Nat.reduceBEq, Nat.reduceAdd, CvH, gt_some, Option.isSome_some, Option.isSome_none]
        first | exact ⟨CvB_none, CvB_none, CvB_none⟩ | trivial
    replace H := cond_f hc H
    refine rg ctNo_ok ?_
    simp only [go_sem, Nat.reduceLeDiff, Nat.reduceLT, Nat.reduceAdd, Nat.reduceMul, Nat.reduceSub, Nat.reduceEqDiff, Nat.reduceBEq, Int.reduceToNat, reduceCtorEq]
    refine seqM ?_
    obtain ⟨r23, e24, H⟩ := bsi H
    refine draw_rule shT_ok ct32t2_ok 2 (by kernel_rfl) (by kernel_rfl) ?_
    intro an han
    simp only [d_nil, d_cons, nxtD, xrD, xoD, roEq, minL, List.append_nil, refsOp, refs, refsL, mask, maskF, place, placeF, okLog, pairOk, hit, inL, slotsF, ren, renL, rnN, nrH, nrB, nrL, nr, dead0, deadS, List.replicate_zero, List.replicate_succ, Nat.sub_self, Nat.add_zero, Nat.zero_add, Nat.reduceSub, Nat.not_lt_zero, Nat.zero_le, Nat.lt_add_one, go_sem, Nat.reduceLeDiff, Nat.reduceLT, Nat.reduceAdd, Nat.reduceMul, Nat.reduceSub, Nat.reduceEqDiff, Nat.reduceBEq, Int.reduceToNat, reduceCtorEq, ct32t2_37, body37, e24]
    repeat ((with_reducible refine And.intro ?_ ?_); focus (and_intros <;> first | (with_reducible trivial) | (show anB _ _ _ = true; subst han; kernel_rfl) | (show (anB _ _ _ && _) = true; subst han; kernel_rfl) | omega | assumption | exact nrc | exact nfc | first | exact rfl | exact trivial | exact fitI | exact .inr rfl | exact .inl rfl | exact fun x hx => absurd hx (by omega)))
    refine sq ctNo_ok ?_
    simp only [go_sem, Nat.reduceLeDiff, Nat.reduceLT, Nat.reduceAdd, Nat.reduceMul, Nat.reduceSub, Nat.reduceEqDiff, Nat.reduceBEq, Int.reduceToNat, reduceCtorEq]
    repeat ((with_reducible refine And.intro ?_ ?_); focus (first | (with_reducible trivial) | omega | grind))
    refine seqM ?_
    obtain ⟨r25, e26, H⟩ := bsi H
    obtain ⟨r27, e28, H⟩ := bsi H
    refine rg ct32t3_ok ?_
    simp only [go_sem, Nat.reduceLeDiff, Nat.reduceLT, Nat.reduceAdd, Nat.reduceMul, Nat.reduceSub, Nat.reduceEqDiff, Nat.reduceBEq, Int.reduceToNat, reduceCtorEq, ct32t3_54, body54_0, ct32t3_55, body55, e26, e28]
    repeat ((with_reducible refine And.intro ?_ ?_); focus (first | (and_intros <;> first | (with_reducible trivial) | omega | assumption | exact nfc | first | exact rfl | exact trivial | exact fitI | exact .inr rfl | exact .inl rfl | exact fun x hx => absurd hx (by omega)) | grind))
    refine seqM ?_
    obtain ⟨r29, e30, H⟩ := bsi H
    refine rg ct32t4_ok ?_
    simp only [go_sem, Nat.reduceLeDiff, Nat.reduceLT, Nat.reduceAdd, Nat.reduceMul, Nat.reduceSub, Nat.reduceEqDiff, Nat.reduceBEq, Int.reduceToNat, reduceCtorEq, ct32t4_42, body42, e30]
    repeat ((with_reducible refine And.intro ?_ ?_); focus (first | (and_intros <;> first | (with_reducible trivial) | omega | assumption | exact nfc | first | exact rfl | exact trivial | exact fitI | exact .inr rfl | exact .inl rfl | exact fun x hx => absurd hx (by omega)) | grind))
    refine sq ctNo_ok ?_
    simp only [go_sem, Nat.reduceLeDiff, Nat.reduceLT, Nat.reduceAdd, Nat.reduceMul, Nat.reduceSub, Nat.reduceEqDiff, Nat.reduceBEq, Int.reduceToNat, reduceCtorEq]
    repeat ((with_reducible refine And.intro ?_ ?_); focus (first | (with_reducible trivial) | omega | grind))
    refine seqM ?_
    refine draw_rule shT_ok ctNo_ok 0 (by kernel_rfl) (by kernel_rfl) ?_
    intro an han
    simp only [d_nil, d_cons, nxtD, xrD, xoD, roEq, minL, List.append_nil, refsOp, refs, refsL, mask, maskF, place, placeF, okLog, pairOk, hit, inL, slotsF, ren, renL, rnN, nrH, nrB, nrL, nr, dead0, deadS, List.replicate_zero, List.replicate_succ, Nat.sub_self, Nat.add_zero, Nat.zero_add, Nat.reduceSub, Nat.not_lt_zero, Nat.zero_le, Nat.lt_add_one, go_sem, Nat.reduceLeDiff, Nat.reduceLT, Nat.reduceAdd, Nat.reduceMul, Nat.reduceSub, Nat.reduceEqDiff, Nat.reduceBEq, Int.reduceToNat, reduceCtorEq]
    repeat ((with_reducible refine And.intro ?_ ?_); focus (and_intros <;> first | (with_reducible trivial) | (show anB _ _ _ = true; subst han; kernel_rfl) | (show (anB _ _ _ && _) = true; subst han; kernel_rfl) | omega | assumption | exact nrc | exact nfc | first | exact rfl | exact trivial | exact fitI | exact .inr rfl | exact .inl rfl | exact fun x hx => absurd hx (by omega)))
    refine rg ctNo_ok ?_
    simp only [go_sem, Nat.reduceLeDiff, Nat.reduceLT, Nat.reduceAdd, Nat.reduceMul, Nat.reduceSub, Nat.reduceEqDiff, Nat.reduceBEq, Int.reduceToNat, reduceCtorEq]
    obtain rfl := Option.some.inj H
    refine RetE_mk [] [some 12, some 13, some 7] ?_ ?_ ?_ ?_ (by rfl) (by rfl)
    · simp only [go_sem, Nat.reduceEqDiff, Nat.reduceBEq, Nat.reduceAdd]
      try (and_intros <;> first | (with_reducible trivial) | omega | exact nfc | trivial)
    · simp only [go_sem, Nat.reduceEqDiff, Nat.reduceBEq, Nat.reduceAdd]
      try (and_intros <;> first | (with_reducible trivial) | omega | exact nfc | trivial)
    · simp only [go_sem, Nat.reduceEqDiff, Nat.reduceBEq, Nat.reduceAdd]
      exact Cv_tup (CvL_cons (by first | (simp [Cv, CvL, getM, gt_some]; done) | (simp [Cv, CvL, getM, gt_some]; omega)) (CvL_cons (by first | (simp [Cv, CvL, getM, gt_some]; done) | (simp [Cv, CvL, getM, gt_some]; omega)) (CvL_cons (by simp [Cv, CvL, getM, gt_some]) CvL_nil)))
    · simp only [go_sem, Nat.reduceEqDiff, Nat.reduceBEq, Nat.reduceAdd, CvH, gt_some, Option.isSome_some, Option.isSome_none]
      first | exact ⟨CvB_row nr_TForwardMark (by first | rfl | (simp; done) | (simp; omega)) (fun _ _ _ _ => rfl), CvB_row nr_TForwardHop (by first | rfl | (simp; done) | (simp; omega)) (fun _ _ _ _ => rfl), CvB_row nr_u8 (by first | rfl | (simp; done) | (simp; omega)) (fun _ _ _ _ => rfl)⟩ | trivial
  · cases hb
/-! hotspot/forward.CheckFrame -/
noncomputable def ct23t0 : Ct := tab [(39, pureC body39), (48, pureC body48)]
theorem ct23t0_ok : CtOk Try.prog ct23t0 := tab_cons ok39 <| tab_cons ok48 <| tab_nil
theorem ct23t0_39 (l : List AV) (h : List ABlk) : ct23t0 39 l h = pureC body39 l h := rfl
theorem ct23t0_48 (l : List AV) (h : List ABlk) : ct23t0 48 l h = pureC body48 l h := rfl
noncomputable def F23 (p0 : TMeshFrame) : Option (Int) :=
  (F39 p0.From).bind fun r1 => need (bif (!r1) then ((F39 p0.Enter).isSome) else true) <| need (bif (!(r1 || (gt (F39 p0.Enter)))) then ((F39 p0.To).isSome) else true) <| need (bif (!(r1 || (gt (F39 p0.Enter)))) then ((F39 p0.Leave).isSome) else true) <| need (bif (!((r1 || (gt (F39 p0.Enter))) || (!bB (gt (F39 p0.To)) (gt (F39 p0.Leave))))) then ((F48 p0.Seq).isSome) else true) <| bif ((((((r1 || (gt (F39 p0.Enter))) || (!bB (gt (F39 p0.To)) (gt (F39 p0.Leave)))) || (!(gt (F48 p0.Seq)))) || (bLt p0.Ttl 1)) || (bLt 31 p0.Ttl)) || (bLt 2264 (p0.Data.length : Nat))) then (some 8) else (some 0)
noncomputable def body23 : List AV → AR
  | [v0] => .pure (aK 39 k_TMeshFrame v0 ∧ (F23 (g_TMeshFrame (aL v0))).isSome = true) (.int .i64 (gt (F23 (g_TMeshFrame (aL v0)))))
  | _ => .fail
set_option maxHeartbeats 4000000 in
set_option maxRecDepth 20000 in
theorem ok23 : FnOk Try.prog 23 (pureC body23) := by
  refine pure_fnM body23 (rs := [.tmp 2]) Try.func23 (by kernel_rfl) rfl rfl ?_
  intro l ob v hb hob
  unfold body23 at hb
  split at hb
  · rename_i v0
    injection hb with q1 q2; subst q1 q2
    obtain ⟨hk0_0, hob⟩ := hob
    obtain ⟨r, H⟩ := Option.isSome_iff_exists.1 hob
    rw [H, gt_some]
    have hw0 := wA_TMeshFrame hk0_0
    generalize g_TMeshFrame (aL v0) = p0 at H hw0
    refine ⟨[.agg (.int .u8 p0.From.x0 :: .int .u8 p0.From.x1 :: .int .u8 p0.From.x2 :: .int .u8 p0.From.x3 :: .int .u8 p0.From.x4 :: .int .u8 p0.From.x5 :: .int .u8 p0.To.x0 :: .int .u8 p0.To.x1 :: .int .u8 p0.To.x2 :: .int .u8 p0.To.x3 :: .int .u8 p0.To.x4 :: .int .u8 p0.To.x5 :: .int .u8 p0.Enter.x0 :: .int .u8 p0.Enter.x1 :: .int .u8 p0.Enter.x2 :: .int .u8 p0.Enter.x3 :: .int .u8 p0.Enter.x4 :: .int .u8 p0.Enter.x5 :: .int .u8 p0.Leave.x0 :: .int .u8 p0.Leave.x1 :: .int .u8 p0.Leave.x2 :: .int .u8 p0.Leave.x3 :: .int .u8 p0.Leave.x4 :: .int .u8 p0.Leave.x5 :: .int .u8 p0.Source.x0 :: .int .u8 p0.Source.x1 :: .int .u8 p0.Source.x2 :: .int .u8 p0.Source.x3 :: .int .u8 p0.Source.x4 :: .int .u8 p0.Source.x5 :: .int .u8 p0.Target.x0 :: .int .u8 p0.Target.x1 :: .int .u8 p0.Target.x2 :: .int .u8 p0.Target.x3 :: .int .u8 p0.Target.x4 :: .int .u8 p0.Target.x5 :: .int .i64 p0.Seq :: .int .i64 p0.Ttl :: .ro 1 p0.Data.length false (enR c_u8 p0.Data) :: [])], _, (fun E vs F => FR_wk1 hw0.1 F (fun vs F => F)), rfl, rfl, ?_⟩
    rw [Try.ntmps23]
    simp only [List.length_cons, List.length_nil, Nat.reduceAdd, Nat.reduceSub, List.replicate_succ, List.replicate_zero, List.cons_append, List.nil_append]
    unfold F23 at H
    try dsimp only at H
    refine sq ctNo_ok ?_
    simp only [go_sem, Nat.reduceLeDiff, Nat.reduceLT, Nat.reduceAdd, Nat.reduceMul, Nat.reduceSub, Nat.reduceEqDiff, Nat.reduceBEq, Int.reduceToNat, reduceCtorEq]
    refine seqM ?_
    refine seqM ?_
    obtain ⟨r1, e2, H⟩ := bsi H
    obtain ⟨f3, H⟩ := need_some.1 H
    replace f3 := g_iff.1 f3
    obtain ⟨f4, H⟩ := need_some.1 H
    replace f4 := g_iff.1 f4
    obtain ⟨f5, H⟩ := need_some.1 H
    replace f5 := g_iff.1 f5
    obtain ⟨f6, H⟩ := need_some.1 H
    replace f6 := g_iff.1 f6
    refine draw_quiet shT_ok ct23t0_ok (by kernel_rfl) (by kernel_rfl) ?_
    simp only [go_sem, Nat.reduceLeDiff, Nat.reduceLT, Nat.reduceAdd, Nat.reduceMul, Nat.reduceSub, Nat.reduceEqDiff, Nat.reduceBEq, Int.reduceToNat, reduceCtorEq, ct23t0_39, body39, ct23t0_48, body48, e2]
    repeat ((with_reducible refine And.intro ?_ ?_); focus (first | (with_reducible trivial) | omega | exact f3 | exact f4 | exact f5 | exact f6 | (intro g; have q := f3 (by first | exact g | (rw [g]; rfl) | simpa using g); first | exact q | exact ⟨q.1, q.2.1⟩ | exact q.2.2 | omega | exact ⟨g, q⟩ | exact ⟨trivial, q⟩ | exact ⟨g, q.1, q.2.1⟩ | exact ⟨g, q.2.2⟩) | (intro g; have q := f4 (by first | exact g | (rw [g]; rfl) | simpa using g); first | exact q | exact ⟨q.1, q.2.1⟩ | exact q.2.2 | omega | exact ⟨g, q⟩ | exact ⟨trivial, q⟩ | exact ⟨g, q.1, q.2.1⟩ | exact ⟨g, q.2.2⟩) | (intro g; have q := f5 (by first | exact g | (rw [g]; rfl) | simpa using g); first | exact q | exact ⟨q.1, q.2.1⟩ | exact q.2.2 | omega | exact ⟨g, q⟩ | exact ⟨trivial, q⟩ | exact ⟨g, q.1, q.2.1⟩ | exact ⟨g, q.2.2⟩) | (intro g; have q := f6 (by first | exact g | (rw [g]; rfl) | simpa using g); first | exact q | exact ⟨q.1, q.2.1⟩ | exact q.2.2 | omega | exact ⟨g, q⟩ | exact ⟨trivial, q⟩ | exact ⟨g, q.1, q.2.1⟩ | exact ⟨g, q.2.2⟩) | (intro g; (try have q0 := f3 (by first | exact g | (rw [g]; rfl) | simpa using g)); (try have q1 := f4 (by first | exact g | (rw [g]; rfl) | simpa using g)); (try have q2 := f5 (by first | exact g | (rw [g]; rfl) | simpa using g)); (try have q3 := f6 (by first | exact g | (rw [g]; rfl) | simpa using g)); and_intros <;> first | (with_reducible trivial) | assumption | exact nfc | (intro g2; rw [g, g2]; rfl) | (intro g2; assumption) | (simp only [g, Bool.true_and, Bool.and_true, Bool.not_false, Bool.not_true]; assumption) | grind) | (and_intros <;> first | (with_reducible trivial) | omega | assumption | exact nfc | first | exact rfl | exact trivial | exact fitI | exact .inr rfl | exact .inl rfl | exact fun x hx => absurd hx (by omega)) | grind))
    refine condM rfl trivial (fun hc => ?_) (fun hc => ?_)
    · replace H := cond_t hc H
      refine sq ctNo_ok ?_
      simp only [go_sem, Nat.reduceLeDiff, Nat.reduceLT, Nat.reduceAdd, Nat.reduceMul, Nat.reduceSub, Nat.reduceEqDiff, Nat.reduceBEq, Int.reduceToNat, reduceCtorEq]
      refine rg ctNo_ok ?_
      simp only [go_sem, Nat.reduceLeDiff, Nat.reduceLT, Nat.reduceAdd, Nat.reduceMul, Nat.reduceSub, Nat.reduceEqDiff, Nat.reduceBEq, Int.reduceToNat, reduceCtorEq]
      obtain rfl := Option.some.inj H
      first | rfl | simp only [Bool.and_false, Bool.false_and, Bool.and_true, Bool.true_and]
    replace H := cond_f hc H
    refine rg ctNo_ok ?_
    simp only [go_sem, Nat.reduceLeDiff, Nat.reduceLT, Nat.reduceAdd, Nat.reduceMul, Nat.reduceSub, Nat.reduceEqDiff, Nat.reduceBEq, Int.reduceToNat, reduceCtorEq]
    refine sq ctNo_ok ?_
    simp only [go_sem, Nat.reduceLeDiff, Nat.reduceLT, Nat.reduceAdd, Nat.reduceMul, Nat.reduceSub, Nat.reduceEqDiff, Nat.reduceBEq, Int.reduceToNat, reduceCtorEq]
    refine rg ctNo_ok ?_
    simp only [go_sem, Nat.reduceLeDiff, Nat.reduceLT, Nat.reduceAdd, Nat.reduceMul, Nat.reduceSub, Nat.reduceEqDiff, Nat.reduceBEq, Int.reduceToNat, reduceCtorEq]
    obtain rfl := Option.some.inj H
    first | rfl | simp only [Bool.and_false, Bool.false_and, Bool.and_true, Bool.true_and]
  · cases hb
/-! hotspot/forward.Receive -/
noncomputable def ct20t0 : Ct := tab [(23, pureC body23), (27, pureC body27)]
theorem ct20t0_ok : CtOk Try.prog ct20t0 := tab_cons ok23 <| tab_cons ok27 <| tab_nil
theorem ct20t0_23 (l : List AV) (h : List ABlk) : ct20t0 23 l h = pureC body23 l h := rfl
theorem ct20t0_27 (l : List AV) (h : List ABlk) : ct20t0 27 l h = pureC body27 l h := rfl
noncomputable def ct20t1 : Ct := tab [(39, pureC body39), (40, pureC body40)]
theorem ct20t1_ok : CtOk Try.prog ct20t1 := tab_cons ok39 <| tab_cons ok40 <| tab_nil
theorem ct20t1_39 (l : List AV) (h : List ABlk) : ct20t1 39 l h = pureC body39 l h := rfl
theorem ct20t1_40 (l : List AV) (h : List ABlk) : ct20t1 40 l h = pureC body40 l h := rfl
noncomputable def ct20t2 : Ct := tab [(41, edC body41)]
theorem ct20t2_ok : CtOk Try.prog ct20t2 := tab_cons ok41 <| tab_nil
theorem ct20t2_41 (l : List AV) (h : List ABlk) : ct20t2 41 l h = edC body41 l h := rfl
noncomputable def ct20t3 : Ct := tab [(42, edC body42)]
theorem ct20t3_ok : CtOk Try.prog ct20t3 := tab_cons ok42 <| tab_nil
theorem ct20t3_42 (l : List AV) (h : List ABlk) : ct20t3 42 l h = edC body42 l h := rfl
noncomputable def ct20t4 : Ct := tab [(37, edC body37)]
theorem ct20t4_ok : CtOk Try.prog ct20t4 := tab_cons ok37 <| tab_nil
theorem ct20t4_37 (l : List AV) (h : List ABlk) : ct20t4 37 l h = edC body37 l h := rfl
noncomputable def ct20t5 : Ct := tab [(43, pureC body43)]
theorem ct20t5_ok : CtOk Try.prog ct20t5 := tab_cons ok43 <| tab_nil
theorem ct20t5_43 (l : List AV) (h : List ABlk) : ct20t5 43 l h = pureC body43 l h := rfl
noncomputable def ct20t6 : Ct := tab [(39, pureC body39)]
theorem ct20t6_ok : CtOk Try.prog ct20t6 := tab_cons ok39 <| tab_nil
theorem ct20t6_39 (l : List AV) (h : List ABlk) : ct20t6 39 l h = pureC body39 l h := rfl
noncomputable def F20 (p0 : TForward) (p1 : TMeshFrame) : Option (TForward × Int × TMeshFrame × Int) :=
  (F27 p0).bind fun r1 => need (bif (!(!bEq r1 0)) then ((F23 p1).isSome) else true) <| bif ((!bEq r1 0) || (!bEq (gt (F23 p1)) 0)) then (some ((TForward.mk (A6u8.mk 0 0 0 0 0 0) 0 [] []), 0, (TMeshFrame.mk (A6u8.mk 0 0 0 0 0 0) (A6u8.mk 0 0 0 0 0 0) (A6u8.mk 0 0 0 0 0 0) (A6u8.mk 0 0 0 0 0 0) (A6u8.mk 0 0 0 0 0 0) (A6u8.mk 0 0 0 0 0 0) 0 0 []), 8)) else ((F39 p1.To).bind fun r4 => need (bif (!((((!r4) && (!(bEq p1.To.x0 p0.Own.x0 && (bEq p1.To.x1 p0.Own.x1 && (bEq p1.To.x2 p0.Own.x2 && (bEq p1.To.x3 p0.Own.x3 && (bEq p1.To.x4 p0.Own.x4 && (bEq p1.To.x5 p0.Own.x5)))))))) || (bEq p1.Enter.x0 p0.Own.x0 && (bEq p1.Enter.x1 p0.Own.x1 && (bEq p1.Enter.x2 p0.Own.x2 && (bEq p1.Enter.x3 p0.Own.x3 && (bEq p1.Enter.x4 p0.Own.x4 && (bEq p1.Enter.x5 p0.Own.x5))))))) || (bEq p1.From.x0 p0.Own.x0 && (bEq p1.From.x1 p0.Own.x1 && (bEq p1.From.x2 p0.Own.x2 && (bEq p1.From.x3 p0.Own.x3 && (bEq p1.From.x4 p0.Own.x4 && (bEq p1.From.x5 p0.Own.x5)))))))) then ((F40 p0.Seen (TForwardMark.mk (A6u8.mk p1.Enter.x0 p1.Enter.x1 p1.Enter.x2 p1.Enter.x3 p1.Enter.x4 p1.Enter.x5) p1.Seq)).isSome) else true) <| bif (((((!r4) && (!(bEq p1.To.x0 p0.Own.x0 && (bEq p1.To.x1 p0.Own.x1 && (bEq p1.To.x2 p0.Own.x2 && (bEq p1.To.x3 p0.Own.x3 && (bEq p1.To.x4 p0.Own.x4 && (bEq p1.To.x5 p0.Own.x5)))))))) || (bEq p1.Enter.x0 p0.Own.x0 && (bEq p1.Enter.x1 p0.Own.x1 && (bEq p1.Enter.x2 p0.Own.x2 && (bEq p1.Enter.x3 p0.Own.x3 && (bEq p1.Enter.x4 p0.Own.x4 && (bEq p1.Enter.x5 p0.Own.x5))))))) || (bEq p1.From.x0 p0.Own.x0 && (bEq p1.From.x1 p0.Own.x1 && (bEq p1.From.x2 p0.Own.x2 && (bEq p1.From.x3 p0.Own.x3 && (bEq p1.From.x4 p0.Own.x4 && (bEq p1.From.x5 p0.Own.x5))))))) || (gt (F40 p0.Seen (TForwardMark.mk (A6u8.mk p1.Enter.x0 p1.Enter.x1 p1.Enter.x2 p1.Enter.x3 p1.Enter.x4 p1.Enter.x5) p1.Seq)))) then ((F41 p0).bind fun r7 => some ((TForward.mk (A6u8.mk r7.Own.x0 r7.Own.x1 r7.Own.x2 r7.Own.x3 r7.Own.x4 r7.Own.x5) r7.Seq r7.Seen r7.Nexts), 0, (TMeshFrame.mk (A6u8.mk 0 0 0 0 0 0) (A6u8.mk 0 0 0 0 0 0) (A6u8.mk 0 0 0 0 0 0) (A6u8.mk 0 0 0 0 0 0) (A6u8.mk 0 0 0 0 0 0) (A6u8.mk 0 0 0 0 0 0) 0 0 []), 0)) else ((F42 p0 p1.Enter p1.Seq).bind fun r9 => (F37 p1.Data).bind fun r11 => (F43 (TForward.mk (A6u8.mk r9.Own.x0 r9.Own.x1 r9.Own.x2 r9.Own.x3 r9.Own.x4 r9.Own.x5) r9.Seq r9.Seen r9.Nexts) p1.Leave).bind fun r13 => need (bif (!(bEq p1.Leave.x0 r9.Own.x0 && (bEq p1.Leave.x1 r9.Own.x1 && (bEq p1.Leave.x2 r9.Own.x2 && (bEq p1.Leave.x3 r9.Own.x3 && (bEq p1.Leave.x4 r9.Own.x4 && (bEq p1.Leave.x5 r9.Own.x5))))))) then ((F39 p1.To).isSome) else true) <| bif ((bEq p1.Leave.x0 r9.Own.x0 && (bEq p1.Leave.x1 r9.Own.x1 && (bEq p1.Leave.x2 r9.Own.x2 && (bEq p1.Leave.x3 r9.Own.x3 && (bEq p1.Leave.x4 r9.Own.x4 && (bEq p1.Leave.x5 r9.Own.x5)))))) || ((gt (F39 p1.To)) && (bEq p1.Ttl 1))) then (some ((TForward.mk (A6u8.mk r9.Own.x0 r9.Own.x1 r9.Own.x2 r9.Own.x3 r9.Own.x4 r9.Own.x5) r9.Seq r9.Seen r9.Nexts), 1, (TMeshFrame.mk (A6u8.mk p1.From.x0 p1.From.x1 p1.From.x2 p1.From.x3 p1.From.x4 p1.From.x5) (A6u8.mk p1.To.x0 p1.To.x1 p1.To.x2 p1.To.x3 p1.To.x4 p1.To.x5) (A6u8.mk p1.Enter.x0 p1.Enter.x1 p1.Enter.x2 p1.Enter.x3 p1.Enter.x4 p1.Enter.x5) (A6u8.mk p1.Leave.x0 p1.Leave.x1 p1.Leave.x2 p1.Leave.x3 p1.Leave.x4 p1.Leave.x5) (A6u8.mk p1.Source.x0 p1.Source.x1 p1.Source.x2 p1.Source.x3 p1.Source.x4 p1.Source.x5) (A6u8.mk p1.Target.x0 p1.Target.x1 p1.Target.x2 p1.Target.x3 p1.Target.x4 p1.Target.x5) p1.Seq p1.Ttl r11), 0)) else ((F39 p1.To).bind fun r16 => bif r16 then (some ((TForward.mk (A6u8.mk r9.Own.x0 r9.Own.x1 r9.Own.x2 r9.Own.x3 r9.Own.x4 r9.Own.x5) r9.Seq r9.Seen r9.Nexts), 3, (TMeshFrame.mk (A6u8.mk r9.Own.x0 r9.Own.x1 r9.Own.x2 r9.Own.x3 r9.Own.x4 r9.Own.x5) (A6u8.mk p1.To.x0 p1.To.x1 p1.To.x2 p1.To.x3 p1.To.x4 p1.To.x5) (A6u8.mk p1.Enter.x0 p1.Enter.x1 p1.Enter.x2 p1.Enter.x3 p1.Enter.x4 p1.Enter.x5) (A6u8.mk p1.Leave.x0 p1.Leave.x1 p1.Leave.x2 p1.Leave.x3 p1.Leave.x4 p1.Leave.x5) (A6u8.mk p1.Source.x0 p1.Source.x1 p1.Source.x2 p1.Source.x3 p1.Source.x4 p1.Source.x5) (A6u8.mk p1.Target.x0 p1.Target.x1 p1.Target.x2 p1.Target.x3 p1.Target.x4 p1.Target.x5) p1.Seq (wr .i64 (p1.Ttl - 1)) r11), 0)) else (bif (bEq p1.Ttl 1) then (some ((TForward.mk (A6u8.mk r9.Own.x0 r9.Own.x1 r9.Own.x2 r9.Own.x3 r9.Own.x4 r9.Own.x5) r9.Seq r9.Seen r9.Nexts), 0, (TMeshFrame.mk (A6u8.mk 0 0 0 0 0 0) (A6u8.mk 0 0 0 0 0 0) (A6u8.mk 0 0 0 0 0 0) (A6u8.mk 0 0 0 0 0 0) (A6u8.mk 0 0 0 0 0 0) (A6u8.mk 0 0 0 0 0 0) 0 0 []), 0)) else (bif (!r13.2) then (some ((TForward.mk (A6u8.mk r9.Own.x0 r9.Own.x1 r9.Own.x2 r9.Own.x3 r9.Own.x4 r9.Own.x5) r9.Seq r9.Seen r9.Nexts), 4, (TMeshFrame.mk (A6u8.mk p1.From.x0 p1.From.x1 p1.From.x2 p1.From.x3 p1.From.x4 p1.From.x5) (A6u8.mk p1.To.x0 p1.To.x1 p1.To.x2 p1.To.x3 p1.To.x4 p1.To.x5) (A6u8.mk p1.Enter.x0 p1.Enter.x1 p1.Enter.x2 p1.Enter.x3 p1.Enter.x4 p1.Enter.x5) (A6u8.mk p1.Leave.x0 p1.Leave.x1 p1.Leave.x2 p1.Leave.x3 p1.Leave.x4 p1.Leave.x5) (A6u8.mk p1.Source.x0 p1.Source.x1 p1.Source.x2 p1.Source.x3 p1.Source.x4 p1.Source.x5) (A6u8.mk p1.Target.x0 p1.Target.x1 p1.Target.x2 p1.Target.x3 p1.Target.x4 p1.Target.x5) p1.Seq p1.Ttl r11), 0)) else (some ((TForward.mk (A6u8.mk r9.Own.x0 r9.Own.x1 r9.Own.x2 r9.Own.x3 r9.Own.x4 r9.Own.x5) r9.Seq r9.Seen r9.Nexts), 2, (TMeshFrame.mk (A6u8.mk r9.Own.x0 r9.Own.x1 r9.Own.x2 r9.Own.x3 r9.Own.x4 r9.Own.x5) (A6u8.mk r13.1.x0 r13.1.x1 r13.1.x2 r13.1.x3 r13.1.x4 r13.1.x5) (A6u8.mk p1.Enter.x0 p1.Enter.x1 p1.Enter.x2 p1.Enter.x3 p1.Enter.x4 p1.Enter.x5) (A6u8.mk p1.Leave.x0 p1.Leave.x1 p1.Leave.x2 p1.Leave.x3 p1.Leave.x4 p1.Leave.x5) (A6u8.mk p1.Source.x0 p1.Source.x1 p1.Source.x2 p1.Source.x3 p1.Source.x4 p1.Source.x5) (A6u8.mk p1.Target.x0 p1.Target.x1 p1.Target.x2 p1.Target.x3 p1.Target.x4 p1.Target.x5) p1.Seq (wr .i64 (p1.Ttl - 1)) r11), 0)))))))
noncomputable def body20 : List AV → List ABlk → ED
  | [v0, v1], h => .ed [] (aK 9 k_TForward (roD (deadL h []) v0) ∧ roDOb (deadL h []) v0 ∧ aK 39 k_TMeshFrame (roD (deadL h []) v1) ∧ roDOb (deadL h []) v1 ∧ (F20 (g_TForward (aL (roD (deadL h []) v0))) (g_TMeshFrame (aL (roD (deadL h []) v1)))).isSome = true) (.tup [.agg [.int .u8 ((((gt (F20 (g_TForward (aL (roD (deadL h []) v0))) (g_TMeshFrame (aL (roD (deadL h []) v1))))).1).Own).x0), .int .u8 ((((gt (F20 (g_TForward (aL (roD (deadL h []) v0))) (g_TMeshFrame (aL (roD (deadL h []) v1))))).1).Own).x1), .int .u8 ((((gt (F20 (g_TForward (aL (roD (deadL h []) v0))) (g_TMeshFrame (aL (roD (deadL h []) v1))))).1).Own).x2), .int .u8 ((((gt (F20 (g_TForward (aL (roD (deadL h []) v0))) (g_TMeshFrame (aL (roD (deadL h []) v1))))).1).Own).x3), .int .u8 ((((gt (F20 (g_TForward (aL (roD (deadL h []) v0))) (g_TMeshFrame (aL (roD (deadL h []) v1))))).1).Own).x4), .int .u8 ((((gt (F20 (g_TForward (aL (roD (deadL h []) v0))) (g_TMeshFrame (aL (roD (deadL h []) v1))))).1).Own).x5), .int .i64 (((gt (F20 (g_TForward (aL (roD (deadL h []) v0))) (g_TMeshFrame (aL (roD (deadL h []) v1))))).1).Seq), .sl 0 7 0 ((((gt (F20 (g_TForward (aL (roD (deadL h []) v0))) (g_TMeshFrame (aL (roD (deadL h []) v1))))).1).Seen).length) false, .sl 1 12 0 ((((gt (F20 (g_TForward (aL (roD (deadL h []) v0))) (g_TMeshFrame (aL (roD (deadL h []) v1))))).1).Nexts).length) false], .int .u8 ((gt (F20 (g_TForward (aL (roD (deadL h []) v0))) (g_TMeshFrame (aL (roD (deadL h []) v1))))).2.1), .agg (.int .u8 ((((gt (F20 (g_TForward (aL (roD (deadL h []) v0))) (g_TMeshFrame (aL (roD (deadL h []) v1))))).2.2.1).From).x0) :: .int .u8 ((((gt (F20 (g_TForward (aL (roD (deadL h []) v0))) (g_TMeshFrame (aL (roD (deadL h []) v1))))).2.2.1).From).x1) :: .int .u8 ((((gt (F20 (g_TForward (aL (roD (deadL h []) v0))) (g_TMeshFrame (aL (roD (deadL h []) v1))))).2.2.1).From).x2) :: .int .u8 ((((gt (F20 (g_TForward (aL (roD (deadL h []) v0))) (g_TMeshFrame (aL (roD (deadL h []) v1))))).2.2.1).From).x3) :: .int .u8 ((((gt (F20 (g_TForward (aL (roD (deadL h []) v0))) (g_TMeshFrame (aL (roD (deadL h []) v1))))).2.2.1).From).x4) :: .int .u8 ((((gt (F20 (g_TForward (aL (roD (deadL h []) v0))) (g_TMeshFrame (aL (roD (deadL h []) v1))))).2.2.1).From).x5) :: .int .u8 ((((gt (F20 (g_TForward (aL (roD (deadL h []) v0))) (g_TMeshFrame (aL (roD (deadL h []) v1))))).2.2.1).To).x0) :: .int .u8 ((((gt (F20 (g_TForward (aL (roD (deadL h []) v0))) (g_TMeshFrame (aL (roD (deadL h []) v1))))).2.2.1).To).x1) :: .int .u8 ((((gt (F20 (g_TForward (aL (roD (deadL h []) v0))) (g_TMeshFrame (aL (roD (deadL h []) v1))))).2.2.1).To).x2) :: .int .u8 ((((gt (F20 (g_TForward (aL (roD (deadL h []) v0))) (g_TMeshFrame (aL (roD (deadL h []) v1))))).2.2.1).To).x3) :: .int .u8 ((((gt (F20 (g_TForward (aL (roD (deadL h []) v0))) (g_TMeshFrame (aL (roD (deadL h []) v1))))).2.2.1).To).x4) :: .int .u8 ((((gt (F20 (g_TForward (aL (roD (deadL h []) v0))) (g_TMeshFrame (aL (roD (deadL h []) v1))))).2.2.1).To).x5) :: .int .u8 ((((gt (F20 (g_TForward (aL (roD (deadL h []) v0))) (g_TMeshFrame (aL (roD (deadL h []) v1))))).2.2.1).Enter).x0) :: .int .u8 ((((gt (F20 (g_TForward (aL (roD (deadL h []) v0))) (g_TMeshFrame (aL (roD (deadL h []) v1))))).2.2.1).Enter).x1) :: .int .u8 ((((gt (F20 (g_TForward (aL (roD (deadL h []) v0))) (g_TMeshFrame (aL (roD (deadL h []) v1))))).2.2.1).Enter).x2) :: .int .u8 ((((gt (F20 (g_TForward (aL (roD (deadL h []) v0))) (g_TMeshFrame (aL (roD (deadL h []) v1))))).2.2.1).Enter).x3) :: .int .u8 ((((gt (F20 (g_TForward (aL (roD (deadL h []) v0))) (g_TMeshFrame (aL (roD (deadL h []) v1))))).2.2.1).Enter).x4) :: .int .u8 ((((gt (F20 (g_TForward (aL (roD (deadL h []) v0))) (g_TMeshFrame (aL (roD (deadL h []) v1))))).2.2.1).Enter).x5) :: .int .u8 ((((gt (F20 (g_TForward (aL (roD (deadL h []) v0))) (g_TMeshFrame (aL (roD (deadL h []) v1))))).2.2.1).Leave).x0) :: .int .u8 ((((gt (F20 (g_TForward (aL (roD (deadL h []) v0))) (g_TMeshFrame (aL (roD (deadL h []) v1))))).2.2.1).Leave).x1) :: .int .u8 ((((gt (F20 (g_TForward (aL (roD (deadL h []) v0))) (g_TMeshFrame (aL (roD (deadL h []) v1))))).2.2.1).Leave).x2) :: .int .u8 ((((gt (F20 (g_TForward (aL (roD (deadL h []) v0))) (g_TMeshFrame (aL (roD (deadL h []) v1))))).2.2.1).Leave).x3) :: .int .u8 ((((gt (F20 (g_TForward (aL (roD (deadL h []) v0))) (g_TMeshFrame (aL (roD (deadL h []) v1))))).2.2.1).Leave).x4) :: .int .u8 ((((gt (F20 (g_TForward (aL (roD (deadL h []) v0))) (g_TMeshFrame (aL (roD (deadL h []) v1))))).2.2.1).Leave).x5) :: .int .u8 ((((gt (F20 (g_TForward (aL (roD (deadL h []) v0))) (g_TMeshFrame (aL (roD (deadL h []) v1))))).2.2.1).Source).x0) :: .int .u8 ((((gt (F20 (g_TForward (aL (roD (deadL h []) v0))) (g_TMeshFrame (aL (roD (deadL h []) v1))))).2.2.1).Source).x1) :: .int .u8 ((((gt (F20 (g_TForward (aL (roD (deadL h []) v0))) (g_TMeshFrame (aL (roD (deadL h []) v1))))).2.2.1).Source).x2) :: .int .u8 ((((gt (F20 (g_TForward (aL (roD (deadL h []) v0))) (g_TMeshFrame (aL (roD (deadL h []) v1))))).2.2.1).Source).x3) :: .int .u8 ((((gt (F20 (g_TForward (aL (roD (deadL h []) v0))) (g_TMeshFrame (aL (roD (deadL h []) v1))))).2.2.1).Source).x4) :: .int .u8 ((((gt (F20 (g_TForward (aL (roD (deadL h []) v0))) (g_TMeshFrame (aL (roD (deadL h []) v1))))).2.2.1).Source).x5) :: .int .u8 ((((gt (F20 (g_TForward (aL (roD (deadL h []) v0))) (g_TMeshFrame (aL (roD (deadL h []) v1))))).2.2.1).Target).x0) :: .int .u8 ((((gt (F20 (g_TForward (aL (roD (deadL h []) v0))) (g_TMeshFrame (aL (roD (deadL h []) v1))))).2.2.1).Target).x1) :: .int .u8 ((((gt (F20 (g_TForward (aL (roD (deadL h []) v0))) (g_TMeshFrame (aL (roD (deadL h []) v1))))).2.2.1).Target).x2) :: .int .u8 ((((gt (F20 (g_TForward (aL (roD (deadL h []) v0))) (g_TMeshFrame (aL (roD (deadL h []) v1))))).2.2.1).Target).x3) :: .int .u8 ((((gt (F20 (g_TForward (aL (roD (deadL h []) v0))) (g_TMeshFrame (aL (roD (deadL h []) v1))))).2.2.1).Target).x4) :: .int .u8 ((((gt (F20 (g_TForward (aL (roD (deadL h []) v0))) (g_TMeshFrame (aL (roD (deadL h []) v1))))).2.2.1).Target).x5) :: .int .i64 (((gt (F20 (g_TForward (aL (roD (deadL h []) v0))) (g_TMeshFrame (aL (roD (deadL h []) v1))))).2.2.1).Seq) :: .int .i64 (((gt (F20 (g_TForward (aL (roD (deadL h []) v0))) (g_TMeshFrame (aL (roD (deadL h []) v1))))).2.2.1).Ttl) :: .sl 2 1 0 ((((gt (F20 (g_TForward (aL (roD (deadL h []) v0))) (g_TMeshFrame (aL (roD (deadL h []) v1))))).2.2.1).Data).length) false :: []), .int .i64 ((gt (F20 (g_TForward (aL (roD (deadL h []) v0))) (g_TMeshFrame (aL (roD (deadL h []) v1))))).2.2.2)]) [.row 59 7 ((((gt (F20 (g_TForward (aL (roD (deadL h []) v0))) (g_TMeshFrame (aL (roD (deadL h []) v1))))).1).Seen).length) (enR c_TForwardMark (((gt (F20 (g_TForward (aL (roD (deadL h []) v0))) (g_TMeshFrame (aL (roD (deadL h []) v1))))).1).Seen)), .row 90 12 ((((gt (F20 (g_TForward (aL (roD (deadL h []) v0))) (g_TMeshFrame (aL (roD (deadL h []) v1))))).1).Nexts).length) (enR c_TForwardHop (((gt (F20 (g_TForward (aL (roD (deadL h []) v0))) (g_TMeshFrame (aL (roD (deadL h []) v1))))).1).Nexts)), .row 5 1 ((((gt (F20 (g_TForward (aL (roD (deadL h []) v0))) (g_TMeshFrame (aL (roD (deadL h []) v1))))).2.2.1).Data).length) (enR c_u8 (((gt (F20 (g_TForward (aL (roD (deadL h []) v0))) (g_TMeshFrame (aL (roD (deadL h []) v1))))).2.2.1).Data))]
  | _, _ => .fail
set_option maxHeartbeats 4000000 in
set_option maxRecDepth 20000 in
theorem ok20 : FnOk Try.prog 20 (edC body20) := by
  refine edit_fnV body20 (rs := [.cell 4 31, .tmp 5, .cell 6 26, .tmp 7]) Try.func20 (by kernel_rfl) rfl rfl ?_
  intro l h bs ob q0 g0 hb hob
  unfold body20 at hb
  split at hb
  · rename_i v0 v1
    injection hb with q1 q2 q3 q4; subst q1 q2 q3 q4
    obtain ⟨hk0_0, hk0_1, hk1_0, hk1_1, hob⟩ := hob
    obtain ⟨r, H⟩ := Option.isSome_iff_exists.1 hob
    rw [H, gt_some]
    have hw0 := wA_TForward hk0_0
    obtain ⟨p0, hp_p0⟩ : ∃ p0, p0 = g_TForward (aL (roD (deadL h []) v0)) := ⟨_, rfl⟩
    rw [← hp_p0] at H hw0
    have hw1 := wA_TMeshFrame hk1_0
    obtain ⟨p1, hp_p1⟩ : ∃ p1, p1 = g_TMeshFrame (aL (roD (deadL h []) v1)) := ⟨_, rfl⟩
    rw [← hp_p1] at H hw1
    refine ⟨[.agg [.int .u8 p0.Own.x0, .int .u8 p0.Own.x1, .int .u8 p0.Own.x2, .int .u8 p0.Own.x3, .int .u8 p0.Own.x4, .int .u8 p0.Own.x5, .int .i64 p0.Seq, .ro 7 p0.Seen.length false (enR c_TForwardMark p0.Seen), .ro 12 p0.Nexts.length false (enR c_TForwardHop p0.Nexts)], .agg (.int .u8 p1.From.x0 :: .int .u8 p1.From.x1 :: .int .u8 p1.From.x2 :: .int .u8 p1.From.x3 :: .int .u8 p1.From.x4 :: .int .u8 p1.From.x5 :: .int .u8 p1.To.x0 :: .int .u8 p1.To.x1 :: .int .u8 p1.To.x2 :: .int .u8 p1.To.x3 :: .int .u8 p1.To.x4 :: .int .u8 p1.To.x5 :: .int .u8 p1.Enter.x0 :: .int .u8 p1.Enter.x1 :: .int .u8 p1.Enter.x2 :: .int .u8 p1.Enter.x3 :: .int .u8 p1.Enter.x4 :: .int .u8 p1.Enter.x5 :: .int .u8 p1.Leave.x0 :: .int .u8 p1.Leave.x1 :: .int .u8 p1.Leave.x2 :: .int .u8 p1.Leave.x3 :: .int .u8 p1.Leave.x4 :: .int .u8 p1.Leave.x5 :: .int .u8 p1.Source.x0 :: .int .u8 p1.Source.x1 :: .int .u8 p1.Source.x2 :: .int .u8 p1.Source.x3 :: .int .u8 p1.Source.x4 :: .int .u8 p1.Source.x5 :: .int .u8 p1.Target.x0 :: .int .u8 p1.Target.x1 :: .int .u8 p1.Target.x2 :: .int .u8 p1.Target.x3 :: .int .u8 p1.Target.x4 :: .int .u8 p1.Target.x5 :: .int .i64 p1.Seq :: .int .i64 p1.Ttl :: .ro 1 p1.Data.length false (enR c_u8 p1.Data) :: [])], [], rfl, ⟨(EW_view hk0_1 hw0), ⟨(EW_view hk1_1 hw1), trivial⟩⟩, trivial, trivial, ⟨(nfB_en nr_TForwardMark), ⟨(nfB_en nr_TForwardHop), ⟨(nfB_en nr_u8), trivial⟩⟩⟩, ⟨noroB_en, ⟨noroB_en, ⟨noroB_en, trivial⟩⟩⟩, (by first | (simp only [noro, noroL, and_self]; done) | (simp only [noro, noroL]; and_intros <;> first | trivial | exact noro_bif (by simp only [noro]) (by simp only [noro]) | (simp only [noro, noroL, and_self]))), ?_⟩
    rw [Try.ntmps20]
    simp only [List.length_cons, List.length_nil, Nat.reduceAdd, Nat.reduceSub, List.replicate_succ, List.replicate_zero, List.cons_append, List.nil_append]
    unfold F20 at H
    try dsimp only at H
    refine sq ctNo_ok ?_
    simp only [go_sem, Nat.reduceLeDiff, Nat.reduceLT, Nat.reduceAdd, Nat.reduceMul, Nat.reduceSub, Nat.reduceEqDiff, Nat.reduceBEq, Int.reduceToNat, reduceCtorEq]
    refine seqM ?_
    refine seqM ?_
    obtain ⟨r1, e2, H⟩ := bsi H
    obtain ⟨f3, H⟩ := need_some.1 H
    replace f3 := g_iff.1 f3
    refine rg ct20t0_ok ?_
    simp only [go_sem, Nat.reduceLeDiff, Nat.reduceLT, Nat.reduceAdd, Nat.reduceMul, Nat.reduceSub, Nat.reduceEqDiff, Nat.reduceBEq, Int.reduceToNat, reduceCtorEq, ct20t0_23, body23, ct20t0_27, body27, e2]
    repeat ((with_reducible refine And.intro ?_ ?_); focus (first | (with_reducible trivial) | omega | exact f3 | (intro g; have q := f3 (by first | exact g | (rw [g]; rfl) | simpa using g); first | exact q | exact ⟨q.1, q.2.1⟩ | exact q.2.2 | omega | exact ⟨g, q⟩ | exact ⟨trivial, q⟩ | exact ⟨g, q.1, q.2.1⟩ | exact ⟨g, q.2.2⟩) | (intro g; (try have q0 := f3 (by first | exact g | (rw [g]; rfl) | simpa using g)); and_intros <;> first | (with_reducible trivial) | assumption | exact nfc | (intro g2; rw [g, g2]; rfl) | (intro g2; assumption) | (simp only [g, Bool.true_and, Bool.and_true, Bool.not_false, Bool.not_true]; assumption) | grind) | (and_intros <;> first | (with_reducible trivial) | omega | assumption | exact nfc | first | exact rfl | exact trivial | exact fitI | exact .inr rfl | exact .inl rfl | exact fun x hx => absurd hx (by omega)) | grind))
    refine condM rfl trivial (fun hc => ?_) (fun hc => ?_)
    · replace H := cond_t hc H
      refine sq ctNo_ok ?_
      simp only [go_sem, Nat.reduceLeDiff, Nat.reduceLT, Nat.reduceAdd, Nat.reduceMul, Nat.reduceSub, Nat.reduceEqDiff, Nat.reduceBEq, Int.reduceToNat, reduceCtorEq]
      repeat ((with_reducible refine And.intro ?_ ?_); focus (first | (with_reducible trivial) | omega | grind))
      refine rg ctNo_ok ?_
      simp only [go_sem, Nat.reduceLeDiff, Nat.reduceLT, Nat.reduceAdd, Nat.reduceMul, Nat.reduceSub, Nat.reduceEqDiff, Nat.reduceBEq, Int.reduceToNat, reduceCtorEq]
      obtain rfl := Option.some.inj H
      refine RetE_mk [] [none, none, none] ?_ ?_ ?_ ?_ (by rfl) (by rfl)
      · simp only [go_sem, Nat.reduceEqDiff, Nat.reduceBEq, Nat.reduceAdd]
        try (and_intros <;> first | (with_reducible trivial) | omega | exact nfc | trivial)
      · simp only [go_sem, Nat.reduceEqDiff, Nat.reduceBEq, Nat.reduceAdd]
        try (and_intros <;> first | (with_reducible trivial) | omega | exact nfc | trivial)
      · simp only [go_sem, Nat.reduceEqDiff, Nat.reduceBEq, Nat.reduceAdd]
        exact Cv_tup (CvL_cons (by first | (simp [Cv, CvL, getM, gt_some]; done) | (simp [Cv, CvL, getM, gt_some]; omega)) (CvL_cons (by simp [Cv, CvL, getM, gt_some]) (CvL_cons (by first | (simp [Cv, CvL, getM, gt_some]; done) | (simp [Cv, CvL, getM, gt_some]; omega)) (CvL_cons (by simp [Cv, CvL, getM, gt_some]) CvL_nil))))
      · simp only [go_sem, Nat.reduceEqDiff, Nat.reduceBEq, Nat.reduceAdd, CvH, gt_some, Option.isSome_some, Option.isSome_none]
        first | exact ⟨CvB_none, CvB_none, CvB_none⟩ | trivial
    replace H := cond_f hc H
    refine rg ctNo_ok ?_
    simp only [go_sem, Nat.reduceLeDiff, Nat.reduceLT, Nat.reduceAdd, Nat.reduceMul, Nat.reduceSub, Nat.reduceEqDiff, Nat.reduceBEq, Int.reduceToNat, reduceCtorEq]
    refine sq ctNo_ok ?_
    simp only [go_sem, Nat.reduceLeDiff, Nat.reduceLT, Nat.reduceAdd, Nat.reduceMul, Nat.reduceSub, Nat.reduceEqDiff, Nat.reduceBEq, Int.reduceToNat, reduceCtorEq]
    repeat ((with_reducible refine And.intro ?_ ?_); focus (first | (with_reducible trivial) | omega | grind))
    refine seqM ?_
    refine seqM ?_
    obtain ⟨r4, e5, H⟩ := bsi H
    obtain ⟨f6, H⟩ := need_some.1 H
    replace f6 := g_iff.1 f6
    refine rg ct20t1_ok ?_
    simp only [go_sem, Nat.reduceLeDiff, Nat.reduceLT, Nat.reduceAdd, Nat.reduceMul, Nat.reduceSub, Nat.reduceEqDiff, Nat.reduceBEq, Int.reduceToNat, reduceCtorEq, ct20t1_39, body39, ct20t1_40, body40, e5]
    repeat ((with_reducible refine And.intro ?_ ?_); focus (first | (with_reducible trivial) | omega | exact f6 | (intro g; have q := f6 (by first | exact g | (rw [g]; rfl) | simpa using g); first | exact q | exact ⟨q.1, q.2.1⟩ | exact q.2.2 | omega | exact ⟨g, q⟩ | exact ⟨trivial, q⟩ | exact ⟨g, q.1, q.2.1⟩ | exact ⟨g, q.2.2⟩) | (intro g; (try have q0 := f6 (by first | exact g | (rw [g]; rfl) | simpa using g)); and_intros <;> first | (with_reducible trivial) | assumption | exact nfc | (intro g2; rw [g, g2]; rfl) | (intro g2; assumption) | (simp only [g, Bool.true_and, Bool.and_true, Bool.not_false, Bool.not_true]; assumption) | grind) | (and_intros <;> first | (with_reducible trivial) | omega | assumption | exact nfc | first | exact rfl | exact trivial | exact fitI | exact .inr rfl | exact .inl rfl | exact fun x hx => absurd hx (by omega)) | grind))
    refine condM rfl trivial (fun hc => ?_) (fun hc => ?_)
    · replace H := cond_t hc H
      refine seqM ?_
      obtain ⟨r7, e8, H⟩ := bsi H
      refine rg ct20t2_ok ?_
      simp only [go_sem, Nat.reduceLeDiff, Nat.reduceLT, Nat.reduceAdd, Nat.reduceMul, Nat.reduceSub, Nat.reduceEqDiff, Nat.reduceBEq, Int.reduceToNat, reduceCtorEq, ct20t2_41, body41, e8]
      repeat ((with_reducible refine And.intro ?_ ?_); focus (first | (and_intros <;> first | (with_reducible trivial) | omega | assumption | exact nfc | first | exact rfl | exact trivial | exact fitI | exact .inr rfl | exact .inl rfl | exact fun x hx => absurd hx (by omega)) | grind))
      refine rg ctNo_ok ?_
      simp only [go_sem, Nat.reduceLeDiff, Nat.reduceLT, Nat.reduceAdd, Nat.reduceMul, Nat.reduceSub, Nat.reduceEqDiff, Nat.reduceBEq, Int.reduceToNat, reduceCtorEq]
      obtain rfl := Option.some.inj H
      refine RetE_mk [] [some 5, some 6, none] ?_ ?_ ?_ ?_ (by rfl) (by rfl)
      · simp only [go_sem, Nat.reduceEqDiff, Nat.reduceBEq, Nat.reduceAdd]
        try (and_intros <;> first | (with_reducible trivial) | omega | exact nfc | trivial)
      · simp only [go_sem, Nat.reduceEqDiff, Nat.reduceBEq, Nat.reduceAdd]
        try (and_intros <;> first | (with_reducible trivial) | omega | exact nfc | trivial)
      · simp only [go_sem, Nat.reduceEqDiff, Nat.reduceBEq, Nat.reduceAdd]
        exact Cv_tup (CvL_cons (by first | (simp [Cv, CvL, getM, gt_some]; done) | (simp [Cv, CvL, getM, gt_some]; omega)) (CvL_cons (by simp [Cv, CvL, getM, gt_some]) (CvL_cons (by first | (simp [Cv, CvL, getM, gt_some]; done) | (simp [Cv, CvL, getM, gt_some]; omega)) (CvL_cons (by simp [Cv, CvL, getM, gt_some]) CvL_nil))))
      · simp only [go_sem, Nat.reduceEqDiff, Nat.reduceBEq, Nat.reduceAdd, CvH, gt_some, Option.isSome_some, Option.isSome_none]
        first | exact ⟨CvB_row nr_TForwardMark (by first | rfl | (simp; done) | (simp; omega)) (fun _ _ _ _ => rfl), CvB_row nr_TForwardHop (by first | rfl | (simp; done) | (simp; omega)) (fun _ _ _ _ => rfl), CvB_none⟩ | trivial
    replace H := cond_f hc H
    refine rg ctNo_ok ?_
    simp only [go_sem, Nat.reduceLeDiff, Nat.reduceLT, Nat.reduceAdd, Nat.reduceMul, Nat.reduceSub, Nat.reduceEqDiff, Nat.reduceBEq, Int.reduceToNat, reduceCtorEq]
    refine seqM ?_
    obtain ⟨r9, e10, H⟩ := bsi H
    refine rg ct20t3_ok ?_
    simp only [go_sem, Nat.reduceLeDiff, Nat.reduceLT, Nat.reduceAdd, Nat.reduceMul, Nat.reduceSub, Nat.reduceEqDiff, Nat.reduceBEq, Int.reduceToNat, reduceCtorEq, ct20t3_42, body42, e10]
    repeat ((with_reducible refine And.intro ?_ ?_); focus (first | (and_intros <;> first | (with_reducible trivial) | omega | assumption | exact nfc | first | exact rfl | exact trivial | exact fitI | exact .inr rfl | exact .inl rfl | exact fun x hx => absurd hx (by omega)) | grind))
    refine seqM ?_
    obtain ⟨r11, e12, H⟩ := bsi H
    refine rg ct20t4_ok ?_
    simp only [go_sem, Nat.reduceLeDiff, Nat.reduceLT, Nat.reduceAdd, Nat.reduceMul, Nat.reduceSub, Nat.reduceEqDiff, Nat.reduceBEq, Int.reduceToNat, reduceCtorEq, ct20t4_37, body37, e12]
    repeat ((with_reducible refine And.intro ?_ ?_); focus (first | (and_intros <;> first | (with_reducible trivial) | omega | assumption | exact nfc | first | exact rfl | exact trivial | exact fitI | exact .inr rfl | exact .inl rfl | exact fun x hx => absurd hx (by omega)) | grind))
    refine seqM ?_
    obtain ⟨r13, e14, H⟩ := bsi H
    refine rg ct20t5_ok ?_
    simp only [go_sem, Nat.reduceLeDiff, Nat.reduceLT, Nat.reduceAdd, Nat.reduceMul, Nat.reduceSub, Nat.reduceEqDiff, Nat.reduceBEq, Int.reduceToNat, reduceCtorEq, ct20t5_43, body43, e14]
    repeat ((with_reducible refine And.intro ?_ ?_); focus (first | (and_intros <;> first | (with_reducible trivial) | omega | assumption | exact nfc | first | exact rfl | exact trivial | exact fitI | exact .inr rfl | exact .inl rfl | exact fun x hx => absurd hx (by omega)) | grind))
    refine sq ctNo_ok ?_
    simp only [go_sem, Nat.reduceLeDiff, Nat.reduceLT, Nat.reduceAdd, Nat.reduceMul, Nat.reduceSub, Nat.reduceEqDiff, Nat.reduceBEq, Int.reduceToNat, reduceCtorEq]
    refine seqM ?_
    refine blkM ?_
    refine seqM ?_
    obtain ⟨f15, H⟩ := need_some.1 H
    replace f15 := g_iff.1 f15
    refine rg ct20t6_ok ?_
    simp only [go_sem, Nat.reduceLeDiff, Nat.reduceLT, Nat.reduceAdd, Nat.reduceMul, Nat.reduceSub, Nat.reduceEqDiff, Nat.reduceBEq, Int.reduceToNat, reduceCtorEq, ct20t6_39, body39]
    repeat ((with_reducible refine And.intro ?_ ?_); focus (first | (with_reducible trivial) | omega | exact f15 | (intro g; have q := f15 (by first | exact g | (rw [g]; rfl) | simpa using g); first | exact q | exact ⟨q.1, q.2.1⟩ | exact q.2.2 | omega | exact ⟨g, q⟩ | exact ⟨trivial, q⟩ | exact ⟨g, q.1, q.2.1⟩ | exact ⟨g, q.2.2⟩) | (intro g; (try have q0 := f15 (by first | exact g | (rw [g]; rfl) | simpa using g)); and_intros <;> first | (with_reducible trivial) | assumption | exact nfc | (intro g2; rw [g, g2]; rfl) | (intro g2; assumption) | (simp only [g, Bool.true_and, Bool.and_true, Bool.not_false, Bool.not_true]; assumption) | grind) | (and_intros <;> first | (with_reducible trivial) | omega | assumption | exact nfc | first | exact rfl | exact trivial | exact fitI | exact .inr rfl | exact .inl rfl | exact fun x hx => absurd hx (by omega)) | grind))
    refine condM rfl trivial (fun hc => ?_) (fun hc => ?_)
    · replace H := cond_t hc H
      refine seqM ?_
      refine draw_rule shT_ok ctNo_ok 0 (by kernel_rfl) (by kernel_rfl) ?_
      intro an han
      simp only [d_nil, d_cons, nxtD, xrD, xoD, roEq, minL, List.append_nil, refsOp, refs, refsL, mask, maskF, place, placeF, okLog, pairOk, hit, inL, slotsF, ren, renL, rnN, nrH, nrB, nrL, nr, dead0, deadS, List.replicate_zero, List.replicate_succ, Nat.sub_self, Nat.add_zero, Nat.zero_add, Nat.reduceSub, Nat.not_lt_zero, Nat.zero_le, Nat.lt_add_one, go_sem, Nat.reduceLeDiff, Nat.reduceLT, Nat.reduceAdd, Nat.reduceMul, Nat.reduceSub, Nat.reduceEqDiff, Nat.reduceBEq, Int.reduceToNat, reduceCtorEq]
      repeat ((with_reducible refine And.intro ?_ ?_); focus (and_intros <;> first | (with_reducible trivial) | (show anB _ _ _ = true; subst han; kernel_rfl) | (show (anB _ _ _ && _) = true; subst han; kernel_rfl) | omega | assumption | exact nrc | exact nfc | first | exact rfl | exact trivial | exact fitI | exact .inr rfl | exact .inl rfl | exact fun x hx => absurd hx (by omega)))
      refine rg ctNo_ok ?_
      simp only [go_sem, Nat.reduceLeDiff, Nat.reduceLT, Nat.reduceAdd, Nat.reduceMul, Nat.reduceSub, Nat.reduceEqDiff, Nat.reduceBEq, Int.reduceToNat, reduceCtorEq]
      obtain rfl := Option.some.inj H
      refine RetE_mk [] [some 5, some 6, some 7] ?_ ?_ ?_ ?_ (by rfl) (by rfl)
      · simp only [go_sem, Nat.reduceEqDiff, Nat.reduceBEq, Nat.reduceAdd]
        try (and_intros <;> first | (with_reducible trivial) | omega | exact nfc | trivial)
      · simp only [go_sem, Nat.reduceEqDiff, Nat.reduceBEq, Nat.reduceAdd]
        try (and_intros <;> first | (with_reducible trivial) | omega | exact nfc | trivial)
      · simp only [go_sem, Nat.reduceEqDiff, Nat.reduceBEq, Nat.reduceAdd]
        exact Cv_tup (CvL_cons (by first | (simp [Cv, CvL, getM, gt_some]; done) | (simp [Cv, CvL, getM, gt_some]; omega)) (CvL_cons (by simp [Cv, CvL, getM, gt_some]) (CvL_cons (by first | (simp [Cv, CvL, getM, gt_some]; done) | (simp [Cv, CvL, getM, gt_some]; omega)) (CvL_cons (by simp [Cv, CvL, getM, gt_some]) CvL_nil))))
      · simp only [go_sem, Nat.reduceEqDiff, Nat.reduceBEq, Nat.reduceAdd, CvH, gt_some, Option.isSome_some, Option.isSome_none]
        first | exact ⟨CvB_row nr_TForwardMark (by first | rfl | (simp; done) | (simp; omega)) (fun _ _ _ _ => rfl), CvB_row nr_TForwardHop (by first | rfl | (simp; done) | (simp; omega)) (fun _ _ _ _ => rfl), CvB_row nr_u8 (by first | rfl | (simp; done) | (simp; omega)) (fun _ _ _ _ => rfl)⟩ | trivial
    replace H := cond_f hc H
    refine seqM ?_
    obtain ⟨r16, e17, H⟩ := bsi H
    refine rg ct20t6_ok ?_
    simp only [go_sem, Nat.reduceLeDiff, Nat.reduceLT, Nat.reduceAdd, Nat.reduceMul, Nat.reduceSub, Nat.reduceEqDiff, Nat.reduceBEq, Int.reduceToNat, reduceCtorEq, ct20t6_39, body39, e17]
    repeat ((with_reducible refine And.intro ?_ ?_); focus (first | (and_intros <;> first | (with_reducible trivial) | omega | assumption | exact nfc | first | exact rfl | exact trivial | exact fitI | exact .inr rfl | exact .inl rfl | exact fun x hx => absurd hx (by omega)) | grind))
    refine condM rfl trivial (fun hc => ?_) (fun hc => ?_)
    · replace H := cond_t hc H
      refine draw_rule shT_ok ctNo_ok 0 (by kernel_rfl) (by kernel_rfl) ?_
      intro an han
      simp only [d_nil, d_cons, nxtD, xrD, xoD, roEq, minL, List.append_nil, refsOp, refs, refsL, mask, maskF, place, placeF, okLog, pairOk, hit, inL, slotsF, ren, renL, rnN, nrH, nrB, nrL, nr, dead0, deadS, List.replicate_zero, List.replicate_succ, Nat.sub_self, Nat.add_zero, Nat.zero_add, Nat.reduceSub, Nat.not_lt_zero, Nat.zero_le, Nat.lt_add_one, go_sem, Nat.reduceLeDiff, Nat.reduceLT, Nat.reduceAdd, Nat.reduceMul, Nat.reduceSub, Nat.reduceEqDiff, Nat.reduceBEq, Int.reduceToNat, reduceCtorEq]
      repeat ((with_reducible refine And.intro ?_ ?_); focus (and_intros <;> first | (with_reducible trivial) | (show anB _ _ _ = true; subst han; kernel_rfl) | (show (anB _ _ _ && _) = true; subst han; kernel_rfl) | omega | assumption | exact nrc | exact nfc | first | exact rfl | exact trivial | exact fitI | exact .inr rfl | exact .inl rfl | exact fun x hx => absurd hx (by omega)))
      refine seqM ?_
      refine draw_rule shT_ok ctNo_ok 0 (by kernel_rfl) (by kernel_rfl) ?_
      intro an han
      simp only [d_nil, d_cons, nxtD, xrD, xoD, roEq, minL, List.append_nil, refsOp, refs, refsL, mask, maskF, place, placeF, okLog, pairOk, hit, inL, slotsF, ren, renL, rnN, nrH, nrB, nrL, nr, dead0, deadS, List.replicate_zero, List.replicate_succ, Nat.sub_self, Nat.add_zero, Nat.zero_add, Nat.reduceSub, Nat.not_lt_zero, Nat.zero_le, Nat.lt_add_one, go_sem, Nat.reduceLeDiff, Nat.reduceLT, Nat.reduceAdd, Nat.reduceMul, Nat.reduceSub, Nat.reduceEqDiff, Nat.reduceBEq, Int.reduceToNat, reduceCtorEq]
      repeat ((with_reducible refine And.intro ?_ ?_); focus (and_intros <;> first | (with_reducible trivial) | (show anB _ _ _ = true; subst han; kernel_rfl) | (show (anB _ _ _ && _) = true; subst han; kernel_rfl) | omega | assumption | exact nrc | exact nfc | first | exact rfl | exact trivial | exact fitI | exact .inr rfl | exact .inl rfl | exact fun x hx => absurd hx (by omega)))
      refine seqM ?_
      refine draw_rule shT_ok ctNo_ok 0 (by kernel_rfl) (by kernel_rfl) ?_
      intro an han
      simp only [d_nil, d_cons, nxtD, xrD, xoD, roEq, minL, List.append_nil, refsOp, refs, refsL, mask, maskF, place, placeF, okLog, pairOk, hit, inL, slotsF, ren, renL, rnN, nrH, nrB, nrL, nr, dead0, deadS, List.replicate_zero, List.replicate_succ, Nat.sub_self, Nat.add_zero, Nat.zero_add, Nat.reduceSub, Nat.not_lt_zero, Nat.zero_le, Nat.lt_add_one, go_sem, Nat.reduceLeDiff, Nat.reduceLT, Nat.reduceAdd, Nat.reduceMul, Nat.reduceSub, Nat.reduceEqDiff, Nat.reduceBEq, Int.reduceToNat, reduceCtorEq]
      repeat ((with_reducible refine And.intro ?_ ?_); focus (and_intros <;> first | (with_reducible trivial) | (show anB _ _ _ = true; subst han; kernel_rfl) | (show (anB _ _ _ && _) = true; subst han; kernel_rfl) | omega | assumption | exact nrc | exact nfc | first | exact rfl | exact trivial | exact fitI | exact .inr rfl | exact .inl rfl | exact fun x hx => absurd hx (by omega)))
      refine rg ctNo_ok ?_
      simp only [go_sem, Nat.reduceLeDiff, Nat.reduceLT, Nat.reduceAdd, Nat.reduceMul, Nat.reduceSub, Nat.reduceEqDiff, Nat.reduceBEq, Int.reduceToNat, reduceCtorEq]
      obtain rfl := Option.some.inj H
      refine RetE_mk [] [some 5, some 6, some 7] ?_ ?_ ?_ ?_ (by rfl) (by rfl)
      · simp only [go_sem, Nat.reduceEqDiff, Nat.reduceBEq, Nat.reduceAdd]
        try (and_intros <;> first | (with_reducible trivial) | omega | exact nfc | trivial)
      · simp only [go_sem, Nat.reduceEqDiff, Nat.reduceBEq, Nat.reduceAdd]
        try (and_intros <;> first | (with_reducible trivial) | omega | exact nfc | trivial)
      · simp only [go_sem, Nat.reduceEqDiff, Nat.reduceBEq, Nat.reduceAdd]
        exact Cv_tup (CvL_cons (by first | (simp [Cv, CvL, getM, gt_some]; done) | (simp [Cv, CvL, getM, gt_some]; omega)) (CvL_cons (by simp [Cv, CvL, getM, gt_some]) (CvL_cons (by first | (simp [Cv, CvL, getM, gt_some]; done) | (simp [Cv, CvL, getM, gt_some]; omega)) (CvL_cons (by simp [Cv, CvL, getM, gt_some]) CvL_nil))))
      · simp only [go_sem, Nat.reduceEqDiff, Nat.reduceBEq, Nat.reduceAdd, CvH, gt_some, Option.isSome_some, Option.isSome_none]
        first | exact ⟨CvB_row nr_TForwardMark (by first | rfl | (simp; done) | (simp; omega)) (fun _ _ _ _ => rfl), CvB_row nr_TForwardHop (by first | rfl | (simp; done) | (simp; omega)) (fun _ _ _ _ => rfl), CvB_row nr_u8 (by first | rfl | (simp; done) | (simp; omega)) (fun _ _ _ _ => rfl)⟩ | trivial
    replace H := cond_f hc H
    refine sq ctNo_ok ?_
    simp only [go_sem, Nat.reduceLeDiff, Nat.reduceLT, Nat.reduceAdd, Nat.reduceMul, Nat.reduceSub, Nat.reduceEqDiff, Nat.reduceBEq, Int.reduceToNat, reduceCtorEq]
    refine condM rfl trivial (fun hc => ?_) (fun hc => ?_)
    · replace H := cond_t hc H
      refine sq ctNo_ok ?_
      simp only [go_sem, Nat.reduceLeDiff, Nat.reduceLT, Nat.reduceAdd, Nat.reduceMul, Nat.reduceSub, Nat.reduceEqDiff, Nat.reduceBEq, Int.reduceToNat, reduceCtorEq]
      repeat ((with_reducible refine And.intro ?_ ?_); focus (first | (with_reducible trivial) | omega | grind))
      refine rg ctNo_ok ?_
      simp only [go_sem, Nat.reduceLeDiff, Nat.reduceLT, Nat.reduceAdd, Nat.reduceMul, Nat.reduceSub, Nat.reduceEqDiff, Nat.reduceBEq, Int.reduceToNat, reduceCtorEq]
      obtain rfl := Option.some.inj H
      refine RetE_mk [] [some 5, some 6, none] ?_ ?_ ?_ ?_ (by rfl) (by rfl)
      · simp only [go_sem, Nat.reduceEqDiff, Nat.reduceBEq, Nat.reduceAdd]
        try (and_intros <;> first | (with_reducible trivial) | omega | exact nfc | trivial)
      · simp only [go_sem, Nat.reduceEqDiff, Nat.reduceBEq, Nat.reduceAdd]
        try (and_intros <;> first | (with_reducible trivial) | omega | exact nfc | trivial)
      · simp only [go_sem, Nat.reduceEqDiff, Nat.reduceBEq, Nat.reduceAdd]
        exact Cv_tup (CvL_cons (by first | (simp [Cv, CvL, getM, gt_some]; done) | (simp [Cv, CvL, getM, gt_some]; omega)) (CvL_cons (by simp [Cv, CvL, getM, gt_some]) (CvL_cons (by first | (simp [Cv, CvL, getM, gt_some]; done) | (simp [Cv, CvL, getM, gt_some]; omega)) (CvL_cons (by simp [Cv, CvL, getM, gt_some]) CvL_nil))))
      · simp only [go_sem, Nat.reduceEqDiff, Nat.reduceBEq, Nat.reduceAdd, CvH, gt_some, Option.isSome_some, Option.isSome_none]
        first | exact ⟨CvB_row nr_TForwardMark (by first | rfl | (simp; done) | (simp; omega)) (fun _ _ _ _ => rfl), CvB_row nr_TForwardHop (by first | rfl | (simp; done) | (simp; omega)) (fun _ _ _ _ => rfl), CvB_none⟩ | trivial
    replace H := cond_f hc H
    refine sq ctNo_ok ?_
    simp only [go_sem, Nat.reduceLeDiff, Nat.reduceLT, Nat.reduceAdd, Nat.reduceMul, Nat.reduceSub, Nat.reduceEqDiff, Nat.reduceBEq, Int.reduceToNat, reduceCtorEq]
    refine condM rfl trivial (fun hc => ?_) (fun hc => ?_)
    · replace H := cond_t hc H
      refine seqM ?_
      refine draw_rule shT_ok ctNo_ok 0 (by kernel_rfl) (by kernel_rfl) ?_
      intro an han
      simp only [d_nil, d_cons, nxtD, xrD, xoD, roEq, minL, List.append_nil, refsOp, refs, refsL, mask, maskF, place, placeF, okLog, pairOk, hit, inL, slotsF, ren, renL, rnN, nrH, nrB, nrL, nr, dead0, deadS, List.replicate_zero, List.replicate_succ, Nat.sub_self, Nat.add_zero, Nat.zero_add, Nat.reduceSub, Nat.not_lt_zero, Nat.zero_le, Nat.lt_add_one, go_sem, Nat.reduceLeDiff, Nat.reduceLT, Nat.reduceAdd, Nat.reduceMul, Nat.reduceSub, Nat.reduceEqDiff, Nat.reduceBEq, Int.reduceToNat, reduceCtorEq]
      repeat ((with_reducible refine And.intro ?_ ?_); focus (and_intros <;> first | (with_reducible trivial) | (show anB _ _ _ = true; subst han; kernel_rfl) | (show (anB _ _ _ && _) = true; subst han; kernel_rfl) | omega | assumption | exact nrc | exact nfc | first | exact rfl | exact trivial | exact fitI | exact .inr rfl | exact .inl rfl | exact fun x hx => absurd hx (by omega)))
      refine rg ctNo_ok ?_
      simp only [go_sem, Nat.reduceLeDiff, Nat.reduceLT, Nat.reduceAdd, Nat.reduceMul, Nat.reduceSub, Nat.reduceEqDiff, Nat.reduceBEq, Int.reduceToNat, reduceCtorEq]
      obtain rfl := Option.some.inj H
      refine RetE_mk [] [some 5, some 6, some 7] ?_ ?_ ?_ ?_ (by rfl) (by rfl)
      · simp only [go_sem, Nat.reduceEqDiff, Nat.reduceBEq, Nat.reduceAdd]
        try (and_intros <;> first | (with_reducible trivial) | omega | exact nfc | trivial)
      · simp only [go_sem, Nat.reduceEqDiff, Nat.reduceBEq, Nat.reduceAdd]
        try (and_intros <;> first | (with_reducible trivial) | omega | exact nfc | trivial)
      · simp only [go_sem, Nat.reduceEqDiff, Nat.reduceBEq, Nat.reduceAdd]
        exact Cv_tup (CvL_cons (by first | (simp [Cv, CvL, getM, gt_some]; done) | (simp [Cv, CvL, getM, gt_some]; omega)) (CvL_cons (by simp [Cv, CvL, getM, gt_some]) (CvL_cons (by first | (simp [Cv, CvL, getM, gt_some]; done) | (simp [Cv, CvL, getM, gt_some]; omega)) (CvL_cons (by simp [Cv, CvL, getM, gt_some]) CvL_nil))))
      · simp only [go_sem, Nat.reduceEqDiff, Nat.reduceBEq, Nat.reduceAdd, CvH, gt_some, Option.isSome_some, Option.isSome_none]
        first | exact ⟨CvB_row nr_TForwardMark (by first | rfl | (simp; done) | (simp; omega)) (fun _ _ _ _ => rfl), CvB_row nr_TForwardHop (by first | rfl | (simp; done) | (simp; omega)) (fun _ _ _ _ => rfl), CvB_row nr_u8 (by first | rfl | (simp; done) | (simp; omega)) (fun _ _ _ _ => rfl)⟩ | trivial
    replace H := cond_f hc H
    refine rg ctNo_ok ?_
    simp only [go_sem, Nat.reduceLeDiff, Nat.reduceLT, Nat.reduceAdd, Nat.reduceMul, Nat.reduceSub, Nat.reduceEqDiff, Nat.reduceBEq, Int.reduceToNat, reduceCtorEq]
    refine seqM ?_
    refine draw_rule shT_ok ctNo_ok 0 (by kernel_rfl) (by kernel_rfl) ?_
    intro an han
    simp only [d_nil, d_cons, nxtD, xrD, xoD, roEq, minL, List.append_nil, refsOp, refs, refsL, mask, maskF, place, placeF, okLog, pairOk, hit, inL, slotsF, ren, renL, rnN, nrH, nrB, nrL, nr, dead0, deadS, List.replicate_zero, List.replicate_succ, Nat.sub_self, Nat.add_zero, Nat.zero_add, Nat.reduceSub, Nat.not_lt_zero, Nat.zero_le, Nat.lt_add_one, go_sem, Nat.reduceLeDiff, Nat.reduceLT, Nat.reduceAdd, Nat.reduceMul, Nat.reduceSub, Nat.reduceEqDiff, Nat.reduceBEq, Int.reduceToNat, reduceCtorEq]
    repeat ((with_reducible refine And.intro ?_ ?_); focus (and_intros <;> first | (with_reducible trivial) | (show anB _ _ _ = true; subst han; kernel_rfl) | (show (anB _ _ _ && _) = true; subst han; kernel_rfl) | omega | assumption | exact nrc | exact nfc | first | exact rfl | exact trivial | exact fitI | exact .inr rfl | exact .inl rfl | exact fun x hx => absurd hx (by omega)))
    refine seqM ?_
    refine draw_rule shT_ok ctNo_ok 0 (by kernel_rfl) (by kernel_rfl) ?_
    intro an han
    simp only [d_nil, d_cons, nxtD, xrD, xoD, roEq, minL, List.append_nil, refsOp, refs, refsL, mask, maskF, place, placeF, okLog, pairOk, hit, inL, slotsF, ren, renL, rnN, nrH, nrB, nrL, nr, dead0, deadS, List.replicate_zero, List.replicate_succ, Nat.sub_self, Nat.add_zero, Nat.zero_add, Nat.reduceSub, Nat.not_lt_zero, Nat.zero_le, Nat.lt_add_one, go_sem, Nat.reduceLeDiff, Nat.reduceLT, Nat.reduceAdd, Nat.reduceMul, Nat.reduceSub, Nat.reduceEqDiff, Nat.reduceBEq, Int.reduceToNat, reduceCtorEq]
    repeat ((with_reducible refine And.intro ?_ ?_); focus (and_intros <;> first | (with_reducible trivial) | (show anB _ _ _ = true; subst han; kernel_rfl) | (show (anB _ _ _ && _) = true; subst han; kernel_rfl) | omega | assumption | exact nrc | exact nfc | first | exact rfl | exact trivial | exact fitI | exact .inr rfl | exact .inl rfl | exact fun x hx => absurd hx (by omega)))
    refine rg ctNo_ok ?_
    simp only [go_sem, Nat.reduceLeDiff, Nat.reduceLT, Nat.reduceAdd, Nat.reduceMul, Nat.reduceSub, Nat.reduceEqDiff, Nat.reduceBEq, Int.reduceToNat, reduceCtorEq]
    obtain rfl := Option.some.inj H
    refine RetE_mk [] [some 5, some 6, some 7] ?_ ?_ ?_ ?_ (by rfl) (by rfl)
    · simp only [go_sem, Nat.reduceEqDiff, Nat.reduceBEq, Nat.reduceAdd]
      try (and_intros <;> first | (with_reducible trivial) | omega | exact nfc | trivial)
    · simp only [go_sem, Nat.reduceEqDiff, Nat.reduceBEq, Nat.reduceAdd]
      try (and_intros <;> first | (with_reducible trivial) | omega | exact nfc | trivial)
    · simp only [go_sem, Nat.reduceEqDiff, Nat.reduceBEq, Nat.reduceAdd]
      exact Cv_tup (CvL_cons (by first | (simp [Cv, CvL, getM, gt_some]; done) | (simp [Cv, CvL, getM, gt_some]; omega)) (CvL_cons (by simp [Cv, CvL, getM, gt_some]) (CvL_cons (by first | (simp [Cv, CvL, getM, gt_some]; done) | (simp [Cv, CvL, getM, gt_some]; omega)) (CvL_cons (by simp [Cv, CvL, getM, gt_some]) CvL_nil))))
    · simp only [go_sem, Nat.reduceEqDiff, Nat.reduceBEq, Nat.reduceAdd, CvH, gt_some, Option.isSome_some, Option.isSome_none]
      first | exact ⟨CvB_row nr_TForwardMark (by first | rfl | (simp; done) | (simp; omega)) (fun _ _ _ _ => rfl), CvB_row nr_TForwardHop (by first | rfl | (simp; done) | (simp; omega)) (fun _ _ _ _ => rfl), CvB_row nr_u8 (by first | rfl | (simp; done) | (simp; omega)) (fun _ _ _ _ => rfl)⟩ | trivial
  · cases hb
/-! hotspot/forward.Encode -/
noncomputable def ct12t0 : Ct := tab [(23, pureC body23)]
theorem ct12t0_ok : CtOk Try.prog ct12t0 := tab_cons ok23 <| tab_nil
theorem ct12t0_23 (l : List AV) (h : List ABlk) : ct12t0 23 l h = pureC body23 l h := rfl
noncomputable def F12 (p0 : TMeshFrame) : Option ((List Int) × Int) :=
  (F23 p0).bind fun r1 => bif (!bEq r1 0) then (some ([], r1)) else (bif ((!(bEq p0.Source.x0 p0.Enter.x0 && (bEq p0.Source.x1 p0.Enter.x1 && (bEq p0.Source.x2 p0.Enter.x2 && (bEq p0.Source.x3 p0.Enter.x3 && (bEq p0.Source.x4 p0.Enter.x4 && (bEq p0.Source.x5 p0.Enter.x5))))))) || (!(bEq p0.Target.x0 p0.Leave.x0 && (bEq p0.Target.x1 p0.Leave.x1 && (bEq p0.Target.x2 p0.Leave.x2 && (bEq p0.Target.x3 p0.Leave.x3 && (bEq p0.Target.x4 p0.Leave.x4 && (bEq p0.Target.x5 p0.Leave.x5)))))))) then (need (inb 0 4) <| need (capb 6 6) <| (some ([0, wr .u8 p0.Ttl, wr .u8 p0.Seq, wr .u8 (shrI .i64 p0.Seq 8)].set 0 1)).bind fun w7 => (some [p0.Source, p0.Target]).bind fun w9 => (some ([p0.From, p0.To, p0.Enter, p0.Leave] ++ [p0.Source, p0.Target])).bind fun w11 => need (inb 0 w11.length) <| need (capb 1 (w7.length + 6)) <| need (inb 1 w11.length) <| need (capb 1 (w7.length + 6 + 6)) <| need (inb 2 w11.length) <| need (capb 1 (w7.length + 6 + 6 + 6)) <| need (inb 3 w11.length) <| need (capb 1 (w7.length + 6 + 6 + 6 + 6)) <| need (inb 4 w11.length) <| need (capb 1 (w7.length + 6 + 6 + 6 + 6 + 6)) <| need (inb 5 w11.length) <| need (capb 1 (w7.length + 6 + 6 + 6 + 6 + 6 + 6)) <| need (capb 1 (w7.length + 6 + 6 + 6 + 6 + 6 + 6 + p0.Data.length)) <| some ((((((((w7 ++ [(gd w11 0).x0, (gd w11 0).x1, (gd w11 0).x2, (gd w11 0).x3, (gd w11 0).x4, (gd w11 0).x5]) ++ [(gd w11 1).x0, (gd w11 1).x1, (gd w11 1).x2, (gd w11 1).x3, (gd w11 1).x4, (gd w11 1).x5]) ++ [(gd w11 2).x0, (gd w11 2).x1, (gd w11 2).x2, (gd w11 2).x3, (gd w11 2).x4, (gd w11 2).x5]) ++ [(gd w11 3).x0, (gd w11 3).x1, (gd w11 3).x2, (gd w11 3).x3, (gd w11 3).x4, (gd w11 3).x5]) ++ [(gd w11 4).x0, (gd w11 4).x1, (gd w11 4).x2, (gd w11 4).x3, (gd w11 4).x4, (gd w11 4).x5]) ++ [(gd w11 5).x0, (gd w11 5).x1, (gd w11 5).x2, (gd w11 5).x3, (gd w11 5).x4, (gd w11 5).x5]) ++ p0.Data), 0)) else ((some ([0, wr .u8 p0.Ttl, wr .u8 p0.Seq, wr .u8 (shrI .i64 p0.Seq 8)] : List Int)).bind fun w28 => (some [p0.From, p0.To, p0.Enter, p0.Leave]).bind fun w30 => need (inb 0 w30.length) <| need (capb 1 (w28.length + 6)) <| need (inb 1 w30.length) <| need (capb 1 (w28.length + 6 + 6)) <| need (inb 2 w30.length) <| need (capb 1 (w28.length + 6 + 6 + 6)) <| need (inb 3 w30.length) <| need (capb 1 (w28.length + 6 + 6 + 6 + 6)) <| need (capb 1 (w28.length + 6 + 6 + 6 + 6 + p0.Data.length)) <| some ((((((w28 ++ [(gd w30 0).x0, (gd w30 0).x1, (gd w30 0).x2, (gd w30 0).x3, (gd w30 0).x4, (gd w30 0).x5]) ++ [(gd w30 1).x0, (gd w30 1).x1, (gd w30 1).x2, (gd w30 1).x3, (gd w30 1).x4, (gd w30 1).x5]) ++ [(gd w30 2).x0, (gd w30 2).x1, (gd w30 2).x2, (gd w30 2).x3, (gd w30 2).x4, (gd w30 2).x5]) ++ [(gd w30 3).x0, (gd w30 3).x1, (gd w30 3).x2, (gd w30 3).x3, (gd w30 3).x4, (gd w30 3).x5]) ++ p0.Data), 0)))
noncomputable def body12 : List AV → List ABlk → ED
  | [v0], h => .ed [] (aK 39 k_TMeshFrame (roD (deadL h []) v0) ∧ roDOb (deadL h []) v0 ∧ (F12 (g_TMeshFrame (aL (roD (deadL h []) v0)))).isSome = true) (.tup [.sl 0 1 0 (((gt (F12 (g_TMeshFrame (aL (roD (deadL h []) v0))))).1).length) false, .int .i64 ((gt (F12 (g_TMeshFrame (aL (roD (deadL h []) v0))))).2)]) [.row 5 1 (((gt (F12 (g_TMeshFrame (aL (roD (deadL h []) v0))))).1).length) (enR c_u8 ((gt (F12 (g_TMeshFrame (aL (roD (deadL h []) v0))))).1))]
  | _, _ => .fail
set_option maxHeartbeats 4000000 in
set_option maxRecDepth 20000 in
theorem ok12 : FnOk Try.prog 12 (edC body12) := by
  refine edit_fnV body12 (rs := [.tmp 2, .tmp 3]) Try.func12 (by kernel_rfl) rfl rfl ?_
  intro l h bs ob q0 g0 hb hob
  unfold body12 at hb
  split at hb
  · rename_i v0
    injection hb with q1 q2 q3 q4; subst q1 q2 q3 q4
    obtain ⟨hk0_0, hk0_1, hob⟩ := hob
    obtain ⟨r, H⟩ := Option.isSome_iff_exists.1 hob
    rw [H, gt_some]
    have hw0 := wA_TMeshFrame hk0_0
    obtain ⟨p0, hp_p0⟩ : ∃ p0, p0 = g_TMeshFrame (aL (roD (deadL h []) v0)) := ⟨_, rfl⟩
    rw [← hp_p0] at H hw0
    refine ⟨[.agg (.int .u8 p0.From.x0 :: .int .u8 p0.From.x1 :: .int .u8 p0.From.x2 :: .int .u8 p0.From.x3 :: .int .u8 p0.From.x4 :: .int .u8 p0.From.x5 :: .int .u8 p0.To.x0 :: .int .u8 p0.To.x1 :: .int .u8 p0.To.x2 :: .int .u8 p0.To.x3 :: .int .u8 p0.To.x4 :: .int .u8 p0.To.x5 :: .int .u8 p0.Enter.x0 :: .int .u8 p0.Enter.x1 :: .int .u8 p0.Enter.x2 :: .int .u8 p0.Enter.x3 :: .int .u8 p0.Enter.x4 :: .int .u8 p0.Enter.x5 :: .int .u8 p0.Leave.x0 :: .int .u8 p0.Leave.x1 :: .int .u8 p0.Leave.x2 :: .int .u8 p0.Leave.x3 :: .int .u8 p0.Leave.x4 :: .int .u8 p0.Leave.x5 :: .int .u8 p0.Source.x0 :: .int .u8 p0.Source.x1 :: .int .u8 p0.Source.x2 :: .int .u8 p0.Source.x3 :: .int .u8 p0.Source.x4 :: .int .u8 p0.Source.x5 :: .int .u8 p0.Target.x0 :: .int .u8 p0.Target.x1 :: .int .u8 p0.Target.x2 :: .int .u8 p0.Target.x3 :: .int .u8 p0.Target.x4 :: .int .u8 p0.Target.x5 :: .int .i64 p0.Seq :: .int .i64 p0.Ttl :: .ro 1 p0.Data.length false (enR c_u8 p0.Data) :: [])], [], rfl, ⟨(EW_view hk0_1 hw0), trivial⟩, trivial, trivial, ⟨(nfB_en nr_u8), trivial⟩, ⟨noroB_en, trivial⟩, (by first | (simp only [noro, noroL, and_self]; done) | (simp only [noro, noroL]; and_intros <;> first | trivial | exact noro_bif (by simp only [noro]) (by simp only [noro]) | (simp only [noro, noroL, and_self]))), ?_⟩
    rw [Try.ntmps12]
    simp only [List.length_cons, List.length_nil, Nat.reduceAdd, Nat.reduceSub, List.replicate_succ, List.replicate_zero, List.cons_append, List.nil_append]
    unfold F12 at H
    try dsimp only at H
    refine sq ctNo_ok ?_
    simp only [go_sem, Nat.reduceLeDiff, Nat.reduceLT, Nat.reduceAdd, Nat.reduceMul, Nat.reduceSub, Nat.reduceEqDiff, Nat.reduceBEq, Int.reduceToNat, reduceCtorEq]
    refine seqM ?_
    refine seqM ?_
    obtain ⟨r1, e2, H⟩ := bsi H
    refine rg ct12t0_ok ?_
    simp only [go_sem, Nat.reduceLeDiff, Nat.reduceLT, Nat.reduceAdd, Nat.reduceMul, Nat.reduceSub, Nat.reduceEqDiff, Nat.reduceBEq, Int.reduceToNat, reduceCtorEq, ct12t0_23, body23, e2]
    repeat ((with_reducible refine And.intro ?_ ?_); focus (first | (and_intros <;> first | (with_reducible trivial) | omega | assumption | exact nfc | first | exact rfl | exact trivial | exact fitI | exact .inr rfl | exact .inl rfl | exact fun x hx => absurd hx (by omega)) | grind))
    refine sq ctNo_ok ?_
    simp only [go_sem, Nat.reduceLeDiff, Nat.reduceLT, Nat.reduceAdd, Nat.reduceMul, Nat.reduceSub, Nat.reduceEqDiff, Nat.reduceBEq, Int.reduceToNat, reduceCtorEq]
    refine condM rfl trivial (fun hc => ?_) (fun hc => ?_)
    · replace H := cond_t hc H
      refine sq ctNo_ok ?_
      simp only [go_sem, Nat.reduceLeDiff, Nat.reduceLT, Nat.reduceAdd, Nat.reduceMul, Nat.reduceSub, Nat.reduceEqDiff, Nat.reduceBEq, Int.reduceToNat, reduceCtorEq]
      refine rg ctNo_ok ?_
      simp only [go_sem, Nat.reduceLeDiff, Nat.reduceLT, Nat.reduceAdd, Nat.reduceMul, Nat.reduceSub, Nat.reduceEqDiff, Nat.reduceBEq, Int.reduceToNat, reduceCtorEq]
      obtain rfl := Option.some.inj H
      refine RetE_mk [] [none] ?_ ?_ ?_ ?_ (by rfl) (by rfl)
      · simp only [go_sem, Nat.reduceEqDiff, Nat.reduceBEq, Nat.reduceAdd]
        try (and_intros <;> first | (with_reducible trivial) | omega | exact nfc | trivial)
      · simp only [go_sem, Nat.reduceEqDiff, Nat.reduceBEq, Nat.reduceAdd]
        try (and_intros <;> first | (with_reducible trivial) | omega | exact nfc | trivial)
      · simp only [go_sem, Nat.reduceEqDiff, Nat.reduceBEq, Nat.reduceAdd]
        exact Cv_tup (CvL_cons (by first | (simp [Cv, CvL, getM, gt_some]; done) | (simp [Cv, CvL, getM, gt_some]; omega)) (CvL_cons (by simp [Cv, CvL, getM, gt_some]) CvL_nil))
      · simp only [go_sem, Nat.reduceEqDiff, Nat.reduceBEq, Nat.reduceAdd, CvH, gt_some, Option.isSome_some, Option.isSome_none]
        exact CvB_none
    replace H := cond_f hc H
    refine rg ctNo_ok ?_
    simp only [go_sem, Nat.reduceLeDiff, Nat.reduceLT, Nat.reduceAdd, Nat.reduceMul, Nat.reduceSub, Nat.reduceEqDiff, Nat.reduceBEq, Int.reduceToNat, reduceCtorEq]
    refine sq ctNo_ok ?_
    simp only [go_sem, Nat.reduceLeDiff, Nat.reduceLT, Nat.reduceAdd, Nat.reduceMul, Nat.reduceSub, Nat.reduceEqDiff, Nat.reduceBEq, Int.reduceToNat, reduceCtorEq]
    repeat ((with_reducible refine And.intro ?_ ?_); focus (first | (with_reducible trivial) | omega | grind))
    refine sq ctNo_ok ?_
    simp only [go_sem, Nat.reduceLeDiff, Nat.reduceLT, Nat.reduceAdd, Nat.reduceMul, Nat.reduceSub, Nat.reduceEqDiff, Nat.reduceBEq, Int.reduceToNat, reduceCtorEq]
    refine seqM ?_
    refine sq ctNo_ok ?_
    simp only [go_sem, Nat.reduceLeDiff, Nat.reduceLT, Nat.reduceAdd, Nat.reduceMul, Nat.reduceSub, Nat.reduceEqDiff, Nat.reduceBEq, Int.reduceToNat, reduceCtorEq]
    repeat ((with_reducible refine And.intro ?_ ?_); focus (first | (with_reducible trivial) | omega | grind))
    refine condM' rfl trivial (fun hc => ?_) (fun hc => ?_)
    · replace H := cond_f hc H
      refine rg ctNo_ok ?_
      simp only [go_sem, Nat.reduceLeDiff, Nat.reduceLT, Nat.reduceAdd, Nat.reduceMul, Nat.reduceSub, Nat.reduceEqDiff, Nat.reduceBEq, Int.reduceToNat, reduceCtorEq]
      refine seqM ?_
      refine sq ctNo_ok ?_
      simp only [go_sem, Nat.reduceLeDiff, Nat.reduceLT, Nat.reduceAdd, Nat.reduceMul, Nat.reduceSub, Nat.reduceEqDiff, Nat.reduceBEq, Int.reduceToNat, reduceCtorEq]
      repeat ((with_reducible refine And.intro ?_ ?_); focus (first | (and_intros <;> first | (with_reducible trivial) | omega | assumption | exact nfc | first | exact rfl | exact trivial | exact fitI | exact .inr rfl | exact .inl rfl | exact fun x hx => absurd hx (by omega) | (intro x hx; (repeat (first | (and_intros <;> (first | exact rfl | exact trivial | exact fitI | exact .inr rfl | exact .inl rfl | exact fun x hx => absurd hx (by omega))) | (exfalso; omega) | (rcases x with _ | x))); done)) | grind))
      refine blkM ?_
      refine loop_roundsM 5 ?_
      refine rndM ?_
      refine sq ctNo_ok ?_
      simp only [go_sem, Nat.reduceLeDiff, Nat.reduceLT, Nat.reduceAdd, Nat.reduceMul, Nat.reduceSub, Nat.reduceEqDiff, Nat.reduceBEq, Int.reduceToNat, reduceCtorEq, (by decide : bLt (0) (4) = true)]
      refine seqM ?_
      refine condM rfl trivial (fun hc => ?_) (fun hc => ?_)
      rotate_left
      · cases hc
      refine rg ctNo_ok ?_
      simp only [go_sem, Nat.reduceLeDiff, Nat.reduceLT, Nat.reduceAdd, Nat.reduceMul, Nat.reduceSub, Nat.reduceEqDiff, Nat.reduceBEq, Int.reduceToNat, reduceCtorEq]
      refine seqM ?_
      refine blkM ?_
      refine seqM ?_
      obtain ⟨w28, hw29, H⟩ := bsi H
      replace hw29 := Option.some.inj hw29
      have lhw29 : w28.length = 4 := by rw [← hw29]; exact (by first | rfl | (simp; done) | (simp; omega))
      obtain ⟨w30, hw31, H⟩ := bsi H
      replace hw31 := Option.some.inj hw31
      have lhw31 : w30.length = 4 := by rw [← hw31]; exact (by first | rfl | (simp; done) | (simp; omega))
      refine subF_mean (t2 := (.agg (.int .u8 p0.From.x0 :: .int .u8 p0.From.x1 :: .int .u8 p0.From.x2 :: .int .u8 p0.From.x3 :: .int .u8 p0.From.x4 :: .int .u8 p0.From.x5 :: .int .u8 p0.To.x0 :: .int .u8 p0.To.x1 :: .int .u8 p0.To.x2 :: .int .u8 p0.To.x3 :: .int .u8 p0.To.x4 :: .int .u8 p0.To.x5 :: .int .u8 p0.Enter.x0 :: .int .u8 p0.Enter.x1 :: .int .u8 p0.Enter.x2 :: .int .u8 p0.Enter.x3 :: .int .u8 p0.Enter.x4 :: .int .u8 p0.Enter.x5 :: .int .u8 p0.Leave.x0 :: .int .u8 p0.Leave.x1 :: .int .u8 p0.Leave.x2 :: .int .u8 p0.Leave.x3 :: .int .u8 p0.Leave.x4 :: .int .u8 p0.Leave.x5 :: .int .u8 p0.Source.x0 :: .int .u8 p0.Source.x1 :: .int .u8 p0.Source.x2 :: .int .u8 p0.Source.x3 :: .int .u8 p0.Source.x4 :: .int .u8 p0.Source.x5 :: .int .u8 p0.Target.x0 :: .int .u8 p0.Target.x1 :: .int .u8 p0.Target.x2 :: .int .u8 p0.Target.x3 :: .int .u8 p0.Target.x4 :: .int .u8 p0.Target.x5 :: .int .i64 p0.Seq :: .int .i64 p0.Ttl :: .ro 1 p0.Data.length false (enR c_u8 p0.Data) :: []) :: .ptr 0 0 0 0 :: .ro 0 0 true (fun _ _ => .top) :: .int .i64 0 :: .int .i64 r1 :: .sl 1 1 0 w28.length false :: .sl 2 6 0 w30.length false :: .top :: .top :: .agg (.int .u8 p0.From.x0 :: .int .u8 p0.From.x1 :: .int .u8 p0.From.x2 :: .int .u8 p0.From.x3 :: .int .u8 p0.From.x4 :: .int .u8 p0.From.x5 :: .int .u8 p0.To.x0 :: .int .u8 p0.To.x1 :: .int .u8 p0.To.x2 :: .int .u8 p0.To.x3 :: .int .u8 p0.To.x4 :: .int .u8 p0.To.x5 :: .int .u8 p0.Enter.x0 :: .int .u8 p0.Enter.x1 :: .int .u8 p0.Enter.x2 :: .int .u8 p0.Enter.x3 :: .int .u8 p0.Enter.x4 :: .int .u8 p0.Enter.x5 :: .int .u8 p0.Leave.x0 :: .int .u8 p0.Leave.x1 :: .int .u8 p0.Leave.x2 :: .int .u8 p0.Leave.x3 :: .int .u8 p0.Leave.x4 :: .int .u8 p0.Leave.x5 :: .int .u8 p0.Source.x0 :: .int .u8 p0.Source.x1 :: .int .u8 p0.Source.x2 :: .int .u8 p0.Source.x3 :: .int .u8 p0.Source.x4 :: .int .u8 p0.Source.x5 :: .int .u8 p0.Target.x0 :: .int .u8 p0.Target.x1 :: .int .u8 p0.Target.x2 :: .int .u8 p0.Target.x3 :: .int .u8 p0.Target.x4 :: .int .u8 p0.Target.x5 :: .int .i64 p0.Seq :: .int .i64 p0.Ttl :: .ro 1 p0.Data.length false (enR c_u8 p0.Data) :: []) :: .int .i64 r1 :: .int .i64 r1 :: .bool (!bEq r1 0) :: .top :: .ptr 0 0 0 37 :: .int .i64 p0.Ttl :: .int .u8 (wr .u8 p0.Ttl) :: .ptr 0 0 0 36 :: .int .i64 p0.Seq :: .int .u8 (wr .u8 p0.Seq) :: .ptr 0 0 0 36 :: .int .i64 p0.Seq :: .int .i64 (shrI .i64 p0.Seq 8) :: .int .u8 (wr .u8 (shrI .i64 p0.Seq 8)) :: .sl 1 1 0 w28.length false :: .ptr 0 0 0 0 :: .agg [.int .u8 p0.From.x0, .int .u8 p0.From.x1, .int .u8 p0.From.x2, .int .u8 p0.From.x3, .int .u8 p0.From.x4, .int .u8 p0.From.x5] :: .ptr 0 0 0 6 :: .agg [.int .u8 p0.To.x0, .int .u8 p0.To.x1, .int .u8 p0.To.x2, .int .u8 p0.To.x3, .int .u8 p0.To.x4, .int .u8 p0.To.x5] :: .ptr 0 0 0 12 :: .agg [.int .u8 p0.Enter.x0, .int .u8 p0.Enter.x1, .int .u8 p0.Enter.x2, .int .u8 p0.Enter.x3, .int .u8 p0.Enter.x4, .int .u8 p0.Enter.x5] :: .ptr 0 0 0 18 :: .agg [.int .u8 p0.Leave.x0, .int .u8 p0.Leave.x1, .int .u8 p0.Leave.x2, .int .u8 p0.Leave.x3, .int .u8 p0.Leave.x4, .int .u8 p0.Leave.x5] :: .sl 2 6 0 w30.length false :: .ptr 0 0 0 24 :: .agg [.int .u8 p0.Source.x0, .int .u8 p0.Source.x1, .int .u8 p0.Source.x2, .int .u8 p0.Source.x3, .int .u8 p0.Source.x4, .int .u8 p0.Source.x5] :: .ptr 0 0 0 12 :: .agg [.int .u8 p0.Enter.x0, .int .u8 p0.Enter.x1, .int .u8 p0.Enter.x2, .int .u8 p0.Enter.x3, .int .u8 p0.Enter.x4, .int .u8 p0.Enter.x5] :: .bool (!(bEq p0.Source.x0 p0.Enter.x0 && (bEq p0.Source.x1 p0.Enter.x1 && (bEq p0.Source.x2 p0.Enter.x2 && (bEq p0.Source.x3 p0.Enter.x3 && (bEq p0.Source.x4 p0.Enter.x4 && (bEq p0.Source.x5 p0.Enter.x5))))))) :: .bool (!(bEq p0.Source.x0 p0.Enter.x0 && (bEq p0.Source.x1 p0.Enter.x1 && (bEq p0.Source.x2 p0.Enter.x2 && (bEq p0.Source.x3 p0.Enter.x3 && (bEq p0.Source.x4 p0.Enter.x4 && (bEq p0.Source.x5 p0.Enter.x5))))))) :: .opt (!(!(bEq p0.Source.x0 p0.Enter.x0 && (bEq p0.Source.x1 p0.Enter.x1 && (bEq p0.Source.x2 p0.Enter.x2 && (bEq p0.Source.x3 p0.Enter.x3 && (bEq p0.Source.x4 p0.Enter.x4 && (bEq p0.Source.x5 p0.Enter.x5)))))))) (.ptr 0 0 0 30) :: .opt (!(!(bEq p0.Source.x0 p0.Enter.x0 && (bEq p0.Source.x1 p0.Enter.x1 && (bEq p0.Source.x2 p0.Enter.x2 && (bEq p0.Source.x3 p0.Enter.x3 && (bEq p0.Source.x4 p0.Enter.x4 && (bEq p0.Source.x5 p0.Enter.x5)))))))) (.agg [.int .u8 p0.Target.x0, .int .u8 p0.Target.x1, .int .u8 p0.Target.x2, .int .u8 p0.Target.x3, .int .u8 p0.Target.x4, .int .u8 p0.Target.x5]) :: .opt (!(!(bEq p0.Source.x0 p0.Enter.x0 && (bEq p0.Source.x1 p0.Enter.x1 && (bEq p0.Source.x2 p0.Enter.x2 && (bEq p0.Source.x3 p0.Enter.x3 && (bEq p0.Source.x4 p0.Enter.x4 && (bEq p0.Source.x5 p0.Enter.x5)))))))) (.ptr 0 0 0 18) :: .opt (!(!(bEq p0.Source.x0 p0.Enter.x0 && (bEq p0.Source.x1 p0.Enter.x1 && (bEq p0.Source.x2 p0.Enter.x2 && (bEq p0.Source.x3 p0.Enter.x3 && (bEq p0.Source.x4 p0.Enter.x4 && (bEq p0.Source.x5 p0.Enter.x5)))))))) (.agg [.int .u8 p0.Leave.x0, .int .u8 p0.Leave.x1, .int .u8 p0.Leave.x2, .int .u8 p0.Leave.x3, .int .u8 p0.Leave.x4, .int .u8 p0.Leave.x5]) :: .opt (!(!(bEq p0.Source.x0 p0.Enter.x0 && (bEq p0.Source.x1 p0.Enter.x1 && (bEq p0.Source.x2 p0.Enter.x2 && (bEq p0.Source.x3 p0.Enter.x3 && (bEq p0.Source.x4 p0.Enter.x4 && (bEq p0.Source.x5 p0.Enter.x5)))))))) (.bool (!(bEq p0.Target.x0 p0.Leave.x0 && (bEq p0.Target.x1 p0.Leave.x1 && (bEq p0.Target.x2 p0.Leave.x2 && (bEq p0.Target.x3 p0.Leave.x3 && (bEq p0.Target.x4 p0.Leave.x4 && (bEq p0.Target.x5 p0.Leave.x5)))))))) :: .bool ((!(bEq p0.Source.x0 p0.Enter.x0 && (bEq p0.Source.x1 p0.Enter.x1 && (bEq p0.Source.x2 p0.Enter.x2 && (bEq p0.Source.x3 p0.Enter.x3 && (bEq p0.Source.x4 p0.Enter.x4 && (bEq p0.Source.x5 p0.Enter.x5))))))) || (!(bEq p0.Target.x0 p0.Leave.x0 && (bEq p0.Target.x1 p0.Leave.x1 && (bEq p0.Target.x2 p0.Leave.x2 && (bEq p0.Target.x3 p0.Leave.x3 && (bEq p0.Target.x4 p0.Leave.x4 && (bEq p0.Target.x5 p0.Leave.x5)))))))) :: tp 9 (.sl 2 6 0 w30.length false :: .int .i64 4 :: .int .i64 0 :: .bool true :: tp 10 []))) (h2 := [.lit 26 (.int .u8 p0.From.x0 :: .int .u8 p0.From.x1 :: .int .u8 p0.From.x2 :: .int .u8 p0.From.x3 :: .int .u8 p0.From.x4 :: .int .u8 p0.From.x5 :: .int .u8 p0.To.x0 :: .int .u8 p0.To.x1 :: .int .u8 p0.To.x2 :: .int .u8 p0.To.x3 :: .int .u8 p0.To.x4 :: .int .u8 p0.To.x5 :: .int .u8 p0.Enter.x0 :: .int .u8 p0.Enter.x1 :: .int .u8 p0.Enter.x2 :: .int .u8 p0.Enter.x3 :: .int .u8 p0.Enter.x4 :: .int .u8 p0.Enter.x5 :: .int .u8 p0.Leave.x0 :: .int .u8 p0.Leave.x1 :: .int .u8 p0.Leave.x2 :: .int .u8 p0.Leave.x3 :: .int .u8 p0.Leave.x4 :: .int .u8 p0.Leave.x5 :: .int .u8 p0.Source.x0 :: .int .u8 p0.Source.x1 :: .int .u8 p0.Source.x2 :: .int .u8 p0.Source.x3 :: .int .u8 p0.Source.x4 :: .int .u8 p0.Source.x5 :: .int .u8 p0.Target.x0 :: .int .u8 p0.Target.x1 :: .int .u8 p0.Target.x2 :: .int .u8 p0.Target.x3 :: .int .u8 p0.Target.x4 :: .int .u8 p0.Target.x5 :: .int .i64 p0.Seq :: .int .i64 p0.Ttl :: .ro 1 p0.Data.length false (enR c_u8 p0.Data) :: []), .row 5 1 w28.length (enR c_u8 w28), .row 23 6 w30.length (enR c_A6u8 w30)]) ?_ ?_
      · refine SubF_of ⟨[some 0, some 1, some 2], ?_, ?_, by rfl, by rfl⟩
        · simp [CvL, Cv, getM, tp, lhw29, lhw31]
        · exact ⟨(by simp [CvB, CvL, Cv, blkAt, geth, getM, lhw29, lhw31]), CvB_row nr_u8 lhw29 (hw29 ▸ (lit_row (f := c_u8) [0, wr .u8 p0.Ttl, wr .u8 p0.Seq, wr .u8 (shrI .i64 p0.Seq 8)] (fun _ _ => rfl) rfl)), CvB_row nr_A6u8 lhw31 (hw31 ▸ (lit_row (f := c_A6u8) [p0.From, p0.To, p0.Enter, p0.Leave] (fun _ _ => rfl) rfl)), trivial⟩
      simp only [tp]
      obtain ⟨f32, H⟩ := need_some.1 H
      replace f32 := inb_iff.1 f32
      refine rg ctNo_ok ?_
      simp only [go_sem, Nat.reduceLeDiff, Nat.reduceLT, Nat.reduceAdd, Nat.reduceMul, Nat.reduceSub, Nat.reduceEqDiff, Nat.reduceBEq, Int.reduceToNat, reduceCtorEq, f32]
      repeat ((with_reducible refine And.intro ?_ ?_); focus (first | (with_reducible trivial) | omega | grind))
      obtain ⟨f33, H⟩ := need_some.1 H
      replace f33 := capb_iff.1 f33
      refine rg ctNo_ok ?_
      simp only [go_sem, Nat.reduceLeDiff, Nat.reduceLT, Nat.reduceAdd, Nat.reduceMul, Nat.reduceSub, Nat.reduceEqDiff, Nat.reduceBEq, Int.reduceToNat, reduceCtorEq, f33]
      repeat ((with_reducible refine And.intro ?_ ?_); focus (first | (and_intros <;> first | (with_reducible trivial) | omega | assumption | exact nfc | first | exact rfl | exact trivial | exact fitI | exact .inr rfl | exact .inl rfl | exact fun x hx => absurd hx (by omega) | (intro x hx; (repeat (first | (and_intros <;> (first | exact rfl | exact trivial | exact fitI | exact .inr rfl | exact .inl rfl | exact fun x hx => absurd hx (by omega))) | (exfalso; omega) | (rcases x with _ | x))); done) | (refine Fit_app ?_ ?_ <;> first | exact fitI | (intro x hx; (repeat (first | (and_intros <;> (first | exact rfl | exact trivial | exact fitI | exact .inr rfl | exact .inl rfl | exact fun x hx => absurd hx (by omega))) | (exfalso; omega) | (rcases x with _ | x))); done) | (refine Fit_app ?_ ?_ <;> first | exact fitI | (intro x hx; (repeat (first | (and_intros <;> (first | exact rfl | exact trivial | exact fitI | exact .inr rfl | exact .inl rfl | exact fun x hx => absurd hx (by omega))) | (exfalso; omega) | (rcases x with _ | x))); done)))) | grind))
      refine rg ctNo_ok ?_
      simp only [go_sem, Nat.reduceLeDiff, Nat.reduceLT, Nat.reduceAdd, Nat.reduceMul, Nat.reduceSub, Nat.reduceEqDiff, Nat.reduceBEq, Int.reduceToNat, reduceCtorEq, (by decide : wr IntKind.i64 ((0 : Int) + 1) = 1)]
      refine rndM ?_
      refine sq ctNo_ok ?_
      simp only [go_sem, Nat.reduceLeDiff, Nat.reduceLT, Nat.reduceAdd, Nat.reduceMul, Nat.reduceSub, Nat.reduceEqDiff, Nat.reduceBEq, Int.reduceToNat, reduceCtorEq, (by decide : bLt (1) (4) = true)]
      refine seqM ?_
      refine condM rfl trivial (fun hc => ?_) (fun hc => ?_)
      rotate_left
      · cases hc
      refine rg ctNo_ok ?_
      simp only [go_sem, Nat.reduceLeDiff, Nat.reduceLT, Nat.reduceAdd, Nat.reduceMul, Nat.reduceSub, Nat.reduceEqDiff, Nat.reduceBEq, Int.reduceToNat, reduceCtorEq]
      refine seqM ?_
      refine blkM ?_
      refine seqM ?_
      obtain ⟨f34, H⟩ := need_some.1 H
      replace f34 := inb_iff.1 f34
      refine rg ctNo_ok ?_
      simp only [go_sem, Nat.reduceLeDiff, Nat.reduceLT, Nat.reduceAdd, Nat.reduceMul, Nat.reduceSub, Nat.reduceEqDiff, Nat.reduceBEq, Int.reduceToNat, reduceCtorEq, f34]
      repeat ((with_reducible refine And.intro ?_ ?_); focus (first | (with_reducible trivial) | omega | grind))
      obtain ⟨f35, H⟩ := need_some.1 H
      replace f35 := capb_iff.1 f35
      refine rg ctNo_ok ?_
      simp only [go_sem, Nat.reduceLeDiff, Nat.reduceLT, Nat.reduceAdd, Nat.reduceMul, Nat.reduceSub, Nat.reduceEqDiff, Nat.reduceBEq, Int.reduceToNat, reduceCtorEq, f35]
      repeat ((with_reducible refine And.intro ?_ ?_); focus (first | (and_intros <;> first | (with_reducible trivial) | omega | assumption | exact nfc | first | exact rfl | exact trivial | exact fitI | exact .inr rfl | exact .inl rfl | exact fun x hx => absurd hx (by omega) | (intro x hx; (repeat (first | (and_intros <;> (first | exact rfl | exact trivial | exact fitI | exact .inr rfl | exact .inl rfl | exact fun x hx => absurd hx (by omega))) | (exfalso; omega) | (rcases x with _ | x))); done) | (refine Fit_app ?_ ?_ <;> first | exact fitI | (intro x hx; (repeat (first | (and_intros <;> (first | exact rfl | exact trivial | exact fitI | exact .inr rfl | exact .inl rfl | exact fun x hx => absurd hx (by omega))) | (exfalso; omega) | (rcases x with _ | x))); done) | (refine Fit_app ?_ ?_ <;> first | exact fitI | (intro x hx; (repeat (first | (and_intros <;> (first | exact rfl | exact trivial | exact fitI | exact .inr rfl | exact .inl rfl | exact fun x hx => absurd hx (by omega))) | (exfalso; omega) | (rcases x with _ | x))); done)))) | grind))
      refine rg ctNo_ok ?_
      simp only [go_sem, Nat.reduceLeDiff, Nat.reduceLT, Nat.reduceAdd, Nat.reduceMul, Nat.reduceSub, Nat.reduceEqDiff, Nat.reduceBEq, Int.reduceToNat, reduceCtorEq, (by decide : wr IntKind.i64 ((1 : Int) + 1) = 2)]
      refine rndM ?_
      refine sq ctNo_ok ?_
      simp only [go_sem, Nat.reduceLeDiff, Nat.reduceLT, Nat.reduceAdd, Nat.reduceMul, Nat.reduceSub, Nat.reduceEqDiff, Nat.reduceBEq, Int.reduceToNat, reduceCtorEq, (by decide : bLt (2) (4) = true)]
      refine seqM ?_
      refine condM rfl trivial (fun hc => ?_) (fun hc => ?_)
      rotate_left
      · cases hc
      refine rg ctNo_ok ?_
      simp only [go_sem, Nat.reduceLeDiff, Nat.reduceLT, Nat.reduceAdd, Nat.reduceMul, Nat.reduceSub, Nat.reduceEqDiff, Nat.reduceBEq, Int.reduceToNat, reduceCtorEq]
      refine seqM ?_
      refine blkM ?_
      refine seqM ?_
      obtain ⟨f36, H⟩ := need_some.1 H
      replace f36 := inb_iff.1 f36
      refine rg ctNo_ok ?_
      simp only [go_sem, Nat.reduceLeDiff, Nat.reduceLT, Nat.reduceAdd, Nat.reduceMul, Nat.reduceSub, Nat.reduceEqDiff, Nat.reduceBEq, Int.reduceToNat, reduceCtorEq, f36]
      repeat ((with_reducible refine And.intro ?_ ?_); focus (first | (with_reducible trivial) | omega | grind))
      obtain ⟨f37, H⟩ := need_some.1 H
      replace f37 := capb_iff.1 f37
      refine rg ctNo_ok ?_
      simp only [go_sem, Nat.reduceLeDiff, Nat.reduceLT, Nat.reduceAdd, Nat.reduceMul, Nat.reduceSub, Nat.reduceEqDiff, Nat.reduceBEq, Int.reduceToNat, reduceCtorEq, f37]
      repeat ((with_reducible refine And.intro ?_ ?_); focus (first | (and_intros <;> first | (with_reducible trivial) | omega | assumption | exact nfc | first | exact rfl | exact trivial | exact fitI | exact .inr rfl | exact .inl rfl | exact fun x hx => absurd hx (by omega) | (intro x hx; (repeat (first | (and_intros <;> (first | exact rfl | exact trivial | exact fitI | exact .inr rfl | exact .inl rfl | exact fun x hx => absurd hx (by omega))) | (exfalso; omega) | (rcases x with _ | x))); done) | (refine Fit_app ?_ ?_ <;> first | exact fitI | (intro x hx; (repeat (first | (and_intros <;> (first | exact rfl | exact trivial | exact fitI | exact .inr rfl | exact .inl rfl | exact fun x hx => absurd hx (by omega))) | (exfalso; omega) | (rcases x with _ | x))); done) | (refine Fit_app ?_ ?_ <;> first | exact fitI | (intro x hx; (repeat (first | (and_intros <;> (first | exact rfl | exact trivial | exact fitI | exact .inr rfl | exact .inl rfl | exact fun x hx => absurd hx (by omega))) | (exfalso; omega) | (rcases x with _ | x))); done)))) | grind))
      refine rg ctNo_ok ?_
      simp only [go_sem, Nat.reduceLeDiff, Nat.reduceLT, Nat.reduceAdd, Nat.reduceMul, Nat.reduceSub, Nat.reduceEqDiff, Nat.reduceBEq, Int.reduceToNat, reduceCtorEq, (by decide : wr IntKind.i64 ((2 : Int) + 1) = 3)]
      refine rndM ?_
      refine sq ctNo_ok ?_
      simp only [go_sem, Nat.reduceLeDiff, Nat.reduceLT, Nat.reduceAdd, Nat.reduceMul, Nat.reduceSub, Nat.reduceEqDiff, Nat.reduceBEq, Int.reduceToNat, reduceCtorEq, (by decide : bLt (3) (4) = true)]
      refine seqM ?_
      refine condM rfl trivial (fun hc => ?_) (fun hc => ?_)
      rotate_left
      · cases hc
      refine rg ctNo_ok ?_
      simp only [go_sem, Nat.reduceLeDiff, Nat.reduceLT, Nat.reduceAdd, Nat.reduceMul, Nat.reduceSub, Nat.reduceEqDiff, Nat.reduceBEq, Int.reduceToNat, reduceCtorEq]
      refine seqM ?_
      refine blkM ?_
      refine seqM ?_
      obtain ⟨f38, H⟩ := need_some.1 H
      replace f38 := inb_iff.1 f38
      refine rg ctNo_ok ?_
      simp only [go_sem, Nat.reduceLeDiff, Nat.reduceLT, Nat.reduceAdd, Nat.reduceMul, Nat.reduceSub, Nat.reduceEqDiff, Nat.reduceBEq, Int.reduceToNat, reduceCtorEq, f38]
      repeat ((with_reducible refine And.intro ?_ ?_); focus (first | (with_reducible trivial) | omega | grind))
      obtain ⟨f39, H⟩ := need_some.1 H
      replace f39 := capb_iff.1 f39
      refine rg ctNo_ok ?_
      simp only [go_sem, Nat.reduceLeDiff, Nat.reduceLT, Nat.reduceAdd, Nat.reduceMul, Nat.reduceSub, Nat.reduceEqDiff, Nat.reduceBEq, Int.reduceToNat, reduceCtorEq, f39]
      repeat ((with_reducible refine And.intro ?_ ?_); focus (first | (and_intros <;> first | (with_reducible trivial) | omega | assumption | exact nfc | first | exact rfl | exact trivial | exact fitI | exact .inr rfl | exact .inl rfl | exact fun x hx => absurd hx (by omega) | (intro x hx; (repeat (first | (and_intros <;> (first | exact rfl | exact trivial | exact fitI | exact .inr rfl | exact .inl rfl | exact fun x hx => absurd hx (by omega))) | (exfalso; omega) | (rcases x with _ | x))); done) | (refine Fit_app ?_ ?_ <;> first | exact fitI | (intro x hx; (repeat (first | (and_intros <;> (first | exact rfl | exact trivial | exact fitI | exact .inr rfl | exact .inl rfl | exact fun x hx => absurd hx (by omega))) | (exfalso; omega) | (rcases x with _ | x))); done) | (refine Fit_app ?_ ?_ <;> first | exact fitI | (intro x hx; (repeat (first | (and_intros <;> (first | exact rfl | exact trivial | exact fitI | exact .inr rfl | exact .inl rfl | exact fun x hx => absurd hx (by omega))) | (exfalso; omega) | (rcases x with _ | x))); done)))) | grind))
      refine rg ctNo_ok ?_
      simp only [go_sem, Nat.reduceLeDiff, Nat.reduceLT, Nat.reduceAdd, Nat.reduceMul, Nat.reduceSub, Nat.reduceEqDiff, Nat.reduceBEq, Int.reduceToNat, reduceCtorEq, (by decide : wr IntKind.i64 ((3 : Int) + 1) = 4)]
      refine rndM ?_
      refine sq ctNo_ok ?_
      simp only [go_sem, Nat.reduceLeDiff, Nat.reduceLT, Nat.reduceAdd, Nat.reduceMul, Nat.reduceSub, Nat.reduceEqDiff, Nat.reduceBEq, Int.reduceToNat, reduceCtorEq, (by decide : bLt (4) (4) = false)]
      refine seqM ?_
      refine condM rfl trivial (fun hc => ?_) (fun hc => ?_)
      · cases hc
      refine rg ctNo_ok ?_
      simp only [go_sem, Nat.reduceLeDiff, Nat.reduceLT, Nat.reduceAdd, Nat.reduceMul, Nat.reduceSub, Nat.reduceEqDiff, Nat.reduceBEq, Int.reduceToNat, reduceCtorEq]
      refine seqM ?_
      obtain ⟨f40, H⟩ := need_some.1 H
      replace f40 := capb_iff.1 f40
      refine rg ctNo_ok ?_
      simp only [go_sem, Nat.reduceLeDiff, Nat.reduceLT, Nat.reduceAdd, Nat.reduceMul, Nat.reduceSub, Nat.reduceEqDiff, Nat.reduceBEq, Int.reduceToNat, reduceCtorEq, f40]
      repeat ((with_reducible refine And.intro ?_ ?_); focus (first | (and_intros <;> first | (with_reducible trivial) | omega | assumption | exact nfc | first | exact rfl | exact trivial | exact fitI | exact .inr rfl | exact .inl rfl | exact fun x hx => absurd hx (by omega) | (intro x hx; (repeat (first | (and_intros <;> (first | exact rfl | exact trivial | exact fitI | exact .inr rfl | exact .inl rfl | exact fun x hx => absurd hx (by omega))) | (exfalso; omega) | (rcases x with _ | x))); done) | (refine Fit_app ?_ ?_ <;> first | exact fitI | (intro x hx; (repeat (first | (and_intros <;> (first | exact rfl | exact trivial | exact fitI | exact .inr rfl | exact .inl rfl | exact fun x hx => absurd hx (by omega))) | (exfalso; omega) | (rcases x with _ | x))); done) | (refine Fit_app ?_ ?_ <;> first | exact fitI | (intro x hx; (repeat (first | (and_intros <;> (first | exact rfl | exact trivial | exact fitI | exact .inr rfl | exact .inl rfl | exact fun x hx => absurd hx (by omega))) | (exfalso; omega) | (rcases x with _ | x))); done)))) | grind))
      refine rg ctNo_ok ?_
      simp only [go_sem, Nat.reduceLeDiff, Nat.reduceLT, Nat.reduceAdd, Nat.reduceMul, Nat.reduceSub, Nat.reduceEqDiff, Nat.reduceBEq, Int.reduceToNat, reduceCtorEq]
      obtain rfl := Option.some.inj H
      refine RetE_mk [] [some 11] ?_ ?_ ?_ ?_ (by rfl) (by rfl)
      · simp only [go_sem, Nat.reduceEqDiff, Nat.reduceBEq, Nat.reduceAdd]
        try (and_intros <;> first | (with_reducible trivial) | omega | exact nfc | trivial)
      · simp only [go_sem, Nat.reduceEqDiff, Nat.reduceBEq, Nat.reduceAdd]
        try (and_intros <;> first | (with_reducible trivial) | omega | exact nfc | trivial)
      · simp only [go_sem, Nat.reduceEqDiff, Nat.reduceBEq, Nat.reduceAdd]
        exact Cv_tup (CvL_cons (by first | (simp [Cv, CvL, getM, gt_some]; done) | (simp [Cv, CvL, getM, gt_some]; omega)) (CvL_cons (by simp [Cv, CvL, getM, gt_some]) CvL_nil))
      · simp only [go_sem, Nat.reduceEqDiff, Nat.reduceBEq, Nat.reduceAdd, CvH, gt_some, Option.isSome_some, Option.isSome_none]
        exact CvB_row nr_u8 (by first | rfl | (simp; done) | (simp; omega)) (app_row2 (show ((((w28 ++ [(gd w30 0).x0, (gd w30 0).x1, (gd w30 0).x2, (gd w30 0).x3, (gd w30 0).x4, (gd w30 0).x5]) ++ [(gd w30 1).x0, (gd w30 1).x1, (gd w30 1).x2, (gd w30 1).x3, (gd w30 1).x4, (gd w30 1).x5]) ++ [(gd w30 2).x0, (gd w30 2).x1, (gd w30 2).x2, (gd w30 2).x3, (gd w30 2).x4, (gd w30 2).x5]) ++ [(gd w30 3).x0, (gd w30 3).x1, (gd w30 3).x2, (gd w30 3).x3, (gd w30 3).x4, (gd w30 3).x5]).length = w28.length + 6 + 6 + 6 + 6 from by simp) (f := c_u8) ((((w28 ++ [(gd w30 0).x0, (gd w30 0).x1, (gd w30 0).x2, (gd w30 0).x3, (gd w30 0).x4, (gd w30 0).x5]) ++ [(gd w30 1).x0, (gd w30 1).x1, (gd w30 1).x2, (gd w30 1).x3, (gd w30 1).x4, (gd w30 1).x5]) ++ [(gd w30 2).x0, (gd w30 2).x1, (gd w30 2).x2, (gd w30 2).x3, (gd w30 2).x4, (gd w30 2).x5]) ++ [(gd w30 3).x0, (gd w30 3).x1, (gd w30 3).x2, (gd w30 3).x3, (gd w30 3).x4, (gd w30 3).x5]) p0.Data (app_row2 (show (((w28 ++ [(gd w30 0).x0, (gd w30 0).x1, (gd w30 0).x2, (gd w30 0).x3, (gd w30 0).x4, (gd w30 0).x5]) ++ [(gd w30 1).x0, (gd w30 1).x1, (gd w30 1).x2, (gd w30 1).x3, (gd w30 1).x4, (gd w30 1).x5]) ++ [(gd w30 2).x0, (gd w30 2).x1, (gd w30 2).x2, (gd w30 2).x3, (gd w30 2).x4, (gd w30 2).x5]).length = w28.length + 6 + 6 + 6 from by simp) (f := c_u8) (((w28 ++ [(gd w30 0).x0, (gd w30 0).x1, (gd w30 0).x2, (gd w30 0).x3, (gd w30 0).x4, (gd w30 0).x5]) ++ [(gd w30 1).x0, (gd w30 1).x1, (gd w30 1).x2, (gd w30 1).x3, (gd w30 1).x4, (gd w30 1).x5]) ++ [(gd w30 2).x0, (gd w30 2).x1, (gd w30 2).x2, (gd w30 2).x3, (gd w30 2).x4, (gd w30 2).x5]) [(gd w30 3).x0, (gd w30 3).x1, (gd w30 3).x2, (gd w30 3).x3, (gd w30 3).x4, (gd w30 3).x5] (app_row2 (show ((w28 ++ [(gd w30 0).x0, (gd w30 0).x1, (gd w30 0).x2, (gd w30 0).x3, (gd w30 0).x4, (gd w30 0).x5]) ++ [(gd w30 1).x0, (gd w30 1).x1, (gd w30 1).x2, (gd w30 1).x3, (gd w30 1).x4, (gd w30 1).x5]).length = w28.length + 6 + 6 from by simp) (f := c_u8) ((w28 ++ [(gd w30 0).x0, (gd w30 0).x1, (gd w30 0).x2, (gd w30 0).x3, (gd w30 0).x4, (gd w30 0).x5]) ++ [(gd w30 1).x0, (gd w30 1).x1, (gd w30 1).x2, (gd w30 1).x3, (gd w30 1).x4, (gd w30 1).x5]) [(gd w30 2).x0, (gd w30 2).x1, (gd w30 2).x2, (gd w30 2).x3, (gd w30 2).x4, (gd w30 2).x5] (app_row2 (show (w28 ++ [(gd w30 0).x0, (gd w30 0).x1, (gd w30 0).x2, (gd w30 0).x3, (gd w30 0).x4, (gd w30 0).x5]).length = w28.length + 6 from by simp) (f := c_u8) (w28 ++ [(gd w30 0).x0, (gd w30 0).x1, (gd w30 0).x2, (gd w30 0).x3, (gd w30 0).x4, (gd w30 0).x5]) [(gd w30 1).x0, (gd w30 1).x1, (gd w30 1).x2, (gd w30 1).x3, (gd w30 1).x4, (gd w30 1).x5] (app_row (f := c_u8) w28 [(gd w30 0).x0, (gd w30 0).x1, (gd w30 0).x2, (gd w30 0).x3, (gd w30 0).x4, (gd w30 0).x5] (fun _ _ _ _ => rfl) (arr_row (L := [(gd w30 0).x0, (gd w30 0).x1, (gd w30 0).x2, (gd w30 0).x3, (gd w30 0).x4, (gd w30 0).x5]) (by intro x hx; match x, hx with | 0, _ => rfl | 1, _ => rfl | 2, _ => rfl | 3, _ => rfl | 4, _ => rfl | 5, _ => rfl | x + 6, hx => exact absurd hx (by simp)))) (arr_row (L := [(gd w30 1).x0, (gd w30 1).x1, (gd w30 1).x2, (gd w30 1).x3, (gd w30 1).x4, (gd w30 1).x5]) (by intro x hx; match x, hx with | 0, _ => rfl | 1, _ => rfl | 2, _ => rfl | 3, _ => rfl | 4, _ => rfl | 5, _ => rfl | x + 6, hx => exact absurd hx (by simp)))) (arr_row (L := [(gd w30 2).x0, (gd w30 2).x1, (gd w30 2).x2, (gd w30 2).x3, (gd w30 2).x4, (gd w30 2).x5]) (by intro x hx; match x, hx with | 0, _ => rfl | 1, _ => rfl | 2, _ => rfl | 3, _ => rfl | 4, _ => rfl | 5, _ => rfl | x + 6, hx => exact absurd hx (by simp)))) (arr_row (L := [(gd w30 3).x0, (gd w30 3).x1, (gd w30 3).x2, (gd w30 3).x3, (gd w30 3).x4, (gd w30 3).x5]) (by intro x hx; match x, hx with | 0, _ => rfl | 1, _ => rfl | 2, _ => rfl | 3, _ => rfl | 4, _ => rfl | 5, _ => rfl | x + 6, hx => exact absurd hx (by simp)))) (fun _ _ _ _ => rfl))
    replace H := cond_t hc H
    refine seqM ?_
    obtain ⟨f3, H⟩ := need_some.1 H
    replace f3 := inb_iff.1 f3
    refine rg ctNo_ok ?_
    simp only [go_sem, Nat.reduceLeDiff, Nat.reduceLT, Nat.reduceAdd, Nat.reduceMul, Nat.reduceSub, Nat.reduceEqDiff, Nat.reduceBEq, Int.reduceToNat, reduceCtorEq, f3]
    repeat ((with_reducible refine And.intro ?_ ?_); focus (first | (with_reducible trivial) | omega | grind))
    obtain ⟨f4, H⟩ := need_some.1 H
    replace f4 := capb_iff.1 f4
    refine rg ctNo_ok ?_
    simp only [go_sem, Nat.reduceLeDiff, Nat.reduceLT, Nat.reduceAdd, Nat.reduceMul, Nat.reduceSub, Nat.reduceEqDiff, Nat.reduceBEq, Int.reduceToNat, reduceCtorEq, f4]
    repeat ((with_reducible refine And.intro ?_ ?_); focus (first | (and_intros <;> first | (with_reducible trivial) | omega | assumption | exact nfc | first | exact rfl | exact trivial | exact fitI | exact .inr rfl | exact .inl rfl | exact fun x hx => absurd hx (by omega) | (intro x hx; (repeat (first | (and_intros <;> (first | exact rfl | exact trivial | exact fitI | exact .inr rfl | exact .inl rfl | exact fun x hx => absurd hx (by omega))) | (exfalso; omega) | (rcases x with _ | x))); done) | (refine Fit_app ?_ ?_ <;> first | exact fitI | (intro x hx; (repeat (first | (and_intros <;> (first | exact rfl | exact trivial | exact fitI | exact .inr rfl | exact .inl rfl | exact fun x hx => absurd hx (by omega))) | (exfalso; omega) | (rcases x with _ | x))); done) | (refine Fit_app ?_ ?_ <;> first | exact fitI | (intro x hx; (repeat (first | (and_intros <;> (first | exact rfl | exact trivial | exact fitI | exact .inr rfl | exact .inl rfl | exact fun x hx => absurd hx (by omega))) | (exfalso; omega) | (rcases x with _ | x))); done)))) | grind))
    refine seqM ?_
    refine sq ctNo_ok ?_
    simp only [go_sem, Nat.reduceLeDiff, Nat.reduceLT, Nat.reduceAdd, Nat.reduceMul, Nat.reduceSub, Nat.reduceEqDiff, Nat.reduceBEq, Int.reduceToNat, reduceCtorEq]
    repeat ((with_reducible refine And.intro ?_ ?_); focus (first | (and_intros <;> first | (with_reducible trivial) | omega | assumption | exact nfc | first | exact rfl | exact trivial | exact fitI | exact .inr rfl | exact .inl rfl | exact fun x hx => absurd hx (by omega) | (intro x hx; (repeat (first | (and_intros <;> (first | exact rfl | exact trivial | exact fitI | exact .inr rfl | exact .inl rfl | exact fun x hx => absurd hx (by omega))) | (exfalso; omega) | (rcases x with _ | x))); done) | (refine Fit_app ?_ ?_ <;> first | exact fitI | (intro x hx; (repeat (first | (and_intros <;> (first | exact rfl | exact trivial | exact fitI | exact .inr rfl | exact .inl rfl | exact fun x hx => absurd hx (by omega))) | (exfalso; omega) | (rcases x with _ | x))); done) | (refine Fit_app ?_ ?_ <;> first | exact fitI | (intro x hx; (repeat (first | (and_intros <;> (first | exact rfl | exact trivial | exact fitI | exact .inr rfl | exact .inl rfl | exact fun x hx => absurd hx (by omega))) | (exfalso; omega) | (rcases x with _ | x))); done)))) | grind))
    refine blkM ?_
    refine loop_roundsM 7 ?_
    refine rndM ?_
    refine sq ctNo_ok ?_
    simp only [go_sem, Nat.reduceLeDiff, Nat.reduceLT, Nat.reduceAdd, Nat.reduceMul, Nat.reduceSub, Nat.reduceEqDiff, Nat.reduceBEq, Int.reduceToNat, reduceCtorEq, (by decide : bLt (0) (6) = true)]
    refine seqM ?_
    refine condM rfl trivial (fun hc => ?_) (fun hc => ?_)
    rotate_left
    · cases hc
    refine rg ctNo_ok ?_
    simp only [go_sem, Nat.reduceLeDiff, Nat.reduceLT, Nat.reduceAdd, Nat.reduceMul, Nat.reduceSub, Nat.reduceEqDiff, Nat.reduceBEq, Int.reduceToNat, reduceCtorEq]
    refine seqM ?_
    refine blkM ?_
    refine seqM ?_
    obtain ⟨w7, hw8, H⟩ := bsi H
    replace hw8 := Option.some.inj hw8
    have lhw8 : w7.length = 4 := by rw [← hw8]; exact (by first | rfl | (simp; done) | (simp; omega))
    obtain ⟨w9, hw10, H⟩ := bsi H
    replace hw10 := Option.some.inj hw10
    have lhw10 : w9.length = 2 := by rw [← hw10]; exact (by first | rfl | (simp; done) | (simp; omega))
    obtain ⟨w11, hw12, H⟩ := bsi H
    replace hw12 := Option.some.inj hw12
    have lhw12 : w11.length = 6 := by rw [← hw12]; exact (by first | rfl | (simp; done) | (simp; omega))
    refine subF_mean (t2 := (.agg (.int .u8 p0.From.x0 :: .int .u8 p0.From.x1 :: .int .u8 p0.From.x2 :: .int .u8 p0.From.x3 :: .int .u8 p0.From.x4 :: .int .u8 p0.From.x5 :: .int .u8 p0.To.x0 :: .int .u8 p0.To.x1 :: .int .u8 p0.To.x2 :: .int .u8 p0.To.x3 :: .int .u8 p0.To.x4 :: .int .u8 p0.To.x5 :: .int .u8 p0.Enter.x0 :: .int .u8 p0.Enter.x1 :: .int .u8 p0.Enter.x2 :: .int .u8 p0.Enter.x3 :: .int .u8 p0.Enter.x4 :: .int .u8 p0.Enter.x5 :: .int .u8 p0.Leave.x0 :: .int .u8 p0.Leave.x1 :: .int .u8 p0.Leave.x2 :: .int .u8 p0.Leave.x3 :: .int .u8 p0.Leave.x4 :: .int .u8 p0.Leave.x5 :: .int .u8 p0.Source.x0 :: .int .u8 p0.Source.x1 :: .int .u8 p0.Source.x2 :: .int .u8 p0.Source.x3 :: .int .u8 p0.Source.x4 :: .int .u8 p0.Source.x5 :: .int .u8 p0.Target.x0 :: .int .u8 p0.Target.x1 :: .int .u8 p0.Target.x2 :: .int .u8 p0.Target.x3 :: .int .u8 p0.Target.x4 :: .int .u8 p0.Target.x5 :: .int .i64 p0.Seq :: .int .i64 p0.Ttl :: .ro 1 p0.Data.length false (enR c_u8 p0.Data) :: []) :: .ptr 0 0 0 0 :: .ro 0 0 true (fun _ _ => .top) :: .int .i64 0 :: .int .i64 r1 :: .sl 1 1 0 w7.length false :: .sl 4 6 0 w11.length false :: .top :: .top :: .agg (.int .u8 p0.From.x0 :: .int .u8 p0.From.x1 :: .int .u8 p0.From.x2 :: .int .u8 p0.From.x3 :: .int .u8 p0.From.x4 :: .int .u8 p0.From.x5 :: .int .u8 p0.To.x0 :: .int .u8 p0.To.x1 :: .int .u8 p0.To.x2 :: .int .u8 p0.To.x3 :: .int .u8 p0.To.x4 :: .int .u8 p0.To.x5 :: .int .u8 p0.Enter.x0 :: .int .u8 p0.Enter.x1 :: .int .u8 p0.Enter.x2 :: .int .u8 p0.Enter.x3 :: .int .u8 p0.Enter.x4 :: .int .u8 p0.Enter.x5 :: .int .u8 p0.Leave.x0 :: .int .u8 p0.Leave.x1 :: .int .u8 p0.Leave.x2 :: .int .u8 p0.Leave.x3 :: .int .u8 p0.Leave.x4 :: .int .u8 p0.Leave.x5 :: .int .u8 p0.Source.x0 :: .int .u8 p0.Source.x1 :: .int .u8 p0.Source.x2 :: .int .u8 p0.Source.x3 :: .int .u8 p0.Source.x4 :: .int .u8 p0.Source.x5 :: .int .u8 p0.Target.x0 :: .int .u8 p0.Target.x1 :: .int .u8 p0.Target.x2 :: .int .u8 p0.Target.x3 :: .int .u8 p0.Target.x4 :: .int .u8 p0.Target.x5 :: .int .i64 p0.Seq :: .int .i64 p0.Ttl :: .ro 1 p0.Data.length false (enR c_u8 p0.Data) :: []) :: .int .i64 r1 :: .int .i64 r1 :: .bool (!bEq r1 0) :: .top :: .ptr 0 0 0 37 :: .int .i64 p0.Ttl :: .int .u8 (wr .u8 p0.Ttl) :: .ptr 0 0 0 36 :: .int .i64 p0.Seq :: .int .u8 (wr .u8 p0.Seq) :: .ptr 0 0 0 36 :: .int .i64 p0.Seq :: .int .i64 (shrI .i64 p0.Seq 8) :: .int .u8 (wr .u8 (shrI .i64 p0.Seq 8)) :: .sl 1 1 0 w7.length false :: .ptr 0 0 0 0 :: .agg [.int .u8 p0.From.x0, .int .u8 p0.From.x1, .int .u8 p0.From.x2, .int .u8 p0.From.x3, .int .u8 p0.From.x4, .int .u8 p0.From.x5] :: .ptr 0 0 0 6 :: .agg [.int .u8 p0.To.x0, .int .u8 p0.To.x1, .int .u8 p0.To.x2, .int .u8 p0.To.x3, .int .u8 p0.To.x4, .int .u8 p0.To.x5] :: .ptr 0 0 0 12 :: .agg [.int .u8 p0.Enter.x0, .int .u8 p0.Enter.x1, .int .u8 p0.Enter.x2, .int .u8 p0.Enter.x3, .int .u8 p0.Enter.x4, .int .u8 p0.Enter.x5] :: .ptr 0 0 0 18 :: .agg [.int .u8 p0.Leave.x0, .int .u8 p0.Leave.x1, .int .u8 p0.Leave.x2, .int .u8 p0.Leave.x3, .int .u8 p0.Leave.x4, .int .u8 p0.Leave.x5] :: .sl 2 6 0 4 false :: .ptr 0 0 0 24 :: .agg [.int .u8 p0.Source.x0, .int .u8 p0.Source.x1, .int .u8 p0.Source.x2, .int .u8 p0.Source.x3, .int .u8 p0.Source.x4, .int .u8 p0.Source.x5] :: .ptr 0 0 0 12 :: .agg [.int .u8 p0.Enter.x0, .int .u8 p0.Enter.x1, .int .u8 p0.Enter.x2, .int .u8 p0.Enter.x3, .int .u8 p0.Enter.x4, .int .u8 p0.Enter.x5] :: .bool (!(bEq p0.Source.x0 p0.Enter.x0 && (bEq p0.Source.x1 p0.Enter.x1 && (bEq p0.Source.x2 p0.Enter.x2 && (bEq p0.Source.x3 p0.Enter.x3 && (bEq p0.Source.x4 p0.Enter.x4 && (bEq p0.Source.x5 p0.Enter.x5))))))) :: .bool (!(bEq p0.Source.x0 p0.Enter.x0 && (bEq p0.Source.x1 p0.Enter.x1 && (bEq p0.Source.x2 p0.Enter.x2 && (bEq p0.Source.x3 p0.Enter.x3 && (bEq p0.Source.x4 p0.Enter.x4 && (bEq p0.Source.x5 p0.Enter.x5))))))) :: .opt (!(!(bEq p0.Source.x0 p0.Enter.x0 && (bEq p0.Source.x1 p0.Enter.x1 && (bEq p0.Source.x2 p0.Enter.x2 && (bEq p0.Source.x3 p0.Enter.x3 && (bEq p0.Source.x4 p0.Enter.x4 && (bEq p0.Source.x5 p0.Enter.x5)))))))) (.ptr 0 0 0 30) :: .opt (!(!(bEq p0.Source.x0 p0.Enter.x0 && (bEq p0.Source.x1 p0.Enter.x1 && (bEq p0.Source.x2 p0.Enter.x2 && (bEq p0.Source.x3 p0.Enter.x3 && (bEq p0.Source.x4 p0.Enter.x4 && (bEq p0.Source.x5 p0.Enter.x5)))))))) (.agg [.int .u8 p0.Target.x0, .int .u8 p0.Target.x1, .int .u8 p0.Target.x2, .int .u8 p0.Target.x3, .int .u8 p0.Target.x4, .int .u8 p0.Target.x5]) :: .opt (!(!(bEq p0.Source.x0 p0.Enter.x0 && (bEq p0.Source.x1 p0.Enter.x1 && (bEq p0.Source.x2 p0.Enter.x2 && (bEq p0.Source.x3 p0.Enter.x3 && (bEq p0.Source.x4 p0.Enter.x4 && (bEq p0.Source.x5 p0.Enter.x5)))))))) (.ptr 0 0 0 18) :: .opt (!(!(bEq p0.Source.x0 p0.Enter.x0 && (bEq p0.Source.x1 p0.Enter.x1 && (bEq p0.Source.x2 p0.Enter.x2 && (bEq p0.Source.x3 p0.Enter.x3 && (bEq p0.Source.x4 p0.Enter.x4 && (bEq p0.Source.x5 p0.Enter.x5)))))))) (.agg [.int .u8 p0.Leave.x0, .int .u8 p0.Leave.x1, .int .u8 p0.Leave.x2, .int .u8 p0.Leave.x3, .int .u8 p0.Leave.x4, .int .u8 p0.Leave.x5]) :: .opt (!(!(bEq p0.Source.x0 p0.Enter.x0 && (bEq p0.Source.x1 p0.Enter.x1 && (bEq p0.Source.x2 p0.Enter.x2 && (bEq p0.Source.x3 p0.Enter.x3 && (bEq p0.Source.x4 p0.Enter.x4 && (bEq p0.Source.x5 p0.Enter.x5)))))))) (.bool (!(bEq p0.Target.x0 p0.Leave.x0 && (bEq p0.Target.x1 p0.Leave.x1 && (bEq p0.Target.x2 p0.Leave.x2 && (bEq p0.Target.x3 p0.Leave.x3 && (bEq p0.Target.x4 p0.Leave.x4 && (bEq p0.Target.x5 p0.Leave.x5)))))))) :: .bool ((!(bEq p0.Source.x0 p0.Enter.x0 && (bEq p0.Source.x1 p0.Enter.x1 && (bEq p0.Source.x2 p0.Enter.x2 && (bEq p0.Source.x3 p0.Enter.x3 && (bEq p0.Source.x4 p0.Enter.x4 && (bEq p0.Source.x5 p0.Enter.x5))))))) || (!(bEq p0.Target.x0 p0.Leave.x0 && (bEq p0.Target.x1 p0.Leave.x1 && (bEq p0.Target.x2 p0.Leave.x2 && (bEq p0.Target.x3 p0.Leave.x3 && (bEq p0.Target.x4 p0.Leave.x4 && (bEq p0.Target.x5 p0.Leave.x5)))))))) :: .sl 1 1 0 w7.length false :: .ptr 1 1 0 0 :: .sl 2 6 0 4 false :: .ptr 0 0 0 24 :: .agg [.int .u8 p0.Source.x0, .int .u8 p0.Source.x1, .int .u8 p0.Source.x2, .int .u8 p0.Source.x3, .int .u8 p0.Source.x4, .int .u8 p0.Source.x5] :: .ptr 0 0 0 30 :: .agg [.int .u8 p0.Target.x0, .int .u8 p0.Target.x1, .int .u8 p0.Target.x2, .int .u8 p0.Target.x3, .int .u8 p0.Target.x4, .int .u8 p0.Target.x5] :: .sl 3 6 0 w9.length false :: .sl 4 6 0 w11.length false :: .sl 4 6 0 w11.length false :: .int .i64 6 :: .int .i64 0 :: .bool true :: tp 10 [])) (h2 := [.lit 26 (.int .u8 p0.From.x0 :: .int .u8 p0.From.x1 :: .int .u8 p0.From.x2 :: .int .u8 p0.From.x3 :: .int .u8 p0.From.x4 :: .int .u8 p0.From.x5 :: .int .u8 p0.To.x0 :: .int .u8 p0.To.x1 :: .int .u8 p0.To.x2 :: .int .u8 p0.To.x3 :: .int .u8 p0.To.x4 :: .int .u8 p0.To.x5 :: .int .u8 p0.Enter.x0 :: .int .u8 p0.Enter.x1 :: .int .u8 p0.Enter.x2 :: .int .u8 p0.Enter.x3 :: .int .u8 p0.Enter.x4 :: .int .u8 p0.Enter.x5 :: .int .u8 p0.Leave.x0 :: .int .u8 p0.Leave.x1 :: .int .u8 p0.Leave.x2 :: .int .u8 p0.Leave.x3 :: .int .u8 p0.Leave.x4 :: .int .u8 p0.Leave.x5 :: .int .u8 p0.Source.x0 :: .int .u8 p0.Source.x1 :: .int .u8 p0.Source.x2 :: .int .u8 p0.Source.x3 :: .int .u8 p0.Source.x4 :: .int .u8 p0.Source.x5 :: .int .u8 p0.Target.x0 :: .int .u8 p0.Target.x1 :: .int .u8 p0.Target.x2 :: .int .u8 p0.Target.x3 :: .int .u8 p0.Target.x4 :: .int .u8 p0.Target.x5 :: .int .i64 p0.Seq :: .int .i64 p0.Ttl :: .ro 1 p0.Data.length false (enR c_u8 p0.Data) :: []), .row 5 1 w7.length (enR c_u8 w7), .dead, .row 23 6 w9.length (enR c_A6u8 w9), .row 23 6 w11.length (enR c_A6u8 w11)]) ?_ ?_
    · refine SubF_of ⟨[some 0, some 1, some 2, some 3, some 4], ?_, ?_, by rfl, by rfl⟩
      · simp [CvL, Cv, getM, tp, lhw8, lhw10, lhw12]
      · exact ⟨(by simp [CvB, CvL, Cv, blkAt, geth, getM, lhw8, lhw10, lhw12]), CvB_row nr_u8 lhw8 (hw8 ▸ (upc_row (f := c_u8) [0, wr .u8 p0.Ttl, wr .u8 p0.Seq, wr .u8 (shrI .i64 p0.Seq 8)] 0 0 1 (lit_row (f := c_u8) [0, wr .u8 p0.Ttl, wr .u8 p0.Seq, wr .u8 (shrI .i64 p0.Seq 8)] (fun _ _ => rfl) rfl) (fun y hy => match y, hy with | 0, _ => rfl | (y+1), h => absurd h (by omega)))), CvB_dead, CvB_row nr_A6u8 lhw10 (hw10 ▸ (lit_row (f := c_A6u8) [p0.Source, p0.Target] (fun _ _ => rfl) rfl)), CvB_row nr_A6u8 lhw12 (hw12 ▸ (app_row (f := c_A6u8) [p0.From, p0.To, p0.Enter, p0.Leave] [p0.Source, p0.Target] (lit_row (f := c_A6u8) [p0.From, p0.To, p0.Enter, p0.Leave] (fun _ _ => rfl) rfl) (lit_row (f := c_A6u8) [p0.Source, p0.Target] (fun _ _ => rfl) rfl))), trivial⟩
    simp only [tp]
    obtain ⟨f13, H⟩ := need_some.1 H
    replace f13 := inb_iff.1 f13
    refine rg ctNo_ok ?_
    simp only [go_sem, Nat.reduceLeDiff, Nat.reduceLT, Nat.reduceAdd, Nat.reduceMul, Nat.reduceSub, Nat.reduceEqDiff, Nat.reduceBEq, Int.reduceToNat, reduceCtorEq, f13]
    repeat ((with_reducible refine And.intro ?_ ?_); focus (first | (with_reducible trivial) | omega | grind))
    obtain ⟨f14, H⟩ := need_some.1 H
    replace f14 := capb_iff.1 f14
    refine rg ctNo_ok ?_
    simp only [go_sem, Nat.reduceLeDiff, Nat.reduceLT, Nat.reduceAdd, Nat.reduceMul, Nat.reduceSub, Nat.reduceEqDiff, Nat.reduceBEq, Int.reduceToNat, reduceCtorEq, f14]
    repeat ((with_reducible refine And.intro ?_ ?_); focus (first | (and_intros <;> first | (with_reducible trivial) | omega | assumption | exact nfc | first | exact rfl | exact trivial | exact fitI | exact .inr rfl | exact .inl rfl | exact fun x hx => absurd hx (by omega) | (intro x hx; (repeat (first | (and_intros <;> (first | exact rfl | exact trivial | exact fitI | exact .inr rfl | exact .inl rfl | exact fun x hx => absurd hx (by omega))) | (exfalso; omega) | (rcases x with _ | x))); done) | (refine Fit_app ?_ ?_ <;> first | exact fitI | (intro x hx; (repeat (first | (and_intros <;> (first | exact rfl | exact trivial | exact fitI | exact .inr rfl | exact .inl rfl | exact fun x hx => absurd hx (by omega))) | (exfalso; omega) | (rcases x with _ | x))); done) | (refine Fit_app ?_ ?_ <;> first | exact fitI | (intro x hx; (repeat (first | (and_intros <;> (first | exact rfl | exact trivial | exact fitI | exact .inr rfl | exact .inl rfl | exact fun x hx => absurd hx (by omega))) | (exfalso; omega) | (rcases x with _ | x))); done)))) | grind))
    refine rg ctNo_ok ?_
    simp only [go_sem, Nat.reduceLeDiff, Nat.reduceLT, Nat.reduceAdd, Nat.reduceMul, Nat.reduceSub, Nat.reduceEqDiff, Nat.reduceBEq, Int.reduceToNat, reduceCtorEq, (by decide : wr IntKind.i64 ((0 : Int) + 1) = 1)]
    refine rndM ?_
    refine sq ctNo_ok ?_
    simp only [go_sem, Nat.reduceLeDiff, Nat.reduceLT, Nat.reduceAdd, Nat.reduceMul, Nat.reduceSub, Nat.reduceEqDiff, Nat.reduceBEq, Int.reduceToNat, reduceCtorEq, (by decide : bLt (1) (6) = true)]
    refine seqM ?_
    refine condM rfl trivial (fun hc => ?_) (fun hc => ?_)
    rotate_left
    · cases hc
    refine rg ctNo_ok ?_
    simp only [go_sem, Nat.reduceLeDiff, Nat.reduceLT, Nat.reduceAdd, Nat.reduceMul, Nat.reduceSub, Nat.reduceEqDiff, Nat.reduceBEq, Int.reduceToNat, reduceCtorEq]
    refine seqM ?_
    refine blkM ?_
    refine seqM ?_
    obtain ⟨f15, H⟩ := need_some.1 H
    replace f15 := inb_iff.1 f15
    refine rg ctNo_ok ?_
    simp only [go_sem, Nat.reduceLeDiff, Nat.reduceLT, Nat.reduceAdd, Nat.reduceMul, Nat.reduceSub, Nat.reduceEqDiff, Nat.reduceBEq, Int.reduceToNat, reduceCtorEq, f15]
    repeat ((with_reducible refine And.intro ?_ ?_); focus (first | (with_reducible trivial) | omega | grind))
    obtain ⟨f16, H⟩ := need_some.1 H
    replace f16 := capb_iff.1 f16
    refine rg ctNo_ok ?_
    simp only [go_sem, Nat.reduceLeDiff, Nat.reduceLT, Nat.reduceAdd, Nat.reduceMul, Nat.reduceSub, Nat.reduceEqDiff, Nat.reduceBEq, Int.reduceToNat, reduceCtorEq, f16]
    repeat ((with_reducible refine And.intro ?_ ?_); focus (first | (and_intros <;> first | (with_reducible trivial) | omega | assumption | exact nfc | first | exact rfl | exact trivial | exact fitI | exact .inr rfl | exact .inl rfl | exact fun x hx => absurd hx (by omega) | (intro x hx; (repeat (first | (and_intros <;> (first | exact rfl | exact trivial | exact fitI | exact .inr rfl | exact .inl rfl | exact fun x hx => absurd hx (by omega))) | (exfalso; omega) | (rcases x with _ | x))); done) | (refine Fit_app ?_ ?_ <;> first | exact fitI | (intro x hx; (repeat (first | (and_intros <;> (first | exact rfl | exact trivial | exact fitI | exact .inr rfl | exact .inl rfl | exact fun x hx => absurd hx (by omega))) | (exfalso; omega) | (rcases x with _ | x))); done) | (refine Fit_app ?_ ?_ <;> first | exact fitI | (intro x hx; (repeat (first | (and_intros <;> (first | exact rfl | exact trivial | exact fitI | exact .inr rfl | exact .inl rfl | exact fun x hx => absurd hx (by omega))) | (exfalso; omega) | (rcases x with _ | x))); done)))) | grind))
    refine rg ctNo_ok ?_
    simp only [go_sem, Nat.reduceLeDiff, Nat.reduceLT, Nat.reduceAdd, Nat.reduceMul, Nat.reduceSub, Nat.reduceEqDiff, Nat.reduceBEq, Int.reduceToNat, reduceCtorEq, (by decide : wr IntKind.i64 ((1 : Int) + 1) = 2)]
    refine rndM ?_
    refine sq ctNo_ok ?_
    simp only [go_sem, Nat.reduceLeDiff, Nat.reduceLT, Nat.reduceAdd, Nat.reduceMul, Nat.reduceSub, Nat.reduceEqDiff, Nat.reduceBEq, Int.reduceToNat, reduceCtorEq, (by decide : bLt (2) (6) = true)]
    refine seqM ?_
    refine condM rfl trivial (fun hc => ?_) (fun hc => ?_)
    rotate_left
    · cases hc
    refine rg ctNo_ok ?_
    simp only [go_sem, Nat.reduceLeDiff, Nat.reduceLT, Nat.reduceAdd, Nat.reduceMul, Nat.reduceSub, Nat.reduceEqDiff, Nat.reduceBEq, Int.reduceToNat, reduceCtorEq]
    refine seqM ?_
    refine blkM ?_
    refine seqM ?_
    obtain ⟨f17, H⟩ := need_some.1 H
    replace f17 := inb_iff.1 f17
    refine rg ctNo_ok ?_
    simp only [go_sem, Nat.reduceLeDiff, Nat.reduceLT, Nat.reduceAdd, Nat.reduceMul, Nat.reduceSub, Nat.reduceEqDiff, Nat.reduceBEq, Int.reduceToNat, reduceCtorEq, f17]
    repeat ((with_reducible refine And.intro ?_ ?_); focus (first | (with_reducible trivial) | omega | grind))
    obtain ⟨f18, H⟩ := need_some.1 H
    replace f18 := capb_iff.1 f18
    refine rg ctNo_ok ?_
    simp only [go_sem, Nat.reduceLeDiff, Nat.reduceLT, Nat.reduceAdd, Nat.reduceMul, Nat.reduceSub, Nat.reduceEqDiff, Nat.reduceBEq, Int.reduceToNat, reduceCtorEq, f18]
    repeat ((with_reducible refine And.intro ?_ ?_); focus (first | (and_intros <;> first | (with_reducible trivial) | omega | assumption | exact nfc | first | exact rfl | exact trivial | exact fitI | exact .inr rfl | exact .inl rfl | exact fun x hx => absurd hx (by omega) | (intro x hx; (repeat (first | (and_intros <;> (first | exact rfl | exact trivial | exact fitI | exact .inr rfl | exact .inl rfl | exact fun x hx => absurd hx (by omega))) | (exfalso; omega) | (rcases x with _ | x))); done) | (refine Fit_app ?_ ?_ <;> first | exact fitI | (intro x hx; (repeat (first | (and_intros <;> (first | exact rfl | exact trivial | exact fitI | exact .inr rfl | exact .inl rfl | exact fun x hx => absurd hx (by omega))) | (exfalso; omega) | (rcases x with _ | x))); done) | (refine Fit_app ?_ ?_ <;> first | exact fitI | (intro x hx; (repeat (first | (and_intros <;> (first | exact rfl | exact trivial | exact fitI | exact .inr rfl | exact .inl rfl | exact fun x hx => absurd hx (by omega))) | (exfalso; omega) | (rcases x with _ | x))); done)))) | grind))
    refine rg ctNo_ok ?_
    simp only [go_sem, Nat.reduceLeDiff, Nat.reduceLT, Nat.reduceAdd, Nat.reduceMul, Nat.reduceSub, Nat.reduceEqDiff, Nat.reduceBEq, Int.reduceToNat, reduceCtorEq, (by decide : wr IntKind.i64 ((2 : Int) + 1) = 3)]
    refine rndM ?_
    refine sq ctNo_ok ?_
    simp only [go_sem, Nat.reduceLeDiff, Nat.reduceLT, Nat.reduceAdd, Nat.reduceMul, Nat.reduceSub, Nat.reduceEqDiff, Nat.reduceBEq, Int.reduceToNat, reduceCtorEq, (by decide : bLt (3) (6) = true)]
    refine seqM ?_
    refine condM rfl trivial (fun hc => ?_) (fun hc => ?_)
    rotate_left
    · cases hc
    refine rg ctNo_ok ?_
    simp only [go_sem, Nat.reduceLeDiff, Nat.reduceLT, Nat.reduceAdd, Nat.reduceMul, Nat.reduceSub, Nat.reduceEqDiff, Nat.reduceBEq, Int.reduceToNat, reduceCtorEq]
    refine seqM ?_
    refine blkM ?_
    refine seqM ?_
    obtain ⟨f19, H⟩ := need_some.1 H
    replace f19 := inb_iff.1 f19
    refine rg ctNo_ok ?_
    simp only [go_sem, Nat.reduceLeDiff, Nat.reduceLT, Nat.reduceAdd, Nat.reduceMul, Nat.reduceSub, Nat.reduceEqDiff, Nat.reduceBEq, Int.reduceToNat, reduceCtorEq, f19]
    repeat ((with_reducible refine And.intro ?_ ?_); focus (first | (with_reducible trivial) | omega | grind))
    obtain ⟨f20, H⟩ := need_some.1 H
    replace f20 := capb_iff.1 f20
    refine rg ctNo_ok ?_
    simp only [go_sem, Nat.reduceLeDiff, Nat.reduceLT, Nat.reduceAdd, Nat.reduceMul, Nat.reduceSub, Nat.reduceEqDiff, Nat.reduceBEq, Int.reduceToNat, reduceCtorEq, f20]
    repeat ((with_reducible refine And.intro ?_ ?_); focus (first | (and_intros <;> first | (with_reducible trivial) | omega | assumption | exact nfc | first | exact rfl | exact trivial | exact fitI | exact .inr rfl | exact .inl rfl | exact fun x hx => absurd hx (by omega) | (intro x hx; (repeat (first | (and_intros <;> (first | exact rfl | exact trivial | exact fitI | exact .inr rfl | exact .inl rfl | exact fun x hx => absurd hx (by omega))) | (exfalso; omega) | (rcases x with _ | x))); done) | (refine Fit_app ?_ ?_ <;> first | exact fitI | (intro x hx; (repeat (first | (and_intros <;> (first | exact rfl | exact trivial | exact fitI | exact .inr rfl | exact .inl rfl | exact fun x hx => absurd hx (by omega))) | (exfalso; omega) | (rcases x with _ | x))); done) | (refine Fit_app ?_ ?_ <;> first | exact fitI | (intro x hx; (repeat (first | (and_intros <;> (first | exact rfl | exact trivial | exact fitI | exact .inr rfl | exact .inl rfl | exact fun x hx => absurd hx (by omega))) | (exfalso; omega) | (rcases x with _ | x))); done)))) | grind))
    refine rg ctNo_ok ?_
    simp only [go_sem, Nat.reduceLeDiff, Nat.reduceLT, Nat.reduceAdd, Nat.reduceMul, Nat.reduceSub, Nat.reduceEqDiff, Nat.reduceBEq, Int.reduceToNat, reduceCtorEq, (by decide : wr IntKind.i64 ((3 : Int) + 1) = 4)]
    refine rndM ?_
    refine sq ctNo_ok ?_
    simp only [go_sem, Nat.reduceLeDiff, Nat.reduceLT, Nat.reduceAdd, Nat.reduceMul, Nat.reduceSub, Nat.reduceEqDiff, Nat.reduceBEq, Int.reduceToNat, reduceCtorEq, (by decide : bLt (4) (6) = true)]
    refine seqM ?_
    refine condM rfl trivial (fun hc => ?_) (fun hc => ?_)
    rotate_left
    · cases hc
    refine rg ctNo_ok ?_
    simp only [go_sem, Nat.reduceLeDiff, Nat.reduceLT, Nat.reduceAdd, Nat.reduceMul, Nat.reduceSub, Nat.reduceEqDiff, Nat.reduceBEq, Int.reduceToNat, reduceCtorEq]
    refine seqM ?_
    refine blkM ?_
    refine seqM ?_
    obtain ⟨f21, H⟩ := need_some.1 H
    replace f21 := inb_iff.1 f21
    refine rg ctNo_ok ?_
    simp only [go_sem, Nat.reduceLeDiff, Nat.reduceLT, Nat.reduceAdd, Nat.reduceMul, Nat.reduceSub, Nat.reduceEqDiff, Nat.reduceBEq, Int.reduceToNat, reduceCtorEq, f21]
    repeat ((with_reducible refine And.intro ?_ ?_); focus (first | (with_reducible trivial) | omega | grind))
    obtain ⟨f22, H⟩ := need_some.1 H
    replace f22 := capb_iff.1 f22
    refine rg ctNo_ok ?_
    simp only [go_sem, Nat.reduceLeDiff, Nat.reduceLT, Nat.reduceAdd, Nat.reduceMul, Nat.reduceSub, Nat.reduceEqDiff, Nat.reduceBEq, Int.reduceToNat, reduceCtorEq, f22]
    repeat ((with_reducible refine And.intro ?_ ?_); focus (first | (and_intros <;> first | (with_reducible trivial) | omega | assumption | exact nfc | first | exact rfl | exact trivial | exact fitI | exact .inr rfl | exact .inl rfl | exact fun x hx => absurd hx (by omega) | (intro x hx; (repeat (first | (and_intros <;> (first | exact rfl | exact trivial | exact fitI | exact .inr rfl | exact .inl rfl | exact fun x hx => absurd hx (by omega))) | (exfalso; omega) | (rcases x with _ | x))); done) | (refine Fit_app ?_ ?_ <;> first | exact fitI | (intro x hx; (repeat (first | (and_intros <;> (first | exact rfl | exact trivial | exact fitI | exact .inr rfl | exact .inl rfl | exact fun x hx => absurd hx (by omega))) | (exfalso; omega) | (rcases x with _ | x))); done) | (refine Fit_app ?_ ?_ <;> first | exact fitI | (intro x hx; (repeat (first | (and_intros <;> (first | exact rfl | exact trivial | exact fitI | exact .inr rfl | exact .inl rfl | exact fun x hx => absurd hx (by omega))) | (exfalso; omega) | (rcases x with _ | x))); done)))) | grind))
    refine rg ctNo_ok ?_
    simp only [go_sem, Nat.reduceLeDiff, Nat.reduceLT, Nat.reduceAdd, Nat.reduceMul, Nat.reduceSub, Nat.reduceEqDiff, Nat.reduceBEq, Int.reduceToNat, reduceCtorEq, (by decide : wr IntKind.i64 ((4 : Int) + 1) = 5)]
    refine rndM ?_
    refine sq ctNo_ok ?_
    simp only [go_sem, Nat.reduceLeDiff, Nat.reduceLT, Nat.reduceAdd, Nat.reduceMul, Nat.reduceSub, Nat.reduceEqDiff, Nat.reduceBEq, Int.reduceToNat, reduceCtorEq, (by decide : bLt (5) (6) = true)]
    refine seqM ?_
    refine condM rfl trivial (fun hc => ?_) (fun hc => ?_)
    rotate_left
    · cases hc
    refine rg ctNo_ok ?_
    simp only [go_sem, Nat.reduceLeDiff, Nat.reduceLT, Nat.reduceAdd, Nat.reduceMul, Nat.reduceSub, Nat.reduceEqDiff, Nat.reduceBEq, Int.reduceToNat, reduceCtorEq]
    refine seqM ?_
    refine blkM ?_
    refine seqM ?_
    obtain ⟨f23, H⟩ := need_some.1 H
    replace f23 := inb_iff.1 f23
    refine rg ctNo_ok ?_
    simp only [go_sem, Nat.reduceLeDiff, Nat.reduceLT, Nat.reduceAdd, Nat.reduceMul, Nat.reduceSub, Nat.reduceEqDiff, Nat.reduceBEq, Int.reduceToNat, reduceCtorEq, f23]
    repeat ((with_reducible refine And.intro ?_ ?_); focus (first | (with_reducible trivial) | omega | grind))
    obtain ⟨f24, H⟩ := need_some.1 H
    replace f24 := capb_iff.1 f24
    refine rg ctNo_ok ?_
    simp only [go_sem, Nat.reduceLeDiff, Nat.reduceLT, Nat.reduceAdd, Nat.reduceMul, Nat.reduceSub, Nat.reduceEqDiff, Nat.reduceBEq, Int.reduceToNat, reduceCtorEq, f24]
    repeat ((with_reducible refine And.intro ?_ ?_); focus (first | (and_intros <;> first | (with_reducible trivial) | omega | assumption | exact nfc | first | exact rfl | exact trivial | exact fitI | exact .inr rfl | exact .inl rfl | exact fun x hx => absurd hx (by omega) | (intro x hx; (repeat (first | (and_intros <;> (first | exact rfl | exact trivial | exact fitI | exact .inr rfl | exact .inl rfl | exact fun x hx => absurd hx (by omega))) | (exfalso; omega) | (rcases x with _ | x))); done) | (refine Fit_app ?_ ?_ <;> first | exact fitI | (intro x hx; (repeat (first | (and_intros <;> (first | exact rfl | exact trivial | exact fitI | exact .inr rfl | exact .inl rfl | exact fun x hx => absurd hx (by omega))) | (exfalso; omega) | (rcases x with _ | x))); done) | (refine Fit_app ?_ ?_ <;> first | exact fitI | (intro x hx; (repeat (first | (and_intros <;> (first | exact rfl | exact trivial | exact fitI | exact .inr rfl | exact .inl rfl | exact fun x hx => absurd hx (by omega))) | (exfalso; omega) | (rcases x with _ | x))); done)))) | grind))
    refine rg ctNo_ok ?_
    simp only [go_sem, Nat.reduceLeDiff, Nat.reduceLT, Nat.reduceAdd, Nat.reduceMul, Nat.reduceSub, Nat.reduceEqDiff, Nat.reduceBEq, Int.reduceToNat, reduceCtorEq, (by decide : wr IntKind.i64 ((5 : Int) + 1) = 6)]
    refine rndM ?_
    refine sq ctNo_ok ?_
    simp only [go_sem, Nat.reduceLeDiff, Nat.reduceLT, Nat.reduceAdd, Nat.reduceMul, Nat.reduceSub, Nat.reduceEqDiff, Nat.reduceBEq, Int.reduceToNat, reduceCtorEq, (by decide : bLt (6) (6) = false)]
    refine seqM ?_
    refine condM rfl trivial (fun hc => ?_) (fun hc => ?_)
    · cases hc
    refine rg ctNo_ok ?_
    simp only [go_sem, Nat.reduceLeDiff, Nat.reduceLT, Nat.reduceAdd, Nat.reduceMul, Nat.reduceSub, Nat.reduceEqDiff, Nat.reduceBEq, Int.reduceToNat, reduceCtorEq]
    refine seqM ?_
    obtain ⟨f25, H⟩ := need_some.1 H
    replace f25 := capb_iff.1 f25
    refine rg ctNo_ok ?_
    simp only [go_sem, Nat.reduceLeDiff, Nat.reduceLT, Nat.reduceAdd, Nat.reduceMul, Nat.reduceSub, Nat.reduceEqDiff, Nat.reduceBEq, Int.reduceToNat, reduceCtorEq, f25]
    repeat ((with_reducible refine And.intro ?_ ?_); focus (first | (and_intros <;> first | (with_reducible trivial) | omega | assumption | exact nfc | first | exact rfl | exact trivial | exact fitI | exact .inr rfl | exact .inl rfl | exact fun x hx => absurd hx (by omega) | (intro x hx; (repeat (first | (and_intros <;> (first | exact rfl | exact trivial | exact fitI | exact .inr rfl | exact .inl rfl | exact fun x hx => absurd hx (by omega))) | (exfalso; omega) | (rcases x with _ | x))); done) | (refine Fit_app ?_ ?_ <;> first | exact fitI | (intro x hx; (repeat (first | (and_intros <;> (first | exact rfl | exact trivial | exact fitI | exact .inr rfl | exact .inl rfl | exact fun x hx => absurd hx (by omega))) | (exfalso; omega) | (rcases x with _ | x))); done) | (refine Fit_app ?_ ?_ <;> first | exact fitI | (intro x hx; (repeat (first | (and_intros <;> (first | exact rfl | exact trivial | exact fitI | exact .inr rfl | exact .inl rfl | exact fun x hx => absurd hx (by omega))) | (exfalso; omega) | (rcases x with _ | x))); done)))) | grind))
    refine rg ctNo_ok ?_
    simp only [go_sem, Nat.reduceLeDiff, Nat.reduceLT, Nat.reduceAdd, Nat.reduceMul, Nat.reduceSub, Nat.reduceEqDiff, Nat.reduceBEq, Int.reduceToNat, reduceCtorEq]
    obtain rfl := Option.some.inj H
    refine RetE_mk [] [some 17] ?_ ?_ ?_ ?_ (by rfl) (by rfl)
    · simp only [go_sem, Nat.reduceEqDiff, Nat.reduceBEq, Nat.reduceAdd]
      try (and_intros <;> first | (with_reducible trivial) | omega | exact nfc | trivial)
    · simp only [go_sem, Nat.reduceEqDiff, Nat.reduceBEq, Nat.reduceAdd]
      try (and_intros <;> first | (with_reducible trivial) | omega | exact nfc | trivial)
    · simp only [go_sem, Nat.reduceEqDiff, Nat.reduceBEq, Nat.reduceAdd]
      exact Cv_tup (CvL_cons (by first | (simp [Cv, CvL, getM, gt_some]; done) | (simp [Cv, CvL, getM, gt_some]; omega)) (CvL_cons (by simp [Cv, CvL, getM, gt_some]) CvL_nil))
    · simp only [go_sem, Nat.reduceEqDiff, Nat.reduceBEq, Nat.reduceAdd, CvH, gt_some, Option.isSome_some, Option.isSome_none]
      exact CvB_row nr_u8 (by first | rfl | (simp; done) | (simp; omega)) (app_row2 (show ((((((w7 ++ [(gd w11 0).x0, (gd w11 0).x1, (gd w11 0).x2, (gd w11 0).x3, (gd w11 0).x4, (gd w11 0).x5]) ++ [(gd w11 1).x0, (gd w11 1).x1, (gd w11 1).x2, (gd w11 1).x3, (gd w11 1).x4, (gd w11 1).x5]) ++ [(gd w11 2).x0, (gd w11 2).x1, (gd w11 2).x2, (gd w11 2).x3, (gd w11 2).x4, (gd w11 2).x5]) ++ [(gd w11 3).x0, (gd w11 3).x1, (gd w11 3).x2, (gd w11 3).x3, (gd w11 3).x4, (gd w11 3).x5]) ++ [(gd w11 4).x0, (gd w11 4).x1, (gd w11 4).x2, (gd w11 4).x3, (gd w11 4).x4, (gd w11 4).x5]) ++ [(gd w11 5).x0, (gd w11 5).x1, (gd w11 5).x2, (gd w11 5).x3, (gd w11 5).x4, (gd w11 5).x5]).length = w7.length + 6 + 6 + 6 + 6 + 6 + 6 from by simp) (f := c_u8) ((((((w7 ++ [(gd w11 0).x0, (gd w11 0).x1, (gd w11 0).x2, (gd w11 0).x3, (gd w11 0).x4, (gd w11 0).x5]) ++ [(gd w11 1).x0, (gd w11 1).x1, (gd w11 1).x2, (gd w11 1).x3, (gd w11 1).x4, (gd w11 1).x5]) ++ [(gd w11 2).x0, (gd w11 2).x1, (gd w11 2).x2, (gd w11 2).x3, (gd w11 2).x4, (gd w11 2).x5]) ++ [(gd w11 3).x0, (gd w11 3).x1, (gd w11 3).x2, (gd w11 3).x3, (gd w11 3).x4, (gd w11 3).x5]) ++ [(gd w11 4).x0, (gd w11 4).x1, (gd w11 4).x2, (gd w11 4).x3, (gd w11 4).x4, (gd w11 4).x5]) ++ [(gd w11 5).x0, (gd w11 5).x1, (gd w11 5).x2, (gd w11 5).x3, (gd w11 5).x4, (gd w11 5).x5]) p0.Data (app_row2 (show (((((w7 ++ [(gd w11 0).x0, (gd w11 0).x1, (gd w11 0).x2, (gd w11 0).x3, (gd w11 0).x4, (gd w11 0).x5]) ++ [(gd w11 1).x0, (gd w11 1).x1, (gd w11 1).x2, (gd w11 1).x3, (gd w11 1).x4, (gd w11 1).x5]) ++ [(gd w11 2).x0, (gd w11 2).x1, (gd w11 2).x2, (gd w11 2).x3, (gd w11 2).x4, (gd w11 2).x5]) ++ [(gd w11 3).x0, (gd w11 3).x1, (gd w11 3).x2, (gd w11 3).x3, (gd w11 3).x4, (gd w11 3).x5]) ++ [(gd w11 4).x0, (gd w11 4).x1, (gd w11 4).x2, (gd w11 4).x3, (gd w11 4).x4, (gd w11 4).x5]).length = w7.length + 6 + 6 + 6 + 6 + 6 from by simp) (f := c_u8) (((((w7 ++ [(gd w11 0).x0, (gd w11 0).x1, (gd w11 0).x2, (gd w11 0).x3, (gd w11 0).x4, (gd w11 0).x5]) ++ [(gd w11 1).x0, (gd w11 1).x1, (gd w11 1).x2, (gd w11 1).x3, (gd w11 1).x4, (gd w11 1).x5]) ++ [(gd w11 2).x0, (gd w11 2).x1, (gd w11 2).x2, (gd w11 2).x3, (gd w11 2).x4, (gd w11 2).x5]) ++ [(gd w11 3).x0, (gd w11 3).x1, (gd w11 3).x2, (gd w11 3).x3, (gd w11 3).x4, (gd w11 3).x5]) ++ [(gd w11 4).x0, (gd w11 4).x1, (gd w11 4).x2, (gd w11 4).x3, (gd w11 4).x4, (gd w11 4).x5]) [(gd w11 5).x0, (gd w11 5).x1, (gd w11 5).x2, (gd w11 5).x3, (gd w11 5).x4, (gd w11 5).x5] (app_row2 (show ((((w7 ++ [(gd w11 0).x0, (gd w11 0).x1, (gd w11 0).x2, (gd w11 0).x3, (gd w11 0).x4, (gd w11 0).x5]) ++ [(gd w11 1).x0, (gd w11 1).x1, (gd w11 1).x2, (gd w11 1).x3, (gd w11 1).x4, (gd w11 1).x5]) ++ [(gd w11 2).x0, (gd w11 2).x1, (gd w11 2).x2, (gd w11 2).x3, (gd w11 2).x4, (gd w11 2).x5]) ++ [(gd w11 3).x0, (gd w11 3).x1, (gd w11 3).x2, (gd w11 3).x3, (gd w11 3).x4, (gd w11 3).x5]).length = w7.length + 6 + 6 + 6 + 6 from by simp) (f := c_u8) ((((w7 ++ [(gd w11 0).x0, (gd w11 0).x1, (gd w11 0).x2, (gd w11 0).x3, (gd w11 0).x4, (gd w11 0).x5]) ++ [(gd w11 1).x0, (gd w11 1).x1, (gd w11 1).x2, (gd w11 1).x3, (gd w11 1).x4, (gd w11 1).x5]) ++ [(gd w11 2).x0, (gd w11 2).x1, (gd w11 2).x2, (gd w11 2).x3, (gd w11 2).x4, (gd w11 2).x5]) ++ [(gd w11 3).x0, (gd w11 3).x1, (gd w11 3).x2, (gd w11 3).x3, (gd w11 3).x4, (gd w11 3).x5]) [(gd w11 4).x0, (gd w11 4).x1, (gd w11 4).x2, (gd w11 4).x3, (gd w11 4).x4, (gd w11 4).x5] (app_row2 (show (((w7 ++ [(gd w11 0).x0, (gd w11 0).x1, (gd w11 0).x2, (gd w11 0).x3, (gd w11 0).x4, (gd w11 0).x5]) ++ [(gd w11 1).x0, (gd w11 1).x1, (gd w11 1).x2, (gd w11 1).x3, (gd w11 1).x4, (gd w11 1).x5]) ++ [(gd w11 2).x0, (gd w11 2).x1, (gd w11 2).x2, (gd w11 2).x3, (gd w11 2).x4, (gd w11 2).x5]).length = w7.length + 6 + 6 + 6 from by simp) (f := c_u8) (((w7 ++ [(gd w11 0).x0, (gd w11 0).x1, (gd w11 0).x2, (gd w11 0).x3, (gd w11 0).x4, (gd w11 0).x5]) ++ [(gd w11 1).x0, (gd w11 1).x1, (gd w11 1).x2, (gd w11 1).x3, (gd w11 1).x4, (gd w11 1).x5]) ++ [(gd w11 2).x0, (gd w11 2).x1, (gd w11 2).x2, (gd w11 2).x3, (gd w11 2).x4, (gd w11 2).x5]) [(gd w11 3).x0, (gd w11 3).x1, (gd w11 3).x2, (gd w11 3).x3, (gd w11 3).x4, (gd w11 3).x5] (app_row2 (show ((w7 ++ [(gd w11 0).x0, (gd w11 0).x1, (gd w11 0).x2, (gd w11 0).x3, (gd w11 0).x4, (gd w11 0).x5]) ++ [(gd w11 1).x0, (gd w11 1).x1, (gd w11 1).x2, (gd w11 1).x3, (gd w11 1).x4, (gd w11 1).x5]).length = w7.length + 6 + 6 from by simp) (f := c_u8) ((w7 ++ [(gd w11 0).x0, (gd w11 0).x1, (gd w11 0).x2, (gd w11 0).x3, (gd w11 0).x4, (gd w11 0).x5]) ++ [(gd w11 1).x0, (gd w11 1).x1, (gd w11 1).x2, (gd w11 1).x3, (gd w11 1).x4, (gd w11 1).x5]) [(gd w11 2).x0, (gd w11 2).x1, (gd w11 2).x2, (gd w11 2).x3, (gd w11 2).x4, (gd w11 2).x5] (app_row2 (show (w7 ++ [(gd w11 0).x0, (gd w11 0).x1, (gd w11 0).x2, (gd w11 0).x3, (gd w11 0).x4, (gd w11 0).x5]).length = w7.length + 6 from by simp) (f := c_u8) (w7 ++ [(gd w11 0).x0, (gd w11 0).x1, (gd w11 0).x2, (gd w11 0).x3, (gd w11 0).x4, (gd w11 0).x5]) [(gd w11 1).x0, (gd w11 1).x1, (gd w11 1).x2, (gd w11 1).x3, (gd w11 1).x4, (gd w11 1).x5] (app_row (f := c_u8) w7 [(gd w11 0).x0, (gd w11 0).x1, (gd w11 0).x2, (gd w11 0).x3, (gd w11 0).x4, (gd w11 0).x5] (fun _ _ _ _ => rfl) (arr_row (L := [(gd w11 0).x0, (gd w11 0).x1, (gd w11 0).x2, (gd w11 0).x3, (gd w11 0).x4, (gd w11 0).x5]) (by intro x hx; match x, hx with | 0, _ => rfl | 1, _ => rfl | 2, _ => rfl | 3, _ => rfl | 4, _ => rfl | 5, _ => rfl | x + 6, hx => exact absurd hx (by simp)))) (arr_row (L := [(gd w11 1).x0, (gd w11 1).x1, (gd w11 1).x2, (gd w11 1).x3, (gd w11 1).x4, (gd w11 1).x5]) (by intro x hx; match x, hx with | 0, _ => rfl | 1, _ => rfl | 2, _ => rfl | 3, _ => rfl | 4, _ => rfl | 5, _ => rfl | x + 6, hx => exact absurd hx (by simp)))) (arr_row (L := [(gd w11 2).x0, (gd w11 2).x1, (gd w11 2).x2, (gd w11 2).x3, (gd w11 2).x4, (gd w11 2).x5]) (by intro x hx; match x, hx with | 0, _ => rfl | 1, _ => rfl | 2, _ => rfl | 3, _ => rfl | 4, _ => rfl | 5, _ => rfl | x + 6, hx => exact absurd hx (by simp)))) (arr_row (L := [(gd w11 3).x0, (gd w11 3).x1, (gd w11 3).x2, (gd w11 3).x3, (gd w11 3).x4, (gd w11 3).x5]) (by intro x hx; match x, hx with | 0, _ => rfl | 1, _ => rfl | 2, _ => rfl | 3, _ => rfl | 4, _ => rfl | 5, _ => rfl | x + 6, hx => exact absurd hx (by simp)))) (arr_row (L := [(gd w11 4).x0, (gd w11 4).x1, (gd w11 4).x2, (gd w11 4).x3, (gd w11 4).x4, (gd w11 4).x5]) (by intro x hx; match x, hx with | 0, _ => rfl | 1, _ => rfl | 2, _ => rfl | 3, _ => rfl | 4, _ => rfl | 5, _ => rfl | x + 6, hx => exact absurd hx (by simp)))) (arr_row (L := [(gd w11 5).x0, (gd w11 5).x1, (gd w11 5).x2, (gd w11 5).x3, (gd w11 5).x4, (gd w11 5).x5]) (by intro x hx; match x, hx with | 0, _ => rfl | 1, _ => rfl | 2, _ => rfl | 3, _ => rfl | 4, _ => rfl | 5, _ => rfl | x + 6, hx => exact absurd hx (by simp)))) (fun _ _ _ _ => rfl))
  · cases hb
end Go.Proofs.Ytbahnppiobafoaa
