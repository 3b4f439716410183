/-
  What ForwardReceives reaches.
-/
import Derived.Test.YtbahnppiobafoaaY4p1
namespace Go.Proofs.Ytbahnppiobafoaa
open Go.Am
set_option linter.unusedVariables false
set_option linter.unusedSimpArgs false
attribute [local go_sem] w_skip w_label w_goto w_scope k_goto b_goto l_goto s_normal s_exit s_ret s_goto w_region w_draw w_seq w_cond w_block w_exit w_ret w_loop k_normal k_exit k_ret b_normal b_exit b_ret l_normal l_exit l_ret m_normal m_exit m_ret m_goto kL_normal kL_exit kL_ret kS_normal kS_exit kS_ret kS_goto r_normal r_ret o_nil o_cons q_nil q_cons nxt gval gvd gvl gvw dstOf evO ogOp ogC og ogL ogP ogO rho rhoO strip optOk getL setL setT absC absV absL pO hO evLoad ldB geth seth evStore stRes stB evBox evAlloc evFieldAddr evField evIndexAddr evBin2 binI binB binNR binU nilR_isEmpty nilR_t nilR_0 nilR_s evInt evStr evUn evConv cvO evPick mrg evExtract evNil evCall mapR evBuiltin evLen2 vcells vcOk atom tabF cnd retK resFin resL resA resC resCons evBuild evBuildP placeS placeA fillA fillOk putL getP nxtQ pureC_eq pureR genC_eq genR roV roL roOb roObL roW roWL roWOb roWObL nref nrefL binA binN eqSh eqRes evIndex evIndex2 evIndexS evSlice evSlice2 evSliceS evBound evConv2 cvS evAppend appRes srcOf evMake evBuildSlice repL evFn evMin evMax freshC freshR sub_enR0 evClear evClearR evCopy evCopyR lenS cutS Bool.or_false Bool.false_or Bool.or_true Bool.true_or Bool.and_false Bool.false_and Option.map_some Option.map_none Option.getD_some Option.getD_none Option.bind_some Option.bind_none Option.or_some Option.or_none Option.none_or Option.isSome_none Option.isNone_none Option.isNone_some List.nil_append List.cons_append List.append_nil cond_true cond_false List.length_cons List.length_nil beq_self_eq_true Bool.and_true Bool.true_and Bool.not_true Bool.not_false true_and and_true and_self true_implies implies_true ne_eq not_false_eq_true Bool.false_eq_true Bool.true_eq_false false_implies Nat.lt_irrefl Nat.le_refl Nat.succ_ne_self imp_self Bool.cond_false_right Bool.cond_true_left decide_true decide_false Bool.not_eq_true' Bool.not_eq_false' Bool.not_not Nat.zero_mul Nat.zero_add Nat.add_zero Nat.mul_one Nat.one_mul Bool.cond_self tsz3 tby3 tagg3 tslice3 tarr3 tzero3 tzn3 tplaces3 tint3 tstr3 tnoint3 tbool3 tany3 tintk3 tbytes3 tsz4 tby4 tagg4 tslice4 tarr4 tzero4 tzn4 tplaces4 tint4 tstr4 tnoint4 tbool4 tany4 tintk4 tbytes4 tsz5 tby5 tagg5 tslice5 tarr5 tzero5 tzn5 tplaces5 tint5 tstr5 tnoint5 tbool5 tany5 tintk5 tbytes5 tsz9 tby9 tagg9 tslice9 tarr9 tzero9 tzn9 tplaces9 tint9 tstr9 tnoint9 tbool9 tany9 tintk9 tbytes9 tsz23 tby23 tagg23 tslice23 tarr23 tzero23 tzn23 tplaces23 tint23 tstr23 tnoint23 tbool23 tany23 tintk23 tbytes23 tsz24 tby24 tagg24 tslice24 tarr24 tzero24 tzn24 tplaces24 tint24 tstr24 tnoint24 tbool24 tany24 tintk24 tbytes24 tsz26 tby26 tagg26 tslice26 tarr26 tzero26 tzn26 tplaces26 tint26 tstr26 tnoint26 tbool26 tany26 tintk26 tbytes26 tfld26_0 tfld26_1 tfld26_2 tfld26_3 tfld26_4 tfld26_5 tfld26_6 tfld26_7 tfld26_8 tsz28 tby28 tagg28 tslice28 tarr28 tzero28 tzn28 tplaces28 tint28 tstr28 tnoint28 tbool28 tany28 tintk28 tbytes28 tsz29 tby29 tagg29 tslice29 tarr29 tzero29 tzn29 tplaces29 tint29 tstr29 tnoint29 tbool29 tany29 tintk29 tbytes29 tsz31 tby31 tagg31 tslice31 tarr31 tzero31 tzn31 tplaces31 tint31 tstr31 tnoint31 tbool31 tany31 tintk31 tbytes31 tfld31_0 tfld31_1 tfld31_2 tfld31_3 tsz33 tby33 tagg33 tslice33 tarr33 tzero33 tzn33 tplaces33 tint33 tstr33 tnoint33 tbool33 tany33 tintk33 tbytes33 tsz55 tby55 tagg55 tslice55 tarr55 tzero55 tzn55 tplaces55 tint55 tstr55 tnoint55 tbool55 tany55 tintk55 tbytes55 tsz59 tby59 tagg59 tslice59 tarr59 tzero59 tzn59 tplaces59 tint59 tstr59 tnoint59 tbool59 tany59 tintk59 tbytes59 tfld59_0 tfld59_1 tsz62 tby62 tagg62 tslice62 tarr62 tzn62 tplaces62 tint62 tstr62 tnoint62 tbool62 tany62 tintk62 tbytes62 tsz64 tby64 tagg64 tslice64 tarr64 tzero64 tzn64 tplaces64 tint64 tstr64 tnoint64 tbool64 tany64 tintk64 tbytes64 tsz70 tby70 tagg70 tslice70 tarr70 tzero70 tzn70 tplaces70 tint70 tstr70 tnoint70 tbool70 tany70 tintk70 tbytes70 tsz73 tby73 tagg73 tslice73 tarr73 tzero73 tzn73 tplaces73 tint73 tstr73 tnoint73 tbool73 tany73 tintk73 tbytes73 tsz75 tby75 tagg75 tslice75 tarr75 tzero75 tzn75 tplaces75 tint75 tstr75 tnoint75 tbool75 tany75 tintk75 tbytes75 tsz76 tby76 tagg76 tslice76 tarr76 tzero76 tzn76 tplaces76 tint76 tstr76 tnoint76 tbool76 tany76 tintk76 tbytes76 tsz78 tby78 tagg78 tslice78 tarr78 tzero78 tzn78 tplaces78 tint78 tstr78 tnoint78 tbool78 tany78 tintk78 tbytes78 tsz80 tby80 tagg80 tslice80 tarr80 tzero80 tzn80 tplaces80 tint80 tstr80 tnoint80 tbool80 tany80 tintk80 tbytes80 tfld80_0 tfld80_1 tsz84 tby84 tagg84 tslice84 tarr84 tzero84 tzn84 tplaces84 tint84 tstr84 tnoint84 tbool84 tany84 tintk84 tbytes84 tsz85 tby85 tagg85 tslice85 tarr85 tzero85 tzn85 tplaces85 tint85 tstr85 tnoint85 tbool85 tany85 tintk85 tbytes85 tsz86 tby86 tagg86 tslice86 tarr86 tzero86 tzn86 tplaces86 tint86 tstr86 tnoint86 tbool86 tany86 tintk86 tbytes86 tsz90 tby90 tagg90 tslice90 tarr90 tzero90 tzn90 tplaces90 tint90 tstr90 tnoint90 tbool90 tany90 tintk90 tbytes90 tfld90_0 tfld90_1 tsz105 tby105 tagg105 tslice105 tarr105 tzero105 tzn105 tplaces105 tint105 tstr105 tnoint105 tbool105 tany105 tintk105 tbytes105 tsz110 tby110 tagg110 tslice110 tarr110 tzero110 tzn110 tplaces110 tint110 tstr110 tnoint110 tbool110 tany110 tintk110 tbytes110 tsz114 tby114 tagg114 tslice114 tarr114 tzero114 tzn114 tplaces114 tint114 tstr114 tnoint114 tbool114 tany114 tintk114 tbytes114 e_u8_0 fit_u8 de_u8 g_u8 k_u8 e_i64_0 fit_i64 de_i64 g_i64 k_i64 e_b_0 fit_b de_b g_b k_b e_s_0 fit_s de_s g_s k_s e_A6u8_0 e_A6u8_1 e_A6u8_2 e_A6u8_3 e_A6u8_4 e_A6u8_5 fit_A6u8 de_A6u8 g_A6u8 k_A6u8 eta_A6u8 e_lu8_0 fit_lu8 de_lu8 g_lu8 k_lu8 e_TMeshFrame_0 e_TMeshFrame_1 e_TMeshFrame_2 e_TMeshFrame_3 e_TMeshFrame_4 e_TMeshFrame_5 e_TMeshFrame_6 e_TMeshFrame_7 e_TMeshFrame_8 e_TMeshFrame_9 e_TMeshFrame_10 e_TMeshFrame_11 e_TMeshFrame_12 e_TMeshFrame_13 e_TMeshFrame_14 e_TMeshFrame_15 e_TMeshFrame_16 e_TMeshFrame_17 e_TMeshFrame_18 e_TMeshFrame_19 e_TMeshFrame_20 e_TMeshFrame_21 e_TMeshFrame_22 e_TMeshFrame_23 e_TMeshFrame_24 e_TMeshFrame_25 e_TMeshFrame_26 e_TMeshFrame_27 e_TMeshFrame_28 e_TMeshFrame_29 e_TMeshFrame_30 e_TMeshFrame_31 e_TMeshFrame_32 e_TMeshFrame_33 e_TMeshFrame_34 e_TMeshFrame_35 e_TMeshFrame_36 e_TMeshFrame_37 e_TMeshFrame_38 fit_TMeshFrame de_TMeshFrame g_TMeshFrame k_TMeshFrame eta_TMeshFrame e_TForwardMark_0 e_TForwardMark_1 e_TForwardMark_2 e_TForwardMark_3 e_TForwardMark_4 e_TForwardMark_5 e_TForwardMark_6 fit_TForwardMark de_TForwardMark g_TForwardMark k_TForwardMark eta_TForwardMark e_lTForwardMark_0 fit_lTForwardMark de_lTForwardMark g_lTForwardMark k_lTForwardMark e_TForwardHop_0 e_TForwardHop_1 e_TForwardHop_2 e_TForwardHop_3 e_TForwardHop_4 e_TForwardHop_5 e_TForwardHop_6 e_TForwardHop_7 e_TForwardHop_8 e_TForwardHop_9 e_TForwardHop_10 e_TForwardHop_11 fit_TForwardHop de_TForwardHop g_TForwardHop k_TForwardHop eta_TForwardHop e_lTForwardHop_0 fit_lTForwardHop de_lTForwardHop g_lTForwardHop k_lTForwardHop e_TForward_0 e_TForward_1 e_TForward_2 e_TForward_3 e_TForward_4 e_TForward_5 e_TForward_6 e_TForward_7 e_TForward_8 fit_TForward de_TForward g_TForward k_TForward eta_TForward e_lTMeshFrame_0 fit_lTMeshFrame de_lTMeshFrame g_lTMeshFrame k_lTMeshFrame e_A8i64_0 e_A8i64_1 e_A8i64_2 e_A8i64_3 e_A8i64_4 e_A8i64_5 e_A8i64_6 e_A8i64_7 fit_A8i64 de_A8i64 g_A8i64 k_A8i64 eta_A8i64 e_li64_0 fit_li64 de_li64 g_li64 k_li64 e_A8b_0 e_A8b_1 e_A8b_2 e_A8b_3 e_A8b_4 e_A8b_5 e_A8b_6 e_A8b_7 fit_A8b de_A8b g_A8b k_A8b eta_A8b e_lb_0 fit_lb de_lb g_lb k_lb e_A8A8b_0 e_A8A8b_1 e_A8A8b_2 e_A8A8b_3 e_A8A8b_4 e_A8A8b_5 e_A8A8b_6 e_A8A8b_7 e_A8A8b_8 e_A8A8b_9 e_A8A8b_10 e_A8A8b_11 e_A8A8b_12 e_A8A8b_13 e_A8A8b_14 e_A8A8b_15 e_A8A8b_16 e_A8A8b_17 e_A8A8b_18 e_A8A8b_19 e_A8A8b_20 e_A8A8b_21 e_A8A8b_22 e_A8A8b_23 e_A8A8b_24 e_A8A8b_25 e_A8A8b_26 e_A8A8b_27 e_A8A8b_28 e_A8A8b_29 e_A8A8b_30 e_A8A8b_31 e_A8A8b_32 e_A8A8b_33 e_A8A8b_34 e_A8A8b_35 e_A8A8b_36 e_A8A8b_37 e_A8A8b_38 e_A8A8b_39 e_A8A8b_40 e_A8A8b_41 e_A8A8b_42 e_A8A8b_43 e_A8A8b_44 e_A8A8b_45 e_A8A8b_46 e_A8A8b_47 e_A8A8b_48 e_A8A8b_49 e_A8A8b_50 e_A8A8b_51 e_A8A8b_52 e_A8A8b_53 e_A8A8b_54 e_A8A8b_55 e_A8A8b_56 e_A8A8b_57 e_A8A8b_58 e_A8A8b_59 e_A8A8b_60 e_A8A8b_61 e_A8A8b_62 e_A8A8b_63 fit_A8A8b de_A8A8b g_A8A8b k_A8A8b eta_A8A8b e_Ttravel_0 e_Ttravel_1 e_Ttravel_2 e_Ttravel_3 e_Ttravel_4 e_Ttravel_5 e_Ttravel_6 e_Ttravel_7 e_Ttravel_8 e_Ttravel_9 e_Ttravel_10 e_Ttravel_11 e_Ttravel_12 e_Ttravel_13 e_Ttravel_14 e_Ttravel_15 e_Ttravel_16 e_Ttravel_17 e_Ttravel_18 e_Ttravel_19 e_Ttravel_20 e_Ttravel_21 e_Ttravel_22 e_Ttravel_23 e_Ttravel_24 e_Ttravel_25 e_Ttravel_26 e_Ttravel_27 e_Ttravel_28 e_Ttravel_29 e_Ttravel_30 e_Ttravel_31 e_Ttravel_32 e_Ttravel_33 e_Ttravel_34 e_Ttravel_35 e_Ttravel_36 e_Ttravel_37 e_Ttravel_38 e_Ttravel_39 fit_Ttravel de_Ttravel g_Ttravel k_Ttravel eta_Ttravel e_lTtravel_0 fit_lTtravel de_lTtravel g_lTtravel k_lTtravel e_u64_0 fit_u64 de_u64 g_u64 k_u64 e_lA6u8_0 fit_lA6u8 de_lA6u8 g_lA6u8 k_lA6u8 e_A6A6u8_0 e_A6A6u8_1 e_A6A6u8_2 e_A6A6u8_3 e_A6A6u8_4 e_A6A6u8_5 e_A6A6u8_6 e_A6A6u8_7 e_A6A6u8_8 e_A6A6u8_9 e_A6A6u8_10 e_A6A6u8_11 e_A6A6u8_12 e_A6A6u8_13 e_A6A6u8_14 e_A6A6u8_15 e_A6A6u8_16 e_A6A6u8_17 e_A6A6u8_18 e_A6A6u8_19 e_A6A6u8_20 e_A6A6u8_21 e_A6A6u8_22 e_A6A6u8_23 e_A6A6u8_24 e_A6A6u8_25 e_A6A6u8_26 e_A6A6u8_27 e_A6A6u8_28 e_A6A6u8_29 e_A6A6u8_30 e_A6A6u8_31 e_A6A6u8_32 e_A6A6u8_33 e_A6A6u8_34 e_A6A6u8_35 fit_A6A6u8 de_A6A6u8 g_A6A6u8 k_A6A6u8 eta_A6A6u8 deR_0 deR_1 deR_2 deR_3 deR_4 deR_5 deR_6 deR_7 deR_8 deR_9 deR_10 deR_11 deR_12 litC_x0 litC_x1 litC_x2 litC_x3 litC_x4 litC_x5 litC_x6 litC_x7 litC_x8 litC_x9 litC_x10 litC_x11 strE_u8 Fit_0 Option.isSome_some gt_some gd_one evCopyL tabR sub_enR List.drop_zero xrD xoD roEq minL rK rM rG aL aK iK bK sK lK iA bA sA lA or_true true_or Int.toNat_natCast shT_23 shT_59 shT_64 shT_73 shT_86 shT_90 Int.toNat_zero Int.cast_ofNat_Int aLs roD roDOb deadL edC edR nodupB rnm rnmL rnmB rnmH rnm_bif rnmB_bif putH dropH rhoN ptB slN litL celL pK isLit oS isRow inL fzV fzL fzOb fzObL fzH fzHF fzB fzObB fzObH rowOb
/-! hotspot/hotspotref41.Check -/
noncomputable def ct44t0 : Ct := tab [(45, pureC body45)]
theorem ct44t0_ok : CtOk Try.prog ct44t0 := tab_cons ok45 <| tab_nil
theorem ct44t0_45 (l : List AV) (h : List ABlk) : ct44t0 45 l h = pureC body45 l h := rfl
noncomputable def ct44t1 : Ct := tab [(28, pureC body28)]
theorem ct44t1_ok : CtOk Try.prog ct44t1 := tab_cons ok28 <| tab_nil
theorem ct44t1_28 (l : List AV) (h : List ABlk) : ct44t1 28 l h = pureC body28 l h := rfl
noncomputable def ct44t2 : Ct := tab [(45, pureC body45), (63, pureC body63)]
theorem ct44t2_ok : CtOk Try.prog ct44t2 := tab_cons ok45 <| tab_cons ok63 <| tab_nil
theorem ct44t2_45 (l : List AV) (h : List ABlk) : ct44t2 45 l h = pureC body45 l h := rfl
theorem ct44t2_63 (l : List AV) (h : List ABlk) : ct44t2 63 l h = pureC body63 l h := rfl
noncomputable def F44_L1 (p0 : TForward) (v1_1 : Int) : Option (Lp (Int) ((Unit) ⊕ (Int))) :=
  bif (bLt v1_1 (p0.Seen.length : Nat)) then (need (inb v1_1 p0.Seen.length) <| need (bif (!(bLt ((gd p0.Seen v1_1.toNat).Seq) 0)) then inb v1_1 p0.Seen.length else true) <| need (bif (!((bLt ((gd p0.Seen v1_1.toNat).Seq) 0) || (bLe 65536 ((gd p0.Seen v1_1.toNat).Seq)))) then slb 0 v1_1 p0.Seen.length else true) <| need (bif (!((bLt ((gd p0.Seen v1_1.toNat).Seq) 0) || (bLe 65536 ((gd p0.Seen v1_1.toNat).Seq)))) then inb v1_1 p0.Seen.length else true) <| need (bif (!((bLt ((gd p0.Seen v1_1.toNat).Seq) 0) || (bLe 65536 ((gd p0.Seen v1_1.toNat).Seq)))) then ((F28 (deR g_TForwardMark v1_1.toNat (enR c_TForwardMark p0.Seen)) (TForwardMark.mk (A6u8.mk (((gd p0.Seen v1_1.toNat).Enter).x0) (((gd p0.Seen v1_1.toNat).Enter).x1) (((gd p0.Seen v1_1.toNat).Enter).x2) (((gd p0.Seen v1_1.toNat).Enter).x3) (((gd p0.Seen v1_1.toNat).Enter).x4) (((gd p0.Seen v1_1.toNat).Enter).x5)) ((gd p0.Seen v1_1.toNat).Seq))).isSome) else true) <| bif (((bLt ((gd p0.Seen v1_1.toNat).Seq) 0) || (bLe 65536 ((gd p0.Seen v1_1.toNat).Seq))) || (gt (F28 (deR g_TForwardMark v1_1.toNat (enR c_TForwardMark p0.Seen)) (TForwardMark.mk (A6u8.mk (((gd p0.Seen v1_1.toNat).Enter).x0) (((gd p0.Seen v1_1.toNat).Enter).x1) (((gd p0.Seen v1_1.toNat).Enter).x2) (((gd p0.Seen v1_1.toNat).Enter).x3) (((gd p0.Seen v1_1.toNat).Enter).x4) (((gd p0.Seen v1_1.toNat).Enter).x5)) ((gd p0.Seen v1_1.toNat).Seq))))) then (some (.done (.inr 8))) else (some (.next (wr .i64 (v1_1 + 1))))) else (some (.done (.inl ())))
noncomputable def F44_L2 (p0 : TForward) (v2_1 : Int) : Option (Lp (Int) ((Unit) ⊕ (Int))) :=
  bif (bLt v2_1 (p0.Nexts.length : Nat)) then (need (inb v2_1 p0.Nexts.length) <| need (bif (!((bEq (((gd p0.Nexts v2_1.toNat).Dest).x0) p0.Own.x0 && (bEq (((gd p0.Nexts v2_1.toNat).Dest).x1) p0.Own.x1 && (bEq (((gd p0.Nexts v2_1.toNat).Dest).x2) p0.Own.x2 && (bEq (((gd p0.Nexts v2_1.toNat).Dest).x3) p0.Own.x3 && (bEq (((gd p0.Nexts v2_1.toNat).Dest).x4) p0.Own.x4 && (bEq (((gd p0.Nexts v2_1.toNat).Dest).x5) p0.Own.x5)))))) || (bEq (((gd p0.Nexts v2_1.toNat).Next).x0) p0.Own.x0 && (bEq (((gd p0.Nexts v2_1.toNat).Next).x1) p0.Own.x1 && (bEq (((gd p0.Nexts v2_1.toNat).Next).x2) p0.Own.x2 && (bEq (((gd p0.Nexts v2_1.toNat).Next).x3) p0.Own.x3 && (bEq (((gd p0.Nexts v2_1.toNat).Next).x4) p0.Own.x4 && (bEq (((gd p0.Nexts v2_1.toNat).Next).x5) p0.Own.x5)))))))) then ((F45 ((gd p0.Nexts v2_1.toNat).Dest)).isSome) else true) <| need (bif (!(((bEq (((gd p0.Nexts v2_1.toNat).Dest).x0) p0.Own.x0 && (bEq (((gd p0.Nexts v2_1.toNat).Dest).x1) p0.Own.x1 && (bEq (((gd p0.Nexts v2_1.toNat).Dest).x2) p0.Own.x2 && (bEq (((gd p0.Nexts v2_1.toNat).Dest).x3) p0.Own.x3 && (bEq (((gd p0.Nexts v2_1.toNat).Dest).x4) p0.Own.x4 && (bEq (((gd p0.Nexts v2_1.toNat).Dest).x5) p0.Own.x5)))))) || (bEq (((gd p0.Nexts v2_1.toNat).Next).x0) p0.Own.x0 && (bEq (((gd p0.Nexts v2_1.toNat).Next).x1) p0.Own.x1 && (bEq (((gd p0.Nexts v2_1.toNat).Next).x2) p0.Own.x2 && (bEq (((gd p0.Nexts v2_1.toNat).Next).x3) p0.Own.x3 && (bEq (((gd p0.Nexts v2_1.toNat).Next).x4) p0.Own.x4 && (bEq (((gd p0.Nexts v2_1.toNat).Next).x5) p0.Own.x5))))))) || (gt (F45 ((gd p0.Nexts v2_1.toNat).Dest))))) then ((F45 ((gd p0.Nexts v2_1.toNat).Next)).isSome) else true) <| need (bif ((!((((bEq (((gd p0.Nexts v2_1.toNat).Dest).x0) p0.Own.x0 && (bEq (((gd p0.Nexts v2_1.toNat).Dest).x1) p0.Own.x1 && (bEq (((gd p0.Nexts v2_1.toNat).Dest).x2) p0.Own.x2 && (bEq (((gd p0.Nexts v2_1.toNat).Dest).x3) p0.Own.x3 && (bEq (((gd p0.Nexts v2_1.toNat).Dest).x4) p0.Own.x4 && (bEq (((gd p0.Nexts v2_1.toNat).Dest).x5) p0.Own.x5)))))) || (bEq (((gd p0.Nexts v2_1.toNat).Next).x0) p0.Own.x0 && (bEq (((gd p0.Nexts v2_1.toNat).Next).x1) p0.Own.x1 && (bEq (((gd p0.Nexts v2_1.toNat).Next).x2) p0.Own.x2 && (bEq (((gd p0.Nexts v2_1.toNat).Next).x3) p0.Own.x3 && (bEq (((gd p0.Nexts v2_1.toNat).Next).x4) p0.Own.x4 && (bEq (((gd p0.Nexts v2_1.toNat).Next).x5) p0.Own.x5))))))) || (gt (F45 ((gd p0.Nexts v2_1.toNat).Dest)))) || (gt (F45 ((gd p0.Nexts v2_1.toNat).Next))))) && (bLt 0 v2_1)) then inb (wr .i64 (v2_1 - 1)) p0.Nexts.length else true) <| need (bif ((!((((bEq (((gd p0.Nexts v2_1.toNat).Dest).x0) p0.Own.x0 && (bEq (((gd p0.Nexts v2_1.toNat).Dest).x1) p0.Own.x1 && (bEq (((gd p0.Nexts v2_1.toNat).Dest).x2) p0.Own.x2 && (bEq (((gd p0.Nexts v2_1.toNat).Dest).x3) p0.Own.x3 && (bEq (((gd p0.Nexts v2_1.toNat).Dest).x4) p0.Own.x4 && (bEq (((gd p0.Nexts v2_1.toNat).Dest).x5) p0.Own.x5)))))) || (bEq (((gd p0.Nexts v2_1.toNat).Next).x0) p0.Own.x0 && (bEq (((gd p0.Nexts v2_1.toNat).Next).x1) p0.Own.x1 && (bEq (((gd p0.Nexts v2_1.toNat).Next).x2) p0.Own.x2 && (bEq (((gd p0.Nexts v2_1.toNat).Next).x3) p0.Own.x3 && (bEq (((gd p0.Nexts v2_1.toNat).Next).x4) p0.Own.x4 && (bEq (((gd p0.Nexts v2_1.toNat).Next).x5) p0.Own.x5))))))) || (gt (F45 ((gd p0.Nexts v2_1.toNat).Dest)))) || (gt (F45 ((gd p0.Nexts v2_1.toNat).Next))))) && (bLt 0 v2_1)) then ((F63 ((gd p0.Nexts ((wr .i64 (v2_1 - 1)).toNat)).Dest) ((gd p0.Nexts v2_1.toNat).Dest)).isSome) else true) <| bif (((((bEq (((gd p0.Nexts v2_1.toNat).Dest).x0) p0.Own.x0 && (bEq (((gd p0.Nexts v2_1.toNat).Dest).x1) p0.Own.x1 && (bEq (((gd p0.Nexts v2_1.toNat).Dest).x2) p0.Own.x2 && (bEq (((gd p0.Nexts v2_1.toNat).Dest).x3) p0.Own.x3 && (bEq (((gd p0.Nexts v2_1.toNat).Dest).x4) p0.Own.x4 && (bEq (((gd p0.Nexts v2_1.toNat).Dest).x5) p0.Own.x5)))))) || (bEq (((gd p0.Nexts v2_1.toNat).Next).x0) p0.Own.x0 && (bEq (((gd p0.Nexts v2_1.toNat).Next).x1) p0.Own.x1 && (bEq (((gd p0.Nexts v2_1.toNat).Next).x2) p0.Own.x2 && (bEq (((gd p0.Nexts v2_1.toNat).Next).x3) p0.Own.x3 && (bEq (((gd p0.Nexts v2_1.toNat).Next).x4) p0.Own.x4 && (bEq (((gd p0.Nexts v2_1.toNat).Next).x5) p0.Own.x5))))))) || (gt (F45 ((gd p0.Nexts v2_1.toNat).Dest)))) || (gt (F45 ((gd p0.Nexts v2_1.toNat).Next)))) || ((bLt 0 v2_1) && (!(gt (F63 ((gd p0.Nexts ((wr .i64 (v2_1 - 1)).toNat)).Dest) ((gd p0.Nexts v2_1.toNat).Dest)))))) then (some (.done (.inr 8))) else (some (.next (wr .i64 (v2_1 + 1))))) else (some (.done (.inl ())))
noncomputable def F44 (p0 : TForward) : Option (Int) :=
  (F45 p0.Own).bind fun r1 => bif ((((r1 || (bLt p0.Seq 0)) || (bLe 65536 p0.Seq)) || (bLt 128 (p0.Seen.length : Nat))) || (bLt 64 (p0.Nexts.length : Nat))) then (some 8) else (lp (loopD (fun s => F44_L1 p0 s) 0) (fun e => lp (loopD (fun s => F44_L2 p0 s) 0) (fun e => some 0) some) some)
noncomputable def body44 : List AV → AR
  | [v0] => .pure (aK 9 k_TForward v0 ∧ (F44 (g_TForward (aL v0))).isSome = true) (.int .i64 (gt (F44 (g_TForward (aL v0)))))
  | _ => .fail
set_option maxHeartbeats 4000000 in
set_option maxRecDepth 20000 in
theorem ok44 : FnOk Try.prog 44 (pureC body44) := by
  refine pure_fnM body44 (rs := [.tmp 2]) Try.func44 (by kernel_rfl) rfl rfl ?_
  intro l ob v hb hob
  unfold body44 at hb
  split at hb
  · rename_i v0
    injection hb with q1 q2; subst q1 q2
    obtain ⟨hk0_0, hob⟩ := hob
    obtain ⟨r, H⟩ := Option.isSome_iff_exists.1 hob
    rw [H, gt_some]
    have hw0 := wA_TForward hk0_0
    generalize g_TForward (aL v0) = p0 at H hw0
    refine ⟨[.agg [.int .u8 p0.Own.x0, .int .u8 p0.Own.x1, .int .u8 p0.Own.x2, .int .u8 p0.Own.x3, .int .u8 p0.Own.x4, .int .u8 p0.Own.x5, .int .i64 p0.Seq, .ro 7 p0.Seen.length false (enR c_TForwardMark p0.Seen), .ro 12 p0.Nexts.length false (enR c_TForwardHop p0.Nexts)]], _, (fun E vs F => FR_wk1 hw0.1 F (fun vs F => F)), rfl, rfl, ?_⟩
    rw [Try.ntmps44]
    simp only [List.length_cons, List.length_nil, Nat.reduceAdd, Nat.reduceSub, List.replicate_succ, List.replicate_zero, List.cons_append, List.nil_append]
    unfold F44 at H
    try dsimp only at H
    refine sq ctNo_ok ?_
    simp only [go_sem, Nat.reduceLeDiff, Nat.reduceLT, Nat.reduceAdd, Nat.reduceMul, Nat.reduceSub, Nat.reduceEqDiff, Nat.reduceBEq, Int.reduceToNat, reduceCtorEq]
    refine seqM ?_
    refine seqM ?_
    obtain ⟨r1, e2, H⟩ := bsi H
    refine rg ct44t0_ok ?_
    simp only [go_sem, Nat.reduceLeDiff, Nat.reduceLT, Nat.reduceAdd, Nat.reduceMul, Nat.reduceSub, Nat.reduceEqDiff, Nat.reduceBEq, Int.reduceToNat, reduceCtorEq, ct44t0_45, body45, e2]
    repeat ((with_reducible refine And.intro ?_ ?_); focus (first | (with_reducible trivial) | omega | (intro g; and_intros <;> first | (with_reducible trivial) | assumption | exact nfc | (intro g2; rw [g, g2]; rfl) | (intro g2; assumption) | (simp only [g, Bool.true_and, Bool.and_true, Bool.not_false, Bool.not_true]; assumption) | grind) | (and_intros <;> first | (with_reducible trivial) | omega | assumption | exact nfc | first | exact rfl | exact trivial | exact fitI | exact .inr rfl | exact .inl rfl | exact fun x hx => absurd hx (by omega)) | grind))
    refine condM rfl trivial (fun hc => ?_) (fun hc => ?_)
    · replace H := cond_t hc H
      refine sq ctNo_ok ?_
      simp only [go_sem, Nat.reduceLeDiff, Nat.reduceLT, Nat.reduceAdd, Nat.reduceMul, Nat.reduceSub, Nat.reduceEqDiff, Nat.reduceBEq, Int.reduceToNat, reduceCtorEq]
      refine rg ctNo_ok ?_
      simp only [go_sem, Nat.reduceLeDiff, Nat.reduceLT, Nat.reduceAdd, Nat.reduceMul, Nat.reduceSub, Nat.reduceEqDiff, Nat.reduceBEq, Int.reduceToNat, reduceCtorEq]
      obtain rfl := Option.some.inj H
      first | rfl | simp only [Bool.and_false, Bool.false_and, Bool.and_true, Bool.true_and]
    replace H := cond_f hc H
    refine rg ctNo_ok ?_
    simp only [go_sem, Nat.reduceLeDiff, Nat.reduceLT, Nat.reduceAdd, Nat.reduceMul, Nat.reduceSub, Nat.reduceEqDiff, Nat.reduceBEq, Int.reduceToNat, reduceCtorEq]
    refine seqM ?_
    refine sq ctNo_ok ?_
    simp only [go_sem, Nat.reduceLeDiff, Nat.reduceLT, Nat.reduceAdd, Nat.reduceMul, Nat.reduceSub, Nat.reduceEqDiff, Nat.reduceBEq, Int.reduceToNat, reduceCtorEq]
    refine blkM ?_
    refine loop_den (fun s : Int => (.top :: .ptr 0 0 0 0 :: .top :: .int .i64 s :: tp 113 [])) (fun s => [.lit 31 [.int .u8 p0.Own.x0, .int .u8 p0.Own.x1, .int .u8 p0.Own.x2, .int .u8 p0.Own.x3, .int .u8 p0.Own.x4, .int .u8 p0.Own.x5, .int .i64 p0.Seq, .ro 7 p0.Seen.length false (enR c_TForwardMark p0.Seen), .ro 12 p0.Nexts.length false (enR c_TForwardHop p0.Nexts)]]) (fun e : Unit => (.top :: .ptr 0 0 0 0 :: tp 115 [])) (fun e => [.lit 31 [.int .u8 p0.Own.x0, .int .u8 p0.Own.x1, .int .u8 p0.Own.x2, .int .u8 p0.Own.x3, .int .u8 p0.Own.x4, .int .u8 p0.Own.x5, .int .i64 p0.Seq, .ro 7 p0.Seen.length false (enR c_TForwardMark p0.Seen), .ro 12 p0.Nexts.length false (enR c_TForwardHop p0.Nexts)]]) H ?_ (fun v1_1 o H hn1_1 hn2_1 => ?_) (fun e H => ?_)
    · refine SubF_of ⟨[some 0], ?_, ?_, by rfl, by rfl⟩
      · simp [CvL, Cv, getM, tp]
      · exact ⟨(by simp [CvB, CvL, Cv, blkAt, geth, getM]), trivial⟩
    · unfold F44_L1 at H
      try dsimp only at H ⊢
      try simp only [tp]
      refine seqM ?_
      refine sq ctNo_ok ?_
      simp only [go_sem, Nat.reduceLeDiff, Nat.reduceLT, Nat.reduceAdd, Nat.reduceMul, Nat.reduceSub, Nat.reduceEqDiff, Nat.reduceBEq, Int.reduceToNat, reduceCtorEq]
      repeat ((with_reducible refine And.intro ?_ ?_); focus (first | (and_intros <;> first | (with_reducible trivial) | omega | assumption | exact nfc | first | exact rfl | exact trivial | exact fitI | exact .inr rfl | exact .inl rfl | exact fun x hx => absurd hx (by omega)) | grind))
      refine condM' rfl trivial (fun hc => ?_) (fun hc => ?_)
      · replace H := cond_f hc H
        refine rg ctNo_ok ?_
        simp only [go_sem, Nat.reduceLeDiff, Nat.reduceLT, Nat.reduceAdd, Nat.reduceMul, Nat.reduceSub, Nat.reduceEqDiff, Nat.reduceBEq, Int.reduceToNat, reduceCtorEq]
        refine ⟨_, (Option.some.inj H).symm, ?_⟩
        refine SubF_of ⟨[some 0], ?_, ?_, by rfl, by rfl⟩
        · simp [CvL, Cv, getM, tp]
        · exact ⟨(by simp [CvB, CvL, Cv, blkAt, geth, getM]), trivial⟩
      replace H := cond_t hc H
      refine rg ctNo_ok ?_
      simp only [go_sem, Nat.reduceLeDiff, Nat.reduceLT, Nat.reduceAdd, Nat.reduceMul, Nat.reduceSub, Nat.reduceEqDiff, Nat.reduceBEq, Int.reduceToNat, reduceCtorEq]
      refine seqM ?_
      refine blkM ?_
      refine seqM ?_
      obtain ⟨f3, H⟩ := need_some.1 H
      replace f3 := inb_iff.1 f3
      obtain ⟨f4, H⟩ := need_some.1 H
      replace f4 := g_iff.1 f4
      replace f4 := fun g => inb_iff.1 (f4 g)
      obtain ⟨f5, H⟩ := need_some.1 H
      replace f5 := g_iff.1 f5
      replace f5 := fun g => slb_iff.1 (f5 g)
      obtain ⟨f6, H⟩ := need_some.1 H
      replace f6 := g_iff.1 f6
      replace f6 := fun g => inb_iff.1 (f6 g)
      obtain ⟨f7, H⟩ := need_some.1 H
      replace f7 := g_iff.1 f7
      refine draw_quiet shT_ok ct44t1_ok (by kernel_rfl) (by kernel_rfl) ?_
      simp only [go_sem, Nat.reduceLeDiff, Nat.reduceLT, Nat.reduceAdd, Nat.reduceMul, Nat.reduceSub, Nat.reduceEqDiff, Nat.reduceBEq, Int.reduceToNat, reduceCtorEq, ct44t1_28, body28, f3]
      repeat ((with_reducible refine And.intro ?_ ?_); focus (first | (with_reducible trivial) | omega | exact f4 | exact f5 | exact f6 | exact f7 | (intro g; have q := f4 (by first | exact g | (rw [g]; rfl) | simpa using g); first | exact q | exact ⟨q.1, q.2.1⟩ | exact q.2.2 | omega | exact ⟨g, q⟩ | exact ⟨trivial, q⟩ | exact ⟨g, q.1, q.2.1⟩ | exact ⟨g, q.2.2⟩) | (intro g; have q := f5 (by first | exact g | (rw [g]; rfl) | simpa using g); first | exact q | exact ⟨q.1, q.2.1⟩ | exact q.2.2 | omega | exact ⟨g, q⟩ | exact ⟨trivial, q⟩ | exact ⟨g, q.1, q.2.1⟩ | exact ⟨g, q.2.2⟩) | (intro g; have q := f6 (by first | exact g | (rw [g]; rfl) | simpa using g); first | exact q | exact ⟨q.1, q.2.1⟩ | exact q.2.2 | omega | exact ⟨g, q⟩ | exact ⟨trivial, q⟩ | exact ⟨g, q.1, q.2.1⟩ | exact ⟨g, q.2.2⟩) | (intro g; have q := f7 (by first | exact g | (rw [g]; rfl) | simpa using g); first | exact q | exact ⟨q.1, q.2.1⟩ | exact q.2.2 | omega | exact ⟨g, q⟩ | exact ⟨trivial, q⟩ | exact ⟨g, q.1, q.2.1⟩ | exact ⟨g, q.2.2⟩) | (intro g; (try have q0 := f4 (by first | exact g | (rw [g]; rfl) | simpa using g)); (try have q1 := f5 (by first | exact g | (rw [g]; rfl) | simpa using g)); (try have q2 := f6 (by first | exact g | (rw [g]; rfl) | simpa using g)); (try have q3 := f7 (by first | exact g | (rw [g]; rfl) | simpa using g)); and_intros <;> first | (with_reducible trivial) | assumption | exact nfc | (intro g2; rw [g, g2]; rfl) | (intro g2; assumption) | (simp only [g, Bool.true_and, Bool.and_true, Bool.not_false, Bool.not_true]; assumption) | grind) | (and_intros <;> first | (with_reducible trivial) | omega | assumption | exact nfc | first | exact rfl | exact trivial | exact fitI | exact .inr rfl | exact .inl rfl | exact fun x hx => absurd hx (by omega)) | grind))
      refine condM rfl trivial (fun hc => ?_) (fun hc => ?_)
      · replace H := cond_t hc H
        refine sq ctNo_ok ?_
        simp only [go_sem, Nat.reduceLeDiff, Nat.reduceLT, Nat.reduceAdd, Nat.reduceMul, Nat.reduceSub, Nat.reduceEqDiff, Nat.reduceBEq, Int.reduceToNat, reduceCtorEq]
        refine rg ctNo_ok ?_
        simp only [go_sem, Nat.reduceLeDiff, Nat.reduceLT, Nat.reduceAdd, Nat.reduceMul, Nat.reduceSub, Nat.reduceEqDiff, Nat.reduceBEq, Int.reduceToNat, reduceCtorEq]
        have H := hn2_1 _ (Option.some.inj H).symm
        obtain rfl := Option.some.inj H
        first | rfl | simp only [Bool.and_false, Bool.false_and, Bool.and_true, Bool.true_and]
      replace H := cond_f hc H
      refine rg ctNo_ok ?_
      simp only [go_sem, Nat.reduceLeDiff, Nat.reduceLT, Nat.reduceAdd, Nat.reduceMul, Nat.reduceSub, Nat.reduceEqDiff, Nat.reduceBEq, Int.reduceToNat, reduceCtorEq]
      refine rg ctNo_ok ?_
      simp only [go_sem, Nat.reduceLeDiff, Nat.reduceLT, Nat.reduceAdd, Nat.reduceMul, Nat.reduceSub, Nat.reduceEqDiff, Nat.reduceBEq, Int.reduceToNat, reduceCtorEq]
      refine ⟨_, (Option.some.inj H).symm, ?_⟩
      refine SubF_of ⟨[some 0], ?_, ?_, by rfl, by rfl⟩
      · simp [CvL, Cv, getM, tp]
      · exact ⟨(by simp [CvB, CvL, Cv, blkAt, geth, getM]), trivial⟩
    · try dsimp only at H ⊢
      try simp only [tp]
      try simp only [m_normal, k_normal, b_normal, kL_normal, r_normal]
      refine seqM ?_
      refine sq ctNo_ok ?_
      simp only [go_sem, Nat.reduceLeDiff, Nat.reduceLT, Nat.reduceAdd, Nat.reduceMul, Nat.reduceSub, Nat.reduceEqDiff, Nat.reduceBEq, Int.reduceToNat, reduceCtorEq]
      refine blkM ?_
      refine loop_den (fun s : Int => (.top :: .ptr 0 0 0 0 :: .top :: .top :: .int .i64 s :: tp 112 [])) (fun s => [.lit 31 [.int .u8 p0.Own.x0, .int .u8 p0.Own.x1, .int .u8 p0.Own.x2, .int .u8 p0.Own.x3, .int .u8 p0.Own.x4, .int .u8 p0.Own.x5, .int .i64 p0.Seq, .ro 7 p0.Seen.length false (enR c_TForwardMark p0.Seen), .ro 12 p0.Nexts.length false (enR c_TForwardHop p0.Nexts)]]) (fun e : Unit => (tp 117 [])) (fun e => [.dead]) H ?_ (fun v2_1 o H hn1_2 hn2_2 => ?_) (fun e H => ?_)
      · refine SubF_of ⟨[some 0], ?_, ?_, by rfl, by rfl⟩
        · simp [CvL, Cv, getM, tp]
        · exact ⟨(by simp [CvB, CvL, Cv, blkAt, geth, getM]), trivial⟩
      · unfold F44_L2 at H
        try dsimp only at H ⊢
        try simp only [tp]
        refine seqM ?_
        refine sq ctNo_ok ?_
        simp only [go_sem, Nat.reduceLeDiff, Nat.reduceLT, Nat.reduceAdd, Nat.reduceMul, Nat.reduceSub, Nat.reduceEqDiff, Nat.reduceBEq, Int.reduceToNat, reduceCtorEq]
        repeat ((with_reducible refine And.intro ?_ ?_); focus (first | (and_intros <;> first | (with_reducible trivial) | omega | assumption | exact nfc | first | exact rfl | exact trivial | exact fitI | exact .inr rfl | exact .inl rfl | exact fun x hx => absurd hx (by omega)) | grind))
        refine condM' rfl trivial (fun hc => ?_) (fun hc => ?_)
        · replace H := cond_f hc H
          refine rg ctNo_ok ?_
          simp only [go_sem, Nat.reduceLeDiff, Nat.reduceLT, Nat.reduceAdd, Nat.reduceMul, Nat.reduceSub, Nat.reduceEqDiff, Nat.reduceBEq, Int.reduceToNat, reduceCtorEq]
          refine ⟨_, (Option.some.inj H).symm, ?_⟩
          refine SubF_of ⟨[some 0], ?_, ?_, by rfl, by rfl⟩
          · simp [CvL, Cv, getM, tp]
          · exact ⟨CvB_dead, trivial⟩
        replace H := cond_t hc H
        refine rg ctNo_ok ?_
        simp only [go_sem, Nat.reduceLeDiff, Nat.reduceLT, Nat.reduceAdd, Nat.reduceMul, Nat.reduceSub, Nat.reduceEqDiff, Nat.reduceBEq, Int.reduceToNat, reduceCtorEq]
        refine seqM ?_
        refine blkM ?_
        refine seqM ?_
        obtain ⟨f8, H⟩ := need_some.1 H
        replace f8 := inb_iff.1 f8
        refine rg ctNo_ok ?_
        simp only [go_sem, Nat.reduceLeDiff, Nat.reduceLT, Nat.reduceAdd, Nat.reduceMul, Nat.reduceSub, Nat.reduceEqDiff, Nat.reduceBEq, Int.reduceToNat, reduceCtorEq, f8]
        repeat ((with_reducible refine And.intro ?_ ?_); focus (first | (with_reducible trivial) | omega | grind))
        refine seqM ?_
        obtain ⟨f9, H⟩ := need_some.1 H
        replace f9 := g_iff.1 f9
        obtain ⟨f10, H⟩ := need_some.1 H
        replace f10 := g_iff.1 f10
        obtain ⟨f11, H⟩ := need_some.1 H
        replace f11 := g_iff.1 f11
        replace f11 := fun g => inb_iff.1 (f11 g)
        obtain ⟨f12, H⟩ := need_some.1 H
        replace f12 := g_iff.1 f12
        refine draw_quiet shT_ok ct44t2_ok (by kernel_rfl) (by kernel_rfl) ?_
        simp only [go_sem, Nat.reduceLeDiff, Nat.reduceLT, Nat.reduceAdd, Nat.reduceMul, Nat.reduceSub, Nat.reduceEqDiff, Nat.reduceBEq, Int.reduceToNat, reduceCtorEq, ct44t2_45, body45, ct44t2_63, body63]
        repeat ((with_reducible refine And.intro ?_ ?_); focus (first | (with_reducible trivial) | omega | exact f9 | exact f10 | exact f11 | exact f12 | (intro g; have q := f9 (by first | exact g | (rw [g]; rfl) | simpa using g); first | exact q | exact ⟨q.1, q.2.1⟩ | exact q.2.2 | omega | exact ⟨g, q⟩ | exact ⟨trivial, q⟩ | exact ⟨g, q.1, q.2.1⟩ | exact ⟨g, q.2.2⟩) | (intro g; have q := f10 (by first | exact g | (rw [g]; rfl) | simpa using g); first | exact q | exact ⟨q.1, q.2.1⟩ | exact q.2.2 | omega | exact ⟨g, q⟩ | exact ⟨trivial, q⟩ | exact ⟨g, q.1, q.2.1⟩ | exact ⟨g, q.2.2⟩) | (intro g; have q := f11 (by first | exact g | (rw [g]; rfl) | simpa using g); first | exact q | exact ⟨q.1, q.2.1⟩ | exact q.2.2 | omega | exact ⟨g, q⟩ | exact ⟨trivial, q⟩ | exact ⟨g, q.1, q.2.1⟩ | exact ⟨g, q.2.2⟩) | (intro g; have q := f12 (by first | exact g | (rw [g]; rfl) | simpa using g); first | exact q | exact ⟨q.1, q.2.1⟩ | exact q.2.2 | omega | exact ⟨g, q⟩ | exact ⟨trivial, q⟩ | exact ⟨g, q.1, q.2.1⟩ | exact ⟨g, q.2.2⟩) | (intro g; (try have q0 := f9 (by first | exact g | (rw [g]; rfl) | simpa using g)); (try have q1 := f10 (by first | exact g | (rw [g]; rfl) | simpa using g)); (try have q2 := f11 (by first | exact g | (rw [g]; rfl) | simpa using g)); (try have q3 := f12 (by first | exact g | (rw [g]; rfl) | simpa using g)); and_intros <;> first | (with_reducible trivial) | assumption | exact nfc | (intro g2; rw [g, g2]; rfl) | (intro g2; assumption) | (simp only [g, Bool.true_and, Bool.and_true, Bool.not_false, Bool.not_true]; assumption) | grind) | (and_intros <;> first | (with_reducible trivial) | omega | assumption | exact nfc | first | exact rfl | exact trivial | exact fitI | exact .inr rfl | exact .inl rfl | exact fun x hx => absurd hx (by omega)) | grind))
        refine condM rfl trivial (fun hc => ?_) (fun hc => ?_)
        · replace H := cond_t hc H
          refine sq ctNo_ok ?_
          simp only [go_sem, Nat.reduceLeDiff, Nat.reduceLT, Nat.reduceAdd, Nat.reduceMul, Nat.reduceSub, Nat.reduceEqDiff, Nat.reduceBEq, Int.reduceToNat, reduceCtorEq]
          refine rg ctNo_ok ?_
          simp only [go_sem, Nat.reduceLeDiff, Nat.reduceLT, Nat.reduceAdd, Nat.reduceMul, Nat.reduceSub, Nat.reduceEqDiff, Nat.reduceBEq, Int.reduceToNat, reduceCtorEq]
          have H := hn2_2 _ (Option.some.inj H).symm
          obtain rfl := Option.some.inj H
          first | rfl | simp only [Bool.and_false, Bool.false_and, Bool.and_true, Bool.true_and]
        replace H := cond_f hc H
        refine rg ctNo_ok ?_
        simp only [go_sem, Nat.reduceLeDiff, Nat.reduceLT, Nat.reduceAdd, Nat.reduceMul, Nat.reduceSub, Nat.reduceEqDiff, Nat.reduceBEq, Int.reduceToNat, reduceCtorEq]
        refine rg ctNo_ok ?_
        simp only [go_sem, Nat.reduceLeDiff, Nat.reduceLT, Nat.reduceAdd, Nat.reduceMul, Nat.reduceSub, Nat.reduceEqDiff, Nat.reduceBEq, Int.reduceToNat, reduceCtorEq]
        refine ⟨_, (Option.some.inj H).symm, ?_⟩
        refine SubF_of ⟨[some 0], ?_, ?_, by rfl, by rfl⟩
        · simp [CvL, Cv, getM, tp]
        · exact ⟨(by simp [CvB, CvL, Cv, blkAt, geth, getM]), trivial⟩
      · try dsimp only at H ⊢
        try simp only [tp]
        try simp only [m_normal, k_normal, b_normal, kL_normal, r_normal]
        refine sq ctNo_ok ?_
        simp only [go_sem, Nat.reduceLeDiff, Nat.reduceLT, Nat.reduceAdd, Nat.reduceMul, Nat.reduceSub, Nat.reduceEqDiff, Nat.reduceBEq, Int.reduceToNat, reduceCtorEq]
        refine rg ctNo_ok ?_
        simp only [go_sem, Nat.reduceLeDiff, Nat.reduceLT, Nat.reduceAdd, Nat.reduceMul, Nat.reduceSub, Nat.reduceEqDiff, Nat.reduceBEq, Int.reduceToNat, reduceCtorEq]
        obtain rfl := Option.some.inj H
        first | rfl | simp only [Bool.and_false, Bool.false_and, Bool.and_true, Bool.true_and]
  · cases hb
/-! hotspot/hotspotref41.CheckFrame -/
noncomputable def ct24t0 : Ct := tab [(45, pureC body45)]
theorem ct24t0_ok : CtOk Try.prog ct24t0 := tab_cons ok45 <| tab_nil
theorem ct24t0_45 (l : List AV) (h : List ABlk) : ct24t0 45 l h = pureC body45 l h := rfl
noncomputable def F24 (p0 : TMeshFrame) : Option (Int) :=
  (F45 p0.From).bind fun r1 => need (bif (!r1) then ((F45 p0.Enter).isSome) else true) <| need (bif (!(r1 || (gt (F45 p0.Enter)))) then ((F45 p0.To).isSome) else true) <| need (bif ((!(r1 || (gt (F45 p0.Enter)))) && (gt (F45 p0.To))) then ((F45 p0.Leave).isSome) else true) <| need (bif (!((r1 || (gt (F45 p0.Enter))) || ((gt (F45 p0.To)) && (!(gt (F45 p0.Leave)))))) then ((F45 p0.To).isSome) else true) <| need (bif ((!((r1 || (gt (F45 p0.Enter))) || ((gt (F45 p0.To)) && (!(gt (F45 p0.Leave)))))) && (!(gt (F45 p0.To)))) then ((F45 p0.Leave).isSome) else true) <| bif (((r1 || (gt (F45 p0.Enter))) || ((gt (F45 p0.To)) && (!(gt (F45 p0.Leave))))) || ((!(gt (F45 p0.To))) && (gt (F45 p0.Leave)))) then (some 8) else (bif (((((bLt p0.Seq 0) || (bLe 65536 p0.Seq)) || (bLt p0.Ttl 1)) || (bLt 31 p0.Ttl)) || (bLt 2264 (p0.Data.length : Nat))) then (some 8) else (some 0))
noncomputable def body24 : List AV → AR
  | [v0] => .pure (aK 39 k_TMeshFrame v0 ∧ (F24 (g_TMeshFrame (aL v0))).isSome = true) (.int .i64 (gt (F24 (g_TMeshFrame (aL v0)))))
  | _ => .fail
set_option maxHeartbeats 4000000 in
set_option maxRecDepth 20000 in
theorem ok24 : FnOk Try.prog 24 (pureC body24) := by
  refine pure_fnM body24 (rs := [.tmp 2]) Try.func24 (by kernel_rfl) rfl rfl ?_
  intro l ob v hb hob
  unfold body24 at hb
  split at hb
  · rename_i v0
    injection hb with q1 q2; subst q1 q2
    obtain ⟨hk0_0, hob⟩ := hob
    obtain ⟨r, H⟩ := Option.isSome_iff_exists.1 hob
    rw [H, gt_some]
    have hw0 := wA_TMeshFrame hk0_0
    generalize g_TMeshFrame (aL v0) = p0 at H hw0
    refine ⟨[.agg (.int .u8 p0.From.x0 :: .int .u8 p0.From.x1 :: .int .u8 p0.From.x2 :: .int .u8 p0.From.x3 :: .int .u8 p0.From.x4 :: .int .u8 p0.From.x5 :: .int .u8 p0.To.x0 :: .int .u8 p0.To.x1 :: .int .u8 p0.To.x2 :: .int .u8 p0.To.x3 :: .int .u8 p0.To.x4 :: .int .u8 p0.To.x5 :: .int .u8 p0.Enter.x0 :: .int .u8 p0.Enter.x1 :: .int .u8 p0.Enter.x2 :: .int .u8 p0.Enter.x3 :: .int .u8 p0.Enter.x4 :: .int .u8 p0.Enter.x5 :: .int .u8 p0.Leave.x0 :: .int .u8 p0.Leave.x1 :: .int .u8 p0.Leave.x2 :: .int .u8 p0.Leave.x3 :: .int .u8 p0.Leave.x4 :: .int .u8 p0.Leave.x5 :: .int .u8 p0.Source.x0 :: .int .u8 p0.Source.x1 :: .int .u8 p0.Source.x2 :: .int .u8 p0.Source.x3 :: .int .u8 p0.Source.x4 :: .int .u8 p0.Source.x5 :: .int .u8 p0.Target.x0 :: .int .u8 p0.Target.x1 :: .int .u8 p0.Target.x2 :: .int .u8 p0.Target.x3 :: .int .u8 p0.Target.x4 :: .int .u8 p0.Target.x5 :: .int .i64 p0.Seq :: .int .i64 p0.Ttl :: .ro 1 p0.Data.length false (enR c_u8 p0.Data) :: [])], _, (fun E vs F => FR_wk1 hw0.1 F (fun vs F => F)), rfl, rfl, ?_⟩
    rw [Try.ntmps24]
    simp only [List.length_cons, List.length_nil, Nat.reduceAdd, Nat.reduceSub, List.replicate_succ, List.replicate_zero, List.cons_append, List.nil_append]
    unfold F24 at H
    try dsimp only at H
    refine sq ctNo_ok ?_
    simp only [go_sem, Nat.reduceLeDiff, Nat.reduceLT, Nat.reduceAdd, Nat.reduceMul, Nat.reduceSub, Nat.reduceEqDiff, Nat.reduceBEq, Int.reduceToNat, reduceCtorEq]
    refine seqM ?_
    refine seqM ?_
    obtain ⟨r1, e2, H⟩ := bsi H
    obtain ⟨f3, H⟩ := need_some.1 H
    replace f3 := g_iff.1 f3
    obtain ⟨f4, H⟩ := need_some.1 H
    replace f4 := g_iff.1 f4
    obtain ⟨f5, H⟩ := need_some.1 H
    replace f5 := g_iff.1 f5
    obtain ⟨f6, H⟩ := need_some.1 H
    replace f6 := g_iff.1 f6
    obtain ⟨f7, H⟩ := need_some.1 H
    replace f7 := g_iff.1 f7
    refine rg ct24t0_ok ?_
    simp only [go_sem, Nat.reduceLeDiff, Nat.reduceLT, Nat.reduceAdd, Nat.reduceMul, Nat.reduceSub, Nat.reduceEqDiff, Nat.reduceBEq, Int.reduceToNat, reduceCtorEq, ct24t0_45, body45, e2]
    repeat ((with_reducible refine And.intro ?_ ?_); focus (first | (with_reducible trivial) | omega | exact f3 | exact f4 | exact f5 | exact f6 | exact f7 | (intro g; have q := f3 (by first | exact g | (rw [g]; rfl) | simpa using g); first | exact q | exact ⟨q.1, q.2.1⟩ | exact q.2.2 | omega | exact ⟨g, q⟩ | exact ⟨trivial, q⟩ | exact ⟨g, q.1, q.2.1⟩ | exact ⟨g, q.2.2⟩) | (intro g; have q := f4 (by first | exact g | (rw [g]; rfl) | simpa using g); first | exact q | exact ⟨q.1, q.2.1⟩ | exact q.2.2 | omega | exact ⟨g, q⟩ | exact ⟨trivial, q⟩ | exact ⟨g, q.1, q.2.1⟩ | exact ⟨g, q.2.2⟩) | (intro g; have q := f5 (by first | exact g | (rw [g]; rfl) | simpa using g); first | exact q | exact ⟨q.1, q.2.1⟩ | exact q.2.2 | omega | exact ⟨g, q⟩ | exact ⟨trivial, q⟩ | exact ⟨g, q.1, q.2.1⟩ | exact ⟨g, q.2.2⟩) | (intro g; have q := f6 (by first | exact g | (rw [g]; rfl) | simpa using g); first | exact q | exact ⟨q.1, q.2.1⟩ | exact q.2.2 | omega | exact ⟨g, q⟩ | exact ⟨trivial, q⟩ | exact ⟨g, q.1, q.2.1⟩ | exact ⟨g, q.2.2⟩) | (intro g; have q := f7 (by first | exact g | (rw [g]; rfl) | simpa using g); first | exact q | exact ⟨q.1, q.2.1⟩ | exact q.2.2 | omega | exact ⟨g, q⟩ | exact ⟨trivial, q⟩ | exact ⟨g, q.1, q.2.1⟩ | exact ⟨g, q.2.2⟩) | (intro g; (try have q0 := f3 (by first | exact g | (rw [g]; rfl) | simpa using g)); (try have q1 := f4 (by first | exact g | (rw [g]; rfl) | simpa using g)); (try have q2 := f5 (by first | exact g | (rw [g]; rfl) | simpa using g)); (try have q3 := f6 (by first | exact g | (rw [g]; rfl) | simpa using g)); (try have q4 := f7 (by first | exact g | (rw [g]; rfl) | simpa using g)); and_intros <;> first | (with_reducible trivial) | assumption | exact nfc | (intro g2; rw [g, g2]; rfl) | (intro g2; assumption) | (simp only [g, Bool.true_and, Bool.and_true, Bool.not_false, Bool.not_true]; assumption) | grind) | (and_intros <;> first | (with_reducible trivial) | omega | assumption | exact nfc | first | exact rfl | exact trivial | exact fitI | exact .inr rfl | exact .inl rfl | exact fun x hx => absurd hx (by omega)) | grind))
    refine condM rfl trivial (fun hc => ?_) (fun hc => ?_)
    · replace H := cond_t hc H
      refine sq ctNo_ok ?_
      simp only [go_sem, Nat.reduceLeDiff, Nat.reduceLT, Nat.reduceAdd, Nat.reduceMul, Nat.reduceSub, Nat.reduceEqDiff, Nat.reduceBEq, Int.reduceToNat, reduceCtorEq]
      refine rg ctNo_ok ?_
      simp only [go_sem, Nat.reduceLeDiff, Nat.reduceLT, Nat.reduceAdd, Nat.reduceMul, Nat.reduceSub, Nat.reduceEqDiff, Nat.reduceBEq, Int.reduceToNat, reduceCtorEq]
      obtain rfl := Option.some.inj H
      first | rfl | simp only [Bool.and_false, Bool.false_and, Bool.and_true, Bool.true_and]
    replace H := cond_f hc H
    refine rg ctNo_ok ?_
    simp only [go_sem, Nat.reduceLeDiff, Nat.reduceLT, Nat.reduceAdd, Nat.reduceMul, Nat.reduceSub, Nat.reduceEqDiff, Nat.reduceBEq, Int.reduceToNat, reduceCtorEq]
    refine seqM ?_
    refine sq ctNo_ok ?_
    simp only [go_sem, Nat.reduceLeDiff, Nat.reduceLT, Nat.reduceAdd, Nat.reduceMul, Nat.reduceSub, Nat.reduceEqDiff, Nat.reduceBEq, Int.reduceToNat, reduceCtorEq]
    repeat ((with_reducible refine And.intro ?_ ?_); focus (first | (with_reducible trivial) | omega | (intro g; and_intros <;> first | (with_reducible trivial) | assumption | exact nfc | (intro g2; rw [g, g2]; rfl) | (intro g2; assumption) | (simp only [g, Bool.true_and, Bool.and_true, Bool.not_false, Bool.not_true]; assumption) | grind) | (and_intros <;> first | (with_reducible trivial) | omega | assumption | exact nfc | first | exact rfl | exact trivial | exact fitI | exact .inr rfl | exact .inl rfl | exact fun x hx => absurd hx (by omega)) | grind))
    refine condM rfl trivial (fun hc => ?_) (fun hc => ?_)
    · replace H := cond_t hc H
      refine sq ctNo_ok ?_
      simp only [go_sem, Nat.reduceLeDiff, Nat.reduceLT, Nat.reduceAdd, Nat.reduceMul, Nat.reduceSub, Nat.reduceEqDiff, Nat.reduceBEq, Int.reduceToNat, reduceCtorEq]
      refine rg ctNo_ok ?_
      simp only [go_sem, Nat.reduceLeDiff, Nat.reduceLT, Nat.reduceAdd, Nat.reduceMul, Nat.reduceSub, Nat.reduceEqDiff, Nat.reduceBEq, Int.reduceToNat, reduceCtorEq]
      obtain rfl := Option.some.inj H
      first | rfl | simp only [Bool.and_false, Bool.false_and, Bool.and_true, Bool.true_and]
    replace H := cond_f hc H
    refine rg ctNo_ok ?_
    simp only [go_sem, Nat.reduceLeDiff, Nat.reduceLT, Nat.reduceAdd, Nat.reduceMul, Nat.reduceSub, Nat.reduceEqDiff, Nat.reduceBEq, Int.reduceToNat, reduceCtorEq]
    refine sq ctNo_ok ?_
    simp only [go_sem, Nat.reduceLeDiff, Nat.reduceLT, Nat.reduceAdd, Nat.reduceMul, Nat.reduceSub, Nat.reduceEqDiff, Nat.reduceBEq, Int.reduceToNat, reduceCtorEq]
    refine rg ctNo_ok ?_
    simp only [go_sem, Nat.reduceLeDiff, Nat.reduceLT, Nat.reduceAdd, Nat.reduceMul, Nat.reduceSub, Nat.reduceEqDiff, Nat.reduceBEq, Int.reduceToNat, reduceCtorEq]
    obtain rfl := Option.some.inj H
    first | rfl | simp only [Bool.and_false, Bool.false_and, Bool.and_true, Bool.true_and]
  · cases hb
/-! hotspot/hotspotref41.remembered -/
noncomputable def ct46t0 : Ct := tab [(19, edC body19)]
theorem ct46t0_ok : CtOk Try.prog ct46t0 := tab_cons ok19 <| tab_nil
theorem ct46t0_19 (l : List AV) (h : List ABlk) : ct46t0 19 l h = edC body19 l h := rfl
noncomputable def F46_L1 (p0 : TForward) (p1 : TForwardMark) (v1_1 : Int) (v1_2 : List TForwardMark) : Option (Lp (Int × (List TForwardMark)) ((List TForwardMark) ⊕ (TForward))) :=
  bif (bLt v1_1 (p0.Seen.length : Nat)) then (need (inb v1_1 p0.Seen.length) <| bif (!(bEq (((gd p0.Seen v1_1.toNat).Enter).x0) p1.Enter.x0 && (bEq (((gd p0.Seen v1_1.toNat).Enter).x1) p1.Enter.x1 && (bEq (((gd p0.Seen v1_1.toNat).Enter).x2) p1.Enter.x2 && (bEq (((gd p0.Seen v1_1.toNat).Enter).x3) p1.Enter.x3 && (bEq (((gd p0.Seen v1_1.toNat).Enter).x4) p1.Enter.x4 && (bEq (((gd p0.Seen v1_1.toNat).Enter).x5) p1.Enter.x5 && (bEq ((gd p0.Seen v1_1.toNat).Seq) p1.Seq)))))))) then (need (inb v1_1 p0.Seen.length) <| need (capb 16 (v1_2.length + 1)) <| some (.next (wr .i64 (v1_1 + 1), (v1_2 ++ [(TForwardMark.mk (A6u8.mk (((gd p0.Seen v1_1.toNat).Enter).x0) (((gd p0.Seen v1_1.toNat).Enter).x1) (((gd p0.Seen v1_1.toNat).Enter).x2) (((gd p0.Seen v1_1.toNat).Enter).x3) (((gd p0.Seen v1_1.toNat).Enter).x4) (((gd p0.Seen v1_1.toNat).Enter).x5)) ((gd p0.Seen v1_1.toNat).Seq))])))) else (some (.next (wr .i64 (v1_1 + 1), v1_2)))) else (some (.done (.inl v1_2)))
noncomputable def F46_L2 (v2_1 : List TForwardMark) : Option (Lp (List TForwardMark) ((List TForwardMark) ⊕ (TForward))) :=
  bif (bLt 128 (v2_1.length : Nat)) then (need (slb 1 (v2_1.length : Nat) v2_1.length) <| some (.next (v2_1.drop 1))) else (some (.done (.inl v2_1)))
noncomputable def F46 (p0 : TForward) (p1 : TForwardMark) : Option (TForward) :=
  (F19 p0).bind fun r1 => lp (loopD (fun s => F46_L1 p0 p1 s.1 s.2) (0, [])) (fun w1_3 => need (capb 16 (w1_3.length + 1)) <| (some [p1]).bind fun w7 => (some (w1_3 ++ [p1])).bind fun w9 => lp (loopD (fun s => F46_L2 s) w9) (fun w2_2 => some (TForward.mk (A6u8.mk r1.Own.x0 r1.Own.x1 r1.Own.x2 r1.Own.x3 r1.Own.x4 r1.Own.x5) r1.Seq w2_2 r1.Nexts)) some) some
noncomputable def body46 : List AV → Nat → AR
  | [v0, v1], _ => .pure (aK 9 k_TForward v0 ∧ aK 7 k_TForwardMark v1 ∧ (F46 (g_TForward (aL v0)) (g_TForwardMark (aL v1))).isSome = true) (.agg [.int .u8 (((gt (F46 (g_TForward (aL v0)) (g_TForwardMark (aL v1)))).Own).x0), .int .u8 (((gt (F46 (g_TForward (aL v0)) (g_TForwardMark (aL v1)))).Own).x1), .int .u8 (((gt (F46 (g_TForward (aL v0)) (g_TForwardMark (aL v1)))).Own).x2), .int .u8 (((gt (F46 (g_TForward (aL v0)) (g_TForwardMark (aL v1)))).Own).x3), .int .u8 (((gt (F46 (g_TForward (aL v0)) (g_TForwardMark (aL v1)))).Own).x4), .int .u8 (((gt (F46 (g_TForward (aL v0)) (g_TForwardMark (aL v1)))).Own).x5), .int .i64 ((gt (F46 (g_TForward (aL v0)) (g_TForwardMark (aL v1)))).Seq), .ro 7 (((gt (F46 (g_TForward (aL v0)) (g_TForwardMark (aL v1)))).Seen).length) false (enR c_TForwardMark ((gt (F46 (g_TForward (aL v0)) (g_TForwardMark (aL v1)))).Seen)), .ro 12 (((gt (F46 (g_TForward (aL v0)) (g_TForwardMark (aL v1)))).Nexts).length) false (enR c_TForwardHop ((gt (F46 (g_TForward (aL v0)) (g_TForwardMark (aL v1)))).Nexts))])
  | _, _ => .fail
set_option maxHeartbeats 4000000 in
set_option maxRecDepth 20000 in
theorem ok46 : FnOk Try.prog 46 (genC body46) := by
  refine gen_fn body46 (rs := [.cell 4 31]) Try.func46 (by kernel_rfl) rfl rfl ?_
  intro l s ob v ns hb hob
  rcases hb with ⟨hb, rfl⟩ | hb
  · unfold body46 at hb
    split at hb
    · rename_i v0 v1
      injection hb with q1 q2; subst q1 q2
      obtain ⟨hk0_0, hk1_0, hob⟩ := hob
      obtain ⟨r, H⟩ := Option.isSome_iff_exists.1 hob
      rw [H, gt_some]
      have hw0 := wA_TForward hk0_0
      have hw1 := wA_TForwardMark hk1_0
      generalize g_TForward (aL v0) = p0 at H hw0
      generalize g_TForwardMark (aL v1) = p1 at H hw1
      refine ⟨[.agg [.int .u8 p0.Own.x0, .int .u8 p0.Own.x1, .int .u8 p0.Own.x2, .int .u8 p0.Own.x3, .int .u8 p0.Own.x4, .int .u8 p0.Own.x5, .int .i64 p0.Seq, .ro 7 p0.Seen.length false (enR c_TForwardMark p0.Seen), .ro 12 p0.Nexts.length false (enR c_TForwardHop p0.Nexts)], .agg [.int .u8 p1.Enter.x0, .int .u8 p1.Enter.x1, .int .u8 p1.Enter.x2, .int .u8 p1.Enter.x3, .int .u8 p1.Enter.x4, .int .u8 p1.Enter.x5, .int .i64 p1.Seq]], .agg [.int .u8 r.Own.x0, .int .u8 r.Own.x1, .int .u8 r.Own.x2, .int .u8 r.Own.x3, .int .u8 r.Own.x4, .int .u8 r.Own.x5, .int .i64 r.Seq, .ro 7 r.Seen.length false (enR c_TForwardMark r.Seen), .ro 12 r.Nexts.length false (enR c_TForwardHop r.Nexts)], [], (fun E vs F => FR_wk1 hw0.1 F (fun vs F => FR_wk1 hw1.1 F (fun vs F => F))), by simp only [ren, renL], trivial, ?_⟩
      rw [Try.ntmps46]
      simp only [List.length_cons, List.length_nil, Nat.reduceAdd, Nat.reduceSub, List.replicate_succ, List.replicate_zero, List.cons_append, List.nil_append]
      unfold F46 at H
      try dsimp only at H
      refine sq ctNo_ok ?_
      simp only [go_sem, Nat.reduceLeDiff, Nat.reduceLT, Nat.reduceAdd, Nat.reduceMul, Nat.reduceSub, Nat.reduceEqDiff, Nat.reduceBEq, Int.reduceToNat, reduceCtorEq]
      refine seqM ?_
      obtain ⟨r1, e2, H⟩ := bsi H
      refine rg ct46t0_ok ?_
      simp only [go_sem, Nat.reduceLeDiff, Nat.reduceLT, Nat.reduceAdd, Nat.reduceMul, Nat.reduceSub, Nat.reduceEqDiff, Nat.reduceBEq, Int.reduceToNat, reduceCtorEq, ct46t0_19, body19, e2]
      repeat ((with_reducible refine And.intro ?_ ?_); focus (first | (and_intros <;> first | (with_reducible trivial) | omega | assumption | exact nfc | first | exact rfl | exact trivial | exact fitI | exact .inr rfl | exact .inl rfl | exact fun x hx => absurd hx (by omega)) | grind))
      refine sq ctNo_ok ?_
      simp only [go_sem, Nat.reduceLeDiff, Nat.reduceLT, Nat.reduceAdd, Nat.reduceMul, Nat.reduceSub, Nat.reduceEqDiff, Nat.reduceBEq, Int.reduceToNat, reduceCtorEq]
      repeat ((with_reducible refine And.intro ?_ ?_); focus (first | (with_reducible trivial) | omega | grind))
      refine seqM ?_
      refine sq ctNo_ok ?_
      simp only [go_sem, Nat.reduceLeDiff, Nat.reduceLT, Nat.reduceAdd, Nat.reduceMul, Nat.reduceSub, Nat.reduceEqDiff, Nat.reduceBEq, Int.reduceToNat, reduceCtorEq]
      refine blkM ?_
      refine loop_den (fun s : Int × (List TForwardMark) => (.top :: .top :: .ptr 0 0 0 0 :: .ptr 1 0 0 0 :: .ptr 2 0 0 0 :: .ptr 5 0 0 0 :: .int .i64 s.1 :: tp 42 [])) (fun s => [.lit 31 [.int .u8 p0.Own.x0, .int .u8 p0.Own.x1, .int .u8 p0.Own.x2, .int .u8 p0.Own.x3, .int .u8 p0.Own.x4, .int .u8 p0.Own.x5, .int .i64 p0.Seq, .ro 7 p0.Seen.length false (enR c_TForwardMark p0.Seen), .ro 12 p0.Nexts.length false (enR c_TForwardHop p0.Nexts)], .lit 59 [.int .u8 p1.Enter.x0, .int .u8 p1.Enter.x1, .int .u8 p1.Enter.x2, .int .u8 p1.Enter.x3, .int .u8 p1.Enter.x4, .int .u8 p1.Enter.x5, .int .i64 p1.Seq], .lit 31 [.int .u8 0, .int .u8 0, .int .u8 0, .int .u8 0, .int .u8 0, .int .u8 0, .int .i64 0, .ro 0 0 true (fun _ _ => .top), .ro 0 0 true (fun _ _ => .top)], .dead, .row 90 12 r1.Nexts.length (enR c_TForwardHop r1.Nexts), .lit 31 [.int .u8 r1.Own.x0, .int .u8 r1.Own.x1, .int .u8 r1.Own.x2, .int .u8 r1.Own.x3, .int .u8 r1.Own.x4, .int .u8 r1.Own.x5, .int .i64 r1.Seq, .sl 6 7 0 s.2.length false, .sl 4 12 0 r1.Nexts.length false], .row 59 7 s.2.length (enR c_TForwardMark s.2)]) (fun e : List TForwardMark => (.top :: .top :: .top :: .ptr 1 0 0 0 :: .ptr 2 0 0 0 :: .ptr 5 0 0 0 :: tp 43 [])) (fun e => [.dead, .lit 59 [.int .u8 p1.Enter.x0, .int .u8 p1.Enter.x1, .int .u8 p1.Enter.x2, .int .u8 p1.Enter.x3, .int .u8 p1.Enter.x4, .int .u8 p1.Enter.x5, .int .i64 p1.Seq], .lit 31 [.int .u8 0, .int .u8 0, .int .u8 0, .int .u8 0, .int .u8 0, .int .u8 0, .int .i64 0, .ro 0 0 true (fun _ _ => .top), .ro 0 0 true (fun _ _ => .top)], .dead, .row 90 12 r1.Nexts.length (enR c_TForwardHop r1.Nexts), .lit 31 [.int .u8 r1.Own.x0, .int .u8 r1.Own.x1, .int .u8 r1.Own.x2, .int .u8 r1.Own.x3, .int .u8 r1.Own.x4, .int .u8 r1.Own.x5, .int .i64 r1.Seq, .sl 6 7 0 e.length false, .sl 4 12 0 r1.Nexts.length false], .row 59 7 e.length (enR c_TForwardMark e)]) H ?_ (fun s o H hn1_1 hn2_1 => ?_) (fun w1_3 H => ?_)
      · refine SubF_of ⟨[some 0, some 1, some 2, some 3, some 4, some 5, none], ?_, ?_, by rfl, by rfl⟩
        · simp [CvL, Cv, getM, tp]
        · exact ⟨(by simp [CvB, CvL, Cv, blkAt, geth, getM]), (by simp [CvB, CvL, Cv, blkAt, geth, getM]), (by simp [CvB, CvL, Cv, blkAt, geth, getM]), CvB_dead, (CvB_same nfA), (by simp [CvB, CvL, Cv, blkAt, geth, getM]), CvB_none, trivial⟩
      · obtain ⟨v1_1, v1_2⟩ := s
        unfold F46_L1 at H
        try dsimp only at H ⊢
        try simp only [tp]
        refine seqM ?_
        refine sq ctNo_ok ?_
        simp only [go_sem, Nat.reduceLeDiff, Nat.reduceLT, Nat.reduceAdd, Nat.reduceMul, Nat.reduceSub, Nat.reduceEqDiff, Nat.reduceBEq, Int.reduceToNat, reduceCtorEq]
        repeat ((with_reducible refine And.intro ?_ ?_); focus (first | (and_intros <;> first | (with_reducible trivial) | omega | assumption | exact nfc | first | exact rfl | exact trivial | exact fitI | exact .inr rfl | exact .inl rfl | exact fun x hx => absurd hx (by omega)) | grind))
        refine condM' rfl trivial (fun hc => ?_) (fun hc => ?_)
        · replace H := cond_f hc H
          refine rg ctNo_ok ?_
          simp only [go_sem, Nat.reduceLeDiff, Nat.reduceLT, Nat.reduceAdd, Nat.reduceMul, Nat.reduceSub, Nat.reduceEqDiff, Nat.reduceBEq, Int.reduceToNat, reduceCtorEq]
          refine ⟨_, (Option.some.inj H).symm, ?_⟩
          refine SubF_of ⟨[some 0, some 1, some 2, some 3, some 4, some 5, some 6], ?_, ?_, by rfl, by rfl⟩
          · simp [CvL, Cv, getM, tp]
          · exact ⟨CvB_dead, (by simp [CvB, CvL, Cv, blkAt, geth, getM]), (by simp [CvB, CvL, Cv, blkAt, geth, getM]), CvB_dead, (CvB_same nfA), (by simp [CvB, CvL, Cv, blkAt, geth, getM]), CvB_row nr_TForwardMark (by first | rfl | (simp; done) | (simp; omega)) (fun _ _ _ _ => rfl), trivial⟩
        replace H := cond_t hc H
        refine rg ctNo_ok ?_
        simp only [go_sem, Nat.reduceLeDiff, Nat.reduceLT, Nat.reduceAdd, Nat.reduceMul, Nat.reduceSub, Nat.reduceEqDiff, Nat.reduceBEq, Int.reduceToNat, reduceCtorEq]
        refine seqM ?_
        refine blkM ?_
        refine seqM ?_
        obtain ⟨f3, H⟩ := need_some.1 H
        replace f3 := inb_iff.1 f3
        refine draw_quiet shT_ok ctNo_ok (by kernel_rfl) (by kernel_rfl) ?_
        simp only [go_sem, Nat.reduceLeDiff, Nat.reduceLT, Nat.reduceAdd, Nat.reduceMul, Nat.reduceSub, Nat.reduceEqDiff, Nat.reduceBEq, Int.reduceToNat, reduceCtorEq, f3]
        repeat ((with_reducible refine And.intro ?_ ?_); focus (first | (with_reducible trivial) | omega | grind))
        refine condM' rfl trivial (fun hc => ?_) (fun hc => ?_)
        · replace H := cond_f hc H
          refine rg ctNo_ok ?_
          simp only [go_sem, Nat.reduceLeDiff, Nat.reduceLT, Nat.reduceAdd, Nat.reduceMul, Nat.reduceSub, Nat.reduceEqDiff, Nat.reduceBEq, Int.reduceToNat, reduceCtorEq]
          refine rg ctNo_ok ?_
          simp only [go_sem, Nat.reduceLeDiff, Nat.reduceLT, Nat.reduceAdd, Nat.reduceMul, Nat.reduceSub, Nat.reduceEqDiff, Nat.reduceBEq, Int.reduceToNat, reduceCtorEq]
          refine ⟨_, (Option.some.inj H).symm, ?_⟩
          refine SubF_of ⟨[some 0, some 1, some 2, some 3, some 4, some 5, some 6], ?_, ?_, by rfl, by rfl⟩
          · simp [CvL, Cv, getM, tp]
          · exact ⟨(by simp [CvB, CvL, Cv, blkAt, geth, getM]), (by simp [CvB, CvL, Cv, blkAt, geth, getM]), (by simp [CvB, CvL, Cv, blkAt, geth, getM]), CvB_dead, (CvB_same nfA), (by simp [CvB, CvL, Cv, blkAt, geth, getM]), CvB_row nr_TForwardMark (by first | rfl | (simp; done) | (simp; omega)) (fun _ _ _ _ => rfl), trivial⟩
        replace H := cond_t hc H
        obtain ⟨f4, H⟩ := need_some.1 H
        replace f4 := inb_iff.1 f4
        obtain ⟨f5, H⟩ := need_some.1 H
        replace f5 := capb_iff.1 f5
        refine draw_rule shT_ok ctNo_ok 2 (by kernel_rfl) (by kernel_rfl) ?_
        intro an han
        simp only [d_nil, d_cons, nxtD, xrD, xoD, roEq, minL, List.append_nil, refsOp, refs, refsL, mask, maskF, place, placeF, okLog, pairOk, hit, inL, slotsF, ren, renL, rnN, nrH, nrB, nrL, nr, dead0, deadS, List.replicate_zero, List.replicate_succ, Nat.sub_self, Nat.add_zero, Nat.zero_add, Nat.reduceSub, Nat.not_lt_zero, Nat.zero_le, Nat.lt_add_one, go_sem, Nat.reduceLeDiff, Nat.reduceLT, Nat.reduceAdd, Nat.reduceMul, Nat.reduceSub, Nat.reduceEqDiff, Nat.reduceBEq, Int.reduceToNat, reduceCtorEq, f4, f5]
        repeat ((with_reducible refine And.intro ?_ ?_); focus (and_intros <;> first | (with_reducible trivial) | (show anB _ _ _ = true; subst han; kernel_rfl) | (show (anB _ _ _ && _) = true; subst han; kernel_rfl) | omega | assumption | exact nrc | exact nfc | first | exact rfl | exact trivial | exact fitI | exact .inr rfl | exact .inl rfl | exact fun x hx => absurd hx (by omega) | (intro x hx; (repeat (first | (and_intros <;> (first | exact rfl | exact trivial | exact fitI | exact .inr rfl | exact .inl rfl | exact fun x hx => absurd hx (by omega))) | (exfalso; omega) | (rcases x with _ | x))); done) | (refine Fit_app ?_ ?_ <;> first | exact fitI | (intro x hx; (repeat (first | (and_intros <;> (first | exact rfl | exact trivial | exact fitI | exact .inr rfl | exact .inl rfl | exact fun x hx => absurd hx (by omega))) | (exfalso; omega) | (rcases x with _ | x))); done) | (refine Fit_app ?_ ?_ <;> first | exact fitI | (intro x hx; (repeat (first | (and_intros <;> (first | exact rfl | exact trivial | exact fitI | exact .inr rfl | exact .inl rfl | exact fun x hx => absurd hx (by omega))) | (exfalso; omega) | (rcases x with _ | x))); done)))))
        refine rg ctNo_ok ?_
        simp only [go_sem, Nat.reduceLeDiff, Nat.reduceLT, Nat.reduceAdd, Nat.reduceMul, Nat.reduceSub, Nat.reduceEqDiff, Nat.reduceBEq, Int.reduceToNat, reduceCtorEq]
        refine ⟨_, (Option.some.inj H).symm, ?_⟩
        refine SubF_of ⟨[some 0, some 1, some 2, some 3, some 4, some 5, some 8], ?_, ?_, by rfl, by rfl⟩
        · simp [CvL, Cv, getM, tp]
        · exact ⟨(by simp [CvB, CvL, Cv, blkAt, geth, getM]), (by simp [CvB, CvL, Cv, blkAt, geth, getM]), (by simp [CvB, CvL, Cv, blkAt, geth, getM]), CvB_dead, (CvB_same nfA), (by simp [CvB, CvL, Cv, blkAt, geth, getM]), CvB_row nr_TForwardMark (by first | rfl | (simp; done) | (simp; omega)) (app_row (f := c_TForwardMark) v1_2 [(TForwardMark.mk (A6u8.mk (((gd p0.Seen v1_1.toNat).Enter).x0) (((gd p0.Seen v1_1.toNat).Enter).x1) (((gd p0.Seen v1_1.toNat).Enter).x2) (((gd p0.Seen v1_1.toNat).Enter).x3) (((gd p0.Seen v1_1.toNat).Enter).x4) (((gd p0.Seen v1_1.toNat).Enter).x5)) ((gd p0.Seen v1_1.toNat).Seq))] (fun _ _ _ _ => rfl) (lit_row (f := c_TForwardMark) [(TForwardMark.mk (A6u8.mk (((gd p0.Seen v1_1.toNat).Enter).x0) (((gd p0.Seen v1_1.toNat).Enter).x1) (((gd p0.Seen v1_1.toNat).Enter).x2) (((gd p0.Seen v1_1.toNat).Enter).x3) (((gd p0.Seen v1_1.toNat).Enter).x4) (((gd p0.Seen v1_1.toNat).Enter).x5)) ((gd p0.Seen v1_1.toNat).Seq))] (fun _ _ => rfl) rfl)), trivial⟩
      · try dsimp only at H ⊢
        try simp only [tp]
        try simp only [m_normal, k_normal, b_normal, kL_normal, r_normal]
        refine seqM ?_
        obtain ⟨f6, H⟩ := need_some.1 H
        replace f6 := capb_iff.1 f6
        refine rg ctNo_ok ?_
        simp only [go_sem, Nat.reduceLeDiff, Nat.reduceLT, Nat.reduceAdd, Nat.reduceMul, Nat.reduceSub, Nat.reduceEqDiff, Nat.reduceBEq, Int.reduceToNat, reduceCtorEq, f6]
        repeat ((with_reducible refine And.intro ?_ ?_); focus (first | (and_intros <;> first | (with_reducible trivial) | omega | assumption | exact nfc | first | exact rfl | exact trivial | exact fitI | exact .inr rfl | exact .inl rfl | exact fun x hx => absurd hx (by omega) | (intro x hx; (repeat (first | (and_intros <;> (first | exact rfl | exact trivial | exact fitI | exact .inr rfl | exact .inl rfl | exact fun x hx => absurd hx (by omega))) | (exfalso; omega) | (rcases x with _ | x))); done) | (refine Fit_app ?_ ?_ <;> first | exact fitI | (intro x hx; (repeat (first | (and_intros <;> (first | exact rfl | exact trivial | exact fitI | exact .inr rfl | exact .inl rfl | exact fun x hx => absurd hx (by omega))) | (exfalso; omega) | (rcases x with _ | x))); done) | (refine Fit_app ?_ ?_ <;> first | exact fitI | (intro x hx; (repeat (first | (and_intros <;> (first | exact rfl | exact trivial | exact fitI | exact .inr rfl | exact .inl rfl | exact fun x hx => absurd hx (by omega))) | (exfalso; omega) | (rcases x with _ | x))); done)))) | grind))
        refine seqM ?_
        refine blkM ?_
        obtain ⟨w7, hw8, H⟩ := bsi H
        replace hw8 := Option.some.inj hw8
        have lhw8 : w7.length = 1 := by rw [← hw8]; exact (by first | rfl | (simp; done) | (simp; omega))
        obtain ⟨w9, hw10, H⟩ := bsi H
        replace hw10 := Option.some.inj hw10
        have lhw10 : w9.length = w1_3.length + 1 := by rw [← hw10]; exact (by first | rfl | (simp; done) | (simp; omega))
        refine subF_mean (t2 := (.top :: .top :: .top :: .ptr 1 0 0 0 :: .ptr 2 0 0 0 :: .ptr 5 0 0 0 :: tp 28 (.ptr 5 0 0 7 :: .sl 6 7 0 w1_3.length false :: .agg [.int .u8 p1.Enter.x0, .int .u8 p1.Enter.x1, .int .u8 p1.Enter.x2, .int .u8 p1.Enter.x3, .int .u8 p1.Enter.x4, .int .u8 p1.Enter.x5, .int .i64 p1.Seq] :: .sl 7 7 0 w7.length false :: .sl 8 7 0 w9.length false :: .ptr 5 0 0 7 :: tp 9 []))) (h2 := [.dead, .lit 59 [.int .u8 p1.Enter.x0, .int .u8 p1.Enter.x1, .int .u8 p1.Enter.x2, .int .u8 p1.Enter.x3, .int .u8 p1.Enter.x4, .int .u8 p1.Enter.x5, .int .i64 p1.Seq], .lit 31 [.int .u8 0, .int .u8 0, .int .u8 0, .int .u8 0, .int .u8 0, .int .u8 0, .int .i64 0, .ro 0 0 true (fun _ _ => .top), .ro 0 0 true (fun _ _ => .top)], .dead, .row 90 12 r1.Nexts.length (enR c_TForwardHop r1.Nexts), .lit 31 [.int .u8 r1.Own.x0, .int .u8 r1.Own.x1, .int .u8 r1.Own.x2, .int .u8 r1.Own.x3, .int .u8 r1.Own.x4, .int .u8 r1.Own.x5, .int .i64 r1.Seq, .sl 8 7 0 w9.length false, .sl 4 12 0 r1.Nexts.length false], .dead, .row 59 7 w7.length (enR c_TForwardMark w7), .row 59 7 w9.length (enR c_TForwardMark w9)]) ?_ ?_
        · refine SubF_of ⟨[some 0, some 1, some 2, some 3, some 4, some 5, some 6, some 7, some 8], ?_, ?_, by rfl, by rfl⟩
          · simp [CvL, Cv, getM, tp, lhw8, lhw10]
          · exact ⟨CvB_dead, (by simp [CvB, CvL, Cv, blkAt, geth, getM, lhw8, lhw10]), (by simp [CvB, CvL, Cv, blkAt, geth, getM, lhw8, lhw10]), CvB_dead, CvB_row nr_TForwardHop rfl (fun _ _ _ _ => rfl), (by simp [CvB, CvL, Cv, blkAt, geth, getM, lhw8, lhw10]), CvB_dead, CvB_row nr_TForwardMark lhw8 (hw8 ▸ (lit_row (f := c_TForwardMark) [p1] (fun _ _ => rfl) rfl)), CvB_row nr_TForwardMark lhw10 (hw10 ▸ (app_row (f := c_TForwardMark) w1_3 [p1] (fun _ _ _ _ => rfl) (lit_row (f := c_TForwardMark) [p1] (fun _ _ => rfl) rfl))), trivial⟩
        simp only [tp]
        refine fz_mean [8] ?_ ?_
        · simp only [go_sem, Nat.reduceEqDiff, Nat.reduceBEq, Nat.reduceAdd]
          try (and_intros <;> first | (with_reducible trivial) | omega | exact nfc | trivial)
        simp only [go_sem, Nat.reduceEqDiff, Nat.reduceBEq, Nat.reduceAdd]
        refine loop_den (fun s : List TForwardMark => (tp 4 (.ptr 2 0 0 0 :: .ptr 5 0 0 0 :: tp 43 []))) (fun s => [.dead, .dead, .lit 31 [.int .u8 0, .int .u8 0, .int .u8 0, .int .u8 0, .int .u8 0, .int .u8 0, .int .i64 0, .ro 0 0 true (fun _ _ => .top), .ro 0 0 true (fun _ _ => .top)], .dead, .row 90 12 r1.Nexts.length (enR c_TForwardHop r1.Nexts), .lit 31 [.int .u8 r1.Own.x0, .int .u8 r1.Own.x1, .int .u8 r1.Own.x2, .int .u8 r1.Own.x3, .int .u8 r1.Own.x4, .int .u8 r1.Own.x5, .int .i64 r1.Seq, .ro 7 s.length false (enR c_TForwardMark s), .sl 4 12 0 r1.Nexts.length false], .dead, .dead, .dead]) (fun e : List TForwardMark => (tp 4 (.ptr 2 0 0 0 :: .ptr 5 0 0 0 :: tp 43 []))) (fun e => [.dead, .dead, .lit 31 [.int .u8 0, .int .u8 0, .int .u8 0, .int .u8 0, .int .u8 0, .int .u8 0, .int .i64 0, .ro 0 0 true (fun _ _ => .top), .ro 0 0 true (fun _ _ => .top)], .dead, .row 90 12 r1.Nexts.length (enR c_TForwardHop r1.Nexts), .lit 31 [.int .u8 r1.Own.x0, .int .u8 r1.Own.x1, .int .u8 r1.Own.x2, .int .u8 r1.Own.x3, .int .u8 r1.Own.x4, .int .u8 r1.Own.x5, .int .i64 r1.Seq, .ro 7 e.length false (enR c_TForwardMark e), .sl 4 12 0 r1.Nexts.length false], .dead, .dead, .dead]) H ?_ (fun v2_1 o H hn1_2 hn2_2 => ?_) (fun w2_2 H => ?_)
        · refine SubF_of ⟨[some 0, some 1, some 2, some 3, some 4, some 5, some 6, some 7, some 8], ?_, ?_, by rfl, by rfl⟩
          · simp [CvL, Cv, getM, tp]
          · exact ⟨CvB_dead, CvB_dead, (by simp [CvB, CvL, Cv, blkAt, geth, getM]), CvB_dead, (CvB_same nfA), (by simp [CvB, CvL, Cv, blkAt, geth, getM]), CvB_dead, CvB_dead, CvB_dead, trivial⟩
        · unfold F46_L2 at H
          try dsimp only at H ⊢
          try simp only [tp]
          refine seqM ?_
          refine sq ctNo_ok ?_
          simp only [go_sem, Nat.reduceLeDiff, Nat.reduceLT, Nat.reduceAdd, Nat.reduceMul, Nat.reduceSub, Nat.reduceEqDiff, Nat.reduceBEq, Int.reduceToNat, reduceCtorEq]
          repeat ((with_reducible refine And.intro ?_ ?_); focus (first | (and_intros <;> first | (with_reducible trivial) | omega | assumption | exact nfc | first | exact rfl | exact trivial | exact fitI | exact .inr rfl | exact .inl rfl | exact fun x hx => absurd hx (by omega)) | grind))
          refine condM' rfl trivial (fun hc => ?_) (fun hc => ?_)
          · replace H := cond_f hc H
            refine rg ctNo_ok ?_
            simp only [go_sem, Nat.reduceLeDiff, Nat.reduceLT, Nat.reduceAdd, Nat.reduceMul, Nat.reduceSub, Nat.reduceEqDiff, Nat.reduceBEq, Int.reduceToNat, reduceCtorEq]
            refine ⟨_, (Option.some.inj H).symm, ?_⟩
            refine SubF_of ⟨[some 0, some 1, some 2, some 3, some 4, some 5, some 6, some 7, some 8], ?_, ?_, by rfl, by rfl⟩
            · simp [CvL, Cv, getM, tp]
            · exact ⟨CvB_dead, CvB_dead, (by simp [CvB, CvL, Cv, blkAt, geth, getM]), CvB_dead, (CvB_same nfA), (by simp [CvB, CvL, Cv, blkAt, geth, getM]), CvB_dead, CvB_dead, CvB_dead, trivial⟩
          replace H := cond_t hc H
          refine rg ctNo_ok ?_
          simp only [go_sem, Nat.reduceLeDiff, Nat.reduceLT, Nat.reduceAdd, Nat.reduceMul, Nat.reduceSub, Nat.reduceEqDiff, Nat.reduceBEq, Int.reduceToNat, reduceCtorEq]
          refine blkM ?_
          obtain ⟨f11, H⟩ := need_some.1 H
          replace f11 := slb_iff.1 f11
          refine rg ctNo_ok ?_
          simp only [go_sem, Nat.reduceLeDiff, Nat.reduceLT, Nat.reduceAdd, Nat.reduceMul, Nat.reduceSub, Nat.reduceEqDiff, Nat.reduceBEq, Int.reduceToNat, reduceCtorEq, f11]
          repeat ((with_reducible refine And.intro ?_ ?_); focus (first | (with_reducible trivial) | omega | grind))
          refine ⟨_, (Option.some.inj H).symm, ?_⟩
          refine SubF_of ⟨[some 0, some 1, some 2, some 3, some 4, some 5, some 6, some 7, some 8], ?_, ?_, by rfl, by rfl⟩
          · simp [CvL, Cv, getM, tp]
          · exact ⟨CvB_dead, CvB_dead, (by simp [CvB, CvL, Cv, blkAt, geth, getM]), CvB_dead, (CvB_same nfA), (by simp [CvB, CvL, Cv, blkAt, geth, getM]), CvB_dead, CvB_dead, CvB_dead, trivial⟩
        · try dsimp only at H ⊢
          try simp only [tp]
          try simp only [m_normal, k_normal, b_normal, kL_normal, r_normal]
          refine sq ctNo_ok ?_
          simp only [go_sem, Nat.reduceLeDiff, Nat.reduceLT, Nat.reduceAdd, Nat.reduceMul, Nat.reduceSub, Nat.reduceEqDiff, Nat.reduceBEq, Int.reduceToNat, reduceCtorEq]
          repeat ((with_reducible refine And.intro ?_ ?_); focus (first | (with_reducible trivial) | omega | grind))
          refine rg ctNo_ok ?_
          simp only [go_sem, Nat.reduceLeDiff, Nat.reduceLT, Nat.reduceAdd, Nat.reduceMul, Nat.reduceSub, Nat.reduceEqDiff, Nat.reduceBEq, Int.reduceToNat, reduceCtorEq]
          obtain rfl := Option.some.inj H
          refine ⟨[4, 2, 5], ?_, ?_, [], ?_, ?_, rfl⟩
          · simp only [go_sem, Nat.reduceEqDiff, Nat.reduceBEq, Nat.reduceAdd]
            try (and_intros <;> first | (with_reducible trivial) | omega | exact nfc | trivial)
          · simp only [go_sem, Nat.reduceEqDiff, Nat.reduceBEq, Nat.reduceAdd]
            try (and_intros <;> first | (with_reducible trivial) | omega | exact nfc | trivial)
          · simp only [go_sem, Nat.reduceEqDiff, Nat.reduceBEq, Nat.reduceAdd]
            exact (Cv_agg (CvL_cons Cv_int (CvL_cons Cv_int (CvL_cons Cv_int (CvL_cons Cv_int (CvL_cons Cv_int (CvL_cons Cv_int (CvL_cons Cv_int (CvL_cons (Cv_nf (by simp only [nref])) (CvL_cons (ro_row (by first | rfl | simp) (fun _ _ _ _ => rfl)) CvL_nil))))))))))
          · simp only [go_sem, Nat.reduceEqDiff, Nat.reduceBEq, Nat.reduceAdd, CvH]
    · cases hb
  · unfold body46 at hb
    split at hb <;> cases hb
/-! hotspot/hotspotref41.NextOf -/
noncomputable def F47_L1 (p0 : TForward) (p1 : A6u8) (v1_1 : Int) : Option (Lp (Int) ((Unit) ⊕ (A6u8 × Bool))) :=
  bif (bLt v1_1 (p0.Nexts.length : Nat)) then (need (inb v1_1 p0.Nexts.length) <| bif (bEq (((gd p0.Nexts v1_1.toNat).Dest).x0) p1.x0 && (bEq (((gd p0.Nexts v1_1.toNat).Dest).x1) p1.x1 && (bEq (((gd p0.Nexts v1_1.toNat).Dest).x2) p1.x2 && (bEq (((gd p0.Nexts v1_1.toNat).Dest).x3) p1.x3 && (bEq (((gd p0.Nexts v1_1.toNat).Dest).x4) p1.x4 && (bEq (((gd p0.Nexts v1_1.toNat).Dest).x5) p1.x5)))))) then (need (inb v1_1 p0.Nexts.length) <| some (.done (.inr (((gd p0.Nexts v1_1.toNat).Next), true)))) else (some (.next (wr .i64 (v1_1 + 1))))) else (some (.done (.inl ())))
noncomputable def F47 (p0 : TForward) (p1 : A6u8) : Option (A6u8 × Bool) :=
  lp (loopD (fun s => F47_L1 p0 p1 s) 0) (fun e => some ((A6u8.mk 0 0 0 0 0 0), false)) some
noncomputable def body47 : List AV → AR
  | [v0, v1] => .pure (aK 9 k_TForward v0 ∧ aK 6 k_A6u8 v1 ∧ (F47 (g_TForward (aL v0)) (g_A6u8 (aL v1))).isSome = true) (.tup [.agg [.int .u8 (((gt (F47 (g_TForward (aL v0)) (g_A6u8 (aL v1)))).1).x0), .int .u8 (((gt (F47 (g_TForward (aL v0)) (g_A6u8 (aL v1)))).1).x1), .int .u8 (((gt (F47 (g_TForward (aL v0)) (g_A6u8 (aL v1)))).1).x2), .int .u8 (((gt (F47 (g_TForward (aL v0)) (g_A6u8 (aL v1)))).1).x3), .int .u8 (((gt (F47 (g_TForward (aL v0)) (g_A6u8 (aL v1)))).1).x4), .int .u8 (((gt (F47 (g_TForward (aL v0)) (g_A6u8 (aL v1)))).1).x5)], .bool ((gt (F47 (g_TForward (aL v0)) (g_A6u8 (aL v1)))).2)])
  | _ => .fail
set_option maxHeartbeats 4000000 in
set_option maxRecDepth 20000 in
theorem ok47 : FnOk Try.prog 47 (pureC body47) := by
  refine pure_fnM body47 (rs := [.cell 4 23, .tmp 5]) Try.func47 (by kernel_rfl) rfl rfl ?_
  intro l ob v hb hob
  unfold body47 at hb
  split at hb
  · rename_i v0 v1
    injection hb with q1 q2; subst q1 q2
    obtain ⟨hk0_0, hk1_0, hob⟩ := hob
    obtain ⟨r, H⟩ := Option.isSome_iff_exists.1 hob
    rw [H, gt_some]
    have hw0 := wA_TForward hk0_0
    have hw1 := wA_A6u8 hk1_0
    generalize g_TForward (aL v0) = p0 at H hw0
    generalize g_A6u8 (aL v1) = p1 at H hw1
    refine ⟨[.agg [.int .u8 p0.Own.x0, .int .u8 p0.Own.x1, .int .u8 p0.Own.x2, .int .u8 p0.Own.x3, .int .u8 p0.Own.x4, .int .u8 p0.Own.x5, .int .i64 p0.Seq, .ro 7 p0.Seen.length false (enR c_TForwardMark p0.Seen), .ro 12 p0.Nexts.length false (enR c_TForwardHop p0.Nexts)], .agg [.int .u8 p1.x0, .int .u8 p1.x1, .int .u8 p1.x2, .int .u8 p1.x3, .int .u8 p1.x4, .int .u8 p1.x5]], _, (fun E vs F => FR_wk1 hw0.1 F (fun vs F => FR_wk1 hw1.1 F (fun vs F => F))), rfl, rfl, ?_⟩
    rw [Try.ntmps47]
    simp only [List.length_cons, List.length_nil, Nat.reduceAdd, Nat.reduceSub, List.replicate_succ, List.replicate_zero, List.cons_append, List.nil_append]
    unfold F47 at H
    try dsimp only at H
    refine sq ctNo_ok ?_
    simp only [go_sem, Nat.reduceLeDiff, Nat.reduceLT, Nat.reduceAdd, Nat.reduceMul, Nat.reduceSub, Nat.reduceEqDiff, Nat.reduceBEq, Int.reduceToNat, reduceCtorEq]
    refine seqM ?_
    refine sq ctNo_ok ?_
    simp only [go_sem, Nat.reduceLeDiff, Nat.reduceLT, Nat.reduceAdd, Nat.reduceMul, Nat.reduceSub, Nat.reduceEqDiff, Nat.reduceBEq, Int.reduceToNat, reduceCtorEq]
    refine blkM ?_
    refine loop_den (fun s : Int => (.top :: .top :: .ptr 0 0 0 0 :: .ptr 1 0 0 0 :: .ptr 2 0 0 0 :: .top :: .int .i64 s :: tp 22 [])) (fun s => [.lit 31 [.int .u8 p0.Own.x0, .int .u8 p0.Own.x1, .int .u8 p0.Own.x2, .int .u8 p0.Own.x3, .int .u8 p0.Own.x4, .int .u8 p0.Own.x5, .int .i64 p0.Seq, .ro 7 p0.Seen.length false (enR c_TForwardMark p0.Seen), .ro 12 p0.Nexts.length false (enR c_TForwardHop p0.Nexts)], .lit 23 [.int .u8 p1.x0, .int .u8 p1.x1, .int .u8 p1.x2, .int .u8 p1.x3, .int .u8 p1.x4, .int .u8 p1.x5], .lit 23 [.int .u8 0, .int .u8 0, .int .u8 0, .int .u8 0, .int .u8 0, .int .u8 0]]) (fun e : Unit => (tp 4 (.ptr 2 0 0 0 :: tp 24 []))) (fun e => [.dead, .dead, .lit 23 [.int .u8 0, .int .u8 0, .int .u8 0, .int .u8 0, .int .u8 0, .int .u8 0]]) H ?_ (fun v1_1 o H hn1_1 hn2_1 => ?_) (fun e H => ?_)
    · refine SubF_of ⟨[some 0, some 1, some 2], ?_, ?_, by rfl, by rfl⟩
      · simp [CvL, Cv, getM, tp]
      · exact ⟨(by simp [CvB, CvL, Cv, blkAt, geth, getM]), (by simp [CvB, CvL, Cv, blkAt, geth, getM]), (by simp [CvB, CvL, Cv, blkAt, geth, getM]), trivial⟩
    · unfold F47_L1 at H
      try dsimp only at H ⊢
      try simp only [tp]
      refine seqM ?_
      refine sq ctNo_ok ?_
      simp only [go_sem, Nat.reduceLeDiff, Nat.reduceLT, Nat.reduceAdd, Nat.reduceMul, Nat.reduceSub, Nat.reduceEqDiff, Nat.reduceBEq, Int.reduceToNat, reduceCtorEq]
      repeat ((with_reducible refine And.intro ?_ ?_); focus (first | (and_intros <;> first | (with_reducible trivial) | omega | assumption | exact nfc | first | exact rfl | exact trivial | exact fitI | exact .inr rfl | exact .inl rfl | exact fun x hx => absurd hx (by omega)) | grind))
      refine condM' rfl trivial (fun hc => ?_) (fun hc => ?_)
      · replace H := cond_f hc H
        refine rg ctNo_ok ?_
        simp only [go_sem, Nat.reduceLeDiff, Nat.reduceLT, Nat.reduceAdd, Nat.reduceMul, Nat.reduceSub, Nat.reduceEqDiff, Nat.reduceBEq, Int.reduceToNat, reduceCtorEq]
        refine ⟨_, (Option.some.inj H).symm, ?_⟩
        refine SubF_of ⟨[some 0, some 1, some 2], ?_, ?_, by rfl, by rfl⟩
        · simp [CvL, Cv, getM, tp]
        · exact ⟨CvB_dead, CvB_dead, (by simp [CvB, CvL, Cv, blkAt, geth, getM]), trivial⟩
      replace H := cond_t hc H
      refine rg ctNo_ok ?_
      simp only [go_sem, Nat.reduceLeDiff, Nat.reduceLT, Nat.reduceAdd, Nat.reduceMul, Nat.reduceSub, Nat.reduceEqDiff, Nat.reduceBEq, Int.reduceToNat, reduceCtorEq]
      refine seqM ?_
      refine blkM ?_
      refine seqM ?_
      obtain ⟨f1, H⟩ := need_some.1 H
      replace f1 := inb_iff.1 f1
      refine draw_quiet shT_ok ctNo_ok (by kernel_rfl) (by kernel_rfl) ?_
      simp only [go_sem, Nat.reduceLeDiff, Nat.reduceLT, Nat.reduceAdd, Nat.reduceMul, Nat.reduceSub, Nat.reduceEqDiff, Nat.reduceBEq, Int.reduceToNat, reduceCtorEq, f1]
      repeat ((with_reducible refine And.intro ?_ ?_); focus (first | (with_reducible trivial) | omega | grind))
      refine condM' rfl trivial (fun hc => ?_) (fun hc => ?_)
      · replace H := cond_f hc H
        refine rg ctNo_ok ?_
        simp only [go_sem, Nat.reduceLeDiff, Nat.reduceLT, Nat.reduceAdd, Nat.reduceMul, Nat.reduceSub, Nat.reduceEqDiff, Nat.reduceBEq, Int.reduceToNat, reduceCtorEq]
        refine rg ctNo_ok ?_
        simp only [go_sem, Nat.reduceLeDiff, Nat.reduceLT, Nat.reduceAdd, Nat.reduceMul, Nat.reduceSub, Nat.reduceEqDiff, Nat.reduceBEq, Int.reduceToNat, reduceCtorEq]
        refine ⟨_, (Option.some.inj H).symm, ?_⟩
        refine SubF_of ⟨[some 0, some 1, some 2], ?_, ?_, by rfl, by rfl⟩
        · simp [CvL, Cv, getM, tp]
        · exact ⟨(by simp [CvB, CvL, Cv, blkAt, geth, getM]), (by simp [CvB, CvL, Cv, blkAt, geth, getM]), (by simp [CvB, CvL, Cv, blkAt, geth, getM]), trivial⟩
      replace H := cond_t hc H
      refine seqM ?_
      obtain ⟨f2, H⟩ := need_some.1 H
      replace f2 := inb_iff.1 f2
      refine rg ctNo_ok ?_
      simp only [go_sem, Nat.reduceLeDiff, Nat.reduceLT, Nat.reduceAdd, Nat.reduceMul, Nat.reduceSub, Nat.reduceEqDiff, Nat.reduceBEq, Int.reduceToNat, reduceCtorEq, f2]
      repeat ((with_reducible refine And.intro ?_ ?_); focus (first | (with_reducible trivial) | omega | grind))
      refine rg ctNo_ok ?_
      simp only [go_sem, Nat.reduceLeDiff, Nat.reduceLT, Nat.reduceAdd, Nat.reduceMul, Nat.reduceSub, Nat.reduceEqDiff, Nat.reduceBEq, Int.reduceToNat, reduceCtorEq]
      have H := hn2_1 _ (Option.some.inj H).symm
      obtain rfl := Option.some.inj H
      first | rfl | simp only [Bool.and_false, Bool.false_and, Bool.and_true, Bool.true_and]
    · try dsimp only at H ⊢
      try simp only [tp]
      try simp only [m_normal, k_normal, b_normal, kL_normal, r_normal]
      refine sq ctNo_ok ?_
      simp only [go_sem, Nat.reduceLeDiff, Nat.reduceLT, Nat.reduceAdd, Nat.reduceMul, Nat.reduceSub, Nat.reduceEqDiff, Nat.reduceBEq, Int.reduceToNat, reduceCtorEq]
      repeat ((with_reducible refine And.intro ?_ ?_); focus (first | (with_reducible trivial) | omega | grind))
      refine rg ctNo_ok ?_
      simp only [go_sem, Nat.reduceLeDiff, Nat.reduceLT, Nat.reduceAdd, Nat.reduceMul, Nat.reduceSub, Nat.reduceEqDiff, Nat.reduceBEq, Int.reduceToNat, reduceCtorEq]
      obtain rfl := Option.some.inj H
      first | rfl | simp only [Bool.and_false, Bool.false_and, Bool.and_true, Bool.true_and]
  · cases hb
/-! hotspot/hotspotref41.Receive -/
noncomputable def ct21t0 : Ct := tab [(24, pureC body24), (44, pureC body44)]
theorem ct21t0_ok : CtOk Try.prog ct21t0 := tab_cons ok24 <| tab_cons ok44 <| tab_nil
theorem ct21t0_24 (l : List AV) (h : List ABlk) : ct21t0 24 l h = pureC body24 l h := rfl
theorem ct21t0_44 (l : List AV) (h : List ABlk) : ct21t0 44 l h = pureC body44 l h := rfl
noncomputable def ct21t1 : Ct := tab [(28, pureC body28), (45, pureC body45)]
theorem ct21t1_ok : CtOk Try.prog ct21t1 := tab_cons ok28 <| tab_cons ok45 <| tab_nil
theorem ct21t1_28 (l : List AV) (h : List ABlk) : ct21t1 28 l h = pureC body28 l h := rfl
theorem ct21t1_45 (l : List AV) (h : List ABlk) : ct21t1 45 l h = pureC body45 l h := rfl
noncomputable def ct21t2 : Ct := tab [(19, edC body19)]
theorem ct21t2_ok : CtOk Try.prog ct21t2 := tab_cons ok19 <| tab_nil
theorem ct21t2_19 (l : List AV) (h : List ABlk) : ct21t2 19 l h = edC body19 l h := rfl
noncomputable def ct21t3 : Ct := tab [(46, genC body46)]
theorem ct21t3_ok : CtOk Try.prog ct21t3 := tab_cons ok46 <| tab_nil
theorem ct21t3_46 (l : List AV) (h : List ABlk) : ct21t3 46 l h = genC body46 l h := rfl
noncomputable def ct21t4 : Ct := tab [(47, pureC body47)]
theorem ct21t4_ok : CtOk Try.prog ct21t4 := tab_cons ok47 <| tab_nil
theorem ct21t4_47 (l : List AV) (h : List ABlk) : ct21t4 47 l h = pureC body47 l h := rfl
noncomputable def ct21t5 : Ct := tab [(45, pureC body45)]
theorem ct21t5_ok : CtOk Try.prog ct21t5 := tab_cons ok45 <| tab_nil
theorem ct21t5_45 (l : List AV) (h : List ABlk) : ct21t5 45 l h = pureC body45 l h := rfl
noncomputable def F21 (p0 : TForward) (p1 : TMeshFrame) : Option (TForward × Int × TMeshFrame × Int) :=
  (F44 p0).bind fun r1 => need (bif (!(!bEq r1 0)) then ((F24 p1).isSome) else true) <| bif ((!bEq r1 0) || (!bEq (gt (F24 p1)) 0)) then (some ((TForward.mk (A6u8.mk 0 0 0 0 0 0) 0 [] []), 0, (TMeshFrame.mk (A6u8.mk 0 0 0 0 0 0) (A6u8.mk 0 0 0 0 0 0) (A6u8.mk 0 0 0 0 0 0) (A6u8.mk 0 0 0 0 0 0) (A6u8.mk 0 0 0 0 0 0) (A6u8.mk 0 0 0 0 0 0) 0 0 []), 8)) else ((F45 p1.To).bind fun r4 => need (bif (!((((!r4) && (!(bEq p1.To.x0 p0.Own.x0 && (bEq p1.To.x1 p0.Own.x1 && (bEq p1.To.x2 p0.Own.x2 && (bEq p1.To.x3 p0.Own.x3 && (bEq p1.To.x4 p0.Own.x4 && (bEq p1.To.x5 p0.Own.x5)))))))) || (bEq p1.Enter.x0 p0.Own.x0 && (bEq p1.Enter.x1 p0.Own.x1 && (bEq p1.Enter.x2 p0.Own.x2 && (bEq p1.Enter.x3 p0.Own.x3 && (bEq p1.Enter.x4 p0.Own.x4 && (bEq p1.Enter.x5 p0.Own.x5))))))) || (bEq p1.From.x0 p0.Own.x0 && (bEq p1.From.x1 p0.Own.x1 && (bEq p1.From.x2 p0.Own.x2 && (bEq p1.From.x3 p0.Own.x3 && (bEq p1.From.x4 p0.Own.x4 && (bEq p1.From.x5 p0.Own.x5)))))))) then ((F28 p0.Seen (TForwardMark.mk (A6u8.mk p1.Enter.x0 p1.Enter.x1 p1.Enter.x2 p1.Enter.x3 p1.Enter.x4 p1.Enter.x5) p1.Seq)).isSome) else true) <| bif (((((!r4) && (!(bEq p1.To.x0 p0.Own.x0 && (bEq p1.To.x1 p0.Own.x1 && (bEq p1.To.x2 p0.Own.x2 && (bEq p1.To.x3 p0.Own.x3 && (bEq p1.To.x4 p0.Own.x4 && (bEq p1.To.x5 p0.Own.x5)))))))) || (bEq p1.Enter.x0 p0.Own.x0 && (bEq p1.Enter.x1 p0.Own.x1 && (bEq p1.Enter.x2 p0.Own.x2 && (bEq p1.Enter.x3 p0.Own.x3 && (bEq p1.Enter.x4 p0.Own.x4 && (bEq p1.Enter.x5 p0.Own.x5))))))) || (bEq p1.From.x0 p0.Own.x0 && (bEq p1.From.x1 p0.Own.x1 && (bEq p1.From.x2 p0.Own.x2 && (bEq p1.From.x3 p0.Own.x3 && (bEq p1.From.x4 p0.Own.x4 && (bEq p1.From.x5 p0.Own.x5))))))) || (gt (F28 p0.Seen (TForwardMark.mk (A6u8.mk p1.Enter.x0 p1.Enter.x1 p1.Enter.x2 p1.Enter.x3 p1.Enter.x4 p1.Enter.x5) p1.Seq)))) then ((F19 p0).bind fun r7 => some ((TForward.mk (A6u8.mk r7.Own.x0 r7.Own.x1 r7.Own.x2 r7.Own.x3 r7.Own.x4 r7.Own.x5) r7.Seq r7.Seen r7.Nexts), 0, (TMeshFrame.mk (A6u8.mk 0 0 0 0 0 0) (A6u8.mk 0 0 0 0 0 0) (A6u8.mk 0 0 0 0 0 0) (A6u8.mk 0 0 0 0 0 0) (A6u8.mk 0 0 0 0 0 0) (A6u8.mk 0 0 0 0 0 0) 0 0 []), 0)) else ((F46 p0 (TForwardMark.mk (A6u8.mk p1.Enter.x0 p1.Enter.x1 p1.Enter.x2 p1.Enter.x3 p1.Enter.x4 p1.Enter.x5) p1.Seq)).bind fun r9 => bif (bEq p1.Leave.x0 p0.Own.x0 && (bEq p1.Leave.x1 p0.Own.x1 && (bEq p1.Leave.x2 p0.Own.x2 && (bEq p1.Leave.x3 p0.Own.x3 && (bEq p1.Leave.x4 p0.Own.x4 && (bEq p1.Leave.x5 p0.Own.x5)))))) then (some (r9, 1, p1, 0)) else ((F47 p0 p1.Leave).bind fun r11 => (F45 p1.To).bind fun r13 => bif r13 then (bif (bEq p1.Ttl 1) then (some (r9, 1, p1, 0)) else (bif (bEq p1.Ttl 1) then (some (r9, 0, (TMeshFrame.mk (A6u8.mk 0 0 0 0 0 0) (A6u8.mk 0 0 0 0 0 0) (A6u8.mk 0 0 0 0 0 0) (A6u8.mk 0 0 0 0 0 0) (A6u8.mk 0 0 0 0 0 0) (A6u8.mk 0 0 0 0 0 0) 0 0 []), 0)) else (some (r9, 3, (TMeshFrame.mk (A6u8.mk p0.Own.x0 p0.Own.x1 p0.Own.x2 p0.Own.x3 p0.Own.x4 p0.Own.x5) (A6u8.mk p1.To.x0 p1.To.x1 p1.To.x2 p1.To.x3 p1.To.x4 p1.To.x5) (A6u8.mk p1.Enter.x0 p1.Enter.x1 p1.Enter.x2 p1.Enter.x3 p1.Enter.x4 p1.Enter.x5) (A6u8.mk p1.Leave.x0 p1.Leave.x1 p1.Leave.x2 p1.Leave.x3 p1.Leave.x4 p1.Leave.x5) (A6u8.mk p1.Source.x0 p1.Source.x1 p1.Source.x2 p1.Source.x3 p1.Source.x4 p1.Source.x5) (A6u8.mk p1.Target.x0 p1.Target.x1 p1.Target.x2 p1.Target.x3 p1.Target.x4 p1.Target.x5) p1.Seq (wr .i64 (p1.Ttl - 1)) p1.Data), 0)))) else (bif (bEq p1.Ttl 1) then (some (r9, 0, (TMeshFrame.mk (A6u8.mk 0 0 0 0 0 0) (A6u8.mk 0 0 0 0 0 0) (A6u8.mk 0 0 0 0 0 0) (A6u8.mk 0 0 0 0 0 0) (A6u8.mk 0 0 0 0 0 0) (A6u8.mk 0 0 0 0 0 0) 0 0 []), 0)) else (bif (!r11.2) then (some (r9, 4, p1, 0)) else (some (r9, 2, (TMeshFrame.mk (A6u8.mk p0.Own.x0 p0.Own.x1 p0.Own.x2 p0.Own.x3 p0.Own.x4 p0.Own.x5) (A6u8.mk r11.1.x0 r11.1.x1 r11.1.x2 r11.1.x3 r11.1.x4 r11.1.x5) (A6u8.mk p1.Enter.x0 p1.Enter.x1 p1.Enter.x2 p1.Enter.x3 p1.Enter.x4 p1.Enter.x5) (A6u8.mk p1.Leave.x0 p1.Leave.x1 p1.Leave.x2 p1.Leave.x3 p1.Leave.x4 p1.Leave.x5) (A6u8.mk p1.Source.x0 p1.Source.x1 p1.Source.x2 p1.Source.x3 p1.Source.x4 p1.Source.x5) (A6u8.mk p1.Target.x0 p1.Target.x1 p1.Target.x2 p1.Target.x3 p1.Target.x4 p1.Target.x5) p1.Seq (wr .i64 (p1.Ttl - 1)) p1.Data), 0)))))))
noncomputable def body21 : List AV → Nat → AR
  | [v0, v1], _ => .pure (aK 9 k_TForward v0 ∧ aK 39 k_TMeshFrame v1 ∧ (F21 (g_TForward (aL v0)) (g_TMeshFrame (aL v1))).isSome = true) (.tup [.agg [.int .u8 ((((gt (F21 (g_TForward (aL v0)) (g_TMeshFrame (aL v1)))).1).Own).x0), .int .u8 ((((gt (F21 (g_TForward (aL v0)) (g_TMeshFrame (aL v1)))).1).Own).x1), .int .u8 ((((gt (F21 (g_TForward (aL v0)) (g_TMeshFrame (aL v1)))).1).Own).x2), .int .u8 ((((gt (F21 (g_TForward (aL v0)) (g_TMeshFrame (aL v1)))).1).Own).x3), .int .u8 ((((gt (F21 (g_TForward (aL v0)) (g_TMeshFrame (aL v1)))).1).Own).x4), .int .u8 ((((gt (F21 (g_TForward (aL v0)) (g_TMeshFrame (aL v1)))).1).Own).x5), .int .i64 (((gt (F21 (g_TForward (aL v0)) (g_TMeshFrame (aL v1)))).1).Seq), .ro 7 ((((gt (F21 (g_TForward (aL v0)) (g_TMeshFrame (aL v1)))).1).Seen).length) false (enR c_TForwardMark (((gt (F21 (g_TForward (aL v0)) (g_TMeshFrame (aL v1)))).1).Seen)), .ro 12 ((((gt (F21 (g_TForward (aL v0)) (g_TMeshFrame (aL v1)))).1).Nexts).length) false (enR c_TForwardHop (((gt (F21 (g_TForward (aL v0)) (g_TMeshFrame (aL v1)))).1).Nexts))], .int .u8 ((gt (F21 (g_TForward (aL v0)) (g_TMeshFrame (aL v1)))).2.1), .agg (.int .u8 ((((gt (F21 (g_TForward (aL v0)) (g_TMeshFrame (aL v1)))).2.2.1).From).x0) :: .int .u8 ((((gt (F21 (g_TForward (aL v0)) (g_TMeshFrame (aL v1)))).2.2.1).From).x1) :: .int .u8 ((((gt (F21 (g_TForward (aL v0)) (g_TMeshFrame (aL v1)))).2.2.1).From).x2) :: .int .u8 ((((gt (F21 (g_TForward (aL v0)) (g_TMeshFrame (aL v1)))).2.2.1).From).x3) :: .int .u8 ((((gt (F21 (g_TForward (aL v0)) (g_TMeshFrame (aL v1)))).2.2.1).From).x4) :: .int .u8 ((((gt (F21 (g_TForward (aL v0)) (g_TMeshFrame (aL v1)))).2.2.1).From).x5) :: .int .u8 ((((gt (F21 (g_TForward (aL v0)) (g_TMeshFrame (aL v1)))).2.2.1).To).x0) :: .int .u8 ((((gt (F21 (g_TForward (aL v0)) (g_TMeshFrame (aL v1)))).2.2.1).To).x1) :: .int .u8 ((((gt (F21 (g_TForward (aL v0)) (g_TMeshFrame (aL v1)))).2.2.1).To).x2) :: .int .u8 ((((gt (F21 (g_TForward (aL v0)) (g_TMeshFrame (aL v1)))).2.2.1).To).x3) :: .int .u8 ((((gt (F21 (g_TForward (aL v0)) (g_TMeshFrame (aL v1)))).2.2.1).To).x4) :: .int .u8 ((((gt (F21 (g_TForward (aL v0)) (g_TMeshFrame (aL v1)))).2.2.1).To).x5) :: .int .u8 ((((gt (F21 (g_TForward (aL v0)) (g_TMeshFrame (aL v1)))).2.2.1).Enter).x0) :: .int .u8 ((((gt (F21 (g_TForward (aL v0)) (g_TMeshFrame (aL v1)))).2.2.1).Enter).x1) :: .int .u8 ((((gt (F21 (g_TForward (aL v0)) (g_TMeshFrame (aL v1)))).2.2.1).Enter).x2) :: .int .u8 ((((gt (F21 (g_TForward (aL v0)) (g_TMeshFrame (aL v1)))).2.2.1).Enter).x3) :: .int .u8 ((((gt (F21 (g_TForward (aL v0)) (g_TMeshFrame (aL v1)))).2.2.1).Enter).x4) :: .int .u8 ((((gt (F21 (g_TForward (aL v0)) (g_TMeshFrame (aL v1)))).2.2.1).Enter).x5) :: .int .u8 ((((gt (F21 (g_TForward (aL v0)) (g_TMeshFrame (aL v1)))).2.2.1).Leave).x0) :: .int .u8 ((((gt (F21 (g_TForward (aL v0)) (g_TMeshFrame (aL v1)))).2.2.1).Leave).x1) :: .int .u8 ((((gt (F21 (g_TForward (aL v0)) (g_TMeshFrame (aL v1)))).2.2.1).Leave).x2) :: .int .u8 ((((gt (F21 (g_TForward (aL v0)) (g_TMeshFrame (aL v1)))).2.2.1).Leave).x3) :: .int .u8 ((((gt (F21 (g_TForward (aL v0)) (g_TMeshFrame (aL v1)))).2.2.1).Leave).x4) :: .int .u8 ((((gt (F21 (g_TForward (aL v0)) (g_TMeshFrame (aL v1)))).2.2.1).Leave).x5) :: .int .u8 ((((gt (F21 (g_TForward (aL v0)) (g_TMeshFrame (aL v1)))).2.2.1).Source).x0) :: .int .u8 ((((gt (F21 (g_TForward (aL v0)) (g_TMeshFrame (aL v1)))).2.2.1).Source).x1) :: .int .u8 ((((gt (F21 (g_TForward (aL v0)) (g_TMeshFrame (aL v1)))).2.2.1).Source).x2) :: .int .u8 ((((gt (F21 (g_TForward (aL v0)) (g_TMeshFrame (aL v1)))).2.2.1).Source).x3) :: .int .u8 ((((gt (F21 (g_TForward (aL v0)) (g_TMeshFrame (aL v1)))).2.2.1).Source).x4) :: .int .u8 ((((gt (F21 (g_TForward (aL v0)) (g_TMeshFrame (aL v1)))).2.2.1).Source).x5) :: .int .u8 ((((gt (F21 (g_TForward (aL v0)) (g_TMeshFrame (aL v1)))).2.2.1).Target).x0) :: .int .u8 ((((gt (F21 (g_TForward (aL v0)) (g_TMeshFrame (aL v1)))).2.2.1).Target).x1) :: .int .u8 ((((gt (F21 (g_TForward (aL v0)) (g_TMeshFrame (aL v1)))).2.2.1).Target).x2) :: .int .u8 ((((gt (F21 (g_TForward (aL v0)) (g_TMeshFrame (aL v1)))).2.2.1).Target).x3) :: .int .u8 ((((gt (F21 (g_TForward (aL v0)) (g_TMeshFrame (aL v1)))).2.2.1).Target).x4) :: .int .u8 ((((gt (F21 (g_TForward (aL v0)) (g_TMeshFrame (aL v1)))).2.2.1).Target).x5) :: .int .i64 (((gt (F21 (g_TForward (aL v0)) (g_TMeshFrame (aL v1)))).2.2.1).Seq) :: .int .i64 (((gt (F21 (g_TForward (aL v0)) (g_TMeshFrame (aL v1)))).2.2.1).Ttl) :: .ro 1 ((((gt (F21 (g_TForward (aL v0)) (g_TMeshFrame (aL v1)))).2.2.1).Data).length) false (enR c_u8 (((gt (F21 (g_TForward (aL v0)) (g_TMeshFrame (aL v1)))).2.2.1).Data)) :: []), .int .i64 ((gt (F21 (g_TForward (aL v0)) (g_TMeshFrame (aL v1)))).2.2.2)])
  | _, _ => .fail
set_option maxHeartbeats 4000000 in
set_option maxRecDepth 20000 in
theorem ok21 : FnOk Try.prog 21 (genC body21) := by
  refine gen_fn body21 (rs := [.cell 4 31, .tmp 5, .cell 6 26, .tmp 7]) Try.func21 (by kernel_rfl) rfl rfl ?_
  intro l s ob v ns hb hob
  rcases hb with ⟨hb, rfl⟩ | hb
  · unfold body21 at hb
    split at hb
    · rename_i v0 v1
      injection hb with q1 q2; subst q1 q2
      obtain ⟨hk0_0, hk1_0, hob⟩ := hob
      obtain ⟨r, H⟩ := Option.isSome_iff_exists.1 hob
      rw [H, gt_some]
      have hw0 := wA_TForward hk0_0
      have hw1 := wA_TMeshFrame hk1_0
      generalize g_TForward (aL v0) = p0 at H hw0
      generalize g_TMeshFrame (aL v1) = p1 at H hw1
      refine ⟨[.agg [.int .u8 p0.Own.x0, .int .u8 p0.Own.x1, .int .u8 p0.Own.x2, .int .u8 p0.Own.x3, .int .u8 p0.Own.x4, .int .u8 p0.Own.x5, .int .i64 p0.Seq, .ro 7 p0.Seen.length false (enR c_TForwardMark p0.Seen), .ro 12 p0.Nexts.length false (enR c_TForwardHop p0.Nexts)], .agg (.int .u8 p1.From.x0 :: .int .u8 p1.From.x1 :: .int .u8 p1.From.x2 :: .int .u8 p1.From.x3 :: .int .u8 p1.From.x4 :: .int .u8 p1.From.x5 :: .int .u8 p1.To.x0 :: .int .u8 p1.To.x1 :: .int .u8 p1.To.x2 :: .int .u8 p1.To.x3 :: .int .u8 p1.To.x4 :: .int .u8 p1.To.x5 :: .int .u8 p1.Enter.x0 :: .int .u8 p1.Enter.x1 :: .int .u8 p1.Enter.x2 :: .int .u8 p1.Enter.x3 :: .int .u8 p1.Enter.x4 :: .int .u8 p1.Enter.x5 :: .int .u8 p1.Leave.x0 :: .int .u8 p1.Leave.x1 :: .int .u8 p1.Leave.x2 :: .int .u8 p1.Leave.x3 :: .int .u8 p1.Leave.x4 :: .int .u8 p1.Leave.x5 :: .int .u8 p1.Source.x0 :: .int .u8 p1.Source.x1 :: .int .u8 p1.Source.x2 :: .int .u8 p1.Source.x3 :: .int .u8 p1.Source.x4 :: .int .u8 p1.Source.x5 :: .int .u8 p1.Target.x0 :: .int .u8 p1.Target.x1 :: .int .u8 p1.Target.x2 :: .int .u8 p1.Target.x3 :: .int .u8 p1.Target.x4 :: .int .u8 p1.Target.x5 :: .int .i64 p1.Seq :: .int .i64 p1.Ttl :: .ro 1 p1.Data.length false (enR c_u8 p1.Data) :: [])], .tup [.agg [.int .u8 r.1.Own.x0, .int .u8 r.1.Own.x1, .int .u8 r.1.Own.x2, .int .u8 r.1.Own.x3, .int .u8 r.1.Own.x4, .int .u8 r.1.Own.x5, .int .i64 r.1.Seq, .ro 7 r.1.Seen.length false (enR c_TForwardMark r.1.Seen), .ro 12 r.1.Nexts.length false (enR c_TForwardHop r.1.Nexts)], .int .u8 r.2.1, .agg (.int .u8 r.2.2.1.From.x0 :: .int .u8 r.2.2.1.From.x1 :: .int .u8 r.2.2.1.From.x2 :: .int .u8 r.2.2.1.From.x3 :: .int .u8 r.2.2.1.From.x4 :: .int .u8 r.2.2.1.From.x5 :: .int .u8 r.2.2.1.To.x0 :: .int .u8 r.2.2.1.To.x1 :: .int .u8 r.2.2.1.To.x2 :: .int .u8 r.2.2.1.To.x3 :: .int .u8 r.2.2.1.To.x4 :: .int .u8 r.2.2.1.To.x5 :: .int .u8 r.2.2.1.Enter.x0 :: .int .u8 r.2.2.1.Enter.x1 :: .int .u8 r.2.2.1.Enter.x2 :: .int .u8 r.2.2.1.Enter.x3 :: .int .u8 r.2.2.1.Enter.x4 :: .int .u8 r.2.2.1.Enter.x5 :: .int .u8 r.2.2.1.Leave.x0 :: .int .u8 r.2.2.1.Leave.x1 :: .int .u8 r.2.2.1.Leave.x2 :: .int .u8 r.2.2.1.Leave.x3 :: .int .u8 r.2.2.1.Leave.x4 :: .int .u8 r.2.2.1.Leave.x5 :: .int .u8 r.2.2.1.Source.x0 :: .int .u8 r.2.2.1.Source.x1 :: .int .u8 r.2.2.1.Source.x2 :: .int .u8 r.2.2.1.Source.x3 :: .int .u8 r.2.2.1.Source.x4 :: .int .u8 r.2.2.1.Source.x5 :: .int .u8 r.2.2.1.Target.x0 :: .int .u8 r.2.2.1.Target.x1 :: .int .u8 r.2.2.1.Target.x2 :: .int .u8 r.2.2.1.Target.x3 :: .int .u8 r.2.2.1.Target.x4 :: .int .u8 r.2.2.1.Target.x5 :: .int .i64 r.2.2.1.Seq :: .int .i64 r.2.2.1.Ttl :: .ro 1 r.2.2.1.Data.length false (enR c_u8 r.2.2.1.Data) :: []), .int .i64 r.2.2.2], [], (fun E vs F => FR_wk1 hw0.1 F (fun vs F => FR_wk1 hw1.1 F (fun vs F => F))), by simp only [ren, renL], trivial, ?_⟩
      rw [Try.ntmps21]
      simp only [List.length_cons, List.length_nil, Nat.reduceAdd, Nat.reduceSub, List.replicate_succ, List.replicate_zero, List.cons_append, List.nil_append]
      unfold F21 at H
      try dsimp only at H
      refine sq ctNo_ok ?_
      simp only [go_sem, Nat.reduceLeDiff, Nat.reduceLT, Nat.reduceAdd, Nat.reduceMul, Nat.reduceSub, Nat.reduceEqDiff, Nat.reduceBEq, Int.reduceToNat, reduceCtorEq]
      refine seqM ?_
      refine seqM ?_
      obtain ⟨r1, e2, H⟩ := bsi H
      obtain ⟨f3, H⟩ := need_some.1 H
      replace f3 := g_iff.1 f3
      refine rg ct21t0_ok ?_
      simp only [go_sem, Nat.reduceLeDiff, Nat.reduceLT, Nat.reduceAdd, Nat.reduceMul, Nat.reduceSub, Nat.reduceEqDiff, Nat.reduceBEq, Int.reduceToNat, reduceCtorEq, ct21t0_24, body24, ct21t0_44, body44, e2]
      repeat ((with_reducible refine And.intro ?_ ?_); focus (first | (with_reducible trivial) | omega | exact f3 | (intro g; have q := f3 (by first | exact g | (rw [g]; rfl) | simpa using g); first | exact q | exact ⟨q.1, q.2.1⟩ | exact q.2.2 | omega | exact ⟨g, q⟩ | exact ⟨trivial, q⟩ | exact ⟨g, q.1, q.2.1⟩ | exact ⟨g, q.2.2⟩) | (intro g; (try have q0 := f3 (by first | exact g | (rw [g]; rfl) | simpa using g)); and_intros <;> first | (with_reducible trivial) | assumption | exact nfc | (intro g2; rw [g, g2]; rfl) | (intro g2; assumption) | (simp only [g, Bool.true_and, Bool.and_true, Bool.not_false, Bool.not_true]; assumption) | grind) | (and_intros <;> first | (with_reducible trivial) | omega | assumption | exact nfc | first | exact rfl | exact trivial | exact fitI | exact .inr rfl | exact .inl rfl | exact fun x hx => absurd hx (by omega)) | grind))
      refine condM rfl trivial (fun hc => ?_) (fun hc => ?_)
      · replace H := cond_t hc H
        refine sq ctNo_ok ?_
        simp only [go_sem, Nat.reduceLeDiff, Nat.reduceLT, Nat.reduceAdd, Nat.reduceMul, Nat.reduceSub, Nat.reduceEqDiff, Nat.reduceBEq, Int.reduceToNat, reduceCtorEq]
        repeat ((with_reducible refine And.intro ?_ ?_); focus (first | (with_reducible trivial) | omega | grind))
        refine rg ctNo_ok ?_
        simp only [go_sem, Nat.reduceLeDiff, Nat.reduceLT, Nat.reduceAdd, Nat.reduceMul, Nat.reduceSub, Nat.reduceEqDiff, Nat.reduceBEq, Int.reduceToNat, reduceCtorEq]
        obtain rfl := Option.some.inj H
        refine ⟨[0, 1, 2, 3], ?_, ?_, [], ?_, ?_, rfl⟩
        · simp only [go_sem, Nat.reduceEqDiff, Nat.reduceBEq, Nat.reduceAdd]
          try (and_intros <;> first | (with_reducible trivial) | omega | exact nfc | trivial)
        · simp only [go_sem, Nat.reduceEqDiff, Nat.reduceBEq, Nat.reduceAdd]
          try (and_intros <;> first | (with_reducible trivial) | omega | exact nfc | trivial)
        · simp only [go_sem, Nat.reduceEqDiff, Nat.reduceBEq, Nat.reduceAdd]
          exact Cv_tup (CvL_cons (Cv_agg (CvL_cons Cv_int (CvL_cons Cv_int (CvL_cons Cv_int (CvL_cons Cv_int (CvL_cons Cv_int (CvL_cons Cv_int (CvL_cons Cv_int (CvL_cons (Cv_ronil (α := TForwardMark)) (CvL_cons (Cv_ronil (α := TForwardHop)) CvL_nil)))))))))) (CvL_cons Cv_int (CvL_cons (Cv_agg (CvL_cons Cv_int (CvL_cons Cv_int (CvL_cons Cv_int (CvL_cons Cv_int (CvL_cons Cv_int (CvL_cons Cv_int (CvL_cons Cv_int (CvL_cons Cv_int (CvL_cons Cv_int (CvL_cons Cv_int (CvL_cons Cv_int (CvL_cons Cv_int (CvL_cons Cv_int (CvL_cons Cv_int (CvL_cons Cv_int (CvL_cons Cv_int (CvL_cons Cv_int (CvL_cons Cv_int (CvL_cons Cv_int (CvL_cons Cv_int (CvL_cons Cv_int (CvL_cons Cv_int (CvL_cons Cv_int (CvL_cons Cv_int (CvL_cons Cv_int (CvL_cons Cv_int (CvL_cons Cv_int (CvL_cons Cv_int (CvL_cons Cv_int (CvL_cons Cv_int (CvL_cons Cv_int (CvL_cons Cv_int (CvL_cons Cv_int (CvL_cons Cv_int (CvL_cons Cv_int (CvL_cons Cv_int (CvL_cons Cv_int (CvL_cons Cv_int (CvL_cons (Cv_ronil (α := Int)) CvL_nil)))))))))))))))))))))))))))))))))))))))) (CvL_cons Cv_int CvL_nil))))
        · simp only [go_sem, Nat.reduceEqDiff, Nat.reduceBEq, Nat.reduceAdd, CvH]
      replace H := cond_f hc H
      refine rg ctNo_ok ?_
      simp only [go_sem, Nat.reduceLeDiff, Nat.reduceLT, Nat.reduceAdd, Nat.reduceMul, Nat.reduceSub, Nat.reduceEqDiff, Nat.reduceBEq, Int.reduceToNat, reduceCtorEq]
      refine sq ctNo_ok ?_
      simp only [go_sem, Nat.reduceLeDiff, Nat.reduceLT, Nat.reduceAdd, Nat.reduceMul, Nat.reduceSub, Nat.reduceEqDiff, Nat.reduceBEq, Int.reduceToNat, reduceCtorEq]
      repeat ((with_reducible refine And.intro ?_ ?_); focus (first | (with_reducible trivial) | omega | grind))
      refine seqM ?_
      refine seqM ?_
      obtain ⟨r4, e5, H⟩ := bsi H
      obtain ⟨f6, H⟩ := need_some.1 H
      replace f6 := g_iff.1 f6
      refine rg ct21t1_ok ?_
      simp only [go_sem, Nat.reduceLeDiff, Nat.reduceLT, Nat.reduceAdd, Nat.reduceMul, Nat.reduceSub, Nat.reduceEqDiff, Nat.reduceBEq, Int.reduceToNat, reduceCtorEq, ct21t1_28, body28, ct21t1_45, body45, e5]
      repeat ((with_reducible refine And.intro ?_ ?_); focus (first | (with_reducible trivial) | omega | exact f6 | (intro g; have q := f6 (by first | exact g | (rw [g]; rfl) | simpa using g); first | exact q | exact ⟨q.1, q.2.1⟩ | exact q.2.2 | omega | exact ⟨g, q⟩ | exact ⟨trivial, q⟩ | exact ⟨g, q.1, q.2.1⟩ | exact ⟨g, q.2.2⟩) | (intro g; (try have q0 := f6 (by first | exact g | (rw [g]; rfl) | simpa using g)); and_intros <;> first | (with_reducible trivial) | assumption | exact nfc | (intro g2; rw [g, g2]; rfl) | (intro g2; assumption) | (simp only [g, Bool.true_and, Bool.and_true, Bool.not_false, Bool.not_true]; assumption) | grind) | (and_intros <;> first | (with_reducible trivial) | omega | assumption | exact nfc | first | exact rfl | exact trivial | exact fitI | exact .inr rfl | exact .inl rfl | exact fun x hx => absurd hx (by omega)) | grind))
      refine condM rfl trivial (fun hc => ?_) (fun hc => ?_)
      · replace H := cond_t hc H
        refine seqM ?_
        obtain ⟨r7, e8, H⟩ := bsi H
        refine rg ct21t2_ok ?_
        simp only [go_sem, Nat.reduceLeDiff, Nat.reduceLT, Nat.reduceAdd, Nat.reduceMul, Nat.reduceSub, Nat.reduceEqDiff, Nat.reduceBEq, Int.reduceToNat, reduceCtorEq, ct21t2_19, body19, e8]
        repeat ((with_reducible refine And.intro ?_ ?_); focus (first | (and_intros <;> first | (with_reducible trivial) | omega | assumption | exact nfc | first | exact rfl | exact trivial | exact fitI | exact .inr rfl | exact .inl rfl | exact fun x hx => absurd hx (by omega)) | grind))
        refine rg ctNo_ok ?_
        simp only [go_sem, Nat.reduceLeDiff, Nat.reduceLT, Nat.reduceAdd, Nat.reduceMul, Nat.reduceSub, Nat.reduceEqDiff, Nat.reduceBEq, Int.reduceToNat, reduceCtorEq]
        obtain rfl := Option.some.inj H
        refine ⟨[5, 6, 0, 1, 2, 3, 4], ?_, ?_, [], ?_, ?_, rfl⟩
        · simp only [go_sem, Nat.reduceEqDiff, Nat.reduceBEq, Nat.reduceAdd]
          try (and_intros <;> first | (with_reducible trivial) | omega | exact nfc | trivial)
        · simp only [go_sem, Nat.reduceEqDiff, Nat.reduceBEq, Nat.reduceAdd]
          try (and_intros <;> first | (with_reducible trivial) | omega | exact nfc | trivial)
        · simp only [go_sem, Nat.reduceEqDiff, Nat.reduceBEq, Nat.reduceAdd]
          exact Cv_tup (CvL_cons (Cv_agg (CvL_cons Cv_int (CvL_cons Cv_int (CvL_cons Cv_int (CvL_cons Cv_int (CvL_cons Cv_int (CvL_cons Cv_int (CvL_cons Cv_int (CvL_cons (ro_row (by first | rfl | simp) (fun _ _ _ _ => rfl)) (CvL_cons (ro_row (by first | rfl | simp) (fun _ _ _ _ => rfl)) CvL_nil)))))))))) (CvL_cons Cv_int (CvL_cons (Cv_agg (CvL_cons Cv_int (CvL_cons Cv_int (CvL_cons Cv_int (CvL_cons Cv_int (CvL_cons Cv_int (CvL_cons Cv_int (CvL_cons Cv_int (CvL_cons Cv_int (CvL_cons Cv_int (CvL_cons Cv_int (CvL_cons Cv_int (CvL_cons Cv_int (CvL_cons Cv_int (CvL_cons Cv_int (CvL_cons Cv_int (CvL_cons Cv_int (CvL_cons Cv_int (CvL_cons Cv_int (CvL_cons Cv_int (CvL_cons Cv_int (CvL_cons Cv_int (CvL_cons Cv_int (CvL_cons Cv_int (CvL_cons Cv_int (CvL_cons Cv_int (CvL_cons Cv_int (CvL_cons Cv_int (CvL_cons Cv_int (CvL_cons Cv_int (CvL_cons Cv_int (CvL_cons Cv_int (CvL_cons Cv_int (CvL_cons Cv_int (CvL_cons Cv_int (CvL_cons Cv_int (CvL_cons Cv_int (CvL_cons Cv_int (CvL_cons Cv_int (CvL_cons (Cv_ronil (α := Int)) CvL_nil)))))))))))))))))))))))))))))))))))))))) (CvL_cons Cv_int CvL_nil))))
        · simp only [go_sem, Nat.reduceEqDiff, Nat.reduceBEq, Nat.reduceAdd, CvH]
      replace H := cond_f hc H
      refine rg ctNo_ok ?_
      simp only [go_sem, Nat.reduceLeDiff, Nat.reduceLT, Nat.reduceAdd, Nat.reduceMul, Nat.reduceSub, Nat.reduceEqDiff, Nat.reduceBEq, Int.reduceToNat, reduceCtorEq]
      refine seqM ?_
      obtain ⟨r9, e10, H⟩ := bsi H
      refine rg ct21t3_ok ?_
      simp only [go_sem, Nat.reduceLeDiff, Nat.reduceLT, Nat.reduceAdd, Nat.reduceMul, Nat.reduceSub, Nat.reduceEqDiff, Nat.reduceBEq, Int.reduceToNat, reduceCtorEq, ct21t3_46, body46, e10]
      repeat ((with_reducible refine And.intro ?_ ?_); focus (first | (and_intros <;> first | (with_reducible trivial) | omega | assumption | exact nfc | first | exact rfl | exact trivial | exact fitI | exact .inr rfl | exact .inl rfl | exact fun x hx => absurd hx (by omega)) | grind))
      refine seqM ?_
      refine sq ctNo_ok ?_
      simp only [go_sem, Nat.reduceLeDiff, Nat.reduceLT, Nat.reduceAdd, Nat.reduceMul, Nat.reduceSub, Nat.reduceEqDiff, Nat.reduceBEq, Int.reduceToNat, reduceCtorEq]
      refine condM rfl trivial (fun hc => ?_) (fun hc => ?_)
      · replace H := cond_t hc H
        refine seqM ?_
        refine draw_rule shT_ok ctNo_ok 0 (by kernel_rfl) (by kernel_rfl) ?_
        intro an han
        simp only [d_nil, d_cons, nxtD, xrD, xoD, roEq, minL, List.append_nil, refsOp, refs, refsL, mask, maskF, place, placeF, okLog, pairOk, hit, inL, slotsF, ren, renL, rnN, nrH, nrB, nrL, nr, dead0, deadS, List.replicate_zero, List.replicate_succ, Nat.sub_self, Nat.add_zero, Nat.zero_add, Nat.reduceSub, Nat.not_lt_zero, Nat.zero_le, Nat.lt_add_one, go_sem, Nat.reduceLeDiff, Nat.reduceLT, Nat.reduceAdd, Nat.reduceMul, Nat.reduceSub, Nat.reduceEqDiff, Nat.reduceBEq, Int.reduceToNat, reduceCtorEq]
        repeat ((with_reducible refine And.intro ?_ ?_); focus (and_intros <;> first | (with_reducible trivial) | (show anB _ _ _ = true; subst han; kernel_rfl) | (show (anB _ _ _ && _) = true; subst han; kernel_rfl) | omega | assumption | exact nrc | exact nfc | first | exact rfl | exact trivial | exact fitI | exact .inr rfl | exact .inl rfl | exact fun x hx => absurd hx (by omega)))
        refine rg ctNo_ok ?_
        simp only [go_sem, Nat.reduceLeDiff, Nat.reduceLT, Nat.reduceAdd, Nat.reduceMul, Nat.reduceSub, Nat.reduceEqDiff, Nat.reduceBEq, Int.reduceToNat, reduceCtorEq]
        obtain rfl := Option.some.inj H
        refine ⟨[0, 1, 2, 3, 4, 5], ?_, ?_, [], ?_, ?_, rfl⟩
        · simp only [go_sem, Nat.reduceEqDiff, Nat.reduceBEq, Nat.reduceAdd]
          try (and_intros <;> first | (with_reducible trivial) | omega | exact nfc | trivial)
        · simp only [go_sem, Nat.reduceEqDiff, Nat.reduceBEq, Nat.reduceAdd]
          try (and_intros <;> first | (with_reducible trivial) | omega | exact nfc | trivial)
        · simp only [go_sem, Nat.reduceEqDiff, Nat.reduceBEq, Nat.reduceAdd]
          exact Cv_tup (CvL_cons (Cv_agg (CvL_cons Cv_int (CvL_cons Cv_int (CvL_cons Cv_int (CvL_cons Cv_int (CvL_cons Cv_int (CvL_cons Cv_int (CvL_cons Cv_int (CvL_cons (Cv_nf (by simp only [nref])) (CvL_cons (Cv_nf (by simp only [nref])) CvL_nil)))))))))) (CvL_cons Cv_int (CvL_cons (Cv_agg (CvL_cons Cv_int (CvL_cons Cv_int (CvL_cons Cv_int (CvL_cons Cv_int (CvL_cons Cv_int (CvL_cons Cv_int (CvL_cons Cv_int (CvL_cons Cv_int (CvL_cons Cv_int (CvL_cons Cv_int (CvL_cons Cv_int (CvL_cons Cv_int (CvL_cons Cv_int (CvL_cons Cv_int (CvL_cons Cv_int (CvL_cons Cv_int (CvL_cons Cv_int (CvL_cons Cv_int (CvL_cons Cv_int (CvL_cons Cv_int (CvL_cons Cv_int (CvL_cons Cv_int (CvL_cons Cv_int (CvL_cons Cv_int (CvL_cons Cv_int (CvL_cons Cv_int (CvL_cons Cv_int (CvL_cons Cv_int (CvL_cons Cv_int (CvL_cons Cv_int (CvL_cons Cv_int (CvL_cons Cv_int (CvL_cons Cv_int (CvL_cons Cv_int (CvL_cons Cv_int (CvL_cons Cv_int (CvL_cons Cv_int (CvL_cons Cv_int (CvL_cons (Cv_nf (by simp only [nref])) CvL_nil)))))))))))))))))))))))))))))))))))))))) (CvL_cons Cv_int CvL_nil))))
        · simp only [go_sem, Nat.reduceEqDiff, Nat.reduceBEq, Nat.reduceAdd, CvH]
      replace H := cond_f hc H
      refine rg ctNo_ok ?_
      simp only [go_sem, Nat.reduceLeDiff, Nat.reduceLT, Nat.reduceAdd, Nat.reduceMul, Nat.reduceSub, Nat.reduceEqDiff, Nat.reduceBEq, Int.reduceToNat, reduceCtorEq]
      refine seqM ?_
      obtain ⟨r11, e12, H⟩ := bsi H
      refine rg ct21t4_ok ?_
      simp only [go_sem, Nat.reduceLeDiff, Nat.reduceLT, Nat.reduceAdd, Nat.reduceMul, Nat.reduceSub, Nat.reduceEqDiff, Nat.reduceBEq, Int.reduceToNat, reduceCtorEq, ct21t4_47, body47, e12]
      repeat ((with_reducible refine And.intro ?_ ?_); focus (first | (and_intros <;> first | (with_reducible trivial) | omega | assumption | exact nfc | first | exact rfl | exact trivial | exact fitI | exact .inr rfl | exact .inl rfl | exact fun x hx => absurd hx (by omega)) | grind))
      refine sq ctNo_ok ?_
      simp only [go_sem, Nat.reduceLeDiff, Nat.reduceLT, Nat.reduceAdd, Nat.reduceMul, Nat.reduceSub, Nat.reduceEqDiff, Nat.reduceBEq, Int.reduceToNat, reduceCtorEq]
      refine seqM ?_
      refine seqM ?_
      obtain ⟨r13, e14, H⟩ := bsi H
      refine rg ct21t5_ok ?_
      simp only [go_sem, Nat.reduceLeDiff, Nat.reduceLT, Nat.reduceAdd, Nat.reduceMul, Nat.reduceSub, Nat.reduceEqDiff, Nat.reduceBEq, Int.reduceToNat, reduceCtorEq, ct21t5_45, body45, e14]
      repeat ((with_reducible refine And.intro ?_ ?_); focus (first | (and_intros <;> first | (with_reducible trivial) | omega | assumption | exact nfc | first | exact rfl | exact trivial | exact fitI | exact .inr rfl | exact .inl rfl | exact fun x hx => absurd hx (by omega)) | grind))
      refine condM' rfl trivial (fun hc => ?_) (fun hc => ?_)
      · replace H := cond_f hc H
        refine rg ctNo_ok ?_
        simp only [go_sem, Nat.reduceLeDiff, Nat.reduceLT, Nat.reduceAdd, Nat.reduceMul, Nat.reduceSub, Nat.reduceEqDiff, Nat.reduceBEq, Int.reduceToNat, reduceCtorEq]
        refine seqM ?_
        refine sq ctNo_ok ?_
        simp only [go_sem, Nat.reduceLeDiff, Nat.reduceLT, Nat.reduceAdd, Nat.reduceMul, Nat.reduceSub, Nat.reduceEqDiff, Nat.reduceBEq, Int.reduceToNat, reduceCtorEq]
        refine condM rfl trivial (fun hc => ?_) (fun hc => ?_)
        · replace H := cond_t hc H
          refine sq ctNo_ok ?_
          simp only [go_sem, Nat.reduceLeDiff, Nat.reduceLT, Nat.reduceAdd, Nat.reduceMul, Nat.reduceSub, Nat.reduceEqDiff, Nat.reduceBEq, Int.reduceToNat, reduceCtorEq]
          repeat ((with_reducible refine And.intro ?_ ?_); focus (first | (with_reducible trivial) | omega | grind))
          refine rg ctNo_ok ?_
          simp only [go_sem, Nat.reduceLeDiff, Nat.reduceLT, Nat.reduceAdd, Nat.reduceMul, Nat.reduceSub, Nat.reduceEqDiff, Nat.reduceBEq, Int.reduceToNat, reduceCtorEq]
          obtain rfl := Option.some.inj H
          refine ⟨[0, 1, 2, 3, 4, 5, 6], ?_, ?_, [], ?_, ?_, rfl⟩
          · simp only [go_sem, Nat.reduceEqDiff, Nat.reduceBEq, Nat.reduceAdd]
            try (and_intros <;> first | (with_reducible trivial) | omega | exact nfc | trivial)
          · simp only [go_sem, Nat.reduceEqDiff, Nat.reduceBEq, Nat.reduceAdd]
            try (and_intros <;> first | (with_reducible trivial) | omega | exact nfc | trivial)
          · simp only [go_sem, Nat.reduceEqDiff, Nat.reduceBEq, Nat.reduceAdd]
            exact Cv_tup (CvL_cons (Cv_agg (CvL_cons Cv_int (CvL_cons Cv_int (CvL_cons Cv_int (CvL_cons Cv_int (CvL_cons Cv_int (CvL_cons Cv_int (CvL_cons Cv_int (CvL_cons (Cv_nf (by simp only [nref])) (CvL_cons (Cv_nf (by simp only [nref])) CvL_nil)))))))))) (CvL_cons Cv_int (CvL_cons (Cv_agg (CvL_cons Cv_int (CvL_cons Cv_int (CvL_cons Cv_int (CvL_cons Cv_int (CvL_cons Cv_int (CvL_cons Cv_int (CvL_cons Cv_int (CvL_cons Cv_int (CvL_cons Cv_int (CvL_cons Cv_int (CvL_cons Cv_int (CvL_cons Cv_int (CvL_cons Cv_int (CvL_cons Cv_int (CvL_cons Cv_int (CvL_cons Cv_int (CvL_cons Cv_int (CvL_cons Cv_int (CvL_cons Cv_int (CvL_cons Cv_int (CvL_cons Cv_int (CvL_cons Cv_int (CvL_cons Cv_int (CvL_cons Cv_int (CvL_cons Cv_int (CvL_cons Cv_int (CvL_cons Cv_int (CvL_cons Cv_int (CvL_cons Cv_int (CvL_cons Cv_int (CvL_cons Cv_int (CvL_cons Cv_int (CvL_cons Cv_int (CvL_cons Cv_int (CvL_cons Cv_int (CvL_cons Cv_int (CvL_cons Cv_int (CvL_cons Cv_int (CvL_cons (Cv_ronil (α := Int)) CvL_nil)))))))))))))))))))))))))))))))))))))))) (CvL_cons Cv_int CvL_nil))))
          · simp only [go_sem, Nat.reduceEqDiff, Nat.reduceBEq, Nat.reduceAdd, CvH]
        replace H := cond_f hc H
        refine rg ctNo_ok ?_
        simp only [go_sem, Nat.reduceLeDiff, Nat.reduceLT, Nat.reduceAdd, Nat.reduceMul, Nat.reduceSub, Nat.reduceEqDiff, Nat.reduceBEq, Int.reduceToNat, reduceCtorEq]
        refine seqM ?_
        refine sq ctNo_ok ?_
        simp only [go_sem, Nat.reduceLeDiff, Nat.reduceLT, Nat.reduceAdd, Nat.reduceMul, Nat.reduceSub, Nat.reduceEqDiff, Nat.reduceBEq, Int.reduceToNat, reduceCtorEq]
        refine condM rfl trivial (fun hc => ?_) (fun hc => ?_)
        · replace H := cond_t hc H
          refine seqM ?_
          refine draw_rule shT_ok ctNo_ok 0 (by kernel_rfl) (by kernel_rfl) ?_
          intro an han
          simp only [d_nil, d_cons, nxtD, xrD, xoD, roEq, minL, List.append_nil, refsOp, refs, refsL, mask, maskF, place, placeF, okLog, pairOk, hit, inL, slotsF, ren, renL, rnN, nrH, nrB, nrL, nr, dead0, deadS, List.replicate_zero, List.replicate_succ, Nat.sub_self, Nat.add_zero, Nat.zero_add, Nat.reduceSub, Nat.not_lt_zero, Nat.zero_le, Nat.lt_add_one, go_sem, Nat.reduceLeDiff, Nat.reduceLT, Nat.reduceAdd, Nat.reduceMul, Nat.reduceSub, Nat.reduceEqDiff, Nat.reduceBEq, Int.reduceToNat, reduceCtorEq]
          repeat ((with_reducible refine And.intro ?_ ?_); focus (and_intros <;> first | (with_reducible trivial) | (show anB _ _ _ = true; subst han; kernel_rfl) | (show (anB _ _ _ && _) = true; subst han; kernel_rfl) | omega | assumption | exact nrc | exact nfc | first | exact rfl | exact trivial | exact fitI | exact .inr rfl | exact .inl rfl | exact fun x hx => absurd hx (by omega)))
          refine rg ctNo_ok ?_
          simp only [go_sem, Nat.reduceLeDiff, Nat.reduceLT, Nat.reduceAdd, Nat.reduceMul, Nat.reduceSub, Nat.reduceEqDiff, Nat.reduceBEq, Int.reduceToNat, reduceCtorEq]
          obtain rfl := Option.some.inj H
          refine ⟨[0, 1, 2, 3, 4, 5, 6], ?_, ?_, [], ?_, ?_, rfl⟩
          · simp only [go_sem, Nat.reduceEqDiff, Nat.reduceBEq, Nat.reduceAdd]
            try (and_intros <;> first | (with_reducible trivial) | omega | exact nfc | trivial)
          · simp only [go_sem, Nat.reduceEqDiff, Nat.reduceBEq, Nat.reduceAdd]
            try (and_intros <;> first | (with_reducible trivial) | omega | exact nfc | trivial)
          · simp only [go_sem, Nat.reduceEqDiff, Nat.reduceBEq, Nat.reduceAdd]
            exact Cv_tup (CvL_cons (Cv_agg (CvL_cons Cv_int (CvL_cons Cv_int (CvL_cons Cv_int (CvL_cons Cv_int (CvL_cons Cv_int (CvL_cons Cv_int (CvL_cons Cv_int (CvL_cons (Cv_nf (by simp only [nref])) (CvL_cons (Cv_nf (by simp only [nref])) CvL_nil)))))))))) (CvL_cons Cv_int (CvL_cons (Cv_agg (CvL_cons Cv_int (CvL_cons Cv_int (CvL_cons Cv_int (CvL_cons Cv_int (CvL_cons Cv_int (CvL_cons Cv_int (CvL_cons Cv_int (CvL_cons Cv_int (CvL_cons Cv_int (CvL_cons Cv_int (CvL_cons Cv_int (CvL_cons Cv_int (CvL_cons Cv_int (CvL_cons Cv_int (CvL_cons Cv_int (CvL_cons Cv_int (CvL_cons Cv_int (CvL_cons Cv_int (CvL_cons Cv_int (CvL_cons Cv_int (CvL_cons Cv_int (CvL_cons Cv_int (CvL_cons Cv_int (CvL_cons Cv_int (CvL_cons Cv_int (CvL_cons Cv_int (CvL_cons Cv_int (CvL_cons Cv_int (CvL_cons Cv_int (CvL_cons Cv_int (CvL_cons Cv_int (CvL_cons Cv_int (CvL_cons Cv_int (CvL_cons Cv_int (CvL_cons Cv_int (CvL_cons Cv_int (CvL_cons Cv_int (CvL_cons Cv_int (CvL_cons (Cv_nf (by simp only [nref])) CvL_nil)))))))))))))))))))))))))))))))))))))))) (CvL_cons Cv_int CvL_nil))))
          · simp only [go_sem, Nat.reduceEqDiff, Nat.reduceBEq, Nat.reduceAdd, CvH]
        replace H := cond_f hc H
        refine rg ctNo_ok ?_
        simp only [go_sem, Nat.reduceLeDiff, Nat.reduceLT, Nat.reduceAdd, Nat.reduceMul, Nat.reduceSub, Nat.reduceEqDiff, Nat.reduceBEq, Int.reduceToNat, reduceCtorEq]
        refine sq ctNo_ok ?_
        simp only [go_sem, Nat.reduceLeDiff, Nat.reduceLT, Nat.reduceAdd, Nat.reduceMul, Nat.reduceSub, Nat.reduceEqDiff, Nat.reduceBEq, Int.reduceToNat, reduceCtorEq]
        repeat ((with_reducible refine And.intro ?_ ?_); focus (first | (with_reducible trivial) | omega | grind))
        refine sq ctNo_ok ?_
        simp only [go_sem, Nat.reduceLeDiff, Nat.reduceLT, Nat.reduceAdd, Nat.reduceMul, Nat.reduceSub, Nat.reduceEqDiff, Nat.reduceBEq, Int.reduceToNat, reduceCtorEq]
        repeat ((with_reducible refine And.intro ?_ ?_); focus (first | (with_reducible trivial) | omega | grind))
        refine sq ctNo_ok ?_
        simp only [go_sem, Nat.reduceLeDiff, Nat.reduceLT, Nat.reduceAdd, Nat.reduceMul, Nat.reduceSub, Nat.reduceEqDiff, Nat.reduceBEq, Int.reduceToNat, reduceCtorEq]
        repeat ((with_reducible refine And.intro ?_ ?_); focus (first | (with_reducible trivial) | omega | grind))
        refine seqM ?_
        refine draw_rule shT_ok ctNo_ok 0 (by kernel_rfl) (by kernel_rfl) ?_
        intro an han
        simp only [d_nil, d_cons, nxtD, xrD, xoD, roEq, minL, List.append_nil, refsOp, refs, refsL, mask, maskF, place, placeF, okLog, pairOk, hit, inL, slotsF, ren, renL, rnN, nrH, nrB, nrL, nr, dead0, deadS, List.replicate_zero, List.replicate_succ, Nat.sub_self, Nat.add_zero, Nat.zero_add, Nat.reduceSub, Nat.not_lt_zero, Nat.zero_le, Nat.lt_add_one, go_sem, Nat.reduceLeDiff, Nat.reduceLT, Nat.reduceAdd, Nat.reduceMul, Nat.reduceSub, Nat.reduceEqDiff, Nat.reduceBEq, Int.reduceToNat, reduceCtorEq]
        repeat ((with_reducible refine And.intro ?_ ?_); focus (and_intros <;> first | (with_reducible trivial) | (show anB _ _ _ = true; subst han; kernel_rfl) | (show (anB _ _ _ && _) = true; subst han; kernel_rfl) | omega | assumption | exact nrc | exact nfc | first | exact rfl | exact trivial | exact fitI | exact .inr rfl | exact .inl rfl | exact fun x hx => absurd hx (by omega)))
        refine rg ctNo_ok ?_
        simp only [go_sem, Nat.reduceLeDiff, Nat.reduceLT, Nat.reduceAdd, Nat.reduceMul, Nat.reduceSub, Nat.reduceEqDiff, Nat.reduceBEq, Int.reduceToNat, reduceCtorEq]
        obtain rfl := Option.some.inj H
        refine ⟨[0, 1, 2, 3, 4, 5, 6], ?_, ?_, [], ?_, ?_, rfl⟩
        · simp only [go_sem, Nat.reduceEqDiff, Nat.reduceBEq, Nat.reduceAdd]
          try (and_intros <;> first | (with_reducible trivial) | omega | exact nfc | trivial)
        · simp only [go_sem, Nat.reduceEqDiff, Nat.reduceBEq, Nat.reduceAdd]
          try (and_intros <;> first | (with_reducible trivial) | omega | exact nfc | trivial)
        · simp only [go_sem, Nat.reduceEqDiff, Nat.reduceBEq, Nat.reduceAdd]
          exact Cv_tup (CvL_cons (Cv_agg (CvL_cons Cv_int (CvL_cons Cv_int (CvL_cons Cv_int (CvL_cons Cv_int (CvL_cons Cv_int (CvL_cons Cv_int (CvL_cons Cv_int (CvL_cons (Cv_nf (by simp only [nref])) (CvL_cons (Cv_nf (by simp only [nref])) CvL_nil)))))))))) (CvL_cons Cv_int (CvL_cons (Cv_agg (CvL_cons Cv_int (CvL_cons Cv_int (CvL_cons Cv_int (CvL_cons Cv_int (CvL_cons Cv_int (CvL_cons Cv_int (CvL_cons Cv_int (CvL_cons Cv_int (CvL_cons Cv_int (CvL_cons Cv_int (CvL_cons Cv_int (CvL_cons Cv_int (CvL_cons Cv_int (CvL_cons Cv_int (CvL_cons Cv_int (CvL_cons Cv_int (CvL_cons Cv_int (CvL_cons Cv_int (CvL_cons Cv_int (CvL_cons Cv_int (CvL_cons Cv_int (CvL_cons Cv_int (CvL_cons Cv_int (CvL_cons Cv_int (CvL_cons Cv_int (CvL_cons Cv_int (CvL_cons Cv_int (CvL_cons Cv_int (CvL_cons Cv_int (CvL_cons Cv_int (CvL_cons Cv_int (CvL_cons Cv_int (CvL_cons Cv_int (CvL_cons Cv_int (CvL_cons Cv_int (CvL_cons Cv_int (CvL_cons Cv_int (CvL_cons Cv_int (CvL_cons (Cv_nf (by simp only [nref])) CvL_nil)))))))))))))))))))))))))))))))))))))))) (CvL_cons Cv_int CvL_nil))))
        · simp only [go_sem, Nat.reduceEqDiff, Nat.reduceBEq, Nat.reduceAdd, CvH]
      replace H := cond_t hc H
      refine seqM ?_
      refine sq ctNo_ok ?_
      simp only [go_sem, Nat.reduceLeDiff, Nat.reduceLT, Nat.reduceAdd, Nat.reduceMul, Nat.reduceSub, Nat.reduceEqDiff, Nat.reduceBEq, Int.reduceToNat, reduceCtorEq]
      refine condM rfl trivial (fun hc => ?_) (fun hc => ?_)
      · replace H := cond_t hc H
        refine seqM ?_
        refine draw_rule shT_ok ctNo_ok 0 (by kernel_rfl) (by kernel_rfl) ?_
        intro an han
        simp only [d_nil, d_cons, nxtD, xrD, xoD, roEq, minL, List.append_nil, refsOp, refs, refsL, mask, maskF, place, placeF, okLog, pairOk, hit, inL, slotsF, ren, renL, rnN, nrH, nrB, nrL, nr, dead0, deadS, List.replicate_zero, List.replicate_succ, Nat.sub_self, Nat.add_zero, Nat.zero_add, Nat.reduceSub, Nat.not_lt_zero, Nat.zero_le, Nat.lt_add_one, go_sem, Nat.reduceLeDiff, Nat.reduceLT, Nat.reduceAdd, Nat.reduceMul, Nat.reduceSub, Nat.reduceEqDiff, Nat.reduceBEq, Int.reduceToNat, reduceCtorEq]
        repeat ((with_reducible refine And.intro ?_ ?_); focus (and_intros <;> first | (with_reducible trivial) | (show anB _ _ _ = true; subst han; kernel_rfl) | (show (anB _ _ _ && _) = true; subst han; kernel_rfl) | omega | assumption | exact nrc | exact nfc | first | exact rfl | exact trivial | exact fitI | exact .inr rfl | exact .inl rfl | exact fun x hx => absurd hx (by omega)))
        refine rg ctNo_ok ?_
        simp only [go_sem, Nat.reduceLeDiff, Nat.reduceLT, Nat.reduceAdd, Nat.reduceMul, Nat.reduceSub, Nat.reduceEqDiff, Nat.reduceBEq, Int.reduceToNat, reduceCtorEq]
        obtain rfl := Option.some.inj H
        refine ⟨[0, 1, 2, 3, 4, 5, 6], ?_, ?_, [], ?_, ?_, rfl⟩
        · simp only [go_sem, Nat.reduceEqDiff, Nat.reduceBEq, Nat.reduceAdd]
          try (and_intros <;> first | (with_reducible trivial) | omega | exact nfc | trivial)
        · simp only [go_sem, Nat.reduceEqDiff, Nat.reduceBEq, Nat.reduceAdd]
          try (and_intros <;> first | (with_reducible trivial) | omega | exact nfc | trivial)
        · simp only [go_sem, Nat.reduceEqDiff, Nat.reduceBEq, Nat.reduceAdd]
          exact Cv_tup (CvL_cons (Cv_agg (CvL_cons Cv_int (CvL_cons Cv_int (CvL_cons Cv_int (CvL_cons Cv_int (CvL_cons Cv_int (CvL_cons Cv_int (CvL_cons Cv_int (CvL_cons (Cv_nf (by simp only [nref])) (CvL_cons (Cv_nf (by simp only [nref])) CvL_nil)))))))))) (CvL_cons Cv_int (CvL_cons (Cv_agg (CvL_cons Cv_int (CvL_cons Cv_int (CvL_cons Cv_int (CvL_cons Cv_int (CvL_cons Cv_int (CvL_cons Cv_int (CvL_cons Cv_int (CvL_cons Cv_int (CvL_cons Cv_int (CvL_cons Cv_int (CvL_cons Cv_int (CvL_cons Cv_int (CvL_cons Cv_int (CvL_cons Cv_int (CvL_cons Cv_int (CvL_cons Cv_int (CvL_cons Cv_int (CvL_cons Cv_int (CvL_cons Cv_int (CvL_cons Cv_int (CvL_cons Cv_int (CvL_cons Cv_int (CvL_cons Cv_int (CvL_cons Cv_int (CvL_cons Cv_int (CvL_cons Cv_int (CvL_cons Cv_int (CvL_cons Cv_int (CvL_cons Cv_int (CvL_cons Cv_int (CvL_cons Cv_int (CvL_cons Cv_int (CvL_cons Cv_int (CvL_cons Cv_int (CvL_cons Cv_int (CvL_cons Cv_int (CvL_cons Cv_int (CvL_cons Cv_int (CvL_cons (Cv_nf (by simp only [nref])) CvL_nil)))))))))))))))))))))))))))))))))))))))) (CvL_cons Cv_int CvL_nil))))
        · simp only [go_sem, Nat.reduceEqDiff, Nat.reduceBEq, Nat.reduceAdd, CvH]
      replace H := cond_f hc H
      refine rg ctNo_ok ?_
      simp only [go_sem, Nat.reduceLeDiff, Nat.reduceLT, Nat.reduceAdd, Nat.reduceMul, Nat.reduceSub, Nat.reduceEqDiff, Nat.reduceBEq, Int.reduceToNat, reduceCtorEq]
      refine draw_rule shT_ok ctNo_ok 0 (by kernel_rfl) (by kernel_rfl) ?_
      intro an han
      simp only [d_nil, d_cons, nxtD, xrD, xoD, roEq, minL, List.append_nil, refsOp, refs, refsL, mask, maskF, place, placeF, okLog, pairOk, hit, inL, slotsF, ren, renL, rnN, nrH, nrB, nrL, nr, dead0, deadS, List.replicate_zero, List.replicate_succ, Nat.sub_self, Nat.add_zero, Nat.zero_add, Nat.reduceSub, Nat.not_lt_zero, Nat.zero_le, Nat.lt_add_one, go_sem, Nat.reduceLeDiff, Nat.reduceLT, Nat.reduceAdd, Nat.reduceMul, Nat.reduceSub, Nat.reduceEqDiff, Nat.reduceBEq, Int.reduceToNat, reduceCtorEq]
      repeat ((with_reducible refine And.intro ?_ ?_); focus (and_intros <;> first | (with_reducible trivial) | (show anB _ _ _ = true; subst han; kernel_rfl) | (show (anB _ _ _ && _) = true; subst han; kernel_rfl) | omega | assumption | exact nrc | exact nfc | first | exact rfl | exact trivial | exact fitI | exact .inr rfl | exact .inl rfl | exact fun x hx => absurd hx (by omega)))
      refine seqM ?_
      refine sq ctNo_ok ?_
      simp only [go_sem, Nat.reduceLeDiff, Nat.reduceLT, Nat.reduceAdd, Nat.reduceMul, Nat.reduceSub, Nat.reduceEqDiff, Nat.reduceBEq, Int.reduceToNat, reduceCtorEq]
      refine condM rfl trivial (fun hc => ?_) (fun hc => ?_)
      · replace H := cond_t hc H
        refine sq ctNo_ok ?_
        simp only [go_sem, Nat.reduceLeDiff, Nat.reduceLT, Nat.reduceAdd, Nat.reduceMul, Nat.reduceSub, Nat.reduceEqDiff, Nat.reduceBEq, Int.reduceToNat, reduceCtorEq]
        repeat ((with_reducible refine And.intro ?_ ?_); focus (first | (with_reducible trivial) | omega | grind))
        refine rg ctNo_ok ?_
        simp only [go_sem, Nat.reduceLeDiff, Nat.reduceLT, Nat.reduceAdd, Nat.reduceMul, Nat.reduceSub, Nat.reduceEqDiff, Nat.reduceBEq, Int.reduceToNat, reduceCtorEq]
        obtain rfl := Option.some.inj H
        refine ⟨[0, 1, 2, 3, 4, 5, 6], ?_, ?_, [], ?_, ?_, rfl⟩
        · simp only [go_sem, Nat.reduceEqDiff, Nat.reduceBEq, Nat.reduceAdd]
          try (and_intros <;> first | (with_reducible trivial) | omega | exact nfc | trivial)
        · simp only [go_sem, Nat.reduceEqDiff, Nat.reduceBEq, Nat.reduceAdd]
          try (and_intros <;> first | (with_reducible trivial) | omega | exact nfc | trivial)
        · simp only [go_sem, Nat.reduceEqDiff, Nat.reduceBEq, Nat.reduceAdd]
          exact Cv_tup (CvL_cons (Cv_agg (CvL_cons Cv_int (CvL_cons Cv_int (CvL_cons Cv_int (CvL_cons Cv_int (CvL_cons Cv_int (CvL_cons Cv_int (CvL_cons Cv_int (CvL_cons (Cv_nf (by simp only [nref])) (CvL_cons (Cv_nf (by simp only [nref])) CvL_nil)))))))))) (CvL_cons Cv_int (CvL_cons (Cv_agg (CvL_cons Cv_int (CvL_cons Cv_int (CvL_cons Cv_int (CvL_cons Cv_int (CvL_cons Cv_int (CvL_cons Cv_int (CvL_cons Cv_int (CvL_cons Cv_int (CvL_cons Cv_int (CvL_cons Cv_int (CvL_cons Cv_int (CvL_cons Cv_int (CvL_cons Cv_int (CvL_cons Cv_int (CvL_cons Cv_int (CvL_cons Cv_int (CvL_cons Cv_int (CvL_cons Cv_int (CvL_cons Cv_int (CvL_cons Cv_int (CvL_cons Cv_int (CvL_cons Cv_int (CvL_cons Cv_int (CvL_cons Cv_int (CvL_cons Cv_int (CvL_cons Cv_int (CvL_cons Cv_int (CvL_cons Cv_int (CvL_cons Cv_int (CvL_cons Cv_int (CvL_cons Cv_int (CvL_cons Cv_int (CvL_cons Cv_int (CvL_cons Cv_int (CvL_cons Cv_int (CvL_cons Cv_int (CvL_cons Cv_int (CvL_cons Cv_int (CvL_cons (Cv_ronil (α := Int)) CvL_nil)))))))))))))))))))))))))))))))))))))))) (CvL_cons Cv_int CvL_nil))))
        · simp only [go_sem, Nat.reduceEqDiff, Nat.reduceBEq, Nat.reduceAdd, CvH]
      replace H := cond_f hc H
      refine rg ctNo_ok ?_
      simp only [go_sem, Nat.reduceLeDiff, Nat.reduceLT, Nat.reduceAdd, Nat.reduceMul, Nat.reduceSub, Nat.reduceEqDiff, Nat.reduceBEq, Int.reduceToNat, reduceCtorEq]
      refine seqM ?_
      refine sq ctNo_ok ?_
      simp only [go_sem, Nat.reduceLeDiff, Nat.reduceLT, Nat.reduceAdd, Nat.reduceMul, Nat.reduceSub, Nat.reduceEqDiff, Nat.reduceBEq, Int.reduceToNat, reduceCtorEq]
      refine condM rfl trivial (fun hc => ?_) (fun hc => ?_)
      · cases hc
      refine rg ctNo_ok ?_
      simp only [go_sem, Nat.reduceLeDiff, Nat.reduceLT, Nat.reduceAdd, Nat.reduceMul, Nat.reduceSub, Nat.reduceEqDiff, Nat.reduceBEq, Int.reduceToNat, reduceCtorEq]
      refine sq ctNo_ok ?_
      simp only [go_sem, Nat.reduceLeDiff, Nat.reduceLT, Nat.reduceAdd, Nat.reduceMul, Nat.reduceSub, Nat.reduceEqDiff, Nat.reduceBEq, Int.reduceToNat, reduceCtorEq]
      repeat ((with_reducible refine And.intro ?_ ?_); focus (first | (with_reducible trivial) | omega | grind))
      refine sq ctNo_ok ?_
      simp only [go_sem, Nat.reduceLeDiff, Nat.reduceLT, Nat.reduceAdd, Nat.reduceMul, Nat.reduceSub, Nat.reduceEqDiff, Nat.reduceBEq, Int.reduceToNat, reduceCtorEq]
      repeat ((with_reducible refine And.intro ?_ ?_); focus (first | (with_reducible trivial) | omega | grind))
      refine sq ctNo_ok ?_
      simp only [go_sem, Nat.reduceLeDiff, Nat.reduceLT, Nat.reduceAdd, Nat.reduceMul, Nat.reduceSub, Nat.reduceEqDiff, Nat.reduceBEq, Int.reduceToNat, reduceCtorEq]
      repeat ((with_reducible refine And.intro ?_ ?_); focus (first | (with_reducible trivial) | omega | grind))
      refine seqM ?_
      refine draw_rule shT_ok ctNo_ok 0 (by kernel_rfl) (by kernel_rfl) ?_
      intro an han
      simp only [d_nil, d_cons, nxtD, xrD, xoD, roEq, minL, List.append_nil, refsOp, refs, refsL, mask, maskF, place, placeF, okLog, pairOk, hit, inL, slotsF, ren, renL, rnN, nrH, nrB, nrL, nr, dead0, deadS, List.replicate_zero, List.replicate_succ, Nat.sub_self, Nat.add_zero, Nat.zero_add, Nat.reduceSub, Nat.not_lt_zero, Nat.zero_le, Nat.lt_add_one, go_sem, Nat.reduceLeDiff, Nat.reduceLT, Nat.reduceAdd, Nat.reduceMul, Nat.reduceSub, Nat.reduceEqDiff, Nat.reduceBEq, Int.reduceToNat, reduceCtorEq]
      repeat ((with_reducible refine And.intro ?_ ?_); focus (and_intros <;> first | (with_reducible trivial) | (show anB _ _ _ = true; subst han; kernel_rfl) | (show (anB _ _ _ && _) = true; subst han; kernel_rfl) | omega | assumption | exact nrc | exact nfc | first | exact rfl | exact trivial | exact fitI | exact .inr rfl | exact .inl rfl | exact fun x hx => absurd hx (by omega)))
      refine rg ctNo_ok ?_
      simp only [go_sem, Nat.reduceLeDiff, Nat.reduceLT, Nat.reduceAdd, Nat.reduceMul, Nat.reduceSub, Nat.reduceEqDiff, Nat.reduceBEq, Int.reduceToNat, reduceCtorEq]
      obtain rfl := Option.some.inj H
      refine ⟨[0, 1, 2, 3, 4, 5, 6], ?_, ?_, [], ?_, ?_, rfl⟩
      · simp only [go_sem, Nat.reduceEqDiff, Nat.reduceBEq, Nat.reduceAdd]
        try (and_intros <;> first | (with_reducible trivial) | omega | exact nfc | trivial)
      · simp only [go_sem, Nat.reduceEqDiff, Nat.reduceBEq, Nat.reduceAdd]
        try (and_intros <;> first | (with_reducible trivial) | omega | exact nfc | trivial)
      · simp only [go_sem, Nat.reduceEqDiff, Nat.reduceBEq, Nat.reduceAdd]
        exact Cv_tup (CvL_cons (Cv_agg (CvL_cons Cv_int (CvL_cons Cv_int (CvL_cons Cv_int (CvL_cons Cv_int (CvL_cons Cv_int (CvL_cons Cv_int (CvL_cons Cv_int (CvL_cons (Cv_nf (by simp only [nref])) (CvL_cons (Cv_nf (by simp only [nref])) CvL_nil)))))))))) (CvL_cons Cv_int (CvL_cons (Cv_agg (CvL_cons Cv_int (CvL_cons Cv_int (CvL_cons Cv_int (CvL_cons Cv_int (CvL_cons Cv_int (CvL_cons Cv_int (CvL_cons Cv_int (CvL_cons Cv_int (CvL_cons Cv_int (CvL_cons Cv_int (CvL_cons Cv_int (CvL_cons Cv_int (CvL_cons Cv_int (CvL_cons Cv_int (CvL_cons Cv_int (CvL_cons Cv_int (CvL_cons Cv_int (CvL_cons Cv_int (CvL_cons Cv_int (CvL_cons Cv_int (CvL_cons Cv_int (CvL_cons Cv_int (CvL_cons Cv_int (CvL_cons Cv_int (CvL_cons Cv_int (CvL_cons Cv_int (CvL_cons Cv_int (CvL_cons Cv_int (CvL_cons Cv_int (CvL_cons Cv_int (CvL_cons Cv_int (CvL_cons Cv_int (CvL_cons Cv_int (CvL_cons Cv_int (CvL_cons Cv_int (CvL_cons Cv_int (CvL_cons Cv_int (CvL_cons Cv_int (CvL_cons (Cv_nf (by simp only [nref])) CvL_nil)))))))))))))))))))))))))))))))))))))))) (CvL_cons Cv_int CvL_nil))))
      · simp only [go_sem, Nat.reduceEqDiff, Nat.reduceBEq, Nat.reduceAdd, CvH]
    · cases hb
  · unfold body21 at hb
    split at hb <;> cases hb
/-! hotspot/hotspotref41.Same -/
noncomputable def F22_L1 (p0 : TForward) (p1 : TForward) (v1_1 : Int) : Option (Lp (Int) ((Unit) ⊕ (Bool))) :=
  bif (bLt v1_1 (p0.Seen.length : Nat)) then (need (inb v1_1 p0.Seen.length) <| need (inb v1_1 p1.Seen.length) <| bif (!(bEq (((gd p0.Seen v1_1.toNat).Enter).x0) (((gd p1.Seen v1_1.toNat).Enter).x0) && (bEq (((gd p0.Seen v1_1.toNat).Enter).x1) (((gd p1.Seen v1_1.toNat).Enter).x1) && (bEq (((gd p0.Seen v1_1.toNat).Enter).x2) (((gd p1.Seen v1_1.toNat).Enter).x2) && (bEq (((gd p0.Seen v1_1.toNat).Enter).x3) (((gd p1.Seen v1_1.toNat).Enter).x3) && (bEq (((gd p0.Seen v1_1.toNat).Enter).x4) (((gd p1.Seen v1_1.toNat).Enter).x4) && (bEq (((gd p0.Seen v1_1.toNat).Enter).x5) (((gd p1.Seen v1_1.toNat).Enter).x5) && (bEq ((gd p0.Seen v1_1.toNat).Seq) ((gd p1.Seen v1_1.toNat).Seq))))))))) then (some (.done (.inr false))) else (some (.next (wr .i64 (v1_1 + 1))))) else (some (.done (.inl ())))
noncomputable def F22_L2 (p0 : TForward) (p1 : TForward) (v2_1 : Int) : Option (Lp (Int) ((Unit) ⊕ (Bool))) :=
  bif (bLt v2_1 (p0.Nexts.length : Nat)) then (need (inb v2_1 p0.Nexts.length) <| need (inb v2_1 p1.Nexts.length) <| bif (!(bEq (((gd p0.Nexts v2_1.toNat).Dest).x0) (((gd p1.Nexts v2_1.toNat).Dest).x0) && (bEq (((gd p0.Nexts v2_1.toNat).Dest).x1) (((gd p1.Nexts v2_1.toNat).Dest).x1) && (bEq (((gd p0.Nexts v2_1.toNat).Dest).x2) (((gd p1.Nexts v2_1.toNat).Dest).x2) && (bEq (((gd p0.Nexts v2_1.toNat).Dest).x3) (((gd p1.Nexts v2_1.toNat).Dest).x3) && (bEq (((gd p0.Nexts v2_1.toNat).Dest).x4) (((gd p1.Nexts v2_1.toNat).Dest).x4) && (bEq (((gd p0.Nexts v2_1.toNat).Dest).x5) (((gd p1.Nexts v2_1.toNat).Dest).x5) && (bEq (((gd p0.Nexts v2_1.toNat).Next).x0) (((gd p1.Nexts v2_1.toNat).Next).x0) && (bEq (((gd p0.Nexts v2_1.toNat).Next).x1) (((gd p1.Nexts v2_1.toNat).Next).x1) && (bEq (((gd p0.Nexts v2_1.toNat).Next).x2) (((gd p1.Nexts v2_1.toNat).Next).x2) && (bEq (((gd p0.Nexts v2_1.toNat).Next).x3) (((gd p1.Nexts v2_1.toNat).Next).x3) && (bEq (((gd p0.Nexts v2_1.toNat).Next).x4) (((gd p1.Nexts v2_1.toNat).Next).x4) && (bEq (((gd p0.Nexts v2_1.toNat).Next).x5) (((gd p1.Nexts v2_1.toNat).Next).x5)))))))))))))) then (some (.done (.inr false))) else (some (.next (wr .i64 (v2_1 + 1))))) else (some (.done (.inl ())))
noncomputable def F22 (p0 : TForward) (p1 : TForward) : Option (Bool) :=
  bif ((((!(bEq p0.Own.x0 p1.Own.x0 && (bEq p0.Own.x1 p1.Own.x1 && (bEq p0.Own.x2 p1.Own.x2 && (bEq p0.Own.x3 p1.Own.x3 && (bEq p0.Own.x4 p1.Own.x4 && (bEq p0.Own.x5 p1.Own.x5))))))) || (!bEq p0.Seq p1.Seq)) || (!bEq (p0.Seen.length : Nat) (p1.Seen.length : Nat))) || (!bEq (p0.Nexts.length : Nat) (p1.Nexts.length : Nat))) then (some false) else (lp (loopD (fun s => F22_L1 p0 p1 s) 0) (fun e => lp (loopD (fun s => F22_L2 p0 p1 s) 0) (fun e => some true) some) some)
noncomputable def body22 : List AV → AR
  | [v0, v1] => .pure (aK 9 k_TForward v0 ∧ aK 9 k_TForward v1 ∧ (F22 (g_TForward (aL v0)) (g_TForward (aL v1))).isSome = true) (.bool (gt (F22 (g_TForward (aL v0)) (g_TForward (aL v1)))))
  | _ => .fail
set_option maxHeartbeats 4000000 in
set_option maxRecDepth 20000 in
theorem ok22 : FnOk Try.prog 22 (pureC body22) := by
  refine pure_fnM body22 (rs := [.tmp 4]) Try.func22 (by kernel_rfl) rfl rfl ?_
  intro l ob v hb hob
  unfold body22 at hb
  split at hb
  · rename_i v0 v1
    injection hb with q1 q2; subst q1 q2
    obtain ⟨hk0_0, hk1_0, hob⟩ := hob
    obtain ⟨r, H⟩ := Option.isSome_iff_exists.1 hob
    rw [H, gt_some]
    have hw0 := wA_TForward hk0_0
    have hw1 := wA_TForward hk1_0
    generalize g_TForward (aL v0) = p0 at H hw0
    generalize g_TForward (aL v1) = p1 at H hw1
    refine ⟨[.agg [.int .u8 p0.Own.x0, .int .u8 p0.Own.x1, .int .u8 p0.Own.x2, .int .u8 p0.Own.x3, .int .u8 p0.Own.x4, .int .u8 p0.Own.x5, .int .i64 p0.Seq, .ro 7 p0.Seen.length false (enR c_TForwardMark p0.Seen), .ro 12 p0.Nexts.length false (enR c_TForwardHop p0.Nexts)], .agg [.int .u8 p1.Own.x0, .int .u8 p1.Own.x1, .int .u8 p1.Own.x2, .int .u8 p1.Own.x3, .int .u8 p1.Own.x4, .int .u8 p1.Own.x5, .int .i64 p1.Seq, .ro 7 p1.Seen.length false (enR c_TForwardMark p1.Seen), .ro 12 p1.Nexts.length false (enR c_TForwardHop p1.Nexts)]], _, (fun E vs F => FR_wk1 hw0.1 F (fun vs F => FR_wk1 hw1.1 F (fun vs F => F))), rfl, rfl, ?_⟩
    rw [Try.ntmps22]
    simp only [List.length_cons, List.length_nil, Nat.reduceAdd, Nat.reduceSub, List.replicate_succ, List.replicate_zero, List.cons_append, List.nil_append]
    unfold F22 at H
    try dsimp only at H
    refine sq ctNo_ok ?_
    simp only [go_sem, Nat.reduceLeDiff, Nat.reduceLT, Nat.reduceAdd, Nat.reduceMul, Nat.reduceSub, Nat.reduceEqDiff, Nat.reduceBEq, Int.reduceToNat, reduceCtorEq]
    refine seqM ?_
    refine sq ctNo_ok ?_
    simp only [go_sem, Nat.reduceLeDiff, Nat.reduceLT, Nat.reduceAdd, Nat.reduceMul, Nat.reduceSub, Nat.reduceEqDiff, Nat.reduceBEq, Int.reduceToNat, reduceCtorEq]
    repeat ((with_reducible refine And.intro ?_ ?_); focus (first | (with_reducible trivial) | omega | (intro g; and_intros <;> first | (with_reducible trivial) | assumption | exact nfc | (intro g2; rw [g, g2]; rfl) | (intro g2; assumption) | (simp only [g, Bool.true_and, Bool.and_true, Bool.not_false, Bool.not_true]; assumption) | grind) | (and_intros <;> first | (with_reducible trivial) | omega | assumption | exact nfc | first | exact rfl | exact trivial | exact fitI | exact .inr rfl | exact .inl rfl | exact fun x hx => absurd hx (by omega)) | grind))
    refine condM rfl trivial (fun hc => ?_) (fun hc => ?_)
    · replace H := cond_t hc H
      refine sq ctNo_ok ?_
      simp only [go_sem, Nat.reduceLeDiff, Nat.reduceLT, Nat.reduceAdd, Nat.reduceMul, Nat.reduceSub, Nat.reduceEqDiff, Nat.reduceBEq, Int.reduceToNat, reduceCtorEq]
      refine rg ctNo_ok ?_
      simp only [go_sem, Nat.reduceLeDiff, Nat.reduceLT, Nat.reduceAdd, Nat.reduceMul, Nat.reduceSub, Nat.reduceEqDiff, Nat.reduceBEq, Int.reduceToNat, reduceCtorEq]
      obtain rfl := Option.some.inj H
      first | rfl | simp only [Bool.and_false, Bool.false_and, Bool.and_true, Bool.true_and]
    replace H := cond_f hc H
    refine rg ctNo_ok ?_
    simp only [go_sem, Nat.reduceLeDiff, Nat.reduceLT, Nat.reduceAdd, Nat.reduceMul, Nat.reduceSub, Nat.reduceEqDiff, Nat.reduceBEq, Int.reduceToNat, reduceCtorEq]
    refine seqM ?_
    refine sq ctNo_ok ?_
    simp only [go_sem, Nat.reduceLeDiff, Nat.reduceLT, Nat.reduceAdd, Nat.reduceMul, Nat.reduceSub, Nat.reduceEqDiff, Nat.reduceBEq, Int.reduceToNat, reduceCtorEq]
    refine blkM ?_
    refine loop_den (fun s : Int => (.top :: .top :: .ptr 0 0 0 0 :: .ptr 1 0 0 0 :: .top :: .int .i64 s :: tp 67 [])) (fun s => [.lit 31 [.int .u8 p0.Own.x0, .int .u8 p0.Own.x1, .int .u8 p0.Own.x2, .int .u8 p0.Own.x3, .int .u8 p0.Own.x4, .int .u8 p0.Own.x5, .int .i64 p0.Seq, .ro 7 p0.Seen.length false (enR c_TForwardMark p0.Seen), .ro 12 p0.Nexts.length false (enR c_TForwardHop p0.Nexts)], .lit 31 [.int .u8 p1.Own.x0, .int .u8 p1.Own.x1, .int .u8 p1.Own.x2, .int .u8 p1.Own.x3, .int .u8 p1.Own.x4, .int .u8 p1.Own.x5, .int .i64 p1.Seq, .ro 7 p1.Seen.length false (enR c_TForwardMark p1.Seen), .ro 12 p1.Nexts.length false (enR c_TForwardHop p1.Nexts)]]) (fun e : Unit => (.top :: .top :: .ptr 0 0 0 0 :: .ptr 1 0 0 0 :: tp 69 [])) (fun e => [.lit 31 [.int .u8 p0.Own.x0, .int .u8 p0.Own.x1, .int .u8 p0.Own.x2, .int .u8 p0.Own.x3, .int .u8 p0.Own.x4, .int .u8 p0.Own.x5, .int .i64 p0.Seq, .ro 7 p0.Seen.length false (enR c_TForwardMark p0.Seen), .ro 12 p0.Nexts.length false (enR c_TForwardHop p0.Nexts)], .lit 31 [.int .u8 p1.Own.x0, .int .u8 p1.Own.x1, .int .u8 p1.Own.x2, .int .u8 p1.Own.x3, .int .u8 p1.Own.x4, .int .u8 p1.Own.x5, .int .i64 p1.Seq, .ro 7 p1.Seen.length false (enR c_TForwardMark p1.Seen), .ro 12 p1.Nexts.length false (enR c_TForwardHop p1.Nexts)]]) H ?_ (fun v1_1 o H hn1_1 hn2_1 => ?_) (fun e H => ?_)
    · refine SubF_of ⟨[some 0, some 1], ?_, ?_, by rfl, by rfl⟩
      · simp [CvL, Cv, getM, tp]
      · exact ⟨(by simp [CvB, CvL, Cv, blkAt, geth, getM]), (by simp [CvB, CvL, Cv, blkAt, geth, getM]), trivial⟩
    · unfold F22_L1 at H
      try dsimp only at H ⊢
      try simp only [tp]
      refine seqM ?_
      refine sq ctNo_ok ?_
      simp only [go_sem, Nat.reduceLeDiff, Nat.reduceLT, Nat.reduceAdd, Nat.reduceMul, Nat.reduceSub, Nat.reduceEqDiff, Nat.reduceBEq, Int.reduceToNat, reduceCtorEq]
      repeat ((with_reducible refine And.intro ?_ ?_); focus (first | (and_intros <;> first | (with_reducible trivial) | omega | assumption | exact nfc | first | exact rfl | exact trivial | exact fitI | exact .inr rfl | exact .inl rfl | exact fun x hx => absurd hx (by omega)) | grind))
      refine condM' rfl trivial (fun hc => ?_) (fun hc => ?_)
      · replace H := cond_f hc H
        refine rg ctNo_ok ?_
        simp only [go_sem, Nat.reduceLeDiff, Nat.reduceLT, Nat.reduceAdd, Nat.reduceMul, Nat.reduceSub, Nat.reduceEqDiff, Nat.reduceBEq, Int.reduceToNat, reduceCtorEq]
        refine ⟨_, (Option.some.inj H).symm, ?_⟩
        refine SubF_of ⟨[some 0, some 1], ?_, ?_, by rfl, by rfl⟩
        · simp [CvL, Cv, getM, tp]
        · exact ⟨(by simp [CvB, CvL, Cv, blkAt, geth, getM]), (by simp [CvB, CvL, Cv, blkAt, geth, getM]), trivial⟩
      replace H := cond_t hc H
      refine rg ctNo_ok ?_
      simp only [go_sem, Nat.reduceLeDiff, Nat.reduceLT, Nat.reduceAdd, Nat.reduceMul, Nat.reduceSub, Nat.reduceEqDiff, Nat.reduceBEq, Int.reduceToNat, reduceCtorEq]
      refine seqM ?_
      refine blkM ?_
      refine seqM ?_
      obtain ⟨f1, H⟩ := need_some.1 H
      replace f1 := inb_iff.1 f1
      obtain ⟨f2, H⟩ := need_some.1 H
      replace f2 := inb_iff.1 f2
      refine draw_quiet shT_ok ctNo_ok (by kernel_rfl) (by kernel_rfl) ?_
      simp only [go_sem, Nat.reduceLeDiff, Nat.reduceLT, Nat.reduceAdd, Nat.reduceMul, Nat.reduceSub, Nat.reduceEqDiff, Nat.reduceBEq, Int.reduceToNat, reduceCtorEq, f1, f2]
      repeat ((with_reducible refine And.intro ?_ ?_); focus (first | (with_reducible trivial) | omega | grind))
      refine condM rfl trivial (fun hc => ?_) (fun hc => ?_)
      · replace H := cond_t hc H
        refine sq ctNo_ok ?_
        simp only [go_sem, Nat.reduceLeDiff, Nat.reduceLT, Nat.reduceAdd, Nat.reduceMul, Nat.reduceSub, Nat.reduceEqDiff, Nat.reduceBEq, Int.reduceToNat, reduceCtorEq]
        refine rg ctNo_ok ?_
        simp only [go_sem, Nat.reduceLeDiff, Nat.reduceLT, Nat.reduceAdd, Nat.reduceMul, Nat.reduceSub, Nat.reduceEqDiff, Nat.reduceBEq, Int.reduceToNat, reduceCtorEq]
        have H := hn2_1 _ (Option.some.inj H).symm
        obtain rfl := Option.some.inj H
        first | rfl | simp only [Bool.and_false, Bool.false_and, Bool.and_true, Bool.true_and]
      replace H := cond_f hc H
      refine rg ctNo_ok ?_
      simp only [go_sem, Nat.reduceLeDiff, Nat.reduceLT, Nat.reduceAdd, Nat.reduceMul, Nat.reduceSub, Nat.reduceEqDiff, Nat.reduceBEq, Int.reduceToNat, reduceCtorEq]
      refine rg ctNo_ok ?_
      simp only [go_sem, Nat.reduceLeDiff, Nat.reduceLT, Nat.reduceAdd, Nat.reduceMul, Nat.reduceSub, Nat.reduceEqDiff, Nat.reduceBEq, Int.reduceToNat, reduceCtorEq]
      refine ⟨_, (Option.some.inj H).symm, ?_⟩
      refine SubF_of ⟨[some 0, some 1], ?_, ?_, by rfl, by rfl⟩
      · simp [CvL, Cv, getM, tp]
      · exact ⟨(by simp [CvB, CvL, Cv, blkAt, geth, getM]), (by simp [CvB, CvL, Cv, blkAt, geth, getM]), trivial⟩
    · try dsimp only at H ⊢
      try simp only [tp]
      try simp only [m_normal, k_normal, b_normal, kL_normal, r_normal]
      refine seqM ?_
      refine sq ctNo_ok ?_
      simp only [go_sem, Nat.reduceLeDiff, Nat.reduceLT, Nat.reduceAdd, Nat.reduceMul, Nat.reduceSub, Nat.reduceEqDiff, Nat.reduceBEq, Int.reduceToNat, reduceCtorEq]
      refine blkM ?_
      refine loop_den (fun s : Int => (.top :: .top :: .ptr 0 0 0 0 :: .ptr 1 0 0 0 :: .top :: .top :: .int .i64 s :: tp 66 [])) (fun s => [.lit 31 [.int .u8 p0.Own.x0, .int .u8 p0.Own.x1, .int .u8 p0.Own.x2, .int .u8 p0.Own.x3, .int .u8 p0.Own.x4, .int .u8 p0.Own.x5, .int .i64 p0.Seq, .ro 7 p0.Seen.length false (enR c_TForwardMark p0.Seen), .ro 12 p0.Nexts.length false (enR c_TForwardHop p0.Nexts)], .lit 31 [.int .u8 p1.Own.x0, .int .u8 p1.Own.x1, .int .u8 p1.Own.x2, .int .u8 p1.Own.x3, .int .u8 p1.Own.x4, .int .u8 p1.Own.x5, .int .i64 p1.Seq, .ro 7 p1.Seen.length false (enR c_TForwardMark p1.Seen), .ro 12 p1.Nexts.length false (enR c_TForwardHop p1.Nexts)]]) (fun e : Unit => (tp 73 [])) (fun e => [.dead, .dead]) H ?_ (fun v2_1 o H hn1_2 hn2_2 => ?_) (fun e H => ?_)
      · refine SubF_of ⟨[some 0, some 1], ?_, ?_, by rfl, by rfl⟩
        · simp [CvL, Cv, getM, tp]
        · exact ⟨(by simp [CvB, CvL, Cv, blkAt, geth, getM]), (by simp [CvB, CvL, Cv, blkAt, geth, getM]), trivial⟩
      · unfold F22_L2 at H
        try dsimp only at H ⊢
        try simp only [tp]
        refine seqM ?_
        refine sq ctNo_ok ?_
        simp only [go_sem, Nat.reduceLeDiff, Nat.reduceLT, Nat.reduceAdd, Nat.reduceMul, Nat.reduceSub, Nat.reduceEqDiff, Nat.reduceBEq, Int.reduceToNat, reduceCtorEq]
        repeat ((with_reducible refine And.intro ?_ ?_); focus (first | (and_intros <;> first | (with_reducible trivial) | omega | assumption | exact nfc | first | exact rfl | exact trivial | exact fitI | exact .inr rfl | exact .inl rfl | exact fun x hx => absurd hx (by omega)) | grind))
        refine condM' rfl trivial (fun hc => ?_) (fun hc => ?_)
        · replace H := cond_f hc H
          refine rg ctNo_ok ?_
          simp only [go_sem, Nat.reduceLeDiff, Nat.reduceLT, Nat.reduceAdd, Nat.reduceMul, Nat.reduceSub, Nat.reduceEqDiff, Nat.reduceBEq, Int.reduceToNat, reduceCtorEq]
          refine ⟨_, (Option.some.inj H).symm, ?_⟩
          refine SubF_of ⟨[some 0, some 1], ?_, ?_, by rfl, by rfl⟩
          · simp [CvL, Cv, getM, tp]
          · exact ⟨CvB_dead, CvB_dead, trivial⟩
        replace H := cond_t hc H
        refine rg ctNo_ok ?_
        simp only [go_sem, Nat.reduceLeDiff, Nat.reduceLT, Nat.reduceAdd, Nat.reduceMul, Nat.reduceSub, Nat.reduceEqDiff, Nat.reduceBEq, Int.reduceToNat, reduceCtorEq]
        refine seqM ?_
        refine blkM ?_
        refine seqM ?_
        obtain ⟨f3, H⟩ := need_some.1 H
        replace f3 := inb_iff.1 f3
        obtain ⟨f4, H⟩ := need_some.1 H
        replace f4 := inb_iff.1 f4
        refine draw_quiet shT_ok ctNo_ok (by kernel_rfl) (by kernel_rfl) ?_
        simp only [go_sem, Nat.reduceLeDiff, Nat.reduceLT, Nat.reduceAdd, Nat.reduceMul, Nat.reduceSub, Nat.reduceEqDiff, Nat.reduceBEq, Int.reduceToNat, reduceCtorEq, f3, f4]
        repeat ((with_reducible refine And.intro ?_ ?_); focus (first | (with_reducible trivial) | omega | grind))
        refine condM rfl trivial (fun hc => ?_) (fun hc => ?_)
        · replace H := cond_t hc H
          refine sq ctNo_ok ?_
          simp only [go_sem, Nat.reduceLeDiff, Nat.reduceLT, Nat.reduceAdd, Nat.reduceMul, Nat.reduceSub, Nat.reduceEqDiff, Nat.reduceBEq, Int.reduceToNat, reduceCtorEq]
          refine rg ctNo_ok ?_
          simp only [go_sem, Nat.reduceLeDiff, Nat.reduceLT, Nat.reduceAdd, Nat.reduceMul, Nat.reduceSub, Nat.reduceEqDiff, Nat.reduceBEq, Int.reduceToNat, reduceCtorEq]
          have H := hn2_2 _ (Option.some.inj H).symm
          obtain rfl := Option.some.inj H
          first | rfl | simp only [Bool.and_false, Bool.false_and, Bool.and_true, Bool.true_and]
        replace H := cond_f hc H
        refine rg ctNo_ok ?_
        simp only [go_sem, Nat.reduceLeDiff, Nat.reduceLT, Nat.reduceAdd, Nat.reduceMul, Nat.reduceSub, Nat.reduceEqDiff, Nat.reduceBEq, Int.reduceToNat, reduceCtorEq]
        refine rg ctNo_ok ?_
        simp only [go_sem, Nat.reduceLeDiff, Nat.reduceLT, Nat.reduceAdd, Nat.reduceMul, Nat.reduceSub, Nat.reduceEqDiff, Nat.reduceBEq, Int.reduceToNat, reduceCtorEq]
        refine ⟨_, (Option.some.inj H).symm, ?_⟩
        refine SubF_of ⟨[some 0, some 1], ?_, ?_, by rfl, by rfl⟩
        · simp [CvL, Cv, getM, tp]
        · exact ⟨(by simp [CvB, CvL, Cv, blkAt, geth, getM]), (by simp [CvB, CvL, Cv, blkAt, geth, getM]), trivial⟩
      · try dsimp only at H ⊢
        try simp only [tp]
        try simp only [m_normal, k_normal, b_normal, kL_normal, r_normal]
        refine sq ctNo_ok ?_
        simp only [go_sem, Nat.reduceLeDiff, Nat.reduceLT, Nat.reduceAdd, Nat.reduceMul, Nat.reduceSub, Nat.reduceEqDiff, Nat.reduceBEq, Int.reduceToNat, reduceCtorEq]
        refine rg ctNo_ok ?_
        simp only [go_sem, Nat.reduceLeDiff, Nat.reduceLT, Nat.reduceAdd, Nat.reduceMul, Nat.reduceSub, Nat.reduceEqDiff, Nat.reduceBEq, Int.reduceToNat, reduceCtorEq]
        obtain rfl := Option.some.inj H
        first | rfl | simp only [Bool.and_false, Bool.false_and, Bool.and_true, Bool.true_and]
  · cases hb
/-! hotspot/hotspotref22.Same -/
noncomputable def F16_L1 (p0 : List Int) (p1 : List Int) (v1_1 : Int) : Option (Lp (Int) ((Unit) ⊕ (Bool))) :=
  bif (bLt v1_1 (p0.length : Nat)) then (need (inb v1_1 p0.length) <| need (inb v1_1 p1.length) <| bif (!bEq (gd p0 v1_1.toNat) (gd p1 v1_1.toNat)) then (some (.done (.inr false))) else (some (.next (wr .i64 (v1_1 + 1))))) else (some (.done (.inl ())))
noncomputable def F16 (p0 : List Int) (p1 : List Int) : Option (Bool) :=
  bif (!bEq (p0.length : Nat) (p1.length : Nat)) then (some false) else (lp (loopD (fun s => F16_L1 p0 p1 s) 0) (fun e => some true) some)
noncomputable def body16 : List AV → AR
  | [v0, v1] => .pure (lK k_u8 1 v0 ∧ lK k_u8 1 v1 ∧ (F16 (lA g_u8 v0) (lA g_u8 v1)).isSome = true) (.bool (gt (F16 (lA g_u8 v0) (lA g_u8 v1))))
  | _ => .fail
set_option maxHeartbeats 4000000 in
set_option maxRecDepth 20000 in
theorem ok16 : FnOk Try.prog 16 (pureC body16) := by
  refine pure_fnM body16 (rs := [.tmp 4]) Try.func16 (by kernel_rfl) rfl rfl ?_
  intro l ob v hb hob
  unfold body16 at hb
  split at hb
  · rename_i v0 v1
    injection hb with q1 q2; subst q1 q2
    obtain ⟨hk0_0, hk1_0, hob⟩ := hob
    obtain ⟨r, H⟩ := Option.isSome_iff_exists.1 hob
    rw [H, gt_some]
    have hw0 := lK_wk (fun r h => w_u8 h) hk0_0
    have hw1 := lK_wk (fun r h => w_u8 h) hk1_0
    generalize lA g_u8 v0 = p0 at H hw0
    generalize lA g_u8 v1 = p1 at H hw1
    refine ⟨[.ro 1 p0.length false (enR c_u8 p0), .ro 1 p1.length false (enR c_u8 p1)], _, (fun E vs F => FR_wk1 hw0.1 F (fun vs F => FR_wk1 hw1.1 F (fun vs F => F))), rfl, rfl, ?_⟩
    rw [Try.ntmps16]
    simp only [List.length_cons, List.length_nil, Nat.reduceAdd, Nat.reduceSub, List.replicate_succ, List.replicate_zero, List.cons_append, List.nil_append]
    unfold F16 at H
    try dsimp only at H
    refine sq ctNo_ok ?_
    simp only [go_sem, Nat.reduceLeDiff, Nat.reduceLT, Nat.reduceAdd, Nat.reduceMul, Nat.reduceSub, Nat.reduceEqDiff, Nat.reduceBEq, Int.reduceToNat, reduceCtorEq]
    refine seqM ?_
    refine sq ctNo_ok ?_
    simp only [go_sem, Nat.reduceLeDiff, Nat.reduceLT, Nat.reduceAdd, Nat.reduceMul, Nat.reduceSub, Nat.reduceEqDiff, Nat.reduceBEq, Int.reduceToNat, reduceCtorEq]
    repeat ((with_reducible refine And.intro ?_ ?_); focus (first | (and_intros <;> first | (with_reducible trivial) | omega | assumption | exact nfc | first | exact rfl | exact trivial | exact fitI | exact .inr rfl | exact .inl rfl | exact fun x hx => absurd hx (by omega)) | grind))
    refine condM rfl trivial (fun hc => ?_) (fun hc => ?_)
    · replace H := cond_t hc H
      refine sq ctNo_ok ?_
      simp only [go_sem, Nat.reduceLeDiff, Nat.reduceLT, Nat.reduceAdd, Nat.reduceMul, Nat.reduceSub, Nat.reduceEqDiff, Nat.reduceBEq, Int.reduceToNat, reduceCtorEq]
      refine rg ctNo_ok ?_
      simp only [go_sem, Nat.reduceLeDiff, Nat.reduceLT, Nat.reduceAdd, Nat.reduceMul, Nat.reduceSub, Nat.reduceEqDiff, Nat.reduceBEq, Int.reduceToNat, reduceCtorEq]
      obtain rfl := Option.some.inj H
      first | rfl | simp only [Bool.and_false, Bool.false_and, Bool.and_true, Bool.true_and]
    replace H := cond_f hc H
    refine rg ctNo_ok ?_
    simp only [go_sem, Nat.reduceLeDiff, Nat.reduceLT, Nat.reduceAdd, Nat.reduceMul, Nat.reduceSub, Nat.reduceEqDiff, Nat.reduceBEq, Int.reduceToNat, reduceCtorEq]
    refine seqM ?_
    refine sq ctNo_ok ?_
    simp only [go_sem, Nat.reduceLeDiff, Nat.reduceLT, Nat.reduceAdd, Nat.reduceMul, Nat.reduceSub, Nat.reduceEqDiff, Nat.reduceBEq, Int.reduceToNat, reduceCtorEq]
    refine blkM ?_
    refine loop_den (fun s : Int => (.ro 1 p0.length false (enR c_u8 p0) :: .ro 1 p1.length false (enR c_u8 p1) :: .top :: .top :: .top :: .int .i64 s :: tp 20 [])) (fun s => []) (fun e : Unit => (tp 26 [])) (fun e => []) H ?_ (fun v1_1 o H hn1_1 hn2_1 => ?_) (fun e H => ?_)
    · refine SubF_of ⟨[], ?_, ?_, by rfl, by rfl⟩
      · simp [CvL, Cv, getM, tp]
      · trivial
    · unfold F16_L1 at H
      try dsimp only at H ⊢
      try simp only [tp]
      refine seqM ?_
      refine sq ctNo_ok ?_
      simp only [go_sem, Nat.reduceLeDiff, Nat.reduceLT, Nat.reduceAdd, Nat.reduceMul, Nat.reduceSub, Nat.reduceEqDiff, Nat.reduceBEq, Int.reduceToNat, reduceCtorEq]
      repeat ((with_reducible refine And.intro ?_ ?_); focus (first | (and_intros <;> first | (with_reducible trivial) | omega | assumption | exact nfc | first | exact rfl | exact trivial | exact fitI | exact .inr rfl | exact .inl rfl | exact fun x hx => absurd hx (by omega)) | grind))
      refine condM' rfl trivial (fun hc => ?_) (fun hc => ?_)
      · replace H := cond_f hc H
        refine rg ctNo_ok ?_
        simp only [go_sem, Nat.reduceLeDiff, Nat.reduceLT, Nat.reduceAdd, Nat.reduceMul, Nat.reduceSub, Nat.reduceEqDiff, Nat.reduceBEq, Int.reduceToNat, reduceCtorEq]
        refine ⟨_, (Option.some.inj H).symm, ?_⟩
        refine SubF_of ⟨[], ?_, ?_, by rfl, by rfl⟩
        · simp [CvL, Cv, getM, tp]
        · trivial
      replace H := cond_t hc H
      refine rg ctNo_ok ?_
      simp only [go_sem, Nat.reduceLeDiff, Nat.reduceLT, Nat.reduceAdd, Nat.reduceMul, Nat.reduceSub, Nat.reduceEqDiff, Nat.reduceBEq, Int.reduceToNat, reduceCtorEq]
      refine seqM ?_
      refine blkM ?_
      refine seqM ?_
      obtain ⟨f1, H⟩ := need_some.1 H
      replace f1 := inb_iff.1 f1
      obtain ⟨f2, H⟩ := need_some.1 H
      replace f2 := inb_iff.1 f2
      refine draw_quiet shT_ok ctNo_ok (by kernel_rfl) (by kernel_rfl) ?_
      simp only [go_sem, Nat.reduceLeDiff, Nat.reduceLT, Nat.reduceAdd, Nat.reduceMul, Nat.reduceSub, Nat.reduceEqDiff, Nat.reduceBEq, Int.reduceToNat, reduceCtorEq, f1, f2]
      repeat ((with_reducible refine And.intro ?_ ?_); focus (first | (with_reducible trivial) | omega | grind))
      refine condM rfl trivial (fun hc => ?_) (fun hc => ?_)
      · replace H := cond_t hc H
        refine sq ctNo_ok ?_
        simp only [go_sem, Nat.reduceLeDiff, Nat.reduceLT, Nat.reduceAdd, Nat.reduceMul, Nat.reduceSub, Nat.reduceEqDiff, Nat.reduceBEq, Int.reduceToNat, reduceCtorEq]
        refine rg ctNo_ok ?_
        simp only [go_sem, Nat.reduceLeDiff, Nat.reduceLT, Nat.reduceAdd, Nat.reduceMul, Nat.reduceSub, Nat.reduceEqDiff, Nat.reduceBEq, Int.reduceToNat, reduceCtorEq]
        have H := hn2_1 _ (Option.some.inj H).symm
        obtain rfl := Option.some.inj H
        first | rfl | simp only [Bool.and_false, Bool.false_and, Bool.and_true, Bool.true_and]
      replace H := cond_f hc H
      refine rg ctNo_ok ?_
      simp only [go_sem, Nat.reduceLeDiff, Nat.reduceLT, Nat.reduceAdd, Nat.reduceMul, Nat.reduceSub, Nat.reduceEqDiff, Nat.reduceBEq, Int.reduceToNat, reduceCtorEq]
      refine rg ctNo_ok ?_
      simp only [go_sem, Nat.reduceLeDiff, Nat.reduceLT, Nat.reduceAdd, Nat.reduceMul, Nat.reduceSub, Nat.reduceEqDiff, Nat.reduceBEq, Int.reduceToNat, reduceCtorEq]
      refine ⟨_, (Option.some.inj H).symm, ?_⟩
      refine SubF_of ⟨[], ?_, ?_, by rfl, by rfl⟩
      · simp [CvL, Cv, getM, tp]
      · trivial
    · try dsimp only at H ⊢
      try simp only [tp]
      try simp only [m_normal, k_normal, b_normal, kL_normal, r_normal]
      refine sq ctNo_ok ?_
      simp only [go_sem, Nat.reduceLeDiff, Nat.reduceLT, Nat.reduceAdd, Nat.reduceMul, Nat.reduceSub, Nat.reduceEqDiff, Nat.reduceBEq, Int.reduceToNat, reduceCtorEq]
      refine rg ctNo_ok ?_
      simp only [go_sem, Nat.reduceLeDiff, Nat.reduceLT, Nat.reduceAdd, Nat.reduceMul, Nat.reduceSub, Nat.reduceEqDiff, Nat.reduceBEq, Int.reduceToNat, reduceCtorEq]
      obtain rfl := Option.some.inj H
      first | rfl | simp only [Bool.and_false, Bool.false_and, Bool.and_true, Bool.true_and]
  · cases hb
/-! hotspot/hotspotref41.SameFrame -/
noncomputable def ct17t0 : Ct := tab [(16, pureC body16)]
theorem ct17t0_ok : CtOk Try.prog ct17t0 := tab_cons ok16 <| tab_nil
theorem ct17t0_16 (l : List AV) (h : List ABlk) : ct17t0 16 l h = pureC body16 l h := rfl
noncomputable def F17 (p0 : TMeshFrame) (p1 : TMeshFrame) : Option (Bool) :=
  need (bif ((((((((bEq p0.From.x0 p1.From.x0 && (bEq p0.From.x1 p1.From.x1 && (bEq p0.From.x2 p1.From.x2 && (bEq p0.From.x3 p1.From.x3 && (bEq p0.From.x4 p1.From.x4 && (bEq p0.From.x5 p1.From.x5)))))) && (bEq p0.To.x0 p1.To.x0 && (bEq p0.To.x1 p1.To.x1 && (bEq p0.To.x2 p1.To.x2 && (bEq p0.To.x3 p1.To.x3 && (bEq p0.To.x4 p1.To.x4 && (bEq p0.To.x5 p1.To.x5))))))) && (bEq p0.Enter.x0 p1.Enter.x0 && (bEq p0.Enter.x1 p1.Enter.x1 && (bEq p0.Enter.x2 p1.Enter.x2 && (bEq p0.Enter.x3 p1.Enter.x3 && (bEq p0.Enter.x4 p1.Enter.x4 && (bEq p0.Enter.x5 p1.Enter.x5))))))) && (bEq p0.Leave.x0 p1.Leave.x0 && (bEq p0.Leave.x1 p1.Leave.x1 && (bEq p0.Leave.x2 p1.Leave.x2 && (bEq p0.Leave.x3 p1.Leave.x3 && (bEq p0.Leave.x4 p1.Leave.x4 && (bEq p0.Leave.x5 p1.Leave.x5))))))) && (bEq p0.Source.x0 p1.Source.x0 && (bEq p0.Source.x1 p1.Source.x1 && (bEq p0.Source.x2 p1.Source.x2 && (bEq p0.Source.x3 p1.Source.x3 && (bEq p0.Source.x4 p1.Source.x4 && (bEq p0.Source.x5 p1.Source.x5))))))) && (bEq p0.Target.x0 p1.Target.x0 && (bEq p0.Target.x1 p1.Target.x1 && (bEq p0.Target.x2 p1.Target.x2 && (bEq p0.Target.x3 p1.Target.x3 && (bEq p0.Target.x4 p1.Target.x4 && (bEq p0.Target.x5 p1.Target.x5))))))) && (bEq p0.Seq p1.Seq)) && (bEq p0.Ttl p1.Ttl)) then ((F16 p0.Data p1.Data).isSome) else true) <| some (((((((((bEq p0.From.x0 p1.From.x0 && (bEq p0.From.x1 p1.From.x1 && (bEq p0.From.x2 p1.From.x2 && (bEq p0.From.x3 p1.From.x3 && (bEq p0.From.x4 p1.From.x4 && (bEq p0.From.x5 p1.From.x5)))))) && (bEq p0.To.x0 p1.To.x0 && (bEq p0.To.x1 p1.To.x1 && (bEq p0.To.x2 p1.To.x2 && (bEq p0.To.x3 p1.To.x3 && (bEq p0.To.x4 p1.To.x4 && (bEq p0.To.x5 p1.To.x5))))))) && (bEq p0.Enter.x0 p1.Enter.x0 && (bEq p0.Enter.x1 p1.Enter.x1 && (bEq p0.Enter.x2 p1.Enter.x2 && (bEq p0.Enter.x3 p1.Enter.x3 && (bEq p0.Enter.x4 p1.Enter.x4 && (bEq p0.Enter.x5 p1.Enter.x5))))))) && (bEq p0.Leave.x0 p1.Leave.x0 && (bEq p0.Leave.x1 p1.Leave.x1 && (bEq p0.Leave.x2 p1.Leave.x2 && (bEq p0.Leave.x3 p1.Leave.x3 && (bEq p0.Leave.x4 p1.Leave.x4 && (bEq p0.Leave.x5 p1.Leave.x5))))))) && (bEq p0.Source.x0 p1.Source.x0 && (bEq p0.Source.x1 p1.Source.x1 && (bEq p0.Source.x2 p1.Source.x2 && (bEq p0.Source.x3 p1.Source.x3 && (bEq p0.Source.x4 p1.Source.x4 && (bEq p0.Source.x5 p1.Source.x5))))))) && (bEq p0.Target.x0 p1.Target.x0 && (bEq p0.Target.x1 p1.Target.x1 && (bEq p0.Target.x2 p1.Target.x2 && (bEq p0.Target.x3 p1.Target.x3 && (bEq p0.Target.x4 p1.Target.x4 && (bEq p0.Target.x5 p1.Target.x5))))))) && (bEq p0.Seq p1.Seq)) && (bEq p0.Ttl p1.Ttl)) && (gt (F16 p0.Data p1.Data)))
noncomputable def body17 : List AV → AR
  | [v0, v1] => .pure (aK 39 k_TMeshFrame v0 ∧ aK 39 k_TMeshFrame v1 ∧ (F17 (g_TMeshFrame (aL v0)) (g_TMeshFrame (aL v1))).isSome = true) (.bool (gt (F17 (g_TMeshFrame (aL v0)) (g_TMeshFrame (aL v1)))))
  | _ => .fail
set_option maxHeartbeats 4000000 in
set_option maxRecDepth 20000 in
theorem ok17 : FnOk Try.prog 17 (pureC body17) := by
  refine pure_fnM body17 (rs := [.tmp 4]) Try.func17 (by kernel_rfl) rfl rfl ?_
  intro l ob v hb hob
  unfold body17 at hb
  split at hb
  · rename_i v0 v1
    injection hb with q1 q2; subst q1 q2
    obtain ⟨hk0_0, hk1_0, hob⟩ := hob
    obtain ⟨r, H⟩ := Option.isSome_iff_exists.1 hob
    rw [H, gt_some]
    have hw0 := wA_TMeshFrame hk0_0
    have hw1 := wA_TMeshFrame hk1_0
    generalize g_TMeshFrame (aL v0) = p0 at H hw0
    generalize g_TMeshFrame (aL v1) = p1 at H hw1
    refine ⟨[.agg (.int .u8 p0.From.x0 :: .int .u8 p0.From.x1 :: .int .u8 p0.From.x2 :: .int .u8 p0.From.x3 :: .int .u8 p0.From.x4 :: .int .u8 p0.From.x5 :: .int .u8 p0.To.x0 :: .int .u8 p0.To.x1 :: .int .u8 p0.To.x2 :: .int .u8 p0.To.x3 :: .int .u8 p0.To.x4 :: .int .u8 p0.To.x5 :: .int .u8 p0.Enter.x0 :: .int .u8 p0.Enter.x1 :: .int .u8 p0.Enter.x2 :: .int .u8 p0.Enter.x3 :: .int .u8 p0.Enter.x4 :: .int .u8 p0.Enter.x5 :: .int .u8 p0.Leave.x0 :: .int .u8 p0.Leave.x1 :: .int .u8 p0.Leave.x2 :: .int .u8 p0.Leave.x3 :: .int .u8 p0.Leave.x4 :: .int .u8 p0.Leave.x5 :: .int .u8 p0.Source.x0 :: .int .u8 p0.Source.x1 :: .int .u8 p0.Source.x2 :: .int .u8 p0.Source.x3 :: .int .u8 p0.Source.x4 :: .int .u8 p0.Source.x5 :: .int .u8 p0.Target.x0 :: .int .u8 p0.Target.x1 :: .int .u8 p0.Target.x2 :: .int .u8 p0.Target.x3 :: .int .u8 p0.Target.x4 :: .int .u8 p0.Target.x5 :: .int .i64 p0.Seq :: .int .i64 p0.Ttl :: .ro 1 p0.Data.length false (enR c_u8 p0.Data) :: []), .agg (.int .u8 p1.From.x0 :: .int .u8 p1.From.x1 :: .int .u8 p1.From.x2 :: .int .u8 p1.From.x3 :: .int .u8 p1.From.x4 :: .int .u8 p1.From.x5 :: .int .u8 p1.To.x0 :: .int .u8 p1.To.x1 :: .int .u8 p1.To.x2 :: .int .u8 p1.To.x3 :: .int .u8 p1.To.x4 :: .int .u8 p1.To.x5 :: .int .u8 p1.Enter.x0 :: .int .u8 p1.Enter.x1 :: .int .u8 p1.Enter.x2 :: .int .u8 p1.Enter.x3 :: .int .u8 p1.Enter.x4 :: .int .u8 p1.Enter.x5 :: .int .u8 p1.Leave.x0 :: .int .u8 p1.Leave.x1 :: .int .u8 p1.Leave.x2 :: .int .u8 p1.Leave.x3 :: .int .u8 p1.Leave.x4 :: .int .u8 p1.Leave.x5 :: .int .u8 p1.Source.x0 :: .int .u8 p1.Source.x1 :: .int .u8 p1.Source.x2 :: .int .u8 p1.Source.x3 :: .int .u8 p1.Source.x4 :: .int .u8 p1.Source.x5 :: .int .u8 p1.Target.x0 :: .int .u8 p1.Target.x1 :: .int .u8 p1.Target.x2 :: .int .u8 p1.Target.x3 :: .int .u8 p1.Target.x4 :: .int .u8 p1.Target.x5 :: .int .i64 p1.Seq :: .int .i64 p1.Ttl :: .ro 1 p1.Data.length false (enR c_u8 p1.Data) :: [])], _, (fun E vs F => FR_wk1 hw0.1 F (fun vs F => FR_wk1 hw1.1 F (fun vs F => F))), rfl, rfl, ?_⟩
    rw [Try.ntmps17]
    simp only [List.length_cons, List.length_nil, Nat.reduceAdd, Nat.reduceSub, List.replicate_succ, List.replicate_zero, List.cons_append, List.nil_append]
    unfold F17 at H
    try dsimp only at H
    refine sq ctNo_ok ?_
    simp only [go_sem, Nat.reduceLeDiff, Nat.reduceLT, Nat.reduceAdd, Nat.reduceMul, Nat.reduceSub, Nat.reduceEqDiff, Nat.reduceBEq, Int.reduceToNat, reduceCtorEq]
    refine seqM ?_
    obtain ⟨f1, H⟩ := need_some.1 H
    replace f1 := g_iff.1 f1
    refine rg ct17t0_ok ?_
    simp (maxSteps := 3000000) only [go_sem, Nat.reduceLeDiff, Nat.reduceLT, Nat.reduceAdd, Nat.reduceMul, Nat.reduceSub, Nat.reduceEqDiff, Nat.reduceBEq, Int.reduceToNat, reduceCtorEq, ct17t0_16, body16, List.append_eq, List.cons_append, List.nil_append, Array.toList_append, List.append_assoc]
    repeat ((with_reducible refine And.intro ?_ ?_); focus (first | (with_reducible trivial) | omega | exact f1 | (intro g; have q := f1 (by first | exact g | (rw [g]; rfl) | simpa using g); first | exact q | exact ⟨q.1, q.2.1⟩ | exact q.2.2 | omega | exact ⟨g, q⟩ | exact ⟨trivial, q⟩ | exact ⟨g, q.1, q.2.1⟩ | exact ⟨g, q.2.2⟩) | (intro g; (try have q0 := f1 (by first | exact g | (rw [g]; rfl) | simpa using g)); and_intros <;> first | (with_reducible trivial) | assumption | exact nfc | (intro g2; rw [g, g2]; rfl) | (intro g2; assumption) | (simp only [g, Bool.true_and, Bool.and_true, Bool.not_false, Bool.not_true]; assumption) | grind) | (and_intros <;> first | (with_reducible trivial) | omega | assumption | exact nfc | first | exact rfl | exact trivial | exact fitI | exact .inr rfl | exact .inl rfl | exact fun x hx => absurd hx (by omega)) | grind))
    refine rg ctNo_ok ?_
    simp only [go_sem, Nat.reduceLeDiff, Nat.reduceLT, Nat.reduceAdd, Nat.reduceMul, Nat.reduceSub, Nat.reduceEqDiff, Nat.reduceBEq, Int.reduceToNat, reduceCtorEq]
    obtain rfl := Option.some.inj H
    first | rfl | simp only [Bool.and_false, Bool.false_and, Bool.and_true, Bool.true_and]
  · cases hb
/-! bytes.Equal -/
noncomputable def F49 (p0 : List Int) (p1 : List Int) : Option (Bool) :=
  need (u8b p0.length (enR c_u8 p0)) <| need (u8b p1.length (enR c_u8 p1)) <| some (sEq (bytesC p0.length (enR c_u8 p0)) (bytesC p1.length (enR c_u8 p1)))
noncomputable def body49 : List AV → AR
  | [v0, v1] => .pure (lK k_u8 1 v0 ∧ lK k_u8 1 v1 ∧ (F49 (lA g_u8 v0) (lA g_u8 v1)).isSome = true) (.bool (gt (F49 (lA g_u8 v0) (lA g_u8 v1))))
  | _ => .fail
set_option maxHeartbeats 4000000 in
set_option maxRecDepth 20000 in
theorem ok49 : FnOk Try.prog 49 (pureC body49) := by
  refine pure_fnM body49 (rs := [.tmp 4]) Try.func49 (by kernel_rfl) rfl rfl ?_
  intro l ob v hb hob
  unfold body49 at hb
  split at hb
  · rename_i v0 v1
    injection hb with q1 q2; subst q1 q2
    obtain ⟨hk0_0, hk1_0, hob⟩ := hob
    obtain ⟨r, H⟩ := Option.isSome_iff_exists.1 hob
    rw [H, gt_some]
    have hw0 := lK_wk (fun r h => w_u8 h) hk0_0
    have hw1 := lK_wk (fun r h => w_u8 h) hk1_0
    generalize lA g_u8 v0 = p0 at H hw0
    generalize lA g_u8 v1 = p1 at H hw1
    refine ⟨[.ro 1 p0.length false (enR c_u8 p0), .ro 1 p1.length false (enR c_u8 p1)], _, (fun E vs F => FR_wk1 hw0.1 F (fun vs F => FR_wk1 hw1.1 F (fun vs F => F))), rfl, rfl, ?_⟩
    rw [Try.ntmps49]
    simp only [List.length_cons, List.length_nil, Nat.reduceAdd, Nat.reduceSub, List.replicate_succ, List.replicate_zero, List.cons_append, List.nil_append]
    unfold F49 at H
    try dsimp only at H
    refine sq ctNo_ok ?_
    simp only [go_sem, Nat.reduceLeDiff, Nat.reduceLT, Nat.reduceAdd, Nat.reduceMul, Nat.reduceSub, Nat.reduceEqDiff, Nat.reduceBEq, Int.reduceToNat, reduceCtorEq]
    refine seqM ?_
    obtain ⟨f1, H⟩ := need_some.1 H
    replace f1 := u8b_iff.1 f1
    obtain ⟨f2, H⟩ := need_some.1 H
    replace f2 := u8b_iff.1 f2
    refine rg ctNo_ok ?_
    simp only [go_sem, Nat.reduceLeDiff, Nat.reduceLT, Nat.reduceAdd, Nat.reduceMul, Nat.reduceSub, Nat.reduceEqDiff, Nat.reduceBEq, Int.reduceToNat, reduceCtorEq, f1, f2]
    repeat ((with_reducible refine And.intro ?_ ?_); focus (first | (with_reducible trivial) | omega | exact f1 | exact ⟨trivial, f1⟩ | exact f2 | exact ⟨trivial, f2⟩ | grind))
    refine rg ctNo_ok ?_
    simp only [go_sem, Nat.reduceLeDiff, Nat.reduceLT, Nat.reduceAdd, Nat.reduceMul, Nat.reduceSub, Nat.reduceEqDiff, Nat.reduceBEq, Int.reduceToNat, reduceCtorEq]
    obtain rfl := Option.some.inj H
    first | rfl | simp only [Bool.and_false, Bool.false_and, Bool.and_true, Bool.true_and]
  · cases hb
/-! hotspot/forward.Same -/
noncomputable def ct25t0 : Ct := tab [(49, pureC body49)]
theorem ct25t0_ok : CtOk Try.prog ct25t0 := tab_cons ok49 <| tab_nil
theorem ct25t0_49 (l : List AV) (h : List ABlk) : ct25t0 49 l h = pureC body49 l h := rfl
noncomputable def F25 (p0 : TMeshFrame) (p1 : TMeshFrame) : Option (Bool) :=
  need (bif ((((((((bEq p0.From.x0 p1.From.x0 && (bEq p0.From.x1 p1.From.x1 && (bEq p0.From.x2 p1.From.x2 && (bEq p0.From.x3 p1.From.x3 && (bEq p0.From.x4 p1.From.x4 && (bEq p0.From.x5 p1.From.x5)))))) && (bEq p0.To.x0 p1.To.x0 && (bEq p0.To.x1 p1.To.x1 && (bEq p0.To.x2 p1.To.x2 && (bEq p0.To.x3 p1.To.x3 && (bEq p0.To.x4 p1.To.x4 && (bEq p0.To.x5 p1.To.x5))))))) && (bEq p0.Enter.x0 p1.Enter.x0 && (bEq p0.Enter.x1 p1.Enter.x1 && (bEq p0.Enter.x2 p1.Enter.x2 && (bEq p0.Enter.x3 p1.Enter.x3 && (bEq p0.Enter.x4 p1.Enter.x4 && (bEq p0.Enter.x5 p1.Enter.x5))))))) && (bEq p0.Leave.x0 p1.Leave.x0 && (bEq p0.Leave.x1 p1.Leave.x1 && (bEq p0.Leave.x2 p1.Leave.x2 && (bEq p0.Leave.x3 p1.Leave.x3 && (bEq p0.Leave.x4 p1.Leave.x4 && (bEq p0.Leave.x5 p1.Leave.x5))))))) && (bEq p0.Source.x0 p1.Source.x0 && (bEq p0.Source.x1 p1.Source.x1 && (bEq p0.Source.x2 p1.Source.x2 && (bEq p0.Source.x3 p1.Source.x3 && (bEq p0.Source.x4 p1.Source.x4 && (bEq p0.Source.x5 p1.Source.x5))))))) && (bEq p0.Target.x0 p1.Target.x0 && (bEq p0.Target.x1 p1.Target.x1 && (bEq p0.Target.x2 p1.Target.x2 && (bEq p0.Target.x3 p1.Target.x3 && (bEq p0.Target.x4 p1.Target.x4 && (bEq p0.Target.x5 p1.Target.x5))))))) && (bEq p0.Seq p1.Seq)) && (bEq p0.Ttl p1.Ttl)) then ((F49 p0.Data p1.Data).isSome) else true) <| some (((((((((bEq p0.From.x0 p1.From.x0 && (bEq p0.From.x1 p1.From.x1 && (bEq p0.From.x2 p1.From.x2 && (bEq p0.From.x3 p1.From.x3 && (bEq p0.From.x4 p1.From.x4 && (bEq p0.From.x5 p1.From.x5)))))) && (bEq p0.To.x0 p1.To.x0 && (bEq p0.To.x1 p1.To.x1 && (bEq p0.To.x2 p1.To.x2 && (bEq p0.To.x3 p1.To.x3 && (bEq p0.To.x4 p1.To.x4 && (bEq p0.To.x5 p1.To.x5))))))) && (bEq p0.Enter.x0 p1.Enter.x0 && (bEq p0.Enter.x1 p1.Enter.x1 && (bEq p0.Enter.x2 p1.Enter.x2 && (bEq p0.Enter.x3 p1.Enter.x3 && (bEq p0.Enter.x4 p1.Enter.x4 && (bEq p0.Enter.x5 p1.Enter.x5))))))) && (bEq p0.Leave.x0 p1.Leave.x0 && (bEq p0.Leave.x1 p1.Leave.x1 && (bEq p0.Leave.x2 p1.Leave.x2 && (bEq p0.Leave.x3 p1.Leave.x3 && (bEq p0.Leave.x4 p1.Leave.x4 && (bEq p0.Leave.x5 p1.Leave.x5))))))) && (bEq p0.Source.x0 p1.Source.x0 && (bEq p0.Source.x1 p1.Source.x1 && (bEq p0.Source.x2 p1.Source.x2 && (bEq p0.Source.x3 p1.Source.x3 && (bEq p0.Source.x4 p1.Source.x4 && (bEq p0.Source.x5 p1.Source.x5))))))) && (bEq p0.Target.x0 p1.Target.x0 && (bEq p0.Target.x1 p1.Target.x1 && (bEq p0.Target.x2 p1.Target.x2 && (bEq p0.Target.x3 p1.Target.x3 && (bEq p0.Target.x4 p1.Target.x4 && (bEq p0.Target.x5 p1.Target.x5))))))) && (bEq p0.Seq p1.Seq)) && (bEq p0.Ttl p1.Ttl)) && (gt (F49 p0.Data p1.Data)))
noncomputable def body25 : List AV → AR
  | [v0, v1] => .pure (aK 39 k_TMeshFrame v0 ∧ aK 39 k_TMeshFrame v1 ∧ (F25 (g_TMeshFrame (aL v0)) (g_TMeshFrame (aL v1))).isSome = true) (.bool (gt (F25 (g_TMeshFrame (aL v0)) (g_TMeshFrame (aL v1)))))
  | _ => .fail
set_option maxHeartbeats 4000000 in
set_option maxRecDepth 20000 in
theorem ok25 : FnOk Try.prog 25 (pureC body25) := by
  refine pure_fnM body25 (rs := [.tmp 4]) Try.func25 (by kernel_rfl) rfl rfl ?_
  intro l ob v hb hob
  unfold body25 at hb
  split at hb
  · rename_i v0 v1
    injection hb with q1 q2; subst q1 q2
    obtain ⟨hk0_0, hk1_0, hob⟩ := hob
    obtain ⟨r, H⟩ := Option.isSome_iff_exists.1 hob
    rw [H, gt_some]
    have hw0 := wA_TMeshFrame hk0_0
    have hw1 := wA_TMeshFrame hk1_0
    generalize g_TMeshFrame (aL v0) = p0 at H hw0
    generalize g_TMeshFrame (aL v1) = p1 at H hw1
    refine ⟨[.agg (.int .u8 p0.From.x0 :: .int .u8 p0.From.x1 :: .int .u8 p0.From.x2 :: .int .u8 p0.From.x3 :: .int .u8 p0.From.x4 :: .int .u8 p0.From.x5 :: .int .u8 p0.To.x0 :: .int .u8 p0.To.x1 :: .int .u8 p0.To.x2 :: .int .u8 p0.To.x3 :: .int .u8 p0.To.x4 :: .int .u8 p0.To.x5 :: .int .u8 p0.Enter.x0 :: .int .u8 p0.Enter.x1 :: .int .u8 p0.Enter.x2 :: .int .u8 p0.Enter.x3 :: .int .u8 p0.Enter.x4 :: .int .u8 p0.Enter.x5 :: .int .u8 p0.Leave.x0 :: .int .u8 p0.Leave.x1 :: .int .u8 p0.Leave.x2 :: .int .u8 p0.Leave.x3 :: .int .u8 p0.Leave.x4 :: .int .u8 p0.Leave.x5 :: .int .u8 p0.Source.x0 :: .int .u8 p0.Source.x1 :: .int .u8 p0.Source.x2 :: .int .u8 p0.Source.x3 :: .int .u8 p0.Source.x4 :: .int .u8 p0.Source.x5 :: .int .u8 p0.Target.x0 :: .int .u8 p0.Target.x1 :: .int .u8 p0.Target.x2 :: .int .u8 p0.Target.x3 :: .int .u8 p0.Target.x4 :: .int .u8 p0.Target.x5 :: .int .i64 p0.Seq :: .int .i64 p0.Ttl :: .ro 1 p0.Data.length false (enR c_u8 p0.Data) :: []), .agg (.int .u8 p1.From.x0 :: .int .u8 p1.From.x1 :: .int .u8 p1.From.x2 :: .int .u8 p1.From.x3 :: .int .u8 p1.From.x4 :: .int .u8 p1.From.x5 :: .int .u8 p1.To.x0 :: .int .u8 p1.To.x1 :: .int .u8 p1.To.x2 :: .int .u8 p1.To.x3 :: .int .u8 p1.To.x4 :: .int .u8 p1.To.x5 :: .int .u8 p1.Enter.x0 :: .int .u8 p1.Enter.x1 :: .int .u8 p1.Enter.x2 :: .int .u8 p1.Enter.x3 :: .int .u8 p1.Enter.x4 :: .int .u8 p1.Enter.x5 :: .int .u8 p1.Leave.x0 :: .int .u8 p1.Leave.x1 :: .int .u8 p1.Leave.x2 :: .int .u8 p1.Leave.x3 :: .int .u8 p1.Leave.x4 :: .int .u8 p1.Leave.x5 :: .int .u8 p1.Source.x0 :: .int .u8 p1.Source.x1 :: .int .u8 p1.Source.x2 :: .int .u8 p1.Source.x3 :: .int .u8 p1.Source.x4 :: .int .u8 p1.Source.x5 :: .int .u8 p1.Target.x0 :: .int .u8 p1.Target.x1 :: .int .u8 p1.Target.x2 :: .int .u8 p1.Target.x3 :: .int .u8 p1.Target.x4 :: .int .u8 p1.Target.x5 :: .int .i64 p1.Seq :: .int .i64 p1.Ttl :: .ro 1 p1.Data.length false (enR c_u8 p1.Data) :: [])], _, (fun E vs F => FR_wk1 hw0.1 F (fun vs F => FR_wk1 hw1.1 F (fun vs F => F))), rfl, rfl, ?_⟩
    rw [Try.ntmps25]
    simp only [List.length_cons, List.length_nil, Nat.reduceAdd, Nat.reduceSub, List.replicate_succ, List.replicate_zero, List.cons_append, List.nil_append]
    unfold F25 at H
    try dsimp only at H
    refine sq ctNo_ok ?_
    simp only [go_sem, Nat.reduceLeDiff, Nat.reduceLT, Nat.reduceAdd, Nat.reduceMul, Nat.reduceSub, Nat.reduceEqDiff, Nat.reduceBEq, Int.reduceToNat, reduceCtorEq]
    refine seqM ?_
    obtain ⟨f1, H⟩ := need_some.1 H
    replace f1 := g_iff.1 f1
    refine rg ct25t0_ok ?_
    simp (maxSteps := 3000000) only [go_sem, Nat.reduceLeDiff, Nat.reduceLT, Nat.reduceAdd, Nat.reduceMul, Nat.reduceSub, Nat.reduceEqDiff, Nat.reduceBEq, Int.reduceToNat, reduceCtorEq, ct25t0_49, body49, List.append_eq, List.cons_append, List.nil_append, Array.toList_append, List.append_assoc]
    repeat ((with_reducible refine And.intro ?_ ?_); focus (first | (with_reducible trivial) | omega | exact f1 | (intro g; have q := f1 (by first | exact g | (rw [g]; rfl) | simpa using g); first | exact q | exact ⟨q.1, q.2.1⟩ | exact q.2.2 | omega | exact ⟨g, q⟩ | exact ⟨trivial, q⟩ | exact ⟨g, q.1, q.2.1⟩ | exact ⟨g, q.2.2⟩) | (intro g; (try have q0 := f1 (by first | exact g | (rw [g]; rfl) | simpa using g)); and_intros <;> first | (with_reducible trivial) | assumption | exact nfc | (intro g2; rw [g, g2]; rfl) | (intro g2; assumption) | (simp only [g, Bool.true_and, Bool.and_true, Bool.not_false, Bool.not_true]; assumption) | grind) | (and_intros <;> first | (with_reducible trivial) | omega | assumption | exact nfc | first | exact rfl | exact trivial | exact fitI | exact .inr rfl | exact .inl rfl | exact fun x hx => absurd hx (by omega)) | grind))
    refine rg ctNo_ok ?_
    simp only [go_sem, Nat.reduceLeDiff, Nat.reduceLT, Nat.reduceAdd, Nat.reduceMul, Nat.reduceSub, Nat.reduceEqDiff, Nat.reduceBEq, Int.reduceToNat, reduceCtorEq]
    obtain rfl := Option.some.inj H
    first | rfl | simp only [Bool.and_false, Bool.false_and, Bool.and_true, Bool.true_and]
  · cases hb
/-! hotspot/hotspotlaw41.touch -/
noncomputable def F18_0_L1 (v1_1 : Int) (v1_2 : List TForwardMark) : Option (Lp (Int × (List TForwardMark)) ((List TForwardMark) ⊕ (Unit))) :=
  bif (bLt v1_1 (v1_2.length : Nat)) then (need (inb v1_1 v1_2.length) <| some (.next (wr .i64 (v1_1 + 1), (v1_2.set v1_1.toNat (TForwardMark.mk (A6u8.mk (((gd v1_2 v1_1.toNat).Enter).x0) (((gd v1_2 v1_1.toNat).Enter).x1) (((gd v1_2 v1_1.toNat).Enter).x2) (((gd v1_2 v1_1.toNat).Enter).x3) (((gd v1_2 v1_1.toNat).Enter).x4) (((gd v1_2 v1_1.toNat).Enter).x5)) 77))))) else (some (.done (.inl v1_2)))
noncomputable def F18_0_L2 (v2_1 : Int) (v2_2 : List TForwardHop) : Option (Lp (Int × (List TForwardHop)) ((Unit) ⊕ (Unit))) :=
  bif (bLt v2_1 (v2_2.length : Nat)) then (need (inb v2_1 v2_2.length) <| need (inb v2_1 v2_2.length) <| some (.next (wr .i64 (v2_1 + 1), (v2_2.set v2_1.toNat (TForwardHop.mk (A6u8.mk (((gd v2_2 v2_1.toNat).Dest).x0) (((gd v2_2 v2_1.toNat).Dest).x1) (((gd v2_2 v2_1.toNat).Dest).x2) (((gd v2_2 v2_1.toNat).Dest).x3) (((gd v2_2 v2_1.toNat).Dest).x4) (((gd v2_2 v2_1.toNat).Dest).x5)) (A6u8.mk (((gd v2_2 v2_1.toNat).Next).x0) (wr .u8 ((((gd v2_2 v2_1.toNat).Next).x1) + 1)) (((gd v2_2 v2_1.toNat).Next).x2) (((gd v2_2 v2_1.toNat).Next).x3) (((gd v2_2 v2_1.toNat).Next).x4) (((gd v2_2 v2_1.toNat).Next).x5))))))) else (some (.done (.inl ())))
noncomputable def F18_0_L3 (v3_1 : Int) (v3_2 : List Int) : Option (Lp (Int × (List Int)) ((Unit) ⊕ (Unit))) :=
  bif (bLt v3_1 (v3_2.length : Nat)) then (need (inb v3_1 v3_2.length) <| need (inb v3_1 v3_2.length) <| some (.next (wr .i64 (v3_1 + 1), (v3_2.set v3_1.toNat (wr .u8 ((gd v3_2 v3_1.toNat) + 1)))))) else (some (.done (.inl ())))
noncomputable def F18_0 (p0 : TForward) (p1 : TMeshFrame) : Option (Unit) :=
  lp (loopD (fun s => F18_0_L1 s.1 s.2) (0, p0.Seen)) (fun w1_3 => lp (loopD (fun s => F18_0_L2 s.1 s.2) (0, p0.Nexts)) (fun e => lp (loopD (fun s => F18_0_L3 s.1 s.2) (0, p1.Data)) (fun e => some ()) some) some) some
noncomputable def body18_0 : List AV → List ABlk → ED
  | [v0, v1], h => .ed [slN (getL (aLs v0) 7), slN (getL (aLs v0) 8), slN (getL (aLs v1) 38)] (((aLs v0).length = 9 ∧ v0 = .agg (aLs v0)) ∧ k_TForward (getL (roWL h (aLs v0))) ∧ nref (getL (aLs v0) 0) ∧ nref (getL (aLs v0) 1) ∧ nref (getL (aLs v0) 2) ∧ nref (getL (aLs v0) 3) ∧ nref (getL (aLs v0) 4) ∧ nref (getL (aLs v0) 5) ∧ nref (getL (aLs v0) 6) ∧ oS 59 7 h (getL (aLs v0) 7) ∧ oS 90 12 h (getL (aLs v0) 8) ∧ ((aLs v1).length = 39 ∧ v1 = .agg (aLs v1)) ∧ k_TMeshFrame (getL (roWL h (aLs v1))) ∧ nref (getL (aLs v1) 0) ∧ nref (getL (aLs v1) 1) ∧ nref (getL (aLs v1) 2) ∧ nref (getL (aLs v1) 3) ∧ nref (getL (aLs v1) 4) ∧ nref (getL (aLs v1) 5) ∧ nref (getL (aLs v1) 6) ∧ nref (getL (aLs v1) 7) ∧ nref (getL (aLs v1) 8) ∧ nref (getL (aLs v1) 9) ∧ nref (getL (aLs v1) 10) ∧ nref (getL (aLs v1) 11) ∧ nref (getL (aLs v1) 12) ∧ nref (getL (aLs v1) 13) ∧ nref (getL (aLs v1) 14) ∧ nref (getL (aLs v1) 15) ∧ nref (getL (aLs v1) 16) ∧ nref (getL (aLs v1) 17) ∧ nref (getL (aLs v1) 18) ∧ nref (getL (aLs v1) 19) ∧ nref (getL (aLs v1) 20) ∧ nref (getL (aLs v1) 21) ∧ nref (getL (aLs v1) 22) ∧ nref (getL (aLs v1) 23) ∧ nref (getL (aLs v1) 24) ∧ nref (getL (aLs v1) 25) ∧ nref (getL (aLs v1) 26) ∧ nref (getL (aLs v1) 27) ∧ nref (getL (aLs v1) 28) ∧ nref (getL (aLs v1) 29) ∧ nref (getL (aLs v1) 30) ∧ nref (getL (aLs v1) 31) ∧ nref (getL (aLs v1) 32) ∧ nref (getL (aLs v1) 33) ∧ nref (getL (aLs v1) 34) ∧ nref (getL (aLs v1) 35) ∧ nref (getL (aLs v1) 36) ∧ nref (getL (aLs v1) 37) ∧ oS 5 1 h (getL (aLs v1) 38) ∧ (F18_0 (g_TForward (getL (roWL h (aLs v0)))) (g_TMeshFrame (getL (roWL h (aLs v1))))).isSome = true) (.tup []) [.dead, .dead, .dead]
  | _, _ => .fail
set_option maxHeartbeats 4000000 in
set_option maxRecDepth 20000 in
theorem ok18_0 : FnOk Try.prog 18 (edC body18_0) := by
  refine edit_fnV body18_0 (rs := []) Try.func18 (by kernel_rfl) rfl rfl ?_
  intro l h bs ob q0 g0 hb hob
  unfold body18_0 at hb
  split at hb
  · rename_i v0 v1
    injection hb with q1 q2 q3 q4; subst q1 q2 q3 q4
    obtain ⟨hk0_0, hk0_1, hk0_2, hk0_3, hk0_4, hk0_5, hk0_6, hk0_7, hk0_8, hk0_9, hk0_10, hk1_0, hk1_1, hk1_2, hk1_3, hk1_4, hk1_5, hk1_6, hk1_7, hk1_8, hk1_9, hk1_10, hk1_11, hk1_12, hk1_13, hk1_14, hk1_15, hk1_16, hk1_17, hk1_18, hk1_19, hk1_20, hk1_21, hk1_22, hk1_23, hk1_24, hk1_25, hk1_26, hk1_27, hk1_28, hk1_29, hk1_30, hk1_31, hk1_32, hk1_33, hk1_34, hk1_35, hk1_36, hk1_37, hk1_38, hk1_39, hk1_40, hob⟩ := hob
    obtain ⟨r, H⟩ := Option.isSome_iff_exists.1 hob
    try rw [H, gt_some]
    obtain ⟨p0, hp0⟩ : ∃ p0, p0 = g_TForward (getL (roWL h (aLs v0))) := ⟨_, rfl⟩
    rw [← hp0] at H
    have hw0 : ∀ y, y < 9 → WkV (getL (c_TForward p0) y) (roW h (getL (aLs v0) y)) ∧ nref (getL (c_TForward p0) y) := fun y hy => by rw [hp0, ← getL_roWL]; exact w_TForward hk0_1 y hy
    have hk0_K := hk0_1
    unfold k_TForward at hk0_K
    obtain ⟨kk0_0, kk0_1, kk0_2, kk0_3, kk0_4, kk0_5, kk0_6, kk0_7, kk0_8⟩ := hk0_K
    obtain ⟨ev0_7, eb0_7⟩ := own_row2 (f := c_TForwardMark) (g := g_TForwardMark) (bs := [slN (getL (aLs v0) 7), slN (getL (aLs v0) 8), slN (getL (aLs v1) 38)]) (i := 0) (fun hr => w_TForwardMark hr) hk0_9 (by rw [← getL_roWL]; exact kk0_7) (L := p0.Seen) (by rw [hp0, ← getL_roWL]; rfl) rfl
    obtain ⟨ev0_8, eb0_8⟩ := own_row2 (f := c_TForwardHop) (g := g_TForwardHop) (bs := [slN (getL (aLs v0) 7), slN (getL (aLs v0) 8), slN (getL (aLs v1) 38)]) (i := 1) (fun hr => w_TForwardHop hr) hk0_10 (by rw [← getL_roWL]; exact kk0_8) (L := p0.Nexts) (by rw [hp0, ← getL_roWL]; rfl) rfl
    obtain ⟨p1, hp1⟩ : ∃ p1, p1 = g_TMeshFrame (getL (roWL h (aLs v1))) := ⟨_, rfl⟩
    rw [← hp1] at H
    have hw1 : ∀ y, y < 39 → WkV (getL (c_TMeshFrame p1) y) (roW h (getL (aLs v1) y)) ∧ nref (getL (c_TMeshFrame p1) y) := fun y hy => by rw [hp1, ← getL_roWL]; exact w_TMeshFrame hk1_1 y hy
    have hk1_K := hk1_1
    unfold k_TMeshFrame at hk1_K
    obtain ⟨kk1_0, kk1_1, kk1_2, kk1_3, kk1_4, kk1_5, kk1_6, kk1_7, kk1_8, kk1_9, kk1_10, kk1_11, kk1_12, kk1_13, kk1_14, kk1_15, kk1_16, kk1_17, kk1_18, kk1_19, kk1_20, kk1_21, kk1_22, kk1_23, kk1_24, kk1_25, kk1_26, kk1_27, kk1_28, kk1_29, kk1_30, kk1_31, kk1_32, kk1_33, kk1_34, kk1_35, kk1_36, kk1_37, kk1_38⟩ := hk1_K
    obtain ⟨ev1_38, eb1_38⟩ := own_row2 (f := c_u8) (g := g_u8) (bs := [slN (getL (aLs v0) 7), slN (getL (aLs v0) 8), slN (getL (aLs v1) 38)]) (i := 2) (fun hr => w_u8 hr) hk1_40 (by rw [← getL_roWL]; exact kk1_38) (L := p1.Data) (by rw [hp1, ← getL_roWL]; rfl) rfl
    refine ⟨[.agg [.int .u8 p0.Own.x0, .int .u8 p0.Own.x1, .int .u8 p0.Own.x2, .int .u8 p0.Own.x3, .int .u8 p0.Own.x4, .int .u8 p0.Own.x5, .int .i64 p0.Seq, .sl 0 7 0 p0.Seen.length false, .sl 1 12 0 p0.Nexts.length false], .agg (.int .u8 p1.From.x0 :: .int .u8 p1.From.x1 :: .int .u8 p1.From.x2 :: .int .u8 p1.From.x3 :: .int .u8 p1.From.x4 :: .int .u8 p1.From.x5 :: .int .u8 p1.To.x0 :: .int .u8 p1.To.x1 :: .int .u8 p1.To.x2 :: .int .u8 p1.To.x3 :: .int .u8 p1.To.x4 :: .int .u8 p1.To.x5 :: .int .u8 p1.Enter.x0 :: .int .u8 p1.Enter.x1 :: .int .u8 p1.Enter.x2 :: .int .u8 p1.Enter.x3 :: .int .u8 p1.Enter.x4 :: .int .u8 p1.Enter.x5 :: .int .u8 p1.Leave.x0 :: .int .u8 p1.Leave.x1 :: .int .u8 p1.Leave.x2 :: .int .u8 p1.Leave.x3 :: .int .u8 p1.Leave.x4 :: .int .u8 p1.Leave.x5 :: .int .u8 p1.Source.x0 :: .int .u8 p1.Source.x1 :: .int .u8 p1.Source.x2 :: .int .u8 p1.Source.x3 :: .int .u8 p1.Source.x4 :: .int .u8 p1.Source.x5 :: .int .u8 p1.Target.x0 :: .int .u8 p1.Target.x1 :: .int .u8 p1.Target.x2 :: .int .u8 p1.Target.x3 :: .int .u8 p1.Target.x4 :: .int .u8 p1.Target.x5 :: .int .i64 p1.Seq :: .int .i64 p1.Ttl :: .sl 2 1 0 p1.Data.length false :: [])], [.row 59 7 p0.Seen.length (enR c_TForwardMark p0.Seen), .row 90 12 p0.Nexts.length (enR c_TForwardHop p0.Nexts), .row 5 1 p1.Data.length (enR c_u8 p1.Data)], rfl, ⟨(by rw [hk0_0.2]; refine EW_own ?_ (by simp only [noro, noroL, and_self]); exact EV_agg (EVL_of hk0_0.1.symm (fun y hy => by
          match y, hy with
          | 0, _ => exact EV_t hk0_2 (hw0 0 (by decide))
          | 1, _ => exact EV_t hk0_3 (hw0 1 (by decide))
          | 2, _ => exact EV_t hk0_4 (hw0 2 (by decide))
          | 3, _ => exact EV_t hk0_5 (hw0 3 (by decide))
          | 4, _ => exact EV_t hk0_6 (hw0 4 (by decide))
          | 5, _ => exact EV_t hk0_7 (hw0 5 (by decide))
          | 6, _ => exact EV_t hk0_8 (hw0 6 (by decide))
          | 7, _ => exact ev0_7
          | 8, _ => exact ev0_8
          | y + 9, hy => exact absurd hy (by simp)))), ⟨(by rw [hk1_0.2]; refine EW_own ?_ (by simp only [noro, noroL, and_self]); exact EV_agg (EVL_of hk1_0.1.symm (fun y hy => by
          match y, hy with
          | 0, _ => exact EV_t hk1_2 (hw1 0 (by decide))
          | 1, _ => exact EV_t hk1_3 (hw1 1 (by decide))
          | 2, _ => exact EV_t hk1_4 (hw1 2 (by decide))
          | 3, _ => exact EV_t hk1_5 (hw1 3 (by decide))
          | 4, _ => exact EV_t hk1_6 (hw1 4 (by decide))
          | 5, _ => exact EV_t hk1_7 (hw1 5 (by decide))
          | 6, _ => exact EV_t hk1_8 (hw1 6 (by decide))
          | 7, _ => exact EV_t hk1_9 (hw1 7 (by decide))
          | 8, _ => exact EV_t hk1_10 (hw1 8 (by decide))
          | 9, _ => exact EV_t hk1_11 (hw1 9 (by decide))
          | 10, _ => exact EV_t hk1_12 (hw1 10 (by decide))
          | 11, _ => exact EV_t hk1_13 (hw1 11 (by decide))
          | 12, _ => exact EV_t hk1_14 (hw1 12 (by decide))
          | 13, _ => exact EV_t hk1_15 (hw1 13 (by decide))
          | 14, _ => exact EV_t hk1_16 (hw1 14 (by decide))
          | 15, _ => exact EV_t hk1_17 (hw1 15 (by decide))
          | 16, _ => exact EV_t hk1_18 (hw1 16 (by decide))
          | 17, _ => exact EV_t hk1_19 (hw1 17 (by decide))
          | 18, _ => exact EV_t hk1_20 (hw1 18 (by decide))
          | 19, _ => exact EV_t hk1_21 (hw1 19 (by decide))
          | 20, _ => exact EV_t hk1_22 (hw1 20 (by decide))
          | 21, _ => exact EV_t hk1_23 (hw1 21 (by decide))
          | 22, _ => exact EV_t hk1_24 (hw1 22 (by decide))
          | 23, _ => exact EV_t hk1_25 (hw1 23 (by decide))
          | 24, _ => exact EV_t hk1_26 (hw1 24 (by decide))
          | 25, _ => exact EV_t hk1_27 (hw1 25 (by decide))
          | 26, _ => exact EV_t hk1_28 (hw1 26 (by decide))
          | 27, _ => exact EV_t hk1_29 (hw1 27 (by decide))
          | 28, _ => exact EV_t hk1_30 (hw1 28 (by decide))
          | 29, _ => exact EV_t hk1_31 (hw1 29 (by decide))
          | 30, _ => exact EV_t hk1_32 (hw1 30 (by decide))
          | 31, _ => exact EV_t hk1_33 (hw1 31 (by decide))
          | 32, _ => exact EV_t hk1_34 (hw1 32 (by decide))
          | 33, _ => exact EV_t hk1_35 (hw1 33 (by decide))
          | 34, _ => exact EV_t hk1_36 (hw1 34 (by decide))
          | 35, _ => exact EV_t hk1_37 (hw1 35 (by decide))
          | 36, _ => exact EV_t hk1_38 (hw1 36 (by decide))
          | 37, _ => exact EV_t hk1_39 (hw1 37 (by decide))
          | 38, _ => exact ev1_38
          | y + 39, hy => exact absurd hy (by simp)))), trivial⟩⟩, ⟨eb0_7, ⟨eb0_8, ⟨eb1_38, trivial⟩⟩⟩, ⟨noroB_en, ⟨noroB_en, ⟨noroB_en, trivial⟩⟩⟩, ⟨trivial, ⟨trivial, ⟨trivial, trivial⟩⟩⟩, ⟨trivial, ⟨trivial, ⟨trivial, trivial⟩⟩⟩, (by first | (simp only [noro, noroL, and_self]; done) | (simp only [noro, noroL]; and_intros <;> first | trivial | exact noro_bif (by simp only [noro]) (by simp only [noro]) | (simp only [noro, noroL, and_self]))), ?_⟩
    rw [Try.ntmps18]
    simp only [List.length_cons, List.length_nil, Nat.reduceAdd, Nat.reduceSub, List.replicate_succ, List.replicate_zero, List.cons_append, List.nil_append]
    unfold F18_0 at H
    try dsimp only at H
    refine sq ctNo_ok ?_
    simp only [go_sem, Nat.reduceLeDiff, Nat.reduceLT, Nat.reduceAdd, Nat.reduceMul, Nat.reduceSub, Nat.reduceEqDiff, Nat.reduceBEq, Int.reduceToNat, reduceCtorEq]
    refine seqM ?_
    refine sq ctNo_ok ?_
    simp only [go_sem, Nat.reduceLeDiff, Nat.reduceLT, Nat.reduceAdd, Nat.reduceMul, Nat.reduceSub, Nat.reduceEqDiff, Nat.reduceBEq, Int.reduceToNat, reduceCtorEq]
    refine blkM ?_
    refine loop_den (fun s : Int × (List TForwardMark) => (.top :: .top :: .ptr 3 0 0 0 :: .ptr 4 0 0 0 :: .int .i64 s.1 :: tp 46 [])) (fun s => [.dead, .row 90 12 p0.Nexts.length (enR c_TForwardHop p0.Nexts), .row 5 1 p1.Data.length (enR c_u8 p1.Data), .lit 31 [.int .u8 p0.Own.x0, .int .u8 p0.Own.x1, .int .u8 p0.Own.x2, .int .u8 p0.Own.x3, .int .u8 p0.Own.x4, .int .u8 p0.Own.x5, .int .i64 p0.Seq, .sl 5 7 0 s.2.length false, .sl 1 12 0 p0.Nexts.length false], .lit 26 (.int .u8 p1.From.x0 :: .int .u8 p1.From.x1 :: .int .u8 p1.From.x2 :: .int .u8 p1.From.x3 :: .int .u8 p1.From.x4 :: .int .u8 p1.From.x5 :: .int .u8 p1.To.x0 :: .int .u8 p1.To.x1 :: .int .u8 p1.To.x2 :: .int .u8 p1.To.x3 :: .int .u8 p1.To.x4 :: .int .u8 p1.To.x5 :: .int .u8 p1.Enter.x0 :: .int .u8 p1.Enter.x1 :: .int .u8 p1.Enter.x2 :: .int .u8 p1.Enter.x3 :: .int .u8 p1.Enter.x4 :: .int .u8 p1.Enter.x5 :: .int .u8 p1.Leave.x0 :: .int .u8 p1.Leave.x1 :: .int .u8 p1.Leave.x2 :: .int .u8 p1.Leave.x3 :: .int .u8 p1.Leave.x4 :: .int .u8 p1.Leave.x5 :: .int .u8 p1.Source.x0 :: .int .u8 p1.Source.x1 :: .int .u8 p1.Source.x2 :: .int .u8 p1.Source.x3 :: .int .u8 p1.Source.x4 :: .int .u8 p1.Source.x5 :: .int .u8 p1.Target.x0 :: .int .u8 p1.Target.x1 :: .int .u8 p1.Target.x2 :: .int .u8 p1.Target.x3 :: .int .u8 p1.Target.x4 :: .int .u8 p1.Target.x5 :: .int .i64 p1.Seq :: .int .i64 p1.Ttl :: .sl 2 1 0 p1.Data.length false :: []), .row 59 7 s.2.length (enR c_TForwardMark s.2)]) (fun e : List TForwardMark => (.top :: .top :: .ptr 3 0 0 0 :: .ptr 4 0 0 0 :: tp 47 [])) (fun e => [.dead, .row 90 12 p0.Nexts.length (enR c_TForwardHop p0.Nexts), .row 5 1 p1.Data.length (enR c_u8 p1.Data), .lit 31 [.int .u8 p0.Own.x0, .int .u8 p0.Own.x1, .int .u8 p0.Own.x2, .int .u8 p0.Own.x3, .int .u8 p0.Own.x4, .int .u8 p0.Own.x5, .int .i64 p0.Seq, .sl 5 7 0 e.length false, .sl 1 12 0 p0.Nexts.length false], .lit 26 (.int .u8 p1.From.x0 :: .int .u8 p1.From.x1 :: .int .u8 p1.From.x2 :: .int .u8 p1.From.x3 :: .int .u8 p1.From.x4 :: .int .u8 p1.From.x5 :: .int .u8 p1.To.x0 :: .int .u8 p1.To.x1 :: .int .u8 p1.To.x2 :: .int .u8 p1.To.x3 :: .int .u8 p1.To.x4 :: .int .u8 p1.To.x5 :: .int .u8 p1.Enter.x0 :: .int .u8 p1.Enter.x1 :: .int .u8 p1.Enter.x2 :: .int .u8 p1.Enter.x3 :: .int .u8 p1.Enter.x4 :: .int .u8 p1.Enter.x5 :: .int .u8 p1.Leave.x0 :: .int .u8 p1.Leave.x1 :: .int .u8 p1.Leave.x2 :: .int .u8 p1.Leave.x3 :: .int .u8 p1.Leave.x4 :: .int .u8 p1.Leave.x5 :: .int .u8 p1.Source.x0 :: .int .u8 p1.Source.x1 :: .int .u8 p1.Source.x2 :: .int .u8 p1.Source.x3 :: .int .u8 p1.Source.x4 :: .int .u8 p1.Source.x5 :: .int .u8 p1.Target.x0 :: .int .u8 p1.Target.x1 :: .int .u8 p1.Target.x2 :: .int .u8 p1.Target.x3 :: .int .u8 p1.Target.x4 :: .int .u8 p1.Target.x5 :: .int .i64 p1.Seq :: .int .i64 p1.Ttl :: .sl 2 1 0 p1.Data.length false :: []), .row 59 7 e.length (enR c_TForwardMark e)]) H ?_ (fun s o H hn1_1 hn2_1 => ?_) (fun w1_3 H => ?_)
    · refine SubF_of ⟨[some 0, some 1, some 2, some 3, some 4, some 0], ?_, ?_, by rfl, by rfl⟩
      · simp [CvL, Cv, getM, tp]
      · exact ⟨CvB_dead, (CvB_same nfA), (CvB_same nfA), (by simp [CvB, CvL, Cv, blkAt, geth, getM]), (by simp [CvB, CvL, Cv, blkAt, geth, getM]), CvB_row nr_TForwardMark (by first | rfl | (simp; done) | (simp; omega)) (fun _ _ _ _ => rfl), trivial⟩
    · obtain ⟨v1_1, v1_2⟩ := s
      unfold F18_0_L1 at H
      try dsimp only at H ⊢
      try simp only [tp]
      refine seqM ?_
      refine sq ctNo_ok ?_
      simp only [go_sem, Nat.reduceLeDiff, Nat.reduceLT, Nat.reduceAdd, Nat.reduceMul, Nat.reduceSub, Nat.reduceEqDiff, Nat.reduceBEq, Int.reduceToNat, reduceCtorEq]
      repeat ((with_reducible refine And.intro ?_ ?_); focus (first | (and_intros <;> first | (with_reducible trivial) | omega | assumption | exact nfc | first | exact rfl | exact trivial | exact fitI | exact .inr rfl | exact .inl rfl | exact fun x hx => absurd hx (by omega)) | grind))
      refine condM' rfl trivial (fun hc => ?_) (fun hc => ?_)
      · replace H := cond_f hc H
        refine rg ctNo_ok ?_
        simp only [go_sem, Nat.reduceLeDiff, Nat.reduceLT, Nat.reduceAdd, Nat.reduceMul, Nat.reduceSub, Nat.reduceEqDiff, Nat.reduceBEq, Int.reduceToNat, reduceCtorEq]
        refine ⟨_, (Option.some.inj H).symm, ?_⟩
        refine SubF_of ⟨[some 0, some 1, some 2, some 3, some 4, some 5], ?_, ?_, by rfl, by rfl⟩
        · simp [CvL, Cv, getM, tp]
        · exact ⟨CvB_dead, (CvB_same nfA), (CvB_same nfA), (by simp [CvB, CvL, Cv, blkAt, geth, getM]), (by simp [CvB, CvL, Cv, blkAt, geth, getM]), CvB_row nr_TForwardMark (by first | rfl | (simp; done) | (simp; omega)) (fun _ _ _ _ => rfl), trivial⟩
      replace H := cond_t hc H
      refine rg ctNo_ok ?_
      simp only [go_sem, Nat.reduceLeDiff, Nat.reduceLT, Nat.reduceAdd, Nat.reduceMul, Nat.reduceSub, Nat.reduceEqDiff, Nat.reduceBEq, Int.reduceToNat, reduceCtorEq]
      refine seqM ?_
      refine blkM ?_
      obtain ⟨f1, H⟩ := need_some.1 H
      replace f1 := inb_iff.1 f1
      refine rg ctNo_ok ?_
      simp only [go_sem, Nat.reduceLeDiff, Nat.reduceLT, Nat.reduceAdd, Nat.reduceMul, Nat.reduceSub, Nat.reduceEqDiff, Nat.reduceBEq, Int.reduceToNat, reduceCtorEq, f1]
      repeat ((with_reducible refine And.intro ?_ ?_); focus (first | (with_reducible trivial) | omega | grind))
      refine rg ctNo_ok ?_
      simp only [go_sem, Nat.reduceLeDiff, Nat.reduceLT, Nat.reduceAdd, Nat.reduceMul, Nat.reduceSub, Nat.reduceEqDiff, Nat.reduceBEq, Int.reduceToNat, reduceCtorEq]
      refine ⟨_, (Option.some.inj H).symm, ?_⟩
      refine SubF_of ⟨[some 0, some 1, some 2, some 3, some 4, some 5], ?_, ?_, by rfl, by rfl⟩
      · simp [CvL, Cv, getM, tp]
      · exact ⟨CvB_dead, (CvB_same nfA), (CvB_same nfA), (by simp [CvB, CvL, Cv, blkAt, geth, getM]), (by simp [CvB, CvL, Cv, blkAt, geth, getM]), CvB_row nr_TForwardMark (by first | rfl | (simp; done) | (simp; omega)) (upc_row (f := c_TForwardMark) v1_2 v1_1.toNat 6 (TForwardMark.mk (A6u8.mk (((gd v1_2 v1_1.toNat).Enter).x0) (((gd v1_2 v1_1.toNat).Enter).x1) (((gd v1_2 v1_1.toNat).Enter).x2) (((gd v1_2 v1_1.toNat).Enter).x3) (((gd v1_2 v1_1.toNat).Enter).x4) (((gd v1_2 v1_1.toNat).Enter).x5)) 77) (fun _ _ _ _ => rfl) (fun y hy => match y, hy with | 0, _ => rfl | 1, _ => rfl | 2, _ => rfl | 3, _ => rfl | 4, _ => rfl | 5, _ => rfl | 6, _ => rfl | (y+7), h => absurd h (by omega))), trivial⟩
    · try dsimp only at H ⊢
      try simp only [tp]
      try simp only [m_normal, k_normal, b_normal, kL_normal, r_normal]
      refine seqM ?_
      refine sq ctNo_ok ?_
      simp only [go_sem, Nat.reduceLeDiff, Nat.reduceLT, Nat.reduceAdd, Nat.reduceMul, Nat.reduceSub, Nat.reduceEqDiff, Nat.reduceBEq, Int.reduceToNat, reduceCtorEq]
      refine blkM ?_
      refine loop_den (fun s : Int × (List TForwardHop) => (.top :: .top :: .ptr 3 0 0 0 :: .ptr 4 0 0 0 :: .top :: .int .i64 s.1 :: tp 45 [])) (fun s => [.dead, .dead, .row 5 1 p1.Data.length (enR c_u8 p1.Data), .lit 31 [.int .u8 p0.Own.x0, .int .u8 p0.Own.x1, .int .u8 p0.Own.x2, .int .u8 p0.Own.x3, .int .u8 p0.Own.x4, .int .u8 p0.Own.x5, .int .i64 p0.Seq, .sl 5 7 0 w1_3.length false, .sl 6 12 0 s.2.length false], .lit 26 (.int .u8 p1.From.x0 :: .int .u8 p1.From.x1 :: .int .u8 p1.From.x2 :: .int .u8 p1.From.x3 :: .int .u8 p1.From.x4 :: .int .u8 p1.From.x5 :: .int .u8 p1.To.x0 :: .int .u8 p1.To.x1 :: .int .u8 p1.To.x2 :: .int .u8 p1.To.x3 :: .int .u8 p1.To.x4 :: .int .u8 p1.To.x5 :: .int .u8 p1.Enter.x0 :: .int .u8 p1.Enter.x1 :: .int .u8 p1.Enter.x2 :: .int .u8 p1.Enter.x3 :: .int .u8 p1.Enter.x4 :: .int .u8 p1.Enter.x5 :: .int .u8 p1.Leave.x0 :: .int .u8 p1.Leave.x1 :: .int .u8 p1.Leave.x2 :: .int .u8 p1.Leave.x3 :: .int .u8 p1.Leave.x4 :: .int .u8 p1.Leave.x5 :: .int .u8 p1.Source.x0 :: .int .u8 p1.Source.x1 :: .int .u8 p1.Source.x2 :: .int .u8 p1.Source.x3 :: .int .u8 p1.Source.x4 :: .int .u8 p1.Source.x5 :: .int .u8 p1.Target.x0 :: .int .u8 p1.Target.x1 :: .int .u8 p1.Target.x2 :: .int .u8 p1.Target.x3 :: .int .u8 p1.Target.x4 :: .int .u8 p1.Target.x5 :: .int .i64 p1.Seq :: .int .i64 p1.Ttl :: .sl 2 1 0 p1.Data.length false :: []), .row 59 7 w1_3.length (enR c_TForwardMark w1_3), .row 90 12 s.2.length (enR c_TForwardHop s.2)]) (fun e : Unit => (.top :: .top :: .top :: .ptr 4 0 0 0 :: tp 47 [])) (fun e => [.dead, .dead, .row 5 1 p1.Data.length (enR c_u8 p1.Data), .dead, .lit 26 (.int .u8 p1.From.x0 :: .int .u8 p1.From.x1 :: .int .u8 p1.From.x2 :: .int .u8 p1.From.x3 :: .int .u8 p1.From.x4 :: .int .u8 p1.From.x5 :: .int .u8 p1.To.x0 :: .int .u8 p1.To.x1 :: .int .u8 p1.To.x2 :: .int .u8 p1.To.x3 :: .int .u8 p1.To.x4 :: .int .u8 p1.To.x5 :: .int .u8 p1.Enter.x0 :: .int .u8 p1.Enter.x1 :: .int .u8 p1.Enter.x2 :: .int .u8 p1.Enter.x3 :: .int .u8 p1.Enter.x4 :: .int .u8 p1.Enter.x5 :: .int .u8 p1.Leave.x0 :: .int .u8 p1.Leave.x1 :: .int .u8 p1.Leave.x2 :: .int .u8 p1.Leave.x3 :: .int .u8 p1.Leave.x4 :: .int .u8 p1.Leave.x5 :: .int .u8 p1.Source.x0 :: .int .u8 p1.Source.x1 :: .int .u8 p1.Source.x2 :: .int .u8 p1.Source.x3 :: .int .u8 p1.Source.x4 :: .int .u8 p1.Source.x5 :: .int .u8 p1.Target.x0 :: .int .u8 p1.Target.x1 :: .int .u8 p1.Target.x2 :: .int .u8 p1.Target.x3 :: .int .u8 p1.Target.x4 :: .int .u8 p1.Target.x5 :: .int .i64 p1.Seq :: .int .i64 p1.Ttl :: .sl 2 1 0 p1.Data.length false :: []), .dead]) H ?_ (fun s o H hn1_2 hn2_2 => ?_) (fun e H => ?_)
      · refine SubF_of ⟨[some 0, some 1, some 2, some 3, some 4, some 5, some 1], ?_, ?_, by rfl, by rfl⟩
        · simp [CvL, Cv, getM, tp]
        · exact ⟨CvB_dead, CvB_dead, (CvB_same nfA), (by simp [CvB, CvL, Cv, blkAt, geth, getM]), (by simp [CvB, CvL, Cv, blkAt, geth, getM]), (CvB_same nfA), CvB_row nr_TForwardHop (by first | rfl | (simp; done) | (simp; omega)) (fun _ _ _ _ => rfl), trivial⟩
      · obtain ⟨v2_1, v2_2⟩ := s
        unfold F18_0_L2 at H
        try dsimp only at H ⊢
        try simp only [tp]
        refine seqM ?_
        refine sq ctNo_ok ?_
        simp only [go_sem, Nat.reduceLeDiff, Nat.reduceLT, Nat.reduceAdd, Nat.reduceMul, Nat.reduceSub, Nat.reduceEqDiff, Nat.reduceBEq, Int.reduceToNat, reduceCtorEq]
        repeat ((with_reducible refine And.intro ?_ ?_); focus (first | (and_intros <;> first | (with_reducible trivial) | omega | assumption | exact nfc | first | exact rfl | exact trivial | exact fitI | exact .inr rfl | exact .inl rfl | exact fun x hx => absurd hx (by omega)) | grind))
        refine condM' rfl trivial (fun hc => ?_) (fun hc => ?_)
        · replace H := cond_f hc H
          refine rg ctNo_ok ?_
          simp only [go_sem, Nat.reduceLeDiff, Nat.reduceLT, Nat.reduceAdd, Nat.reduceMul, Nat.reduceSub, Nat.reduceEqDiff, Nat.reduceBEq, Int.reduceToNat, reduceCtorEq]
          refine ⟨_, (Option.some.inj H).symm, ?_⟩
          refine SubF_of ⟨[some 0, some 1, some 2, some 3, some 4, some 5], ?_, ?_, by rfl, by rfl⟩
          · simp [CvL, Cv, getM, tp]
          · exact ⟨CvB_dead, CvB_dead, (CvB_same nfA), CvB_dead, (by simp [CvB, CvL, Cv, blkAt, geth, getM]), CvB_dead, trivial⟩
        replace H := cond_t hc H
        refine rg ctNo_ok ?_
        simp only [go_sem, Nat.reduceLeDiff, Nat.reduceLT, Nat.reduceAdd, Nat.reduceMul, Nat.reduceSub, Nat.reduceEqDiff, Nat.reduceBEq, Int.reduceToNat, reduceCtorEq]
        refine seqM ?_
        refine blkM ?_
        obtain ⟨f2, H⟩ := need_some.1 H
        replace f2 := inb_iff.1 f2
        obtain ⟨f3, H⟩ := need_some.1 H
        replace f3 := inb_iff.1 f3
        refine draw_rule shT_ok ctNo_ok 0 (by kernel_rfl) (by kernel_rfl) ?_
        intro an han
        simp only [d_nil, d_cons, nxtD, xrD, xoD, roEq, minL, List.append_nil, refsOp, refs, refsL, mask, maskF, place, placeF, okLog, pairOk, hit, inL, slotsF, ren, renL, rnN, nrH, nrB, nrL, nr, dead0, deadS, List.replicate_zero, List.replicate_succ, Nat.sub_self, Nat.add_zero, Nat.zero_add, Nat.reduceSub, Nat.not_lt_zero, Nat.zero_le, Nat.lt_add_one, go_sem, Nat.reduceLeDiff, Nat.reduceLT, Nat.reduceAdd, Nat.reduceMul, Nat.reduceSub, Nat.reduceEqDiff, Nat.reduceBEq, Int.reduceToNat, reduceCtorEq, f2, f3]
        repeat ((with_reducible refine And.intro ?_ ?_); focus (and_intros <;> first | (with_reducible trivial) | (show anB _ _ _ = true; subst han; kernel_rfl) | (show (anB _ _ _ && _) = true; subst han; kernel_rfl) | omega | assumption | exact nrc | exact nfc | first | exact rfl | exact trivial | exact fitI | exact .inr rfl | exact .inl rfl | exact fun x hx => absurd hx (by omega)))
        refine rg ctNo_ok ?_
        simp only [go_sem, Nat.reduceLeDiff, Nat.reduceLT, Nat.reduceAdd, Nat.reduceMul, Nat.reduceSub, Nat.reduceEqDiff, Nat.reduceBEq, Int.reduceToNat, reduceCtorEq]
        refine ⟨_, (Option.some.inj H).symm, ?_⟩
        refine SubF_of ⟨[some 0, some 1, some 2, some 3, some 4, some 5, some 6], ?_, ?_, by rfl, by rfl⟩
        · simp [CvL, Cv, getM, tp]
        · exact ⟨CvB_dead, CvB_dead, (CvB_same nfA), (by simp [CvB, CvL, Cv, blkAt, geth, getM]), (by simp [CvB, CvL, Cv, blkAt, geth, getM]), (CvB_same nfA), CvB_row nr_TForwardHop (by first | rfl | (simp; done) | (simp; omega)) (upc_row (f := c_TForwardHop) v2_2 v2_1.toNat 7 (TForwardHop.mk (A6u8.mk (((gd v2_2 v2_1.toNat).Dest).x0) (((gd v2_2 v2_1.toNat).Dest).x1) (((gd v2_2 v2_1.toNat).Dest).x2) (((gd v2_2 v2_1.toNat).Dest).x3) (((gd v2_2 v2_1.toNat).Dest).x4) (((gd v2_2 v2_1.toNat).Dest).x5)) (A6u8.mk (((gd v2_2 v2_1.toNat).Next).x0) (wr .u8 ((((gd v2_2 v2_1.toNat).Next).x1) + 1)) (((gd v2_2 v2_1.toNat).Next).x2) (((gd v2_2 v2_1.toNat).Next).x3) (((gd v2_2 v2_1.toNat).Next).x4) (((gd v2_2 v2_1.toNat).Next).x5))) (fun _ _ _ _ => rfl) (fun y hy => match y, hy with | 0, _ => rfl | 1, _ => rfl | 2, _ => rfl | 3, _ => rfl | 4, _ => rfl | 5, _ => rfl | 6, _ => rfl | 7, _ => rfl | 8, _ => rfl | 9, _ => rfl | 10, _ => rfl | 11, _ => rfl | (y+12), h => absurd h (by omega))), trivial⟩
      · try dsimp only at H ⊢
        try simp only [tp]
        try simp only [m_normal, k_normal, b_normal, kL_normal, r_normal]
        refine sq ctNo_ok ?_
        simp only [go_sem, Nat.reduceLeDiff, Nat.reduceLT, Nat.reduceAdd, Nat.reduceMul, Nat.reduceSub, Nat.reduceEqDiff, Nat.reduceBEq, Int.reduceToNat, reduceCtorEq]
        refine blkM ?_
        refine loop_den (fun s : Int × (List Int) => (.top :: .top :: .top :: .ptr 4 0 0 0 :: .top :: .top :: .int .i64 s.1 :: tp 44 [])) (fun s => [.dead, .dead, .dead, .dead, .lit 26 (.int .u8 p1.From.x0 :: .int .u8 p1.From.x1 :: .int .u8 p1.From.x2 :: .int .u8 p1.From.x3 :: .int .u8 p1.From.x4 :: .int .u8 p1.From.x5 :: .int .u8 p1.To.x0 :: .int .u8 p1.To.x1 :: .int .u8 p1.To.x2 :: .int .u8 p1.To.x3 :: .int .u8 p1.To.x4 :: .int .u8 p1.To.x5 :: .int .u8 p1.Enter.x0 :: .int .u8 p1.Enter.x1 :: .int .u8 p1.Enter.x2 :: .int .u8 p1.Enter.x3 :: .int .u8 p1.Enter.x4 :: .int .u8 p1.Enter.x5 :: .int .u8 p1.Leave.x0 :: .int .u8 p1.Leave.x1 :: .int .u8 p1.Leave.x2 :: .int .u8 p1.Leave.x3 :: .int .u8 p1.Leave.x4 :: .int .u8 p1.Leave.x5 :: .int .u8 p1.Source.x0 :: .int .u8 p1.Source.x1 :: .int .u8 p1.Source.x2 :: .int .u8 p1.Source.x3 :: .int .u8 p1.Source.x4 :: .int .u8 p1.Source.x5 :: .int .u8 p1.Target.x0 :: .int .u8 p1.Target.x1 :: .int .u8 p1.Target.x2 :: .int .u8 p1.Target.x3 :: .int .u8 p1.Target.x4 :: .int .u8 p1.Target.x5 :: .int .i64 p1.Seq :: .int .i64 p1.Ttl :: .sl 6 1 0 s.2.length false :: []), .dead, .row 5 1 s.2.length (enR c_u8 s.2)]) (fun e : Unit => (tp 51 [])) (fun e => [.dead, .dead, .dead, .dead, .dead, .dead]) H ?_ (fun s o H hn1_3 hn2_3 => ?_) (fun e H => ?_)
        · refine SubF_of ⟨[some 0, some 1, some 2, some 3, some 4, some 5, some 2], ?_, ?_, by rfl, by rfl⟩
          · simp [CvL, Cv, getM, tp]
          · exact ⟨CvB_dead, CvB_dead, CvB_dead, CvB_dead, (by simp [CvB, CvL, Cv, blkAt, geth, getM]), CvB_dead, CvB_row nr_u8 (by first | rfl | (simp; done) | (simp; omega)) (fun _ _ _ _ => rfl), trivial⟩
        · obtain ⟨v3_1, v3_2⟩ := s
          unfold F18_0_L3 at H
          try dsimp only at H ⊢
          try simp only [tp]
          refine seqM ?_
          refine sq ctNo_ok ?_
          simp only [go_sem, Nat.reduceLeDiff, Nat.reduceLT, Nat.reduceAdd, Nat.reduceMul, Nat.reduceSub, Nat.reduceEqDiff, Nat.reduceBEq, Int.reduceToNat, reduceCtorEq]
          repeat ((with_reducible refine And.intro ?_ ?_); focus (first | (and_intros <;> first | (with_reducible trivial) | omega | assumption | exact nfc | first | exact rfl | exact trivial | exact fitI | exact .inr rfl | exact .inl rfl | exact fun x hx => absurd hx (by omega)) | grind))
          refine condM' rfl trivial (fun hc => ?_) (fun hc => ?_)
          · replace H := cond_f hc H
            refine rg ctNo_ok ?_
            simp only [go_sem, Nat.reduceLeDiff, Nat.reduceLT, Nat.reduceAdd, Nat.reduceMul, Nat.reduceSub, Nat.reduceEqDiff, Nat.reduceBEq, Int.reduceToNat, reduceCtorEq]
            refine ⟨_, (Option.some.inj H).symm, ?_⟩
            refine SubF_of ⟨[some 0, some 1, some 2, some 3, some 4, some 5], ?_, ?_, by rfl, by rfl⟩
            · simp [CvL, Cv, getM, tp]
            · exact ⟨CvB_dead, CvB_dead, CvB_dead, CvB_dead, CvB_dead, CvB_dead, trivial⟩
          replace H := cond_t hc H
          refine rg ctNo_ok ?_
          simp only [go_sem, Nat.reduceLeDiff, Nat.reduceLT, Nat.reduceAdd, Nat.reduceMul, Nat.reduceSub, Nat.reduceEqDiff, Nat.reduceBEq, Int.reduceToNat, reduceCtorEq]
          refine seqM ?_
          refine blkM ?_
          obtain ⟨f4, H⟩ := need_some.1 H
          replace f4 := inb_iff.1 f4
          obtain ⟨f5, H⟩ := need_some.1 H
          replace f5 := inb_iff.1 f5
          refine rg ctNo_ok ?_
          simp only [go_sem, Nat.reduceLeDiff, Nat.reduceLT, Nat.reduceAdd, Nat.reduceMul, Nat.reduceSub, Nat.reduceEqDiff, Nat.reduceBEq, Int.reduceToNat, reduceCtorEq, f4, f5]
          repeat ((with_reducible refine And.intro ?_ ?_); focus (first | (with_reducible trivial) | omega | grind))
          refine rg ctNo_ok ?_
          simp only [go_sem, Nat.reduceLeDiff, Nat.reduceLT, Nat.reduceAdd, Nat.reduceMul, Nat.reduceSub, Nat.reduceEqDiff, Nat.reduceBEq, Int.reduceToNat, reduceCtorEq]
          refine ⟨_, (Option.some.inj H).symm, ?_⟩
          refine SubF_of ⟨[some 0, some 1, some 2, some 3, some 4, some 5, some 6], ?_, ?_, by rfl, by rfl⟩
          · simp [CvL, Cv, getM, tp]
          · exact ⟨CvB_dead, CvB_dead, CvB_dead, CvB_dead, (by simp [CvB, CvL, Cv, blkAt, geth, getM]), CvB_dead, CvB_row nr_u8 (by first | rfl | (simp; done) | (simp; omega)) (upc_row (f := c_u8) v3_2 v3_1.toNat 0 (wr .u8 ((gd v3_2 v3_1.toNat) + 1)) (fun _ _ _ _ => rfl) (fun y hy => match y, hy with | 0, _ => rfl | (y+1), h => absurd h (by omega))), trivial⟩
        · try dsimp only at H ⊢
          try simp only [tp]
          try simp only [m_normal, k_normal, b_normal, kL_normal, r_normal]
          obtain rfl := Option.some.inj H
          refine And.intro trivial ?_
          refine RetE_mk [] [some 0, some 1, some 2] ?_ ?_ ?_ ?_ (by rfl) (by rfl)
          · simp only [go_sem, Nat.reduceEqDiff, Nat.reduceBEq, Nat.reduceAdd]
            try (and_intros <;> first | (with_reducible trivial) | omega | exact nfc | trivial)
          · simp only [go_sem, Nat.reduceEqDiff, Nat.reduceBEq, Nat.reduceAdd]
            try (and_intros <;> first | (with_reducible trivial) | omega | exact nfc | trivial)
          · simp only [go_sem, Nat.reduceEqDiff, Nat.reduceBEq, Nat.reduceAdd]
            simp [Cv, CvL, getM, gt_some]
          · simp only [go_sem, Nat.reduceEqDiff, Nat.reduceBEq, Nat.reduceAdd, CvH, gt_some, Option.isSome_some, Option.isSome_none]
            first | exact ⟨CvB_dead, CvB_dead, CvB_dead⟩ | trivial
  · cases hb
/-! hotspot/hotspotlaw41.ForwardReceives -/
noncomputable def ct4t0 : Ct := tab [(10, pureC body10)]
theorem ct4t0_ok : CtOk Try.prog ct4t0 := tab_cons ok10 <| tab_nil
theorem ct4t0_10 (l : List AV) (h : List ABlk) : ct4t0 10 l h = pureC body10 l h := rfl
noncomputable def ct4t1 : Ct := tab [(11, edC body11), (19, edC body19)]
theorem ct4t1_ok : CtOk Try.prog ct4t1 := tab_cons ok11 <| tab_cons ok19 <| tab_nil
theorem ct4t1_11 (l : List AV) (h : List ABlk) : ct4t1 11 l h = edC body11 l h := rfl
theorem ct4t1_19 (l : List AV) (h : List ABlk) : ct4t1 19 l h = edC body19 l h := rfl
noncomputable def ct4t2 : Ct := tab [(20, edC body20)]
theorem ct4t2_ok : CtOk Try.prog ct4t2 := tab_cons ok20 <| tab_nil
theorem ct4t2_20 (l : List AV) (h : List ABlk) : ct4t2 20 l h = edC body20 l h := rfl
noncomputable def ct4t3 : Ct := tab [(21, genC body21)]
theorem ct4t3_ok : CtOk Try.prog ct4t3 := tab_cons ok21 <| tab_nil
theorem ct4t3_21 (l : List AV) (h : List ABlk) : ct4t3 21 l h = genC body21 l h := rfl
noncomputable def ct4t4 : Ct := tab [(17, pureC body17), (22, pureC body22), (23, pureC body23), (24, pureC body24), (25, pureC body25)]
theorem ct4t4_ok : CtOk Try.prog ct4t4 := tab_cons ok17 <| tab_cons ok22 <| tab_cons ok23 <| tab_cons ok24 <| tab_cons ok25 <| tab_nil
theorem ct4t4_17 (l : List AV) (h : List ABlk) : ct4t4 17 l h = pureC body17 l h := rfl
theorem ct4t4_22 (l : List AV) (h : List ABlk) : ct4t4 22 l h = pureC body22 l h := rfl
theorem ct4t4_23 (l : List AV) (h : List ABlk) : ct4t4 23 l h = pureC body23 l h := rfl
theorem ct4t4_24 (l : List AV) (h : List ABlk) : ct4t4 24 l h = pureC body24 l h := rfl
theorem ct4t4_25 (l : List AV) (h : List ABlk) : ct4t4 25 l h = pureC body25 l h := rfl
noncomputable def ct4t5 : Ct := tab [(18, edC body18_0)]
theorem ct4t5_ok : CtOk Try.prog ct4t5 := tab_cons ok18_0 <| tab_nil
theorem ct4t5_18 (l : List AV) (h : List ABlk) : ct4t5 18 l h = edC body18_0 l h := rfl
noncomputable def ct4t6 : Ct := tab [(17, pureC body17), (22, pureC body22)]
theorem ct4t6_ok : CtOk Try.prog ct4t6 := tab_cons ok17 <| tab_cons ok22 <| tab_nil
theorem ct4t6_17 (l : List AV) (h : List ABlk) : ct4t6 17 l h = pureC body17 l h := rfl
theorem ct4t6_22 (l : List AV) (h : List ABlk) : ct4t6 22 l h = pureC body22 l h := rfl
noncomputable def F4 (p0 : TForward) (p1 : TMeshFrame) (p2 : TMeshFrame) : Option (Bool) :=
  (F10 p0 p1.Data).bind fun r1 => need (bif (!r1) then ((F10 p0 p2.Data).isSome) else true) <| bif (r1 || (gt (F10 p0 p2.Data))) then (some true) else ((F19 p0).bind fun r4 => (F11 p1).bind fun r6 => (F20 (TForward.mk (A6u8.mk r4.Own.x0 r4.Own.x1 r4.Own.x2 r4.Own.x3 r4.Own.x4 r4.Own.x5) r4.Seq r4.Seen r4.Nexts) (TMeshFrame.mk (A6u8.mk r6.From.x0 r6.From.x1 r6.From.x2 r6.From.x3 r6.From.x4 r6.From.x5) (A6u8.mk r6.To.x0 r6.To.x1 r6.To.x2 r6.To.x3 r6.To.x4 r6.To.x5) (A6u8.mk r6.Enter.x0 r6.Enter.x1 r6.Enter.x2 r6.Enter.x3 r6.Enter.x4 r6.Enter.x5) (A6u8.mk r6.Leave.x0 r6.Leave.x1 r6.Leave.x2 r6.Leave.x3 r6.Leave.x4 r6.Leave.x5) (A6u8.mk r6.Source.x0 r6.Source.x1 r6.Source.x2 r6.Source.x3 r6.Source.x4 r6.Source.x5) (A6u8.mk r6.Target.x0 r6.Target.x1 r6.Target.x2 r6.Target.x3 r6.Target.x4 r6.Target.x5) r6.Seq r6.Ttl r6.Data)).bind fun r8 => (F21 p0 p1).bind fun r10 => (F22 (TForward.mk (A6u8.mk r8.1.Own.x0 r8.1.Own.x1 r8.1.Own.x2 r8.1.Own.x3 r8.1.Own.x4 r8.1.Own.x5) r8.1.Seq r8.1.Seen r8.1.Nexts) r10.1).bind fun r12 => need (bif (r12 && (bEq r8.2.1 r10.2.1)) then ((F17 (TMeshFrame.mk (A6u8.mk r8.2.2.1.From.x0 r8.2.2.1.From.x1 r8.2.2.1.From.x2 r8.2.2.1.From.x3 r8.2.2.1.From.x4 r8.2.2.1.From.x5) (A6u8.mk r8.2.2.1.To.x0 r8.2.2.1.To.x1 r8.2.2.1.To.x2 r8.2.2.1.To.x3 r8.2.2.1.To.x4 r8.2.2.1.To.x5) (A6u8.mk r8.2.2.1.Enter.x0 r8.2.2.1.Enter.x1 r8.2.2.1.Enter.x2 r8.2.2.1.Enter.x3 r8.2.2.1.Enter.x4 r8.2.2.1.Enter.x5) (A6u8.mk r8.2.2.1.Leave.x0 r8.2.2.1.Leave.x1 r8.2.2.1.Leave.x2 r8.2.2.1.Leave.x3 r8.2.2.1.Leave.x4 r8.2.2.1.Leave.x5) (A6u8.mk r8.2.2.1.Source.x0 r8.2.2.1.Source.x1 r8.2.2.1.Source.x2 r8.2.2.1.Source.x3 r8.2.2.1.Source.x4 r8.2.2.1.Source.x5) (A6u8.mk r8.2.2.1.Target.x0 r8.2.2.1.Target.x1 r8.2.2.1.Target.x2 r8.2.2.1.Target.x3 r8.2.2.1.Target.x4 r8.2.2.1.Target.x5) r8.2.2.1.Seq r8.2.2.1.Ttl r8.2.2.1.Data) r10.2.2.1).isSome) else true) <| need (bif (((r12 && (bEq r8.2.1 r10.2.1)) && (gt (F17 (TMeshFrame.mk (A6u8.mk r8.2.2.1.From.x0 r8.2.2.1.From.x1 r8.2.2.1.From.x2 r8.2.2.1.From.x3 r8.2.2.1.From.x4 r8.2.2.1.From.x5) (A6u8.mk r8.2.2.1.To.x0 r8.2.2.1.To.x1 r8.2.2.1.To.x2 r8.2.2.1.To.x3 r8.2.2.1.To.x4 r8.2.2.1.To.x5) (A6u8.mk r8.2.2.1.Enter.x0 r8.2.2.1.Enter.x1 r8.2.2.1.Enter.x2 r8.2.2.1.Enter.x3 r8.2.2.1.Enter.x4 r8.2.2.1.Enter.x5) (A6u8.mk r8.2.2.1.Leave.x0 r8.2.2.1.Leave.x1 r8.2.2.1.Leave.x2 r8.2.2.1.Leave.x3 r8.2.2.1.Leave.x4 r8.2.2.1.Leave.x5) (A6u8.mk r8.2.2.1.Source.x0 r8.2.2.1.Source.x1 r8.2.2.1.Source.x2 r8.2.2.1.Source.x3 r8.2.2.1.Source.x4 r8.2.2.1.Source.x5) (A6u8.mk r8.2.2.1.Target.x0 r8.2.2.1.Target.x1 r8.2.2.1.Target.x2 r8.2.2.1.Target.x3 r8.2.2.1.Target.x4 r8.2.2.1.Target.x5) r8.2.2.1.Seq r8.2.2.1.Ttl r8.2.2.1.Data) r10.2.2.1))) && (bEq r8.2.2.2 r10.2.2.2)) then ((F23 (TMeshFrame.mk (A6u8.mk r6.From.x0 r6.From.x1 r6.From.x2 r6.From.x3 r6.From.x4 r6.From.x5) (A6u8.mk r6.To.x0 r6.To.x1 r6.To.x2 r6.To.x3 r6.To.x4 r6.To.x5) (A6u8.mk r6.Enter.x0 r6.Enter.x1 r6.Enter.x2 r6.Enter.x3 r6.Enter.x4 r6.Enter.x5) (A6u8.mk r6.Leave.x0 r6.Leave.x1 r6.Leave.x2 r6.Leave.x3 r6.Leave.x4 r6.Leave.x5) (A6u8.mk r6.Source.x0 r6.Source.x1 r6.Source.x2 r6.Source.x3 r6.Source.x4 r6.Source.x5) (A6u8.mk r6.Target.x0 r6.Target.x1 r6.Target.x2 r6.Target.x3 r6.Target.x4 r6.Target.x5) r6.Seq r6.Ttl r6.Data)).isSome) else true) <| need (bif (((r12 && (bEq r8.2.1 r10.2.1)) && (gt (F17 (TMeshFrame.mk (A6u8.mk r8.2.2.1.From.x0 r8.2.2.1.From.x1 r8.2.2.1.From.x2 r8.2.2.1.From.x3 r8.2.2.1.From.x4 r8.2.2.1.From.x5) (A6u8.mk r8.2.2.1.To.x0 r8.2.2.1.To.x1 r8.2.2.1.To.x2 r8.2.2.1.To.x3 r8.2.2.1.To.x4 r8.2.2.1.To.x5) (A6u8.mk r8.2.2.1.Enter.x0 r8.2.2.1.Enter.x1 r8.2.2.1.Enter.x2 r8.2.2.1.Enter.x3 r8.2.2.1.Enter.x4 r8.2.2.1.Enter.x5) (A6u8.mk r8.2.2.1.Leave.x0 r8.2.2.1.Leave.x1 r8.2.2.1.Leave.x2 r8.2.2.1.Leave.x3 r8.2.2.1.Leave.x4 r8.2.2.1.Leave.x5) (A6u8.mk r8.2.2.1.Source.x0 r8.2.2.1.Source.x1 r8.2.2.1.Source.x2 r8.2.2.1.Source.x3 r8.2.2.1.Source.x4 r8.2.2.1.Source.x5) (A6u8.mk r8.2.2.1.Target.x0 r8.2.2.1.Target.x1 r8.2.2.1.Target.x2 r8.2.2.1.Target.x3 r8.2.2.1.Target.x4 r8.2.2.1.Target.x5) r8.2.2.1.Seq r8.2.2.1.Ttl r8.2.2.1.Data) r10.2.2.1))) && (bEq r8.2.2.2 r10.2.2.2)) then ((F24 p1).isSome) else true) <| need (bif ((((r12 && (bEq r8.2.1 r10.2.1)) && (gt (F17 (TMeshFrame.mk (A6u8.mk r8.2.2.1.From.x0 r8.2.2.1.From.x1 r8.2.2.1.From.x2 r8.2.2.1.From.x3 r8.2.2.1.From.x4 r8.2.2.1.From.x5) (A6u8.mk r8.2.2.1.To.x0 r8.2.2.1.To.x1 r8.2.2.1.To.x2 r8.2.2.1.To.x3 r8.2.2.1.To.x4 r8.2.2.1.To.x5) (A6u8.mk r8.2.2.1.Enter.x0 r8.2.2.1.Enter.x1 r8.2.2.1.Enter.x2 r8.2.2.1.Enter.x3 r8.2.2.1.Enter.x4 r8.2.2.1.Enter.x5) (A6u8.mk r8.2.2.1.Leave.x0 r8.2.2.1.Leave.x1 r8.2.2.1.Leave.x2 r8.2.2.1.Leave.x3 r8.2.2.1.Leave.x4 r8.2.2.1.Leave.x5) (A6u8.mk r8.2.2.1.Source.x0 r8.2.2.1.Source.x1 r8.2.2.1.Source.x2 r8.2.2.1.Source.x3 r8.2.2.1.Source.x4 r8.2.2.1.Source.x5) (A6u8.mk r8.2.2.1.Target.x0 r8.2.2.1.Target.x1 r8.2.2.1.Target.x2 r8.2.2.1.Target.x3 r8.2.2.1.Target.x4 r8.2.2.1.Target.x5) r8.2.2.1.Seq r8.2.2.1.Ttl r8.2.2.1.Data) r10.2.2.1))) && (bEq r8.2.2.2 r10.2.2.2)) && (bEq (gt (F23 (TMeshFrame.mk (A6u8.mk r6.From.x0 r6.From.x1 r6.From.x2 r6.From.x3 r6.From.x4 r6.From.x5) (A6u8.mk r6.To.x0 r6.To.x1 r6.To.x2 r6.To.x3 r6.To.x4 r6.To.x5) (A6u8.mk r6.Enter.x0 r6.Enter.x1 r6.Enter.x2 r6.Enter.x3 r6.Enter.x4 r6.Enter.x5) (A6u8.mk r6.Leave.x0 r6.Leave.x1 r6.Leave.x2 r6.Leave.x3 r6.Leave.x4 r6.Leave.x5) (A6u8.mk r6.Source.x0 r6.Source.x1 r6.Source.x2 r6.Source.x3 r6.Source.x4 r6.Source.x5) (A6u8.mk r6.Target.x0 r6.Target.x1 r6.Target.x2 r6.Target.x3 r6.Target.x4 r6.Target.x5) r6.Seq r6.Ttl r6.Data))) (gt (F24 p1)))) then ((F25 p1 p2).isSome) else true) <| need (bif ((((r12 && (bEq r8.2.1 r10.2.1)) && (gt (F17 (TMeshFrame.mk (A6u8.mk r8.2.2.1.From.x0 r8.2.2.1.From.x1 r8.2.2.1.From.x2 r8.2.2.1.From.x3 r8.2.2.1.From.x4 r8.2.2.1.From.x5) (A6u8.mk r8.2.2.1.To.x0 r8.2.2.1.To.x1 r8.2.2.1.To.x2 r8.2.2.1.To.x3 r8.2.2.1.To.x4 r8.2.2.1.To.x5) (A6u8.mk r8.2.2.1.Enter.x0 r8.2.2.1.Enter.x1 r8.2.2.1.Enter.x2 r8.2.2.1.Enter.x3 r8.2.2.1.Enter.x4 r8.2.2.1.Enter.x5) (A6u8.mk r8.2.2.1.Leave.x0 r8.2.2.1.Leave.x1 r8.2.2.1.Leave.x2 r8.2.2.1.Leave.x3 r8.2.2.1.Leave.x4 r8.2.2.1.Leave.x5) (A6u8.mk r8.2.2.1.Source.x0 r8.2.2.1.Source.x1 r8.2.2.1.Source.x2 r8.2.2.1.Source.x3 r8.2.2.1.Source.x4 r8.2.2.1.Source.x5) (A6u8.mk r8.2.2.1.Target.x0 r8.2.2.1.Target.x1 r8.2.2.1.Target.x2 r8.2.2.1.Target.x3 r8.2.2.1.Target.x4 r8.2.2.1.Target.x5) r8.2.2.1.Seq r8.2.2.1.Ttl r8.2.2.1.Data) r10.2.2.1))) && (bEq r8.2.2.2 r10.2.2.2)) && (bEq (gt (F23 (TMeshFrame.mk (A6u8.mk r6.From.x0 r6.From.x1 r6.From.x2 r6.From.x3 r6.From.x4 r6.From.x5) (A6u8.mk r6.To.x0 r6.To.x1 r6.To.x2 r6.To.x3 r6.To.x4 r6.To.x5) (A6u8.mk r6.Enter.x0 r6.Enter.x1 r6.Enter.x2 r6.Enter.x3 r6.Enter.x4 r6.Enter.x5) (A6u8.mk r6.Leave.x0 r6.Leave.x1 r6.Leave.x2 r6.Leave.x3 r6.Leave.x4 r6.Leave.x5) (A6u8.mk r6.Source.x0 r6.Source.x1 r6.Source.x2 r6.Source.x3 r6.Source.x4 r6.Source.x5) (A6u8.mk r6.Target.x0 r6.Target.x1 r6.Target.x2 r6.Target.x3 r6.Target.x4 r6.Target.x5) r6.Seq r6.Ttl r6.Data))) (gt (F24 p1)))) then ((F17 p1 p2).isSome) else true) <| (F18_0 (TForward.mk (A6u8.mk r8.1.Own.x0 r8.1.Own.x1 r8.1.Own.x2 r8.1.Own.x3 r8.1.Own.x4 r8.1.Own.x5) r8.1.Seq r8.1.Seen r8.1.Nexts) (TMeshFrame.mk (A6u8.mk r8.2.2.1.From.x0 r8.2.2.1.From.x1 r8.2.2.1.From.x2 r8.2.2.1.From.x3 r8.2.2.1.From.x4 r8.2.2.1.From.x5) (A6u8.mk r8.2.2.1.To.x0 r8.2.2.1.To.x1 r8.2.2.1.To.x2 r8.2.2.1.To.x3 r8.2.2.1.To.x4 r8.2.2.1.To.x5) (A6u8.mk r8.2.2.1.Enter.x0 r8.2.2.1.Enter.x1 r8.2.2.1.Enter.x2 r8.2.2.1.Enter.x3 r8.2.2.1.Enter.x4 r8.2.2.1.Enter.x5) (A6u8.mk r8.2.2.1.Leave.x0 r8.2.2.1.Leave.x1 r8.2.2.1.Leave.x2 r8.2.2.1.Leave.x3 r8.2.2.1.Leave.x4 r8.2.2.1.Leave.x5) (A6u8.mk r8.2.2.1.Source.x0 r8.2.2.1.Source.x1 r8.2.2.1.Source.x2 r8.2.2.1.Source.x3 r8.2.2.1.Source.x4 r8.2.2.1.Source.x5) (A6u8.mk r8.2.2.1.Target.x0 r8.2.2.1.Target.x1 r8.2.2.1.Target.x2 r8.2.2.1.Target.x3 r8.2.2.1.Target.x4 r8.2.2.1.Target.x5) r8.2.2.1.Seq r8.2.2.1.Ttl r8.2.2.1.Data)).bind fun r19 => need (bif (((((r12 && (bEq r8.2.1 r10.2.1)) && (gt (F17 (TMeshFrame.mk (A6u8.mk r8.2.2.1.From.x0 r8.2.2.1.From.x1 r8.2.2.1.From.x2 r8.2.2.1.From.x3 r8.2.2.1.From.x4 r8.2.2.1.From.x5) (A6u8.mk r8.2.2.1.To.x0 r8.2.2.1.To.x1 r8.2.2.1.To.x2 r8.2.2.1.To.x3 r8.2.2.1.To.x4 r8.2.2.1.To.x5) (A6u8.mk r8.2.2.1.Enter.x0 r8.2.2.1.Enter.x1 r8.2.2.1.Enter.x2 r8.2.2.1.Enter.x3 r8.2.2.1.Enter.x4 r8.2.2.1.Enter.x5) (A6u8.mk r8.2.2.1.Leave.x0 r8.2.2.1.Leave.x1 r8.2.2.1.Leave.x2 r8.2.2.1.Leave.x3 r8.2.2.1.Leave.x4 r8.2.2.1.Leave.x5) (A6u8.mk r8.2.2.1.Source.x0 r8.2.2.1.Source.x1 r8.2.2.1.Source.x2 r8.2.2.1.Source.x3 r8.2.2.1.Source.x4 r8.2.2.1.Source.x5) (A6u8.mk r8.2.2.1.Target.x0 r8.2.2.1.Target.x1 r8.2.2.1.Target.x2 r8.2.2.1.Target.x3 r8.2.2.1.Target.x4 r8.2.2.1.Target.x5) r8.2.2.1.Seq r8.2.2.1.Ttl r8.2.2.1.Data) r10.2.2.1))) && (bEq r8.2.2.2 r10.2.2.2)) && (bEq (gt (F23 (TMeshFrame.mk (A6u8.mk r6.From.x0 r6.From.x1 r6.From.x2 r6.From.x3 r6.From.x4 r6.From.x5) (A6u8.mk r6.To.x0 r6.To.x1 r6.To.x2 r6.To.x3 r6.To.x4 r6.To.x5) (A6u8.mk r6.Enter.x0 r6.Enter.x1 r6.Enter.x2 r6.Enter.x3 r6.Enter.x4 r6.Enter.x5) (A6u8.mk r6.Leave.x0 r6.Leave.x1 r6.Leave.x2 r6.Leave.x3 r6.Leave.x4 r6.Leave.x5) (A6u8.mk r6.Source.x0 r6.Source.x1 r6.Source.x2 r6.Source.x3 r6.Source.x4 r6.Source.x5) (A6u8.mk r6.Target.x0 r6.Target.x1 r6.Target.x2 r6.Target.x3 r6.Target.x4 r6.Target.x5) r6.Seq r6.Ttl r6.Data))) (gt (F24 p1)))) && (bB (gt (F25 p1 p2)) (gt (F17 p1 p2)))) then ((F22 (TForward.mk (A6u8.mk r4.Own.x0 r4.Own.x1 r4.Own.x2 r4.Own.x3 r4.Own.x4 r4.Own.x5) r4.Seq r4.Seen r4.Nexts) p0).isSome) else true) <| need (bif ((((((r12 && (bEq r8.2.1 r10.2.1)) && (gt (F17 (TMeshFrame.mk (A6u8.mk r8.2.2.1.From.x0 r8.2.2.1.From.x1 r8.2.2.1.From.x2 r8.2.2.1.From.x3 r8.2.2.1.From.x4 r8.2.2.1.From.x5) (A6u8.mk r8.2.2.1.To.x0 r8.2.2.1.To.x1 r8.2.2.1.To.x2 r8.2.2.1.To.x3 r8.2.2.1.To.x4 r8.2.2.1.To.x5) (A6u8.mk r8.2.2.1.Enter.x0 r8.2.2.1.Enter.x1 r8.2.2.1.Enter.x2 r8.2.2.1.Enter.x3 r8.2.2.1.Enter.x4 r8.2.2.1.Enter.x5) (A6u8.mk r8.2.2.1.Leave.x0 r8.2.2.1.Leave.x1 r8.2.2.1.Leave.x2 r8.2.2.1.Leave.x3 r8.2.2.1.Leave.x4 r8.2.2.1.Leave.x5) (A6u8.mk r8.2.2.1.Source.x0 r8.2.2.1.Source.x1 r8.2.2.1.Source.x2 r8.2.2.1.Source.x3 r8.2.2.1.Source.x4 r8.2.2.1.Source.x5) (A6u8.mk r8.2.2.1.Target.x0 r8.2.2.1.Target.x1 r8.2.2.1.Target.x2 r8.2.2.1.Target.x3 r8.2.2.1.Target.x4 r8.2.2.1.Target.x5) r8.2.2.1.Seq r8.2.2.1.Ttl r8.2.2.1.Data) r10.2.2.1))) && (bEq r8.2.2.2 r10.2.2.2)) && (bEq (gt (F23 (TMeshFrame.mk (A6u8.mk r6.From.x0 r6.From.x1 r6.From.x2 r6.From.x3 r6.From.x4 r6.From.x5) (A6u8.mk r6.To.x0 r6.To.x1 r6.To.x2 r6.To.x3 r6.To.x4 r6.To.x5) (A6u8.mk r6.Enter.x0 r6.Enter.x1 r6.Enter.x2 r6.Enter.x3 r6.Enter.x4 r6.Enter.x5) (A6u8.mk r6.Leave.x0 r6.Leave.x1 r6.Leave.x2 r6.Leave.x3 r6.Leave.x4 r6.Leave.x5) (A6u8.mk r6.Source.x0 r6.Source.x1 r6.Source.x2 r6.Source.x3 r6.Source.x4 r6.Source.x5) (A6u8.mk r6.Target.x0 r6.Target.x1 r6.Target.x2 r6.Target.x3 r6.Target.x4 r6.Target.x5) r6.Seq r6.Ttl r6.Data))) (gt (F24 p1)))) && (bB (gt (F25 p1 p2)) (gt (F17 p1 p2)))) && (gt (F22 (TForward.mk (A6u8.mk r4.Own.x0 r4.Own.x1 r4.Own.x2 r4.Own.x3 r4.Own.x4 r4.Own.x5) r4.Seq r4.Seen r4.Nexts) p0))) then ((F17 (TMeshFrame.mk (A6u8.mk r6.From.x0 r6.From.x1 r6.From.x2 r6.From.x3 r6.From.x4 r6.From.x5) (A6u8.mk r6.To.x0 r6.To.x1 r6.To.x2 r6.To.x3 r6.To.x4 r6.To.x5) (A6u8.mk r6.Enter.x0 r6.Enter.x1 r6.Enter.x2 r6.Enter.x3 r6.Enter.x4 r6.Enter.x5) (A6u8.mk r6.Leave.x0 r6.Leave.x1 r6.Leave.x2 r6.Leave.x3 r6.Leave.x4 r6.Leave.x5) (A6u8.mk r6.Source.x0 r6.Source.x1 r6.Source.x2 r6.Source.x3 r6.Source.x4 r6.Source.x5) (A6u8.mk r6.Target.x0 r6.Target.x1 r6.Target.x2 r6.Target.x3 r6.Target.x4 r6.Target.x5) r6.Seq r6.Ttl r6.Data) p1).isSome) else true) <| some (((((((r12 && (bEq r8.2.1 r10.2.1)) && (gt (F17 (TMeshFrame.mk (A6u8.mk r8.2.2.1.From.x0 r8.2.2.1.From.x1 r8.2.2.1.From.x2 r8.2.2.1.From.x3 r8.2.2.1.From.x4 r8.2.2.1.From.x5) (A6u8.mk r8.2.2.1.To.x0 r8.2.2.1.To.x1 r8.2.2.1.To.x2 r8.2.2.1.To.x3 r8.2.2.1.To.x4 r8.2.2.1.To.x5) (A6u8.mk r8.2.2.1.Enter.x0 r8.2.2.1.Enter.x1 r8.2.2.1.Enter.x2 r8.2.2.1.Enter.x3 r8.2.2.1.Enter.x4 r8.2.2.1.Enter.x5) (A6u8.mk r8.2.2.1.Leave.x0 r8.2.2.1.Leave.x1 r8.2.2.1.Leave.x2 r8.2.2.1.Leave.x3 r8.2.2.1.Leave.x4 r8.2.2.1.Leave.x5) (A6u8.mk r8.2.2.1.Source.x0 r8.2.2.1.Source.x1 r8.2.2.1.Source.x2 r8.2.2.1.Source.x3 r8.2.2.1.Source.x4 r8.2.2.1.Source.x5) (A6u8.mk r8.2.2.1.Target.x0 r8.2.2.1.Target.x1 r8.2.2.1.Target.x2 r8.2.2.1.Target.x3 r8.2.2.1.Target.x4 r8.2.2.1.Target.x5) r8.2.2.1.Seq r8.2.2.1.Ttl r8.2.2.1.Data) r10.2.2.1))) && (bEq r8.2.2.2 r10.2.2.2)) && (bEq (gt (F23 (TMeshFrame.mk (A6u8.mk r6.From.x0 r6.From.x1 r6.From.x2 r6.From.x3 r6.From.x4 r6.From.x5) (A6u8.mk r6.To.x0 r6.To.x1 r6.To.x2 r6.To.x3 r6.To.x4 r6.To.x5) (A6u8.mk r6.Enter.x0 r6.Enter.x1 r6.Enter.x2 r6.Enter.x3 r6.Enter.x4 r6.Enter.x5) (A6u8.mk r6.Leave.x0 r6.Leave.x1 r6.Leave.x2 r6.Leave.x3 r6.Leave.x4 r6.Leave.x5) (A6u8.mk r6.Source.x0 r6.Source.x1 r6.Source.x2 r6.Source.x3 r6.Source.x4 r6.Source.x5) (A6u8.mk r6.Target.x0 r6.Target.x1 r6.Target.x2 r6.Target.x3 r6.Target.x4 r6.Target.x5) r6.Seq r6.Ttl r6.Data))) (gt (F24 p1)))) && (bB (gt (F25 p1 p2)) (gt (F17 p1 p2)))) && (gt (F22 (TForward.mk (A6u8.mk r4.Own.x0 r4.Own.x1 r4.Own.x2 r4.Own.x3 r4.Own.x4 r4.Own.x5) r4.Seq r4.Seen r4.Nexts) p0))) && (gt (F17 (TMeshFrame.mk (A6u8.mk r6.From.x0 r6.From.x1 r6.From.x2 r6.From.x3 r6.From.x4 r6.From.x5) (A6u8.mk r6.To.x0 r6.To.x1 r6.To.x2 r6.To.x3 r6.To.x4 r6.To.x5) (A6u8.mk r6.Enter.x0 r6.Enter.x1 r6.Enter.x2 r6.Enter.x3 r6.Enter.x4 r6.Enter.x5) (A6u8.mk r6.Leave.x0 r6.Leave.x1 r6.Leave.x2 r6.Leave.x3 r6.Leave.x4 r6.Leave.x5) (A6u8.mk r6.Source.x0 r6.Source.x1 r6.Source.x2 r6.Source.x3 r6.Source.x4 r6.Source.x5) (A6u8.mk r6.Target.x0 r6.Target.x1 r6.Target.x2 r6.Target.x3 r6.Target.x4 r6.Target.x5) r6.Seq r6.Ttl r6.Data) p1))))
noncomputable def body4 : List AV → AR
  | [v0, v1, v2] => .pure (aK 9 k_TForward v0 ∧ aK 39 k_TMeshFrame v1 ∧ aK 39 k_TMeshFrame v2 ∧ (F4 (g_TForward (aL v0)) (g_TMeshFrame (aL v1)) (g_TMeshFrame (aL v2))).isSome = true) (.bool (gt (F4 (g_TForward (aL v0)) (g_TMeshFrame (aL v1)) (g_TMeshFrame (aL v2)))))
  | _ => .fail
set_option maxHeartbeats 4000000 in
set_option maxRecDepth 20000 in
theorem ok4 : FnOk Try.prog 4 (pureC body4) := by
  refine pure_fnM body4 (rs := [.tmp 6]) Try.func4 (by kernel_rfl) rfl rfl ?_
  intro l ob v hb hob
  unfold body4 at hb
  split at hb
  · rename_i v0 v1 v2
    injection hb with q1 q2; subst q1 q2
    obtain ⟨hk0_0, hk1_0, hk2_0, hob⟩ := hob
    obtain ⟨r, H⟩ := Option.isSome_iff_exists.1 hob
    rw [H, gt_some]
    have hw0 := wA_TForward hk0_0
    have hw1 := wA_TMeshFrame hk1_0
    have hw2 := wA_TMeshFrame hk2_0
    generalize g_TForward (aL v0) = p0 at H hw0
    generalize g_TMeshFrame (aL v1) = p1 at H hw1
    generalize g_TMeshFrame (aL v2) = p2 at H hw2
    refine ⟨[.agg [.int .u8 p0.Own.x0, .int .u8 p0.Own.x1, .int .u8 p0.Own.x2, .int .u8 p0.Own.x3, .int .u8 p0.Own.x4, .int .u8 p0.Own.x5, .int .i64 p0.Seq, .ro 7 p0.Seen.length false (enR c_TForwardMark p0.Seen), .ro 12 p0.Nexts.length false (enR c_TForwardHop p0.Nexts)], .agg (.int .u8 p1.From.x0 :: .int .u8 p1.From.x1 :: .int .u8 p1.From.x2 :: .int .u8 p1.From.x3 :: .int .u8 p1.From.x4 :: .int .u8 p1.From.x5 :: .int .u8 p1.To.x0 :: .int .u8 p1.To.x1 :: .int .u8 p1.To.x2 :: .int .u8 p1.To.x3 :: .int .u8 p1.To.x4 :: .int .u8 p1.To.x5 :: .int .u8 p1.Enter.x0 :: .int .u8 p1.Enter.x1 :: .int .u8 p1.Enter.x2 :: .int .u8 p1.Enter.x3 :: .int .u8 p1.Enter.x4 :: .int .u8 p1.Enter.x5 :: .int .u8 p1.Leave.x0 :: .int .u8 p1.Leave.x1 :: .int .u8 p1.Leave.x2 :: .int .u8 p1.Leave.x3 :: .int .u8 p1.Leave.x4 :: .int .u8 p1.Leave.x5 :: .int .u8 p1.Source.x0 :: .int .u8 p1.Source.x1 :: .int .u8 p1.Source.x2 :: .int .u8 p1.Source.x3 :: .int .u8 p1.Source.x4 :: .int .u8 p1.Source.x5 :: .int .u8 p1.Target.x0 :: .int .u8 p1.Target.x1 :: .int .u8 p1.Target.x2 :: .int .u8 p1.Target.x3 :: .int .u8 p1.Target.x4 :: .int .u8 p1.Target.x5 :: .int .i64 p1.Seq :: .int .i64 p1.Ttl :: .ro 1 p1.Data.length false (enR c_u8 p1.Data) :: []), .agg (.int .u8 p2.From.x0 :: .int .u8 p2.From.x1 :: .int .u8 p2.From.x2 :: .int .u8 p2.From.x3 :: .int .u8 p2.From.x4 :: .int .u8 p2.From.x5 :: .int .u8 p2.To.x0 :: .int .u8 p2.To.x1 :: .int .u8 p2.To.x2 :: .int .u8 p2.To.x3 :: .int .u8 p2.To.x4 :: .int .u8 p2.To.x5 :: .int .u8 p2.Enter.x0 :: .int .u8 p2.Enter.x1 :: .int .u8 p2.Enter.x2 :: .int .u8 p2.Enter.x3 :: .int .u8 p2.Enter.x4 :: .int .u8 p2.Enter.x5 :: .int .u8 p2.Leave.x0 :: .int .u8 p2.Leave.x1 :: .int .u8 p2.Leave.x2 :: .int .u8 p2.Leave.x3 :: .int .u8 p2.Leave.x4 :: .int .u8 p2.Leave.x5 :: .int .u8 p2.Source.x0 :: .int .u8 p2.Source.x1 :: .int .u8 p2.Source.x2 :: .int .u8 p2.Source.x3 :: .int .u8 p2.Source.x4 :: .int .u8 p2.Source.x5 :: .int .u8 p2.Target.x0 :: .int .u8 p2.Target.x1 :: .int .u8 p2.Target.x2 :: .int .u8 p2.Target.x3 :: .int .u8 p2.Target.x4 :: .int .u8 p2.Target.x5 :: .int .i64 p2.Seq :: .int .i64 p2.Ttl :: .ro 1 p2.Data.length false (enR c_u8 p2.Data) :: [])], _, (fun E vs F => FR_wk1 hw0.1 F (fun vs F => FR_wk1 hw1.1 F (fun vs F => FR_wk1 hw2.1 F (fun vs F => F)))), rfl, rfl, ?_⟩
    rw [Try.ntmps4]
    simp only [List.length_cons, List.length_nil, Nat.reduceAdd, Nat.reduceSub, List.replicate_succ, List.replicate_zero, List.cons_append, List.nil_append]
    unfold F4 at H
    try dsimp only at H
    refine sq ctNo_ok ?_
    simp only [go_sem, Nat.reduceLeDiff, Nat.reduceLT, Nat.reduceAdd, Nat.reduceMul, Nat.reduceSub, Nat.reduceEqDiff, Nat.reduceBEq, Int.reduceToNat, reduceCtorEq]
    refine seqM ?_
    refine seqM ?_
    obtain ⟨r1, e2, H⟩ := bsi H
    obtain ⟨f3, H⟩ := need_some.1 H
    replace f3 := g_iff.1 f3
    refine rg ct4t0_ok ?_
    simp only [go_sem, Nat.reduceLeDiff, Nat.reduceLT, Nat.reduceAdd, Nat.reduceMul, Nat.reduceSub, Nat.reduceEqDiff, Nat.reduceBEq, Int.reduceToNat, reduceCtorEq, ct4t0_10, body10, e2]
    repeat ((with_reducible refine And.intro ?_ ?_); focus (first | (with_reducible trivial) | omega | exact f3 | (intro g; have q := f3 (by first | exact g | (rw [g]; rfl) | simpa using g); first | exact q | exact ⟨q.1, q.2.1⟩ | exact q.2.2 | omega | exact ⟨g, q⟩ | exact ⟨trivial, q⟩ | exact ⟨g, q.1, q.2.1⟩ | exact ⟨g, q.2.2⟩) | (intro g; (try have q0 := f3 (by first | exact g | (rw [g]; rfl) | simpa using g)); and_intros <;> first | (with_reducible trivial) | assumption | exact nfc | (intro g2; rw [g, g2]; rfl) | (intro g2; assumption) | (simp only [g, Bool.true_and, Bool.and_true, Bool.not_false, Bool.not_true]; assumption) | grind) | (and_intros <;> first | (with_reducible trivial) | omega | assumption | exact nfc | first | exact rfl | exact trivial | exact fitI | exact .inr rfl | exact .inl rfl | exact fun x hx => absurd hx (by omega)) | grind))
    refine condM rfl trivial (fun hc => ?_) (fun hc => ?_)
    · replace H := cond_t hc H
      refine sq ctNo_ok ?_
      simp only [go_sem, Nat.reduceLeDiff, Nat.reduceLT, Nat.reduceAdd, Nat.reduceMul, Nat.reduceSub, Nat.reduceEqDiff, Nat.reduceBEq, Int.reduceToNat, reduceCtorEq]
      refine rg ctNo_ok ?_
      simp only [go_sem, Nat.reduceLeDiff, Nat.reduceLT, Nat.reduceAdd, Nat.reduceMul, Nat.reduceSub, Nat.reduceEqDiff, Nat.reduceBEq, Int.reduceToNat, reduceCtorEq]
      obtain rfl := Option.some.inj H
      first | rfl | simp only [Bool.and_false, Bool.false_and, Bool.and_true, Bool.true_and]
    replace H := cond_f hc H
    refine rg ctNo_ok ?_
    simp only [go_sem, Nat.reduceLeDiff, Nat.reduceLT, Nat.reduceAdd, Nat.reduceMul, Nat.reduceSub, Nat.reduceEqDiff, Nat.reduceBEq, Int.reduceToNat, reduceCtorEq]
    refine seqM ?_
    obtain ⟨r4, e5, H⟩ := bsi H
    obtain ⟨r6, e7, H⟩ := bsi H
    refine draw_rule shT_ok ct4t1_ok 5 (by kernel_rfl) (by kernel_rfl) ?_
    intro an han
    simp only [d_nil, d_cons, nxtD, xrD, xoD, roEq, minL, List.append_nil, refsOp, refs, refsL, mask, maskF, place, placeF, okLog, pairOk, hit, inL, slotsF, ren, renL, rnN, nrH, nrB, nrL, nr, dead0, deadS, List.replicate_zero, List.replicate_succ, Nat.sub_self, Nat.add_zero, Nat.zero_add, Nat.reduceSub, Nat.not_lt_zero, Nat.zero_le, Nat.lt_add_one, go_sem, Nat.reduceLeDiff, Nat.reduceLT, Nat.reduceAdd, Nat.reduceMul, Nat.reduceSub, Nat.reduceEqDiff, Nat.reduceBEq, Int.reduceToNat, reduceCtorEq, ct4t1_11, body11, ct4t1_19, body19, e5, e7]
    repeat ((with_reducible refine And.intro ?_ ?_); focus (and_intros <;> first | (with_reducible trivial) | (show anB _ _ _ = true; subst han; kernel_rfl) | (show (anB _ _ _ && _) = true; subst han; kernel_rfl) | omega | assumption | exact nrc | exact nfc | first | exact rfl | exact trivial | exact fitI | exact .inr rfl | exact .inl rfl | exact fun x hx => absurd hx (by omega)))
    refine seqM ?_
    obtain ⟨r8, e9, H⟩ := bsi H
    refine rg ct4t2_ok ?_
    simp only [go_sem, Nat.reduceLeDiff, Nat.reduceLT, Nat.reduceAdd, Nat.reduceMul, Nat.reduceSub, Nat.reduceEqDiff, Nat.reduceBEq, Int.reduceToNat, reduceCtorEq, ct4t2_20, body20, e9]
    repeat ((with_reducible refine And.intro ?_ ?_); focus (first | (and_intros <;> first | (with_reducible trivial) | omega | assumption | exact nfc | first | exact rfl | exact trivial | exact fitI | exact .inr rfl | exact .inl rfl | exact fun x hx => absurd hx (by omega)) | grind))
    refine seqM ?_
    obtain ⟨r10, e11, H⟩ := bsi H
    refine rg ct4t3_ok ?_
    simp only [go_sem, Nat.reduceLeDiff, Nat.reduceLT, Nat.reduceAdd, Nat.reduceMul, Nat.reduceSub, Nat.reduceEqDiff, Nat.reduceBEq, Int.reduceToNat, reduceCtorEq, ct4t3_21, body21, e11]
    repeat ((with_reducible refine And.intro ?_ ?_); focus (first | (and_intros <;> first | (with_reducible trivial) | omega | assumption | exact nfc | first | exact rfl | exact trivial | exact fitI | exact .inr rfl | exact .inl rfl | exact fun x hx => absurd hx (by omega)) | grind))
    refine seqM ?_
    obtain ⟨r12, e13, H⟩ := bsi H
    obtain ⟨f14, H⟩ := need_some.1 H
    replace f14 := g_iff.1 f14
    obtain ⟨f15, H⟩ := need_some.1 H
    replace f15 := g_iff.1 f15
    obtain ⟨f16, H⟩ := need_some.1 H
    replace f16 := g_iff.1 f16
    obtain ⟨f17, H⟩ := need_some.1 H
    replace f17 := g_iff.1 f17
    obtain ⟨f18, H⟩ := need_some.1 H
    replace f18 := g_iff.1 f18
    refine draw_quiet shT_ok ct4t4_ok (by kernel_rfl) (by kernel_rfl) ?_
    simp only [go_sem, Nat.reduceLeDiff, Nat.reduceLT, Nat.reduceAdd, Nat.reduceMul, Nat.reduceSub, Nat.reduceEqDiff, Nat.reduceBEq, Int.reduceToNat, reduceCtorEq, ct4t4_17, body17, ct4t4_22, body22, ct4t4_23, body23, ct4t4_24, body24, ct4t4_25, body25, e13]
    repeat ((with_reducible refine And.intro ?_ ?_); focus (first | (with_reducible trivial) | omega | exact f14 | exact f15 | exact f16 | exact f17 | exact f18 | (intro g; have q := f14 (by first | exact g | (rw [g]; rfl) | simpa using g); first | exact q | exact ⟨q.1, q.2.1⟩ | exact q.2.2 | omega | exact ⟨g, q⟩ | exact ⟨trivial, q⟩ | exact ⟨g, q.1, q.2.1⟩ | exact ⟨g, q.2.2⟩) | (intro g; have q := f15 (by first | exact g | (rw [g]; rfl) | simpa using g); first | exact q | exact ⟨q.1, q.2.1⟩ | exact q.2.2 | omega | exact ⟨g, q⟩ | exact ⟨trivial, q⟩ | exact ⟨g, q.1, q.2.1⟩ | exact ⟨g, q.2.2⟩) | (intro g; have q := f16 (by first | exact g | (rw [g]; rfl) | simpa using g); first | exact q | exact ⟨q.1, q.2.1⟩ | exact q.2.2 | omega | exact ⟨g, q⟩ | exact ⟨trivial, q⟩ | exact ⟨g, q.1, q.2.1⟩ | exact ⟨g, q.2.2⟩) | (intro g; have q := f17 (by first | exact g | (rw [g]; rfl) | simpa using g); first | exact q | exact ⟨q.1, q.2.1⟩ | exact q.2.2 | omega | exact ⟨g, q⟩ | exact ⟨trivial, q⟩ | exact ⟨g, q.1, q.2.1⟩ | exact ⟨g, q.2.2⟩) | (intro g; have q := f18 (by first | exact g | (rw [g]; rfl) | simpa using g); first | exact q | exact ⟨q.1, q.2.1⟩ | exact q.2.2 | omega | exact ⟨g, q⟩ | exact ⟨trivial, q⟩ | exact ⟨g, q.1, q.2.1⟩ | exact ⟨g, q.2.2⟩) | (intro g; (try have q0 := f14 (by first | exact g | (rw [g]; rfl) | simpa using g)); (try have q1 := f15 (by first | exact g | (rw [g]; rfl) | simpa using g)); (try have q2 := f16 (by first | exact g | (rw [g]; rfl) | simpa using g)); (try have q3 := f17 (by first | exact g | (rw [g]; rfl) | simpa using g)); (try have q4 := f18 (by first | exact g | (rw [g]; rfl) | simpa using g)); and_intros <;> first | (with_reducible trivial) | assumption | exact nfc | (intro g2; rw [g, g2]; rfl) | (intro g2; assumption) | (simp only [g, Bool.true_and, Bool.and_true, Bool.not_false, Bool.not_true]; assumption) | grind) | (and_intros <;> first | (with_reducible trivial) | omega | assumption | exact nfc | first | exact rfl | exact trivial | exact fitI | exact .inr rfl | exact .inl rfl | exact fun x hx => absurd hx (by omega)) | grind))
    refine seqM ?_
    obtain ⟨r19, e20, H⟩ := bsi H
    refine rg ct4t5_ok ?_
    simp only [go_sem, Nat.reduceLeDiff, Nat.reduceLT, Nat.reduceAdd, Nat.reduceMul, Nat.reduceSub, Nat.reduceEqDiff, Nat.reduceBEq, Int.reduceToNat, reduceCtorEq, ct4t5_18, body18_0, e20]
    repeat ((with_reducible refine And.intro ?_ ?_); focus (first | (and_intros <;> first | (with_reducible trivial) | omega | assumption | exact nfc | first | exact rfl | exact trivial | exact fitI | exact .inr rfl | exact .inl rfl | exact fun x hx => absurd hx (by omega)) | grind))
    refine seqM ?_
    obtain ⟨f21, H⟩ := need_some.1 H
    replace f21 := g_iff.1 f21
    obtain ⟨f22, H⟩ := need_some.1 H
    replace f22 := g_iff.1 f22
    refine rg ct4t6_ok ?_
    simp only [go_sem, Nat.reduceLeDiff, Nat.reduceLT, Nat.reduceAdd, Nat.reduceMul, Nat.reduceSub, Nat.reduceEqDiff, Nat.reduceBEq, Int.reduceToNat, reduceCtorEq, ct4t6_17, body17, ct4t6_22, body22]
    repeat ((with_reducible refine And.intro ?_ ?_); focus (first | (with_reducible trivial) | omega | exact f21 | exact f22 | (intro g; have q := f21 (by first | exact g | (rw [g]; rfl) | simpa using g); first | exact q | exact ⟨q.1, q.2.1⟩ | exact q.2.2 | omega | exact ⟨g, q⟩ | exact ⟨trivial, q⟩ | exact ⟨g, q.1, q.2.1⟩ | exact ⟨g, q.2.2⟩) | (intro g; have q := f22 (by first | exact g | (rw [g]; rfl) | simpa using g); first | exact q | exact ⟨q.1, q.2.1⟩ | exact q.2.2 | omega | exact ⟨g, q⟩ | exact ⟨trivial, q⟩ | exact ⟨g, q.1, q.2.1⟩ | exact ⟨g, q.2.2⟩) | (intro g; (try have q0 := f21 (by first | exact g | (rw [g]; rfl) | simpa using g)); (try have q1 := f22 (by first | exact g | (rw [g]; rfl) | simpa using g)); and_intros <;> first | (with_reducible trivial) | assumption | exact nfc | (intro g2; rw [g, g2]; rfl) | (intro g2; assumption) | (simp only [g, Bool.true_and, Bool.and_true, Bool.not_false, Bool.not_true]; assumption) | grind) | (and_intros <;> first | (with_reducible trivial) | omega | assumption | exact nfc | first | exact rfl | exact trivial | exact fitI | exact .inr rfl | exact .inl rfl | exact fun x hx => absurd hx (by omega)) | grind))
    refine rg ctNo_ok ?_
    simp only [go_sem, Nat.reduceLeDiff, Nat.reduceLT, Nat.reduceAdd, Nat.reduceMul, Nat.reduceSub, Nat.reduceEqDiff, Nat.reduceBEq, Int.reduceToNat, reduceCtorEq]
    obtain rfl := Option.some.inj H
    first | rfl | simp only [Bool.and_false, Bool.false_and, Bool.and_true, Bool.true_and]
  · cases hb
end Go.Proofs.Ytbahnppiobafoaa
