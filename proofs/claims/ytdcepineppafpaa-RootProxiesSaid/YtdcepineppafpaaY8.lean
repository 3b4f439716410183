/-
  What RootProxies reaches.
-/
import Derived.Test.YtdcepineppafpaaY8p2
namespace Go.Proofs.Ytdcepineppafpaa
open Go.Am
set_option linter.unusedVariables false
set_option linter.unusedSimpArgs false
attribute [local go_sem] w_skip w_label w_goto w_scope k_goto b_goto l_goto s_normal s_exit s_ret s_goto w_region w_draw w_seq w_cond w_block w_exit w_ret w_loop k_normal k_exit k_ret b_normal b_exit b_ret l_normal l_exit l_ret m_normal m_exit m_ret m_goto kL_normal kL_exit kL_ret kS_normal kS_exit kS_ret kS_goto r_normal r_ret o_nil o_cons q_nil q_cons nxt gval gvd gvl gvw dstOf evO ogOp ogC og ogL ogP ogO rho rhoO strip optOk getL setL setT absC absV absL pO hO evLoad ldB geth seth evStore stRes stB evBox evAlloc evFieldAddr evField evIndexAddr evBin2 binI binB binNR binU nilR_isEmpty nilR_t nilR_0 nilR_s evInt evStr evUn evConv cvO evPick mrg evExtract evNil evCall mapR evBuiltin evLen2 vcells vcOk atom tabF cnd retK resFin resL resA resC resCons evBuild evBuildP placeS placeA fillA fillOk putL getP nxtQ pureC_eq pureR genC_eq genR roV roL roOb roObL roW roWL roWOb roWObL nref nrefL binA binN eqSh eqRes evIndex evIndex2 evIndexS evSlice evSlice2 evSliceS evBound evConv2 cvS evAppend appRes srcOf evMake evBuildSlice repL evFn evMin evMax freshC freshR sub_enR0 evClear evClearR evCopy evCopyR lenS cutS Bool.or_false Bool.false_or Bool.or_true Bool.true_or Bool.and_false Bool.false_and Option.map_some Option.map_none Option.getD_some Option.getD_none Option.bind_some Option.bind_none Option.or_some Option.or_none Option.none_or Option.isSome_none Option.isNone_none Option.isNone_some List.nil_append List.cons_append List.append_nil cond_true cond_false List.length_cons List.length_nil beq_self_eq_true Bool.and_true Bool.true_and Bool.not_true Bool.not_false true_and and_true and_self true_implies implies_true ne_eq not_false_eq_true Bool.false_eq_true Bool.true_eq_false false_implies Nat.lt_irrefl Nat.le_refl Nat.succ_ne_self imp_self Bool.cond_false_right Bool.cond_true_left decide_true decide_false Bool.not_eq_true' Bool.not_eq_false' Bool.not_not Nat.zero_mul Nat.zero_add Nat.add_zero Nat.mul_one Nat.one_mul Bool.cond_self tsz3 tby3 tagg3 tslice3 tarr3 tzero3 tzn3 tplaces3 tint3 tstr3 tnoint3 tbool3 tany3 tintk3 tbytes3 tsz4 tby4 tagg4 tslice4 tarr4 tzero4 tzn4 tplaces4 tint4 tstr4 tnoint4 tbool4 tany4 tintk4 tbytes4 tsz5 tby5 tagg5 tslice5 tarr5 tzero5 tzn5 tplaces5 tint5 tstr5 tnoint5 tbool5 tany5 tintk5 tbytes5 tsz23 tby23 tagg23 tslice23 tarr23 tzero23 tzn23 tplaces23 tint23 tstr23 tnoint23 tbool23 tany23 tintk23 tbytes23 tsz25 tby25 tagg25 tslice25 tarr25 tzero25 tzn25 tplaces25 tint25 tstr25 tnoint25 tbool25 tany25 tintk25 tbytes25 tfld25_0 tfld25_1 tfld25_2 tfld25_3 tfld25_4 tsz26 tby26 tagg26 tslice26 tarr26 tzero26 tzn26 tplaces26 tint26 tstr26 tnoint26 tbool26 tany26 tintk26 tbytes26 tsz27 tby27 tagg27 tslice27 tarr27 tzero27 tzn27 tplaces27 tint27 tstr27 tnoint27 tbool27 tany27 tintk27 tbytes27 tsz38 tby38 tagg38 tslice38 tarr38 tzero38 tzn38 tplaces38 tint38 tstr38 tnoint38 tbool38 tany38 tintk38 tbytes38 tsz39 tby39 tagg39 tslice39 tarr39 tzero39 tzn39 tplaces39 tint39 tstr39 tnoint39 tbool39 tany39 tintk39 tbytes39 tsz41 tby41 tagg41 tslice41 tarr41 tzero41 tzn41 tplaces41 tint41 tstr41 tnoint41 tbool41 tany41 tintk41 tbytes41 tfld41_0 tfld41_1 tfld41_2 tfld41_3 tfld41_4 tfld41_5 tsz48 tby48 tagg48 tslice48 tarr48 tzero48 tzn48 tplaces48 tint48 tstr48 tnoint48 tbool48 tany48 tintk48 tbytes48 tsz53 tby53 tagg53 tslice53 tarr53 tzero53 tzn53 tplaces53 tint53 tstr53 tnoint53 tbool53 tany53 tintk53 tbytes53 tsz62 tby62 tagg62 tslice62 tarr62 tzero62 tzn62 tplaces62 tint62 tstr62 tnoint62 tbool62 tany62 tintk62 tbytes62 tfld62_0 tfld62_1 tfld62_2 tfld62_3 tfld62_4 tfld62_5 tfld62_6 tsz64 tby64 tagg64 tslice64 tarr64 tzero64 tzn64 tplaces64 tint64 tstr64 tnoint64 tbool64 tany64 tintk64 tbytes64 tfld64_0 tfld64_1 tfld64_2 tsz80 tby80 tagg80 tslice80 tarr80 tzero80 tzn80 tplaces80 tint80 tstr80 tnoint80 tbool80 tany80 tintk80 tbytes80 tsz81 tby81 tagg81 tslice81 tarr81 tzero81 tzn81 tplaces81 tint81 tstr81 tnoint81 tbool81 tany81 tintk81 tbytes81 tsz82 tby82 tagg82 tslice82 tarr82 tzero82 tzn82 tplaces82 tint82 tstr82 tnoint82 tbool82 tany82 tintk82 tbytes82 tsz84 tby84 tagg84 tslice84 tarr84 tzn84 tplaces84 tint84 tstr84 tnoint84 tbool84 tany84 tintk84 tbytes84 tsz94 tby94 tagg94 tslice94 tarr94 tzero94 tzn94 tplaces94 tint94 tstr94 tnoint94 tbool94 tany94 tintk94 tbytes94 tsz97 tby97 tagg97 tslice97 tarr97 tzero97 tzn97 tplaces97 tint97 tstr97 tnoint97 tbool97 tany97 tintk97 tbytes97 tsz100 tby100 tagg100 tslice100 tarr100 tzero100 tzn100 tplaces100 tint100 tstr100 tnoint100 tbool100 tany100 tintk100 tbytes100 tfld100_0 tfld100_1 tsz117 tby117 tagg117 tslice117 tarr117 tzero117 tzn117 tplaces117 tint117 tstr117 tnoint117 tbool117 tany117 tintk117 tbytes117 tsz119 tby119 tagg119 tslice119 tarr119 tzero119 tzn119 tplaces119 tint119 tstr119 tnoint119 tbool119 tany119 tintk119 tbytes119 tsz125 tby125 tagg125 tslice125 tarr125 tzero125 tzn125 tplaces125 tint125 tstr125 tnoint125 tbool125 tany125 tintk125 tbytes125 tsz127 tby127 tagg127 tslice127 tarr127 tzero127 tzn127 tplaces127 tint127 tstr127 tnoint127 tbool127 tany127 tintk127 tbytes127 tsz130 tby130 tagg130 tslice130 tarr130 tzero130 tzn130 tplaces130 tint130 tstr130 tnoint130 tbool130 tany130 tintk130 tbytes130 tfld130_0 tfld130_1 tfld130_2 tsz140 tby140 tagg140 tslice140 tarr140 tzero140 tzn140 tplaces140 tint140 tstr140 tnoint140 tbool140 tany140 tintk140 tbytes140 tsz148 tby148 tagg148 tslice148 tarr148 tzero148 tzn148 tplaces148 tint148 tstr148 tnoint148 tbool148 tany148 tintk148 tbytes148 tsz152 tby152 tagg152 tslice152 tarr152 tzero152 tzn152 tplaces152 tint152 tstr152 tnoint152 tbool152 tany152 tintk152 tbytes152 e_u8_0 fit_u8 de_u8 g_u8 k_u8 e_i64_0 fit_i64 de_i64 g_i64 k_i64 e_b_0 fit_b de_b g_b k_b e_A6u8_0 e_A6u8_1 e_A6u8_2 e_A6u8_3 e_A6u8_4 e_A6u8_5 fit_A6u8 de_A6u8 g_A6u8 k_A6u8 eta_A6u8 e_TRootWord_0 e_TRootWord_1 e_TRootWord_2 e_TRootWord_3 e_TRootWord_4 e_TRootWord_5 e_TRootWord_6 e_TRootWord_7 e_TRootWord_8 e_TRootWord_9 fit_TRootWord de_TRootWord g_TRootWord k_TRootWord eta_TRootWord e_lu8_0 fit_lu8 de_lu8 g_lu8 k_lu8 e_TTree_0 e_TTree_1 e_TTree_2 e_TTree_3 e_TTree_4 e_TTree_5 e_TTree_6 e_TTree_7 e_TTree_8 e_TTree_9 e_TTree_10 e_TTree_11 e_TTree_12 e_TTree_13 e_TTree_14 e_TTree_15 e_TTree_16 fit_TTree de_TTree g_TTree k_TTree eta_TTree e_lTTree_0 fit_lTTree de_lTTree g_lTTree k_lTTree e_TProxied_0 e_TProxied_1 e_TProxied_2 e_TProxied_3 e_TProxied_4 e_TProxied_5 e_TProxied_6 e_TProxied_7 e_TProxied_8 e_TProxied_9 e_TProxied_10 e_TProxied_11 e_TProxied_12 fit_TProxied de_TProxied g_TProxied k_TProxied eta_TProxied e_lTProxied_0 fit_lTProxied de_lTProxied g_lTProxied k_lTProxied e_TRoots_0 e_TRoots_1 e_TRoots_2 e_TRoots_3 e_TRoots_4 e_TRoots_5 e_TRoots_6 e_TRoots_7 e_TRoots_8 e_TRoots_9 e_TRoots_10 fit_TRoots de_TRoots g_TRoots k_TRoots eta_TRoots e_lTRootWord_0 fit_lTRootWord de_lTRootWord g_lTRootWord k_lTRootWord e_lA6u8_0 fit_lA6u8 de_lA6u8 g_lA6u8 k_lA6u8 e_A8i64_0 e_A8i64_1 e_A8i64_2 e_A8i64_3 e_A8i64_4 e_A8i64_5 e_A8i64_6 e_A8i64_7 fit_A8i64 de_A8i64 g_A8i64 k_A8i64 eta_A8i64 e_A8A8i64_0 e_A8A8i64_1 e_A8A8i64_2 e_A8A8i64_3 e_A8A8i64_4 e_A8A8i64_5 e_A8A8i64_6 e_A8A8i64_7 e_A8A8i64_8 e_A8A8i64_9 e_A8A8i64_10 e_A8A8i64_11 e_A8A8i64_12 e_A8A8i64_13 e_A8A8i64_14 e_A8A8i64_15 e_A8A8i64_16 e_A8A8i64_17 e_A8A8i64_18 e_A8A8i64_19 e_A8A8i64_20 e_A8A8i64_21 e_A8A8i64_22 e_A8A8i64_23 e_A8A8i64_24 e_A8A8i64_25 e_A8A8i64_26 e_A8A8i64_27 e_A8A8i64_28 e_A8A8i64_29 e_A8A8i64_30 e_A8A8i64_31 e_A8A8i64_32 e_A8A8i64_33 e_A8A8i64_34 e_A8A8i64_35 e_A8A8i64_36 e_A8A8i64_37 e_A8A8i64_38 e_A8A8i64_39 e_A8A8i64_40 e_A8A8i64_41 e_A8A8i64_42 e_A8A8i64_43 e_A8A8i64_44 e_A8A8i64_45 e_A8A8i64_46 e_A8A8i64_47 e_A8A8i64_48 e_A8A8i64_49 e_A8A8i64_50 e_A8A8i64_51 e_A8A8i64_52 e_A8A8i64_53 e_A8A8i64_54 e_A8A8i64_55 e_A8A8i64_56 e_A8A8i64_57 e_A8A8i64_58 e_A8A8i64_59 e_A8A8i64_60 e_A8A8i64_61 e_A8A8i64_62 e_A8A8i64_63 fit_A8A8i64 de_A8A8i64 g_A8A8i64 k_A8A8i64 eta_A8A8i64 e_li64_0 fit_li64 de_li64 g_li64 k_li64 e_u32_0 fit_u32 de_u32 g_u32 k_u32 e_u64_0 fit_u64 de_u64 g_u64 k_u64 e_TReader_0 e_TReader_1 fit_TReader de_TReader g_TReader k_TReader eta_TReader e_Tmessage_0 e_Tmessage_1 e_Tmessage_2 e_Tmessage_3 e_Tmessage_4 e_Tmessage_5 e_Tmessage_6 e_Tmessage_7 e_Tmessage_8 e_Tmessage_9 e_Tmessage_10 e_Tmessage_11 fit_Tmessage de_Tmessage g_Tmessage k_Tmessage eta_Tmessage e_lTmessage_0 fit_lTmessage de_lTmessage g_lTmessage k_lTmessage deR_0 deR_1 deR_2 deR_3 deR_4 deR_5 deR_6 deR_7 deR_8 deR_9 deR_10 deR_11 deR_12 litC_x0 litC_x1 litC_x2 litC_x3 litC_x4 litC_x5 litC_x6 litC_x7 litC_x8 litC_x9 litC_x10 litC_x11 strE_u8 Fit_0 Option.isSome_some gt_some gd_one evCopyL tabR sub_enR List.drop_zero xrD xoD roEq minL rK rM rG aL aK iK bK sK lK iA bA sA lA or_true true_or Int.toNat_natCast shT_23 shT_25 shT_62 shT_64 shT_80 shT_130 Int.toNat_zero Int.cast_ofNat_Int
/-! hotspot/hotspotlaw40.RootProxies -/
noncomputable def ct8t0 : Ct := tab [(36, pureC body36)]
theorem ct8t0_ok : CtOk Try.prog ct8t0 := tab_cons ok36 <| tab_nil
theorem ct8t0_36 (l : List AV) (h : List ABlk) : ct8t0 36 l h = pureC body36 l h := rfl
noncomputable def ct8t1 : Ct := tab [(16, pureC body16)]
theorem ct8t1_ok : CtOk Try.prog ct8t1 := tab_cons ok16 <| tab_nil
theorem ct8t1_16 (l : List AV) (h : List ABlk) : ct8t1 16 l h = pureC body16 l h := rfl
noncomputable def ct8t2 : Ct := tab [(29, edC body29)]
theorem ct8t2_ok : CtOk Try.prog ct8t2 := tab_cons ok29 <| tab_nil
theorem ct8t2_29 (l : List AV) (h : List ABlk) : ct8t2 29 l h = edC body29 l h := rfl
noncomputable def ct8t3 : Ct := tab [(24, pureC body24)]
theorem ct8t3_ok : CtOk Try.prog ct8t3 := tab_cons ok24 <| tab_nil
theorem ct8t3_24 (l : List AV) (h : List ABlk) : ct8t3 24 l h = pureC body24 l h := rfl
noncomputable def ct8t4 : Ct := tab [(31, pureC body31)]
theorem ct8t4_ok : CtOk Try.prog ct8t4 := tab_cons ok31 <| tab_nil
theorem ct8t4_31 (l : List AV) (h : List ABlk) : ct8t4 31 l h = pureC body31 l h := rfl
noncomputable def ct8t5 : Ct := tab [(22, edC body22)]
theorem ct8t5_ok : CtOk Try.prog ct8t5 := tab_cons ok22 <| tab_nil
theorem ct8t5_22 (l : List AV) (h : List ABlk) : ct8t5 22 l h = edC body22 l h := rfl
noncomputable def ct8t6 : Ct := tab [(34, pureC body34)]
theorem ct8t6_ok : CtOk Try.prog ct8t6 := tab_cons ok34 <| tab_nil
theorem ct8t6_34 (l : List AV) (h : List ABlk) : ct8t6 34 l h = pureC body34 l h := rfl
noncomputable def F8 (p0 : TRoots) (p1 : A6u8) (p2 : A6u8) (p3 : A6u8) (p4 : Int) : Option (Bool) :=
  (F36).bind fun r1 => (F16 p0).bind fun r3 => bif (r3 || (!r1)) then (some r1) else ((F29 p0 p1 p2 p4).bind fun r5 => bif (!bEq r5.2 0) then (need (bif r1 then ((F24 (TRoots.mk (A6u8.mk r5.1.Own.x0 r5.1.Own.x1 r5.1.Own.x2 r5.1.Own.x3 r5.1.Own.x4 r5.1.Own.x5) r5.1.Root r5.1.Gate r5.1.Seq r5.1.Trees r5.1.Proxies) (TRoots.mk (A6u8.mk 0 0 0 0 0 0) false false 0 [] [])).isSome) else true) <| some (r1 && (gt (F24 (TRoots.mk (A6u8.mk r5.1.Own.x0 r5.1.Own.x1 r5.1.Own.x2 r5.1.Own.x3 r5.1.Own.x4 r5.1.Own.x5) r5.1.Root r5.1.Gate r5.1.Seq r5.1.Trees r5.1.Proxies) (TRoots.mk (A6u8.mk 0 0 0 0 0 0) false false 0 [] []))))) else ((F31 (TRoots.mk (A6u8.mk r5.1.Own.x0 r5.1.Own.x1 r5.1.Own.x2 r5.1.Own.x3 r5.1.Own.x4 r5.1.Own.x5) r5.1.Root r5.1.Gate r5.1.Seq r5.1.Trees r5.1.Proxies) p1).bind fun r8 => (F31 p0 p3).bind fun r10 => (F31 (TRoots.mk (A6u8.mk r5.1.Own.x0 r5.1.Own.x1 r5.1.Own.x2 r5.1.Own.x3 r5.1.Own.x4 r5.1.Own.x5) r5.1.Root r5.1.Gate r5.1.Seq r5.1.Trees r5.1.Proxies) p3).bind fun r12 => (F22 (TRoots.mk (A6u8.mk r5.1.Own.x0 r5.1.Own.x1 r5.1.Own.x2 r5.1.Own.x3 r5.1.Own.x4 r5.1.Own.x5) r5.1.Root r5.1.Gate r5.1.Seq r5.1.Trees r5.1.Proxies) (minI (wr .i64 (p4 + 9000000)) 1099511627776)).bind fun r14 => (F31 (TRoots.mk (A6u8.mk r14.1.Own.x0 r14.1.Own.x1 r14.1.Own.x2 r14.1.Own.x3 r14.1.Own.x4 r14.1.Own.x5) r14.1.Root r14.1.Gate r14.1.Seq r14.1.Trees r14.1.Proxies) p1).bind fun r16 => (F22 (TRoots.mk (A6u8.mk r5.1.Own.x0 r5.1.Own.x1 r5.1.Own.x2 r5.1.Own.x3 r5.1.Own.x4 r5.1.Own.x5) r5.1.Root r5.1.Gate r5.1.Seq r5.1.Trees r5.1.Proxies) (minI (wr .i64 ((wr .i64 (p4 + 9000000)) - 1)) 1099511627776)).bind fun r18 => (F31 (TRoots.mk (A6u8.mk r18.1.Own.x0 r18.1.Own.x1 r18.1.Own.x2 r18.1.Own.x3 r18.1.Own.x4 r18.1.Own.x5) r18.1.Root r18.1.Gate r18.1.Seq r18.1.Trees r18.1.Proxies) p1).bind fun r20 => need (bif (((((((r1 && (bEq r8.1.x0 p2.x0 && (bEq r8.1.x1 p2.x1 && (bEq r8.1.x2 p2.x2 && (bEq r8.1.x3 p2.x3 && (bEq r8.1.x4 p2.x4 && (bEq r8.1.x5 p2.x5))))))) && r8.2) && ((bEq p3.x0 p1.x0 && (bEq p3.x1 p1.x1 && (bEq p3.x2 p1.x2 && (bEq p3.x3 p1.x3 && (bEq p3.x4 p1.x4 && (bEq p3.x5 p1.x5)))))) || ((bEq r10.1.x0 r12.1.x0 && (bEq r10.1.x1 r12.1.x1 && (bEq r10.1.x2 r12.1.x2 && (bEq r10.1.x3 r12.1.x3 && (bEq r10.1.x4 r12.1.x4 && (bEq r10.1.x5 r12.1.x5)))))) && (bB r10.2 r12.2)))) && (bEq r14.2.2 0)) && (bEq r18.2.2 0)) && r20.2) && ((bLt 1099511627776 (wr .i64 (p4 + 9000000))) || (!r16.2))) then ((F34 (TRoots.mk (A6u8.mk r5.1.Own.x0 r5.1.Own.x1 r5.1.Own.x2 r5.1.Own.x3 r5.1.Own.x4 r5.1.Own.x5) r5.1.Root r5.1.Gate r5.1.Seq r5.1.Trees r5.1.Proxies)).isSome) else true) <| some ((((((((r1 && (bEq r8.1.x0 p2.x0 && (bEq r8.1.x1 p2.x1 && (bEq r8.1.x2 p2.x2 && (bEq r8.1.x3 p2.x3 && (bEq r8.1.x4 p2.x4 && (bEq r8.1.x5 p2.x5))))))) && r8.2) && ((bEq p3.x0 p1.x0 && (bEq p3.x1 p1.x1 && (bEq p3.x2 p1.x2 && (bEq p3.x3 p1.x3 && (bEq p3.x4 p1.x4 && (bEq p3.x5 p1.x5)))))) || ((bEq r10.1.x0 r12.1.x0 && (bEq r10.1.x1 r12.1.x1 && (bEq r10.1.x2 r12.1.x2 && (bEq r10.1.x3 r12.1.x3 && (bEq r10.1.x4 r12.1.x4 && (bEq r10.1.x5 r12.1.x5)))))) && (bB r10.2 r12.2)))) && (bEq r14.2.2 0)) && (bEq r18.2.2 0)) && r20.2) && ((bLt 1099511627776 (wr .i64 (p4 + 9000000))) || (!r16.2))) && (bEq (gt (F34 (TRoots.mk (A6u8.mk r5.1.Own.x0 r5.1.Own.x1 r5.1.Own.x2 r5.1.Own.x3 r5.1.Own.x4 r5.1.Own.x5) r5.1.Root r5.1.Gate r5.1.Seq r5.1.Trees r5.1.Proxies))) 0))))
noncomputable def body8 : List AV → AR
  | [v0, v1, v2, v3, v4] => .pure (aK 11 k_TRoots v0 ∧ aK 6 k_A6u8 v1 ∧ aK 6 k_A6u8 v2 ∧ aK 6 k_A6u8 v3 ∧ iK .i64 v4 ∧ (F8 (g_TRoots (aL v0)) (g_A6u8 (aL v1)) (g_A6u8 (aL v2)) (g_A6u8 (aL v3)) (iA v4)).isSome = true) (.bool (gt (F8 (g_TRoots (aL v0)) (g_A6u8 (aL v1)) (g_A6u8 (aL v2)) (g_A6u8 (aL v3)) (iA v4))))
  | _ => .fail
set_option maxHeartbeats 4000000 in
set_option maxRecDepth 20000 in
theorem ok8 : FnOk Try.prog 8 (pureC body8) := by
  refine pure_fnM body8 (rs := [.tmp 10]) Try.func8 (by kernel_rfl) rfl rfl ?_
  intro l ob v hb hob
  unfold body8 at hb
  split at hb
  · rename_i v0 v1 v2 v3 v4
    injection hb with q1 q2; subst q1 q2
    obtain ⟨hk0_0, hk1_0, hk2_0, hk3_0, hk4_0, hob⟩ := hob
    obtain ⟨r, H⟩ := Option.isSome_iff_exists.1 hob
    rw [H, gt_some]
    have hw0 := wA_TRoots hk0_0
    have hw1 := wA_A6u8 hk1_0
    have hw2 := wA_A6u8 hk2_0
    have hw3 := wA_A6u8 hk3_0
    have hw4 := iK_wk hk4_0
    generalize g_TRoots (aL v0) = p0 at H hw0
    generalize g_A6u8 (aL v1) = p1 at H hw1
    generalize g_A6u8 (aL v2) = p2 at H hw2
    generalize g_A6u8 (aL v3) = p3 at H hw3
    generalize iA v4 = p4 at H hw4
    refine ⟨[.agg [.int .u8 p0.Own.x0, .int .u8 p0.Own.x1, .int .u8 p0.Own.x2, .int .u8 p0.Own.x3, .int .u8 p0.Own.x4, .int .u8 p0.Own.x5, .bool p0.Root, .bool p0.Gate, .int .i64 p0.Seq, .ro 17 p0.Trees.length false (enR c_TTree p0.Trees), .ro 13 p0.Proxies.length false (enR c_TProxied p0.Proxies)], .agg [.int .u8 p1.x0, .int .u8 p1.x1, .int .u8 p1.x2, .int .u8 p1.x3, .int .u8 p1.x4, .int .u8 p1.x5], .agg [.int .u8 p2.x0, .int .u8 p2.x1, .int .u8 p2.x2, .int .u8 p2.x3, .int .u8 p2.x4, .int .u8 p2.x5], .agg [.int .u8 p3.x0, .int .u8 p3.x1, .int .u8 p3.x2, .int .u8 p3.x3, .int .u8 p3.x4, .int .u8 p3.x5], .int .i64 p4], _, (fun E vs F => FR_wk1 hw0.1 F (fun vs F => FR_wk1 hw1.1 F (fun vs F => FR_wk1 hw2.1 F (fun vs F => FR_wk1 hw3.1 F (fun vs F => FR_wk1 hw4.1 F (fun vs F => F)))))), rfl, rfl, ?_⟩
    rw [Try.ntmps8]
    simp only [List.length_cons, List.length_nil, Nat.reduceAdd, Nat.reduceSub, List.replicate_succ, List.replicate_zero, List.cons_append, List.nil_append]
    unfold F8 at H
    try dsimp only at H
    refine sq ctNo_ok ?_
    simp only [go_sem, Nat.reduceLeDiff, Nat.reduceLT, Nat.reduceAdd, Nat.reduceMul, Nat.reduceSub, Nat.reduceEqDiff, Nat.reduceBEq, Int.reduceToNat, reduceCtorEq]
    refine seqM ?_
    obtain ⟨r1, e2, H⟩ := Option.bind_eq_some_iff.1 H
    refine rg ct8t0_ok ?_
    simp only [go_sem, Nat.reduceLeDiff, Nat.reduceLT, Nat.reduceAdd, Nat.reduceMul, Nat.reduceSub, Nat.reduceEqDiff, Nat.reduceBEq, Int.reduceToNat, reduceCtorEq, ct8t0_36, body36, e2]
    repeat ((with_reducible refine And.intro ?_ ?_); focus (first | (with_reducible trivial) | omega | (and_intros <;> first | (with_reducible trivial) | omega | assumption | exact nfc | first | exact rfl | exact trivial | exact fitI | exact Or.inr rfl | exact Or.inl rfl | exact fun x hx => absurd hx (by omega) | (intro x hx; (repeat (first | (and_intros <;> (first | exact rfl | exact trivial | exact fitI | exact Or.inr rfl | exact Or.inl rfl | exact fun x hx => absurd hx (by omega))) | (exfalso; omega) | (rcases x with _ | x))); done)) | grind))
    refine seqM ?_
    refine seqM ?_
    obtain ⟨r3, e4, H⟩ := Option.bind_eq_some_iff.1 H
    refine rg ct8t1_ok ?_
    simp only [go_sem, Nat.reduceLeDiff, Nat.reduceLT, Nat.reduceAdd, Nat.reduceMul, Nat.reduceSub, Nat.reduceEqDiff, Nat.reduceBEq, Int.reduceToNat, reduceCtorEq, ct8t1_16, body16, e4]
    repeat ((with_reducible refine And.intro ?_ ?_); focus (first | (with_reducible trivial) | omega | (intro g; and_intros <;> first | (with_reducible trivial) | assumption | exact nfc | (intro g2; rw [g, g2]; rfl) | (intro g2; assumption) | (simp only [g, Bool.true_and, Bool.and_true, Bool.not_false, Bool.not_true]; assumption) | grind) | (and_intros <;> first | (with_reducible trivial) | omega | assumption | exact nfc | first | exact rfl | exact trivial | exact fitI | exact Or.inr rfl | exact Or.inl rfl | exact fun x hx => absurd hx (by omega) | (intro x hx; (repeat (first | (and_intros <;> (first | exact rfl | exact trivial | exact fitI | exact Or.inr rfl | exact Or.inl rfl | exact fun x hx => absurd hx (by omega))) | (exfalso; omega) | (rcases x with _ | x))); done)) | grind))
    refine condM rfl trivial (fun hc => ?_) (fun hc => ?_)
    · replace H := cond_t hc H
      refine sq ctNo_ok ?_
      simp only [go_sem, Nat.reduceLeDiff, Nat.reduceLT, Nat.reduceAdd, Nat.reduceMul, Nat.reduceSub, Nat.reduceEqDiff, Nat.reduceBEq, Int.reduceToNat, reduceCtorEq]
      refine rg ctNo_ok ?_
      simp only [go_sem, Nat.reduceLeDiff, Nat.reduceLT, Nat.reduceAdd, Nat.reduceMul, Nat.reduceSub, Nat.reduceEqDiff, Nat.reduceBEq, Int.reduceToNat, reduceCtorEq]
      obtain rfl := Option.some.inj H
      first | rfl | simp only [Bool.and_false, Bool.false_and, Bool.and_true, Bool.true_and]
    replace H := cond_f hc H
    refine rg ctNo_ok ?_
    simp only [go_sem, Nat.reduceLeDiff, Nat.reduceLT, Nat.reduceAdd, Nat.reduceMul, Nat.reduceSub, Nat.reduceEqDiff, Nat.reduceBEq, Int.reduceToNat, reduceCtorEq]
    refine seqM ?_
    obtain ⟨r5, e6, H⟩ := Option.bind_eq_some_iff.1 H
    refine rg ct8t2_ok ?_
    simp only [go_sem, Nat.reduceLeDiff, Nat.reduceLT, Nat.reduceAdd, Nat.reduceMul, Nat.reduceSub, Nat.reduceEqDiff, Nat.reduceBEq, Int.reduceToNat, reduceCtorEq, roD, roDOb, deadL, edC, edR, nodupB, rnm, rnmL, rnmB, rnmH, rnm_bif, rnmB_bif, putH, dropH, rhoN, ptB, slN, litL, celL, pK, isLit, oS, isRow, inL, ct8t2_29, body29, e6]
    repeat ((with_reducible refine And.intro ?_ ?_); focus (first | (with_reducible trivial) | omega | (and_intros <;> first | (with_reducible trivial) | omega | assumption | exact nfc | first | exact rfl | exact trivial | exact fitI | exact Or.inr rfl | exact Or.inl rfl | exact fun x hx => absurd hx (by omega) | (intro x hx; (repeat (first | (and_intros <;> (first | exact rfl | exact trivial | exact fitI | exact Or.inr rfl | exact Or.inl rfl | exact fun x hx => absurd hx (by omega))) | (exfalso; omega) | (rcases x with _ | x))); done)) | grind))
    refine seqM ?_
    refine sq ctNo_ok ?_
    simp only [go_sem, Nat.reduceLeDiff, Nat.reduceLT, Nat.reduceAdd, Nat.reduceMul, Nat.reduceSub, Nat.reduceEqDiff, Nat.reduceBEq, Int.reduceToNat, reduceCtorEq]
    refine condM rfl trivial (fun hc => ?_) (fun hc => ?_)
    · replace H := cond_t hc H
      refine seqM ?_
      obtain ⟨f7, H⟩ := need_some.1 H
      replace f7 := g_iff.1 f7
      refine rg ct8t3_ok ?_
      simp only [go_sem, Nat.reduceLeDiff, Nat.reduceLT, Nat.reduceAdd, Nat.reduceMul, Nat.reduceSub, Nat.reduceEqDiff, Nat.reduceBEq, Int.reduceToNat, reduceCtorEq, ct8t3_24, body24]
      repeat ((with_reducible refine And.intro ?_ ?_); focus (first | (with_reducible trivial) | omega | exact f7 | (intro g; have q := f7 (by first | exact g | simpa using g); first | exact q | exact ⟨q.1, q.2.1⟩ | exact q.2.2 | omega | exact ⟨g, q⟩ | exact ⟨trivial, q⟩ | exact ⟨g, q.1, q.2.1⟩ | exact ⟨g, q.2.2⟩) | (intro g; (try have q0 := f7 (by first | exact g | simpa using g)); and_intros <;> first | (with_reducible trivial) | assumption | exact nfc | (intro g2; rw [g, g2]; rfl) | (intro g2; assumption) | (simp only [g, Bool.true_and, Bool.and_true, Bool.not_false, Bool.not_true]; assumption) | grind) | (and_intros <;> first | (with_reducible trivial) | omega | assumption | exact nfc | first | exact rfl | exact trivial | exact fitI | exact Or.inr rfl | exact Or.inl rfl | exact fun x hx => absurd hx (by omega) | (intro x hx; (repeat (first | (and_intros <;> (first | exact rfl | exact trivial | exact fitI | exact Or.inr rfl | exact Or.inl rfl | exact fun x hx => absurd hx (by omega))) | (exfalso; omega) | (rcases x with _ | x))); done)) | grind))
      refine rg ctNo_ok ?_
      simp only [go_sem, Nat.reduceLeDiff, Nat.reduceLT, Nat.reduceAdd, Nat.reduceMul, Nat.reduceSub, Nat.reduceEqDiff, Nat.reduceBEq, Int.reduceToNat, reduceCtorEq]
      obtain rfl := Option.some.inj H
      first | rfl | simp only [Bool.and_false, Bool.false_and, Bool.and_true, Bool.true_and]
    replace H := cond_f hc H
    refine rg ctNo_ok ?_
    simp only [go_sem, Nat.reduceLeDiff, Nat.reduceLT, Nat.reduceAdd, Nat.reduceMul, Nat.reduceSub, Nat.reduceEqDiff, Nat.reduceBEq, Int.reduceToNat, reduceCtorEq]
    refine seqM ?_
    obtain ⟨r8, e9, H⟩ := Option.bind_eq_some_iff.1 H
    refine rg ct8t4_ok ?_
    simp only [go_sem, Nat.reduceLeDiff, Nat.reduceLT, Nat.reduceAdd, Nat.reduceMul, Nat.reduceSub, Nat.reduceEqDiff, Nat.reduceBEq, Int.reduceToNat, reduceCtorEq, ct8t4_31, body31, e9]
    repeat ((with_reducible refine And.intro ?_ ?_); focus (first | (with_reducible trivial) | omega | (and_intros <;> first | (with_reducible trivial) | omega | assumption | exact nfc | first | exact rfl | exact trivial | exact fitI | exact Or.inr rfl | exact Or.inl rfl | exact fun x hx => absurd hx (by omega) | (intro x hx; (repeat (first | (and_intros <;> (first | exact rfl | exact trivial | exact fitI | exact Or.inr rfl | exact Or.inl rfl | exact fun x hx => absurd hx (by omega))) | (exfalso; omega) | (rcases x with _ | x))); done)) | grind))
    refine seqM ?_
    obtain ⟨r10, e11, H⟩ := Option.bind_eq_some_iff.1 H
    refine rg ct8t4_ok ?_
    simp only [go_sem, Nat.reduceLeDiff, Nat.reduceLT, Nat.reduceAdd, Nat.reduceMul, Nat.reduceSub, Nat.reduceEqDiff, Nat.reduceBEq, Int.reduceToNat, reduceCtorEq, ct8t4_31, body31, e11]
    repeat ((with_reducible refine And.intro ?_ ?_); focus (first | (with_reducible trivial) | omega | (and_intros <;> first | (with_reducible trivial) | omega | assumption | exact nfc | first | exact rfl | exact trivial | exact fitI | exact Or.inr rfl | exact Or.inl rfl | exact fun x hx => absurd hx (by omega) | (intro x hx; (repeat (first | (and_intros <;> (first | exact rfl | exact trivial | exact fitI | exact Or.inr rfl | exact Or.inl rfl | exact fun x hx => absurd hx (by omega))) | (exfalso; omega) | (rcases x with _ | x))); done)) | grind))
    refine seqM ?_
    obtain ⟨r12, e13, H⟩ := Option.bind_eq_some_iff.1 H
    refine rg ct8t4_ok ?_
    simp only [go_sem, Nat.reduceLeDiff, Nat.reduceLT, Nat.reduceAdd, Nat.reduceMul, Nat.reduceSub, Nat.reduceEqDiff, Nat.reduceBEq, Int.reduceToNat, reduceCtorEq, ct8t4_31, body31, e13]
    repeat ((with_reducible refine And.intro ?_ ?_); focus (first | (with_reducible trivial) | omega | (and_intros <;> first | (with_reducible trivial) | omega | assumption | exact nfc | first | exact rfl | exact trivial | exact fitI | exact Or.inr rfl | exact Or.inl rfl | exact fun x hx => absurd hx (by omega) | (intro x hx; (repeat (first | (and_intros <;> (first | exact rfl | exact trivial | exact fitI | exact Or.inr rfl | exact Or.inl rfl | exact fun x hx => absurd hx (by omega))) | (exfalso; omega) | (rcases x with _ | x))); done)) | grind))
    refine seqM ?_
    obtain ⟨r14, e15, H⟩ := Option.bind_eq_some_iff.1 H
    refine rg ct8t5_ok ?_
    simp only [go_sem, Nat.reduceLeDiff, Nat.reduceLT, Nat.reduceAdd, Nat.reduceMul, Nat.reduceSub, Nat.reduceEqDiff, Nat.reduceBEq, Int.reduceToNat, reduceCtorEq, roD, roDOb, deadL, edC, edR, nodupB, rnm, rnmL, rnmB, rnmH, rnm_bif, rnmB_bif, putH, dropH, rhoN, ptB, slN, litL, celL, pK, isLit, oS, isRow, inL, ct8t5_22, body22, e15]
    repeat ((with_reducible refine And.intro ?_ ?_); focus (first | (with_reducible trivial) | omega | (and_intros <;> first | (with_reducible trivial) | omega | assumption | exact nfc | first | exact rfl | exact trivial | exact fitI | exact Or.inr rfl | exact Or.inl rfl | exact fun x hx => absurd hx (by omega) | (intro x hx; (repeat (first | (and_intros <;> (first | exact rfl | exact trivial | exact fitI | exact Or.inr rfl | exact Or.inl rfl | exact fun x hx => absurd hx (by omega))) | (exfalso; omega) | (rcases x with _ | x))); done)) | grind))
    refine seqM ?_
    obtain ⟨r16, e17, H⟩ := Option.bind_eq_some_iff.1 H
    refine rg ct8t4_ok ?_
    simp only [go_sem, Nat.reduceLeDiff, Nat.reduceLT, Nat.reduceAdd, Nat.reduceMul, Nat.reduceSub, Nat.reduceEqDiff, Nat.reduceBEq, Int.reduceToNat, reduceCtorEq, ct8t4_31, body31, e17]
    repeat ((with_reducible refine And.intro ?_ ?_); focus (first | (with_reducible trivial) | omega | (and_intros <;> first | (with_reducible trivial) | omega | assumption | exact nfc | first | exact rfl | exact trivial | exact fitI | exact Or.inr rfl | exact Or.inl rfl | exact fun x hx => absurd hx (by omega) | (intro x hx; (repeat (first | (and_intros <;> (first | exact rfl | exact trivial | exact fitI | exact Or.inr rfl | exact Or.inl rfl | exact fun x hx => absurd hx (by omega))) | (exfalso; omega) | (rcases x with _ | x))); done)) | grind))
    refine seqM ?_
    obtain ⟨r18, e19, H⟩ := Option.bind_eq_some_iff.1 H
    refine rg ct8t5_ok ?_
    simp only [go_sem, Nat.reduceLeDiff, Nat.reduceLT, Nat.reduceAdd, Nat.reduceMul, Nat.reduceSub, Nat.reduceEqDiff, Nat.reduceBEq, Int.reduceToNat, reduceCtorEq, roD, roDOb, deadL, edC, edR, nodupB, rnm, rnmL, rnmB, rnmH, rnm_bif, rnmB_bif, putH, dropH, rhoN, ptB, slN, litL, celL, pK, isLit, oS, isRow, inL, ct8t5_22, body22, e19]
    repeat ((with_reducible refine And.intro ?_ ?_); focus (first | (with_reducible trivial) | omega | (and_intros <;> first | (with_reducible trivial) | omega | assumption | exact nfc | first | exact rfl | exact trivial | exact fitI | exact Or.inr rfl | exact Or.inl rfl | exact fun x hx => absurd hx (by omega) | (intro x hx; (repeat (first | (and_intros <;> (first | exact rfl | exact trivial | exact fitI | exact Or.inr rfl | exact Or.inl rfl | exact fun x hx => absurd hx (by omega))) | (exfalso; omega) | (rcases x with _ | x))); done)) | grind))
    refine seqM ?_
    obtain ⟨r20, e21, H⟩ := Option.bind_eq_some_iff.1 H
    refine rg ct8t4_ok ?_
    simp only [go_sem, Nat.reduceLeDiff, Nat.reduceLT, Nat.reduceAdd, Nat.reduceMul, Nat.reduceSub, Nat.reduceEqDiff, Nat.reduceBEq, Int.reduceToNat, reduceCtorEq, ct8t4_31, body31, e21]
    repeat ((with_reducible refine And.intro ?_ ?_); focus (first | (with_reducible trivial) | omega | (and_intros <;> first | (with_reducible trivial) | omega | assumption | exact nfc | first | exact rfl | exact trivial | exact fitI | exact Or.inr rfl | exact Or.inl rfl | exact fun x hx => absurd hx (by omega) | (intro x hx; (repeat (first | (and_intros <;> (first | exact rfl | exact trivial | exact fitI | exact Or.inr rfl | exact Or.inl rfl | exact fun x hx => absurd hx (by omega))) | (exfalso; omega) | (rcases x with _ | x))); done)) | grind))
    refine seqM ?_
    obtain ⟨f22, H⟩ := need_some.1 H
    replace f22 := g_iff.1 f22
    refine rg ct8t6_ok ?_
    simp only [go_sem, Nat.reduceLeDiff, Nat.reduceLT, Nat.reduceAdd, Nat.reduceMul, Nat.reduceSub, Nat.reduceEqDiff, Nat.reduceBEq, Int.reduceToNat, reduceCtorEq, ct8t6_34, body34]
    repeat ((with_reducible refine And.intro ?_ ?_); focus (first | (with_reducible trivial) | omega | exact f22 | (intro g; have q := f22 (by first | exact g | simpa using g); first | exact q | exact ⟨q.1, q.2.1⟩ | exact q.2.2 | omega | exact ⟨g, q⟩ | exact ⟨trivial, q⟩ | exact ⟨g, q.1, q.2.1⟩ | exact ⟨g, q.2.2⟩) | (intro g; (try have q0 := f22 (by first | exact g | simpa using g)); and_intros <;> first | (with_reducible trivial) | assumption | exact nfc | (intro g2; rw [g, g2]; rfl) | (intro g2; assumption) | (simp only [g, Bool.true_and, Bool.and_true, Bool.not_false, Bool.not_true]; assumption) | grind) | (and_intros <;> first | (with_reducible trivial) | omega | assumption | exact nfc | first | exact rfl | exact trivial | exact fitI | exact Or.inr rfl | exact Or.inl rfl | exact fun x hx => absurd hx (by omega) | (intro x hx; (repeat (first | (and_intros <;> (first | exact rfl | exact trivial | exact fitI | exact Or.inr rfl | exact Or.inl rfl | exact fun x hx => absurd hx (by omega))) | (exfalso; omega) | (rcases x with _ | x))); done)) | grind))
    refine rg ctNo_ok ?_
    simp only [go_sem, Nat.reduceLeDiff, Nat.reduceLT, Nat.reduceAdd, Nat.reduceMul, Nat.reduceSub, Nat.reduceEqDiff, Nat.reduceBEq, Int.reduceToNat, reduceCtorEq]
    obtain rfl := Option.some.inj H
    first | rfl | simp only [Bool.and_false, Bool.false_and, Bool.and_true, Bool.true_and]
  · cases hb
end Go.Proofs.Ytdcepineppafpaa
