/-
  What RootHandles reaches.
-/
import Derived.Test.YtdcepineppafpaaY4p2
namespace Go.Proofs.Ytdcepineppafpaa
open Go.Am
set_option linter.unusedVariables false
set_option linter.unusedSimpArgs false
attribute [local go_sem] w_skip w_label w_goto w_scope k_goto b_goto l_goto s_normal s_exit s_ret s_goto w_region w_draw w_seq w_cond w_block w_exit w_ret w_loop k_normal k_exit k_ret b_normal b_exit b_ret l_normal l_exit l_ret m_normal m_exit m_ret m_goto kL_normal kL_exit kL_ret kS_normal kS_exit kS_ret kS_goto r_normal r_ret o_nil o_cons q_nil q_cons nxt gval gvd gvl gvw dstOf evO ogOp ogC og ogL ogP ogO rho rhoO strip optOk getL setL setT absC absV absL pO hO evLoad ldB geth seth evStore stRes stB evBox evAlloc evFieldAddr evField evIndexAddr evBin2 binI binB binNR binU nilR_isEmpty nilR_t nilR_0 nilR_s evInt evStr evUn evConv cvO evPick mrg evExtract evNil evCall mapR evBuiltin evLen2 vcells vcOk atom tabF cnd retK resFin resL resA resC resCons evBuild evBuildP placeS placeA fillA fillOk putL getP nxtQ pureC_eq pureR genC_eq genR roV roL roOb roObL roW roWL roWOb roWObL nref nrefL binA binN eqSh eqRes evIndex evIndex2 evIndexS evSlice evSlice2 evSliceS evBound evConv2 cvS evAppend appRes srcOf evMake evBuildSlice repL evFn evMin evMax freshC freshR sub_enR0 evClear evClearR evCopy evCopyR lenS cutS Bool.or_false Bool.false_or Bool.or_true Bool.true_or Bool.and_false Bool.false_and Option.map_some Option.map_none Option.getD_some Option.getD_none Option.bind_some Option.bind_none Option.or_some Option.or_none Option.none_or Option.isSome_none Option.isNone_none Option.isNone_some List.nil_append List.cons_append List.append_nil cond_true cond_false List.length_cons List.length_nil beq_self_eq_true Bool.and_true Bool.true_and Bool.not_true Bool.not_false true_and and_true and_self true_implies implies_true ne_eq not_false_eq_true Bool.false_eq_true Bool.true_eq_false false_implies Nat.lt_irrefl Nat.le_refl Nat.succ_ne_self imp_self Bool.cond_false_right Bool.cond_true_left decide_true decide_false Bool.not_eq_true' Bool.not_eq_false' Bool.not_not Nat.zero_mul Nat.zero_add Nat.add_zero Nat.mul_one Nat.one_mul Bool.cond_self tsz3 tby3 tagg3 tslice3 tarr3 tzero3 tzn3 tplaces3 tint3 tstr3 tnoint3 tbool3 tany3 tintk3 tbytes3 tsz4 tby4 tagg4 tslice4 tarr4 tzero4 tzn4 tplaces4 tint4 tstr4 tnoint4 tbool4 tany4 tintk4 tbytes4 tsz5 tby5 tagg5 tslice5 tarr5 tzero5 tzn5 tplaces5 tint5 tstr5 tnoint5 tbool5 tany5 tintk5 tbytes5 tsz23 tby23 tagg23 tslice23 tarr23 tzero23 tzn23 tplaces23 tint23 tstr23 tnoint23 tbool23 tany23 tintk23 tbytes23 tsz25 tby25 tagg25 tslice25 tarr25 tzero25 tzn25 tplaces25 tint25 tstr25 tnoint25 tbool25 tany25 tintk25 tbytes25 tfld25_0 tfld25_1 tfld25_2 tfld25_3 tfld25_4 tsz26 tby26 tagg26 tslice26 tarr26 tzero26 tzn26 tplaces26 tint26 tstr26 tnoint26 tbool26 tany26 tintk26 tbytes26 tsz27 tby27 tagg27 tslice27 tarr27 tzero27 tzn27 tplaces27 tint27 tstr27 tnoint27 tbool27 tany27 tintk27 tbytes27 tsz38 tby38 tagg38 tslice38 tarr38 tzero38 tzn38 tplaces38 tint38 tstr38 tnoint38 tbool38 tany38 tintk38 tbytes38 tsz39 tby39 tagg39 tslice39 tarr39 tzero39 tzn39 tplaces39 tint39 tstr39 tnoint39 tbool39 tany39 tintk39 tbytes39 tsz41 tby41 tagg41 tslice41 tarr41 tzero41 tzn41 tplaces41 tint41 tstr41 tnoint41 tbool41 tany41 tintk41 tbytes41 tfld41_0 tfld41_1 tfld41_2 tfld41_3 tfld41_4 tfld41_5 tsz48 tby48 tagg48 tslice48 tarr48 tzero48 tzn48 tplaces48 tint48 tstr48 tnoint48 tbool48 tany48 tintk48 tbytes48 tsz53 tby53 tagg53 tslice53 tarr53 tzero53 tzn53 tplaces53 tint53 tstr53 tnoint53 tbool53 tany53 tintk53 tbytes53 tsz62 tby62 tagg62 tslice62 tarr62 tzero62 tzn62 tplaces62 tint62 tstr62 tnoint62 tbool62 tany62 tintk62 tbytes62 tfld62_0 tfld62_1 tfld62_2 tfld62_3 tfld62_4 tfld62_5 tfld62_6 tsz64 tby64 tagg64 tslice64 tarr64 tzero64 tzn64 tplaces64 tint64 tstr64 tnoint64 tbool64 tany64 tintk64 tbytes64 tfld64_0 tfld64_1 tfld64_2 tsz80 tby80 tagg80 tslice80 tarr80 tzero80 tzn80 tplaces80 tint80 tstr80 tnoint80 tbool80 tany80 tintk80 tbytes80 tsz81 tby81 tagg81 tslice81 tarr81 tzero81 tzn81 tplaces81 tint81 tstr81 tnoint81 tbool81 tany81 tintk81 tbytes81 tsz82 tby82 tagg82 tslice82 tarr82 tzero82 tzn82 tplaces82 tint82 tstr82 tnoint82 tbool82 tany82 tintk82 tbytes82 tsz84 tby84 tagg84 tslice84 tarr84 tzn84 tplaces84 tint84 tstr84 tnoint84 tbool84 tany84 tintk84 tbytes84 tsz94 tby94 tagg94 tslice94 tarr94 tzero94 tzn94 tplaces94 tint94 tstr94 tnoint94 tbool94 tany94 tintk94 tbytes94 tsz97 tby97 tagg97 tslice97 tarr97 tzero97 tzn97 tplaces97 tint97 tstr97 tnoint97 tbool97 tany97 tintk97 tbytes97 tsz100 tby100 tagg100 tslice100 tarr100 tzero100 tzn100 tplaces100 tint100 tstr100 tnoint100 tbool100 tany100 tintk100 tbytes100 tfld100_0 tfld100_1 tsz117 tby117 tagg117 tslice117 tarr117 tzero117 tzn117 tplaces117 tint117 tstr117 tnoint117 tbool117 tany117 tintk117 tbytes117 tsz119 tby119 tagg119 tslice119 tarr119 tzero119 tzn119 tplaces119 tint119 tstr119 tnoint119 tbool119 tany119 tintk119 tbytes119 tsz125 tby125 tagg125 tslice125 tarr125 tzero125 tzn125 tplaces125 tint125 tstr125 tnoint125 tbool125 tany125 tintk125 tbytes125 tsz127 tby127 tagg127 tslice127 tarr127 tzero127 tzn127 tplaces127 tint127 tstr127 tnoint127 tbool127 tany127 tintk127 tbytes127 tsz130 tby130 tagg130 tslice130 tarr130 tzero130 tzn130 tplaces130 tint130 tstr130 tnoint130 tbool130 tany130 tintk130 tbytes130 tfld130_0 tfld130_1 tfld130_2 tsz140 tby140 tagg140 tslice140 tarr140 tzero140 tzn140 tplaces140 tint140 tstr140 tnoint140 tbool140 tany140 tintk140 tbytes140 tsz148 tby148 tagg148 tslice148 tarr148 tzero148 tzn148 tplaces148 tint148 tstr148 tnoint148 tbool148 tany148 tintk148 tbytes148 tsz152 tby152 tagg152 tslice152 tarr152 tzero152 tzn152 tplaces152 tint152 tstr152 tnoint152 tbool152 tany152 tintk152 tbytes152 e_u8_0 fit_u8 de_u8 g_u8 k_u8 e_i64_0 fit_i64 de_i64 g_i64 k_i64 e_b_0 fit_b de_b g_b k_b e_A6u8_0 e_A6u8_1 e_A6u8_2 e_A6u8_3 e_A6u8_4 e_A6u8_5 fit_A6u8 de_A6u8 g_A6u8 k_A6u8 eta_A6u8 e_TRootWord_0 e_TRootWord_1 e_TRootWord_2 e_TRootWord_3 e_TRootWord_4 e_TRootWord_5 e_TRootWord_6 e_TRootWord_7 e_TRootWord_8 e_TRootWord_9 fit_TRootWord de_TRootWord g_TRootWord k_TRootWord eta_TRootWord e_lu8_0 fit_lu8 de_lu8 g_lu8 k_lu8 e_TTree_0 e_TTree_1 e_TTree_2 e_TTree_3 e_TTree_4 e_TTree_5 e_TTree_6 e_TTree_7 e_TTree_8 e_TTree_9 e_TTree_10 e_TTree_11 e_TTree_12 e_TTree_13 e_TTree_14 e_TTree_15 e_TTree_16 fit_TTree de_TTree g_TTree k_TTree eta_TTree e_lTTree_0 fit_lTTree de_lTTree g_lTTree k_lTTree e_TProxied_0 e_TProxied_1 e_TProxied_2 e_TProxied_3 e_TProxied_4 e_TProxied_5 e_TProxied_6 e_TProxied_7 e_TProxied_8 e_TProxied_9 e_TProxied_10 e_TProxied_11 e_TProxied_12 fit_TProxied de_TProxied g_TProxied k_TProxied eta_TProxied e_lTProxied_0 fit_lTProxied de_lTProxied g_lTProxied k_lTProxied e_TRoots_0 e_TRoots_1 e_TRoots_2 e_TRoots_3 e_TRoots_4 e_TRoots_5 e_TRoots_6 e_TRoots_7 e_TRoots_8 e_TRoots_9 e_TRoots_10 fit_TRoots de_TRoots g_TRoots k_TRoots eta_TRoots e_lTRootWord_0 fit_lTRootWord de_lTRootWord g_lTRootWord k_lTRootWord e_lA6u8_0 fit_lA6u8 de_lA6u8 g_lA6u8 k_lA6u8 e_A8i64_0 e_A8i64_1 e_A8i64_2 e_A8i64_3 e_A8i64_4 e_A8i64_5 e_A8i64_6 e_A8i64_7 fit_A8i64 de_A8i64 g_A8i64 k_A8i64 eta_A8i64 e_A8A8i64_0 e_A8A8i64_1 e_A8A8i64_2 e_A8A8i64_3 e_A8A8i64_4 e_A8A8i64_5 e_A8A8i64_6 e_A8A8i64_7 e_A8A8i64_8 e_A8A8i64_9 e_A8A8i64_10 e_A8A8i64_11 e_A8A8i64_12 e_A8A8i64_13 e_A8A8i64_14 e_A8A8i64_15 e_A8A8i64_16 e_A8A8i64_17 e_A8A8i64_18 e_A8A8i64_19 e_A8A8i64_20 e_A8A8i64_21 e_A8A8i64_22 e_A8A8i64_23 e_A8A8i64_24 e_A8A8i64_25 e_A8A8i64_26 e_A8A8i64_27 e_A8A8i64_28 e_A8A8i64_29 e_A8A8i64_30 e_A8A8i64_31 e_A8A8i64_32 e_A8A8i64_33 e_A8A8i64_34 e_A8A8i64_35 e_A8A8i64_36 e_A8A8i64_37 e_A8A8i64_38 e_A8A8i64_39 e_A8A8i64_40 e_A8A8i64_41 e_A8A8i64_42 e_A8A8i64_43 e_A8A8i64_44 e_A8A8i64_45 e_A8A8i64_46 e_A8A8i64_47 e_A8A8i64_48 e_A8A8i64_49 e_A8A8i64_50 e_A8A8i64_51 e_A8A8i64_52 e_A8A8i64_53 e_A8A8i64_54 e_A8A8i64_55 e_A8A8i64_56 e_A8A8i64_57 e_A8A8i64_58 e_A8A8i64_59 e_A8A8i64_60 e_A8A8i64_61 e_A8A8i64_62 e_A8A8i64_63 fit_A8A8i64 de_A8A8i64 g_A8A8i64 k_A8A8i64 eta_A8A8i64 e_li64_0 fit_li64 de_li64 g_li64 k_li64 e_u32_0 fit_u32 de_u32 g_u32 k_u32 e_u64_0 fit_u64 de_u64 g_u64 k_u64 e_TReader_0 e_TReader_1 fit_TReader de_TReader g_TReader k_TReader eta_TReader e_Tmessage_0 e_Tmessage_1 e_Tmessage_2 e_Tmessage_3 e_Tmessage_4 e_Tmessage_5 e_Tmessage_6 e_Tmessage_7 e_Tmessage_8 e_Tmessage_9 e_Tmessage_10 e_Tmessage_11 fit_Tmessage de_Tmessage g_Tmessage k_Tmessage eta_Tmessage e_lTmessage_0 fit_lTmessage de_lTmessage g_lTmessage k_lTmessage deR_0 deR_1 deR_2 deR_3 deR_4 deR_5 deR_6 deR_7 deR_8 deR_9 deR_10 deR_11 deR_12 litC_x0 litC_x1 litC_x2 litC_x3 litC_x4 litC_x5 litC_x6 litC_x7 litC_x8 litC_x9 litC_x10 litC_x11 strE_u8 Fit_0 Option.isSome_some gt_some gd_one evCopyL tabR sub_enR List.drop_zero xrD xoD roEq minL rK rM rG aL aK iK bK sK lK iA bA sA lA or_true true_or Int.toNat_natCast shT_23 shT_25 shT_62 shT_64 shT_80 shT_130 Int.toNat_zero Int.cast_ofNat_Int
/-! hotspot/root.Tick -/
noncomputable def ct22t0 : Ct := tab [(34, pureC body34)]
theorem ct22t0_ok : CtOk Try.prog ct22t0 := tab_cons ok34 <| tab_nil
theorem ct22t0_34 (l : List AV) (h : List ABlk) : ct22t0 34 l h = pureC body34 l h := rfl
noncomputable def ct22t1 : Ct := tab [(57, pureC body57)]
theorem ct22t1_ok : CtOk Try.prog ct22t1 := tab_cons ok57 <| tab_nil
theorem ct22t1_57 (l : List AV) (h : List ABlk) : ct22t1 57 l h = pureC body57 l h := rfl
noncomputable def ct22t2 : Ct := tab [(56, edC body56)]
theorem ct22t2_ok : CtOk Try.prog ct22t2 := tab_cons ok56 <| tab_nil
theorem ct22t2_56 (l : List AV) (h : List ABlk) : ct22t2 56 l h = edC body56 l h := rfl
noncomputable def ct22t3 : Ct := tab [(62, edC body62_0)]
theorem ct22t3_ok : CtOk Try.prog ct22t3 := tab_cons ok62_0 <| tab_nil
theorem ct22t3_62 (l : List AV) (h : List ABlk) : ct22t3 62 l h = edC body62_0 l h := rfl
noncomputable def ct22t4 : Ct := tab [(64, edC body64_0)]
theorem ct22t4_ok : CtOk Try.prog ct22t4 := tab_cons ok64_0 <| tab_nil
theorem ct22t4_64 (l : List AV) (h : List ABlk) : ct22t4 64 l h = edC body64_0 l h := rfl
noncomputable def F22_L1 (p1 : Int) (r5 : TRoots) (v1_1 : List A6u8) (v1_2 : Int) : Option (Lp ((List A6u8) × Int) ((List A6u8) ⊕ (TRoots × (List A6u8) × Int))) :=
  bif (bLt v1_2 (r5.Trees.length : Nat)) then (need (inb v1_2 r5.Trees.length) <| bif (bLe ((gd r5.Trees v1_2.toNat).Until) p1) then (need (capb 6 (v1_1.length + 1)) <| some (.next ((v1_1 ++ [((gd r5.Trees v1_2.toNat).Root)]), wr .i64 (v1_2 + 1)))) else (some (.next (v1_1, wr .i64 (v1_2 + 1))))) else (some (.done (.inl v1_1)))
noncomputable def F22 (p0 : TRoots) (p1 : Int) : Option (TRoots × (List A6u8) × Int) :=
  (F34 p0).bind fun r1 => bif (!bEq r1 0) then (some ((TRoots.mk (A6u8.mk 0 0 0 0 0 0) false false 0 [] []), [], r1)) else ((F57 p1 0 1099511627776).bind fun r3 => bif (!r3) then (some ((TRoots.mk (A6u8.mk 0 0 0 0 0 0) false false 0 [] []), [], 2)) else ((F56 p0).bind fun r5 => lp (loopD (fun s => F22_L1 p1 r5 s.1 s.2) ([], 0)) (fun w1_3 => (F62_0 r5.Trees p1).bind fun r9 => (F64_0 r5.Proxies p1).bind fun r11 => some ((TRoots.mk (A6u8.mk r5.Own.x0 r5.Own.x1 r5.Own.x2 r5.Own.x3 r5.Own.x4 r5.Own.x5) r5.Root r5.Gate r5.Seq r9 r11), w1_3, 0)) some))
noncomputable def body22 : List AV → List ABlk → ED
  | [v0, v1], h => .ed [] (aK 11 k_TRoots (roD (deadL h []) v0) ∧ roDOb (deadL h []) v0 ∧ iK .i64 (roD (deadL h []) v1) ∧ roDOb (deadL h []) v1 ∧ (F22 (g_TRoots (aL (roD (deadL h []) v0))) (iA (roD (deadL h []) v1))).isSome = true) (.tup [.agg [.int .u8 ((((gt (F22 (g_TRoots (aL (roD (deadL h []) v0))) (iA (roD (deadL h []) v1)))).1).Own).x0), .int .u8 ((((gt (F22 (g_TRoots (aL (roD (deadL h []) v0))) (iA (roD (deadL h []) v1)))).1).Own).x1), .int .u8 ((((gt (F22 (g_TRoots (aL (roD (deadL h []) v0))) (iA (roD (deadL h []) v1)))).1).Own).x2), .int .u8 ((((gt (F22 (g_TRoots (aL (roD (deadL h []) v0))) (iA (roD (deadL h []) v1)))).1).Own).x3), .int .u8 ((((gt (F22 (g_TRoots (aL (roD (deadL h []) v0))) (iA (roD (deadL h []) v1)))).1).Own).x4), .int .u8 ((((gt (F22 (g_TRoots (aL (roD (deadL h []) v0))) (iA (roD (deadL h []) v1)))).1).Own).x5), .bool (((gt (F22 (g_TRoots (aL (roD (deadL h []) v0))) (iA (roD (deadL h []) v1)))).1).Root), .bool (((gt (F22 (g_TRoots (aL (roD (deadL h []) v0))) (iA (roD (deadL h []) v1)))).1).Gate), .int .i64 (((gt (F22 (g_TRoots (aL (roD (deadL h []) v0))) (iA (roD (deadL h []) v1)))).1).Seq), .sl 0 17 0 ((((gt (F22 (g_TRoots (aL (roD (deadL h []) v0))) (iA (roD (deadL h []) v1)))).1).Trees).length) false, .sl 1 13 0 ((((gt (F22 (g_TRoots (aL (roD (deadL h []) v0))) (iA (roD (deadL h []) v1)))).1).Proxies).length) false], .sl 2 6 0 (((gt (F22 (g_TRoots (aL (roD (deadL h []) v0))) (iA (roD (deadL h []) v1)))).2.1).length) false, .int .i64 ((gt (F22 (g_TRoots (aL (roD (deadL h []) v0))) (iA (roD (deadL h []) v1)))).2.2)]) [.row 62 17 ((((gt (F22 (g_TRoots (aL (roD (deadL h []) v0))) (iA (roD (deadL h []) v1)))).1).Trees).length) (enR c_TTree (((gt (F22 (g_TRoots (aL (roD (deadL h []) v0))) (iA (roD (deadL h []) v1)))).1).Trees)), .row 64 13 ((((gt (F22 (g_TRoots (aL (roD (deadL h []) v0))) (iA (roD (deadL h []) v1)))).1).Proxies).length) (enR c_TProxied (((gt (F22 (g_TRoots (aL (roD (deadL h []) v0))) (iA (roD (deadL h []) v1)))).1).Proxies)), .row 23 6 (((gt (F22 (g_TRoots (aL (roD (deadL h []) v0))) (iA (roD (deadL h []) v1)))).2.1).length) (enR c_A6u8 ((gt (F22 (g_TRoots (aL (roD (deadL h []) v0))) (iA (roD (deadL h []) v1)))).2.1))]
  | _, _ => .fail
set_option maxHeartbeats 4000000 in
set_option maxRecDepth 20000 in
theorem ok22 : FnOk Try.prog 22 (edC body22) := by
  refine edit_fnV body22 (rs := [.cell 4 41, .tmp 5, .tmp 6]) Try.func22 (by kernel_rfl) rfl rfl ?_
  intro l h bs ob q0 g0 hb hob
  unfold body22 at hb
  split at hb
  · rename_i v0 v1
    injection hb with q1 q2 q3 q4; subst q1 q2 q3 q4
    obtain ⟨hk0_0, hk0_1, hk1_0, hk1_1, hob⟩ := hob
    obtain ⟨r, H⟩ := Option.isSome_iff_exists.1 hob
    rw [H, gt_some]
    have hw0 := wA_TRoots hk0_0
    obtain ⟨p0, hp_p0⟩ : ∃ p0, p0 = g_TRoots (aL (roD (deadL h []) v0)) := ⟨_, rfl⟩
    rw [← hp_p0] at H hw0
    have hw1 := iK_wk hk1_0
    obtain ⟨p1, hp_p1⟩ : ∃ p1, p1 = iA (roD (deadL h []) v1) := ⟨_, rfl⟩
    rw [← hp_p1] at H hw1
    refine ⟨[.agg [.int .u8 p0.Own.x0, .int .u8 p0.Own.x1, .int .u8 p0.Own.x2, .int .u8 p0.Own.x3, .int .u8 p0.Own.x4, .int .u8 p0.Own.x5, .bool p0.Root, .bool p0.Gate, .int .i64 p0.Seq, .ro 17 p0.Trees.length false (enR c_TTree p0.Trees), .ro 13 p0.Proxies.length false (enR c_TProxied p0.Proxies)], .int .i64 p1], [], rfl, ⟨(EW_view hk0_1 hw0), ⟨(EW_view hk1_1 hw1), trivial⟩⟩, trivial, trivial, ⟨(nfB_en nr_TTree), ⟨(nfB_en nr_TProxied), ⟨(nfB_en nr_A6u8), trivial⟩⟩⟩, ⟨noroB_en, ⟨noroB_en, ⟨noroB_en, trivial⟩⟩⟩, (by first | (simp only [noro, noroL, and_self]; done) | (simp only [noro, noroL]; and_intros <;> first | trivial | exact noro_bif (by simp only [noro]) (by simp only [noro]) | (simp only [noro, noroL, and_self]))), ?_⟩
    rw [Try.ntmps22]
    simp only [List.length_cons, List.length_nil, Nat.reduceAdd, Nat.reduceSub, List.replicate_succ, List.replicate_zero, List.cons_append, List.nil_append]
    unfold F22 at H
    try dsimp only at H
    refine sq ctNo_ok ?_
    simp only [go_sem, Nat.reduceLeDiff, Nat.reduceLT, Nat.reduceAdd, Nat.reduceMul, Nat.reduceSub, Nat.reduceEqDiff, Nat.reduceBEq, Int.reduceToNat, reduceCtorEq]
    refine seqM ?_
    refine seqM ?_
    obtain ⟨r1, e2, H⟩ := Option.bind_eq_some_iff.1 H
    refine rg ct22t0_ok ?_
    simp only [go_sem, Nat.reduceLeDiff, Nat.reduceLT, Nat.reduceAdd, Nat.reduceMul, Nat.reduceSub, Nat.reduceEqDiff, Nat.reduceBEq, Int.reduceToNat, reduceCtorEq, ct22t0_34, body34, e2]
    repeat ((with_reducible refine And.intro ?_ ?_); focus (first | (with_reducible trivial) | omega | (and_intros <;> first | (with_reducible trivial) | omega | assumption | exact nfc | first | exact rfl | exact trivial | exact fitI | exact Or.inr rfl | exact Or.inl rfl | exact fun x hx => absurd hx (by omega) | (intro x hx; (repeat (first | (and_intros <;> (first | exact rfl | exact trivial | exact fitI | exact Or.inr rfl | exact Or.inl rfl | exact fun x hx => absurd hx (by omega))) | (exfalso; omega) | (rcases x with _ | x))); done)) | grind))
    refine sq ctNo_ok ?_
    simp only [go_sem, Nat.reduceLeDiff, Nat.reduceLT, Nat.reduceAdd, Nat.reduceMul, Nat.reduceSub, Nat.reduceEqDiff, Nat.reduceBEq, Int.reduceToNat, reduceCtorEq]
    refine condM rfl trivial (fun hc => ?_) (fun hc => ?_)
    · replace H := cond_t hc H
      refine sq ctNo_ok ?_
      simp only [go_sem, Nat.reduceLeDiff, Nat.reduceLT, Nat.reduceAdd, Nat.reduceMul, Nat.reduceSub, Nat.reduceEqDiff, Nat.reduceBEq, Int.reduceToNat, reduceCtorEq]
      repeat ((with_reducible refine And.intro ?_ ?_); focus (first | (with_reducible trivial) | omega | grind))
      refine rg ctNo_ok ?_
      simp only [go_sem, Nat.reduceLeDiff, Nat.reduceLT, Nat.reduceAdd, Nat.reduceMul, Nat.reduceSub, Nat.reduceEqDiff, Nat.reduceBEq, Int.reduceToNat, reduceCtorEq]
      obtain rfl := Option.some.inj H
      refine RetE_mk [] [none, none, none] ?_ ?_ ?_ ?_ (by rfl) (by rfl)
      · simp only [List.length_cons, List.length_nil, Nat.zero_mul, Nat.add_zero, fzV, fzL, fzOb, fzObL, fzH, fzHF, fzB, fzObB, fzObH, inL, rowOb, geth, cond_true, cond_false, Bool.or_false, Bool.or_true, Bool.false_or, Bool.true_or, and_self, true_and, and_true, Nat.reduceEqDiff, Nat.reduceBEq, beq_self_eq_true, sub_enR0, Nat.reduceAdd, Nat.zero_add, Nat.le_refl, List.nil_append]
        try (and_intros <;> first | trivial | omega | exact nfc)
      · simp only [List.length_cons, List.length_nil, Nat.zero_mul, Nat.add_zero, fzV, fzL, fzOb, fzObL, fzH, fzHF, fzB, fzObB, fzObH, inL, rowOb, geth, cond_true, cond_false, Bool.or_false, Bool.or_true, Bool.false_or, Bool.true_or, and_self, true_and, and_true, Nat.reduceEqDiff, Nat.reduceBEq, beq_self_eq_true, sub_enR0, Nat.reduceAdd, Nat.zero_add, Nat.le_refl, List.nil_append]
        try (and_intros <;> first | trivial | omega | exact nfc)
      · simp only [List.length_cons, List.length_nil, Nat.zero_mul, Nat.add_zero, fzV, fzL, fzOb, fzObL, fzH, fzHF, fzB, fzObB, fzObH, inL, rowOb, geth, cond_true, cond_false, Bool.or_false, Bool.or_true, Bool.false_or, Bool.true_or, and_self, true_and, and_true, Nat.reduceEqDiff, Nat.reduceBEq, beq_self_eq_true, sub_enR0, Nat.reduceAdd, Nat.zero_add, Nat.le_refl, List.nil_append]
        exact Cv_tup (CvL_cons (by simp [Cv, CvL, getM, gt_some]) (CvL_cons (by simp [Cv, CvL, getM, gt_some]) (CvL_cons (by simp [Cv, CvL, getM, gt_some]) CvL_nil)))
      · simp only [List.length_cons, List.length_nil, Nat.zero_mul, Nat.add_zero, fzV, fzL, fzOb, fzObL, fzH, fzHF, fzB, fzObB, fzObH, inL, rowOb, geth, cond_true, cond_false, Bool.or_false, Bool.or_true, Bool.false_or, Bool.true_or, and_self, true_and, and_true, Nat.reduceEqDiff, Nat.reduceBEq, beq_self_eq_true, sub_enR0, Nat.reduceAdd, Nat.zero_add, Nat.le_refl, List.nil_append, CvH, gt_some, Option.isSome_some, Option.isSome_none]
        first | exact ⟨CvB_none, CvB_none, CvB_none⟩ | trivial
    replace H := cond_f hc H
    refine rg ctNo_ok ?_
    simp only [go_sem, Nat.reduceLeDiff, Nat.reduceLT, Nat.reduceAdd, Nat.reduceMul, Nat.reduceSub, Nat.reduceEqDiff, Nat.reduceBEq, Int.reduceToNat, reduceCtorEq]
    refine seqM ?_
    refine seqM ?_
    obtain ⟨r3, e4, H⟩ := Option.bind_eq_some_iff.1 H
    refine rg ct22t1_ok ?_
    simp only [go_sem, Nat.reduceLeDiff, Nat.reduceLT, Nat.reduceAdd, Nat.reduceMul, Nat.reduceSub, Nat.reduceEqDiff, Nat.reduceBEq, Int.reduceToNat, reduceCtorEq, ct22t1_57, body57, e4]
    repeat ((with_reducible refine And.intro ?_ ?_); focus (first | (with_reducible trivial) | omega | (and_intros <;> first | (with_reducible trivial) | omega | assumption | exact nfc | first | exact rfl | exact trivial | exact fitI | exact Or.inr rfl | exact Or.inl rfl | exact fun x hx => absurd hx (by omega) | (intro x hx; (repeat (first | (and_intros <;> (first | exact rfl | exact trivial | exact fitI | exact Or.inr rfl | exact Or.inl rfl | exact fun x hx => absurd hx (by omega))) | (exfalso; omega) | (rcases x with _ | x))); done)) | grind))
    refine condM rfl trivial (fun hc => ?_) (fun hc => ?_)
    · replace H := cond_t hc H
      refine sq ctNo_ok ?_
      simp only [go_sem, Nat.reduceLeDiff, Nat.reduceLT, Nat.reduceAdd, Nat.reduceMul, Nat.reduceSub, Nat.reduceEqDiff, Nat.reduceBEq, Int.reduceToNat, reduceCtorEq]
      repeat ((with_reducible refine And.intro ?_ ?_); focus (first | (with_reducible trivial) | omega | grind))
      refine rg ctNo_ok ?_
      simp only [go_sem, Nat.reduceLeDiff, Nat.reduceLT, Nat.reduceAdd, Nat.reduceMul, Nat.reduceSub, Nat.reduceEqDiff, Nat.reduceBEq, Int.reduceToNat, reduceCtorEq]
      obtain rfl := Option.some.inj H
      refine RetE_mk [] [none, none, none] ?_ ?_ ?_ ?_ (by rfl) (by rfl)
      · simp only [List.length_cons, List.length_nil, Nat.zero_mul, Nat.add_zero, fzV, fzL, fzOb, fzObL, fzH, fzHF, fzB, fzObB, fzObH, inL, rowOb, geth, cond_true, cond_false, Bool.or_false, Bool.or_true, Bool.false_or, Bool.true_or, and_self, true_and, and_true, Nat.reduceEqDiff, Nat.reduceBEq, beq_self_eq_true, sub_enR0, Nat.reduceAdd, Nat.zero_add, Nat.le_refl, List.nil_append]
        try (and_intros <;> first | trivial | omega | exact nfc)
      · simp only [List.length_cons, List.length_nil, Nat.zero_mul, Nat.add_zero, fzV, fzL, fzOb, fzObL, fzH, fzHF, fzB, fzObB, fzObH, inL, rowOb, geth, cond_true, cond_false, Bool.or_false, Bool.or_true, Bool.false_or, Bool.true_or, and_self, true_and, and_true, Nat.reduceEqDiff, Nat.reduceBEq, beq_self_eq_true, sub_enR0, Nat.reduceAdd, Nat.zero_add, Nat.le_refl, List.nil_append]
        try (and_intros <;> first | trivial | omega | exact nfc)
      · simp only [List.length_cons, List.length_nil, Nat.zero_mul, Nat.add_zero, fzV, fzL, fzOb, fzObL, fzH, fzHF, fzB, fzObB, fzObH, inL, rowOb, geth, cond_true, cond_false, Bool.or_false, Bool.or_true, Bool.false_or, Bool.true_or, and_self, true_and, and_true, Nat.reduceEqDiff, Nat.reduceBEq, beq_self_eq_true, sub_enR0, Nat.reduceAdd, Nat.zero_add, Nat.le_refl, List.nil_append]
        exact Cv_tup (CvL_cons (by simp [Cv, CvL, getM, gt_some]) (CvL_cons (by simp [Cv, CvL, getM, gt_some]) (CvL_cons (by simp [Cv, CvL, getM, gt_some]) CvL_nil)))
      · simp only [List.length_cons, List.length_nil, Nat.zero_mul, Nat.add_zero, fzV, fzL, fzOb, fzObL, fzH, fzHF, fzB, fzObB, fzObH, inL, rowOb, geth, cond_true, cond_false, Bool.or_false, Bool.or_true, Bool.false_or, Bool.true_or, and_self, true_and, and_true, Nat.reduceEqDiff, Nat.reduceBEq, beq_self_eq_true, sub_enR0, Nat.reduceAdd, Nat.zero_add, Nat.le_refl, List.nil_append, CvH, gt_some, Option.isSome_some, Option.isSome_none]
        first | exact ⟨CvB_none, CvB_none, CvB_none⟩ | trivial
    replace H := cond_f hc H
    refine rg ctNo_ok ?_
    simp only [go_sem, Nat.reduceLeDiff, Nat.reduceLT, Nat.reduceAdd, Nat.reduceMul, Nat.reduceSub, Nat.reduceEqDiff, Nat.reduceBEq, Int.reduceToNat, reduceCtorEq]
    refine seqM ?_
    obtain ⟨r5, e6, H⟩ := Option.bind_eq_some_iff.1 H
    refine rg ct22t2_ok ?_
    simp only [go_sem, Nat.reduceLeDiff, Nat.reduceLT, Nat.reduceAdd, Nat.reduceMul, Nat.reduceSub, Nat.reduceEqDiff, Nat.reduceBEq, Int.reduceToNat, reduceCtorEq, roD, roDOb, deadL, edC, edR, nodupB, rnm, rnmL, rnmB, rnmH, rnm_bif, rnmB_bif, putH, dropH, rhoN, ptB, slN, litL, celL, pK, isLit, oS, isRow, inL, ct22t2_56, body56, e6]
    repeat ((with_reducible refine And.intro ?_ ?_); focus (first | (with_reducible trivial) | omega | (and_intros <;> first | (with_reducible trivial) | omega | assumption | exact nfc | first | exact rfl | exact trivial | exact fitI | exact Or.inr rfl | exact Or.inl rfl | exact fun x hx => absurd hx (by omega) | (intro x hx; (repeat (first | (and_intros <;> (first | exact rfl | exact trivial | exact fitI | exact Or.inr rfl | exact Or.inl rfl | exact fun x hx => absurd hx (by omega))) | (exfalso; omega) | (rcases x with _ | x))); done)) | grind))
    refine seqM ?_
    refine sq ctNo_ok ?_
    simp only [go_sem, Nat.reduceLeDiff, Nat.reduceLT, Nat.reduceAdd, Nat.reduceMul, Nat.reduceSub, Nat.reduceEqDiff, Nat.reduceBEq, Int.reduceToNat, reduceCtorEq]
    repeat ((with_reducible refine And.intro ?_ ?_); focus (first | (with_reducible trivial) | omega | (and_intros <;> first | (with_reducible trivial) | omega | assumption | exact nfc | first | exact rfl | exact trivial | exact fitI | exact Or.inr rfl | exact Or.inl rfl | exact fun x hx => absurd hx (by omega) | (intro x hx; (repeat (first | (and_intros <;> (first | exact rfl | exact trivial | exact fitI | exact Or.inr rfl | exact Or.inl rfl | exact fun x hx => absurd hx (by omega))) | (exfalso; omega) | (rcases x with _ | x))); done)) | grind))
    refine blkM ?_
    refine loop_den (fun s : (List A6u8) × Int => (.top :: .top :: .ptr 0 0 0 0 :: .ptr 1 0 0 0 :: .ptr 2 0 0 0 :: .sl 5 6 0 s.1.length false :: .top :: .top :: .top :: .top :: .top :: .top :: .top :: .top :: .top :: .top :: .top :: .top :: .top :: .top :: .top :: .top :: .top :: .sl 3 17 0 r5.Trees.length false :: .int .i64 (r5.Trees.length : Nat) :: .int .i64 s.2 :: .top :: .top :: .top :: .top :: .top :: .top :: .top :: .top :: .top :: .top :: .top :: .top :: .top :: .top :: .top :: .top :: .top :: .top :: .top :: .top :: .top :: .top :: .top :: .top :: .top :: [])) (fun s => [.lit 41 [.int .u8 r5.Own.x0, .int .u8 r5.Own.x1, .int .u8 r5.Own.x2, .int .u8 r5.Own.x3, .int .u8 r5.Own.x4, .int .u8 r5.Own.x5, .bool r5.Root, .bool r5.Gate, .int .i64 r5.Seq, .sl 3 17 0 r5.Trees.length false, .sl 4 13 0 r5.Proxies.length false], .lit 3 [.int .i64 p1], .lit 41 [.int .u8 0, .int .u8 0, .int .u8 0, .int .u8 0, .int .u8 0, .int .u8 0, .bool false, .bool false, .int .i64 0, .ro 0 0 true (fun _ _ => .top), .ro 0 0 true (fun _ _ => .top)], .row 62 17 r5.Trees.length (enR c_TTree r5.Trees), .row 64 13 r5.Proxies.length (enR c_TProxied r5.Proxies), .row 23 6 s.1.length (enR c_A6u8 s.1)]) (fun e : List A6u8 => (.top :: .top :: .ptr 0 0 0 0 :: .ptr 1 0 0 0 :: .ptr 2 0 0 0 :: .sl 5 6 0 e.length false :: .top :: .top :: .top :: .top :: .top :: .top :: .top :: .top :: .top :: .top :: .top :: .top :: .top :: .top :: .top :: .top :: .top :: .top :: .top :: .top :: .top :: .top :: .top :: .top :: .top :: .top :: .top :: .top :: .top :: .top :: .top :: .top :: .top :: .top :: .top :: .top :: .top :: .top :: .top :: .top :: .top :: .top :: .top :: .top :: .top :: [])) (fun e => [.lit 41 [.int .u8 r5.Own.x0, .int .u8 r5.Own.x1, .int .u8 r5.Own.x2, .int .u8 r5.Own.x3, .int .u8 r5.Own.x4, .int .u8 r5.Own.x5, .bool r5.Root, .bool r5.Gate, .int .i64 r5.Seq, .sl 3 17 0 r5.Trees.length false, .sl 4 13 0 r5.Proxies.length false], .lit 3 [.int .i64 p1], .lit 41 [.int .u8 0, .int .u8 0, .int .u8 0, .int .u8 0, .int .u8 0, .int .u8 0, .bool false, .bool false, .int .i64 0, .ro 0 0 true (fun _ _ => .top), .ro 0 0 true (fun _ _ => .top)], .row 62 17 r5.Trees.length (enR c_TTree r5.Trees), .row 64 13 r5.Proxies.length (enR c_TProxied r5.Proxies), .row 23 6 e.length (enR c_A6u8 e)]) H ?_ (fun s o H hn1_1 hn2_1 => ?_) (fun w1_3 H => ?_)
    · refine SubF_of ⟨[some 0, some 1, some 2, some 3, some 4, none], ?_, ?_, by rfl, by rfl⟩
      · simp [CvL, Cv, getM]
      · exact ⟨(by simp [CvB, CvL, Cv, blkAt, geth, getM]), (by simp [CvB, CvL, Cv, blkAt, geth, getM]), (by simp [CvB, CvL, Cv, blkAt, geth, getM]), (CvB_same nfA), (CvB_same nfA), CvB_none, trivial⟩
    · obtain ⟨v1_1, v1_2⟩ := s
      unfold F22_L1 at H
      try dsimp only at H ⊢
      refine sq ctNo_ok ?_
      simp only [go_sem, Nat.reduceLeDiff, Nat.reduceLT, Nat.reduceAdd, Nat.reduceMul, Nat.reduceSub, Nat.reduceEqDiff, Nat.reduceBEq, Int.reduceToNat, reduceCtorEq]
      refine seqM ?_
      refine condM' rfl trivial (fun hc => ?_) (fun hc => ?_)
      · replace H := cond_f hc H
        refine rg ctNo_ok ?_
        simp only [go_sem, Nat.reduceLeDiff, Nat.reduceLT, Nat.reduceAdd, Nat.reduceMul, Nat.reduceSub, Nat.reduceEqDiff, Nat.reduceBEq, Int.reduceToNat, reduceCtorEq]
        refine ⟨_, (Option.some.inj H).symm, ?_⟩
        refine SubF_of ⟨[some 0, some 1, some 2, some 3, some 4, some 5], ?_, ?_, by rfl, by rfl⟩
        · simp [CvL, Cv, getM]
        · exact ⟨(by simp [CvB, CvL, Cv, blkAt, geth, getM]), (by simp [CvB, CvL, Cv, blkAt, geth, getM]), (by simp [CvB, CvL, Cv, blkAt, geth, getM]), (CvB_same nfA), (CvB_same nfA), CvB_row nr_A6u8 (by first | rfl | simp) (fun _ _ _ _ => rfl), trivial⟩
      replace H := cond_t hc H
      refine rg ctNo_ok ?_
      simp only [go_sem, Nat.reduceLeDiff, Nat.reduceLT, Nat.reduceAdd, Nat.reduceMul, Nat.reduceSub, Nat.reduceEqDiff, Nat.reduceBEq, Int.reduceToNat, reduceCtorEq]
      refine seqM ?_
      refine blkM ?_
      refine seqM ?_
      obtain ⟨f7, H⟩ := need_some.1 H
      replace f7 := inb_iff.1 f7
      refine rg ctNo_ok ?_
      simp only [go_sem, Nat.reduceLeDiff, Nat.reduceLT, Nat.reduceAdd, Nat.reduceMul, Nat.reduceSub, Nat.reduceEqDiff, Nat.reduceBEq, Int.reduceToNat, reduceCtorEq, f7]
      repeat ((with_reducible refine And.intro ?_ ?_); focus (first | (with_reducible trivial) | omega | grind))
      refine sq ctNo_ok ?_
      simp only [go_sem, Nat.reduceLeDiff, Nat.reduceLT, Nat.reduceAdd, Nat.reduceMul, Nat.reduceSub, Nat.reduceEqDiff, Nat.reduceBEq, Int.reduceToNat, reduceCtorEq]
      refine condM' rfl trivial (fun hc => ?_) (fun hc => ?_)
      · replace H := cond_f hc H
        refine rg ctNo_ok ?_
        simp only [go_sem, Nat.reduceLeDiff, Nat.reduceLT, Nat.reduceAdd, Nat.reduceMul, Nat.reduceSub, Nat.reduceEqDiff, Nat.reduceBEq, Int.reduceToNat, reduceCtorEq]
        refine rg ctNo_ok ?_
        simp only [go_sem, Nat.reduceLeDiff, Nat.reduceLT, Nat.reduceAdd, Nat.reduceMul, Nat.reduceSub, Nat.reduceEqDiff, Nat.reduceBEq, Int.reduceToNat, reduceCtorEq]
        refine ⟨_, (Option.some.inj H).symm, ?_⟩
        refine SubF_of ⟨[some 0, some 1, some 2, some 3, some 4, some 5], ?_, ?_, by rfl, by rfl⟩
        · simp [CvL, Cv, getM]
        · exact ⟨(by simp [CvB, CvL, Cv, blkAt, geth, getM]), (by simp [CvB, CvL, Cv, blkAt, geth, getM]), (by simp [CvB, CvL, Cv, blkAt, geth, getM]), (CvB_same nfA), (CvB_same nfA), CvB_row nr_A6u8 (by first | rfl | simp) (fun _ _ _ _ => rfl), trivial⟩
      replace H := cond_t hc H
      obtain ⟨f8, H⟩ := need_some.1 H
      replace f8 := capb_iff.1 f8
      refine rg ctNo_ok ?_
      simp only [go_sem, Nat.reduceLeDiff, Nat.reduceLT, Nat.reduceAdd, Nat.reduceMul, Nat.reduceSub, Nat.reduceEqDiff, Nat.reduceBEq, Int.reduceToNat, reduceCtorEq, f8]
      repeat ((with_reducible refine And.intro ?_ ?_); focus (first | (with_reducible trivial) | omega | (and_intros <;> first | (with_reducible trivial) | omega | assumption | exact nfc | first | exact rfl | exact trivial | exact fitI | exact Or.inr rfl | exact Or.inl rfl | exact fun x hx => absurd hx (by omega) | (intro x hx; (repeat (first | (and_intros <;> (first | exact rfl | exact trivial | exact fitI | exact Or.inr rfl | exact Or.inl rfl | exact fun x hx => absurd hx (by omega))) | (exfalso; omega) | (rcases x with _ | x))); done) | (refine Fit_app ?_ ?_ <;> first | exact fitI | (intro x hx; (repeat (first | (and_intros <;> (first | exact rfl | exact trivial | exact fitI | exact Or.inr rfl | exact Or.inl rfl | exact fun x hx => absurd hx (by omega))) | (exfalso; omega) | (rcases x with _ | x))); done) | (refine Fit_app ?_ ?_ <;> first | exact fitI | (intro x hx; (repeat (first | (and_intros <;> (first | exact rfl | exact trivial | exact fitI | exact Or.inr rfl | exact Or.inl rfl | exact fun x hx => absurd hx (by omega))) | (exfalso; omega) | (rcases x with _ | x))); done)))) | grind))
      refine rg ctNo_ok ?_
      simp only [go_sem, Nat.reduceLeDiff, Nat.reduceLT, Nat.reduceAdd, Nat.reduceMul, Nat.reduceSub, Nat.reduceEqDiff, Nat.reduceBEq, Int.reduceToNat, reduceCtorEq]
      refine ⟨_, (Option.some.inj H).symm, ?_⟩
      refine SubF_of ⟨[some 0, some 1, some 2, some 3, some 4, some 8], ?_, ?_, by rfl, by rfl⟩
      · simp [CvL, Cv, getM]
      · exact ⟨(by simp [CvB, CvL, Cv, blkAt, geth, getM]), (by simp [CvB, CvL, Cv, blkAt, geth, getM]), (by simp [CvB, CvL, Cv, blkAt, geth, getM]), (CvB_same nfA), (CvB_same nfA), CvB_row nr_A6u8 (by first | rfl | simp) (app_row (f := c_A6u8) v1_1 [((gd r5.Trees v1_2.toNat).Root)] (fun _ _ _ _ => rfl) (lit_row (f := c_A6u8) [((gd r5.Trees v1_2.toNat).Root)] (fun _ _ => rfl) rfl)), trivial⟩
    · try dsimp only at H ⊢
      try simp only [m_normal, k_normal, b_normal, kL_normal, r_normal]
      refine seqM ?_
      obtain ⟨r9, e10, H⟩ := Option.bind_eq_some_iff.1 H
      refine rg ct22t3_ok ?_
      simp only [go_sem, Nat.reduceLeDiff, Nat.reduceLT, Nat.reduceAdd, Nat.reduceMul, Nat.reduceSub, Nat.reduceEqDiff, Nat.reduceBEq, Int.reduceToNat, reduceCtorEq, roD, roDOb, deadL, edC, edR, nodupB, rnm, rnmL, rnmB, rnmH, rnm_bif, rnmB_bif, putH, dropH, rhoN, ptB, slN, litL, celL, pK, isLit, oS, isRow, inL, ct22t3_62, body62_0, e10]
      repeat ((with_reducible refine And.intro ?_ ?_); focus (first | (with_reducible trivial) | omega | (and_intros <;> first | (with_reducible trivial) | omega | assumption | exact nfc | first | exact rfl | exact trivial | exact fitI | exact Or.inr rfl | exact Or.inl rfl | exact fun x hx => absurd hx (by omega) | (intro x hx; (repeat (first | (and_intros <;> (first | exact rfl | exact trivial | exact fitI | exact Or.inr rfl | exact Or.inl rfl | exact fun x hx => absurd hx (by omega))) | (exfalso; omega) | (rcases x with _ | x))); done)) | grind))
      refine seqM ?_
      obtain ⟨r11, e12, H⟩ := Option.bind_eq_some_iff.1 H
      refine rg ct22t4_ok ?_
      simp only [go_sem, Nat.reduceLeDiff, Nat.reduceLT, Nat.reduceAdd, Nat.reduceMul, Nat.reduceSub, Nat.reduceEqDiff, Nat.reduceBEq, Int.reduceToNat, reduceCtorEq, roD, roDOb, deadL, edC, edR, nodupB, rnm, rnmL, rnmB, rnmH, rnm_bif, rnmB_bif, putH, dropH, rhoN, ptB, slN, litL, celL, pK, isLit, oS, isRow, inL, ct22t4_64, body64_0, e12]
      repeat ((with_reducible refine And.intro ?_ ?_); focus (first | (with_reducible trivial) | omega | (and_intros <;> first | (with_reducible trivial) | omega | assumption | exact nfc | first | exact rfl | exact trivial | exact fitI | exact Or.inr rfl | exact Or.inl rfl | exact fun x hx => absurd hx (by omega) | (intro x hx; (repeat (first | (and_intros <;> (first | exact rfl | exact trivial | exact fitI | exact Or.inr rfl | exact Or.inl rfl | exact fun x hx => absurd hx (by omega))) | (exfalso; omega) | (rcases x with _ | x))); done)) | grind))
      refine sq ctNo_ok ?_
      simp only [go_sem, Nat.reduceLeDiff, Nat.reduceLT, Nat.reduceAdd, Nat.reduceMul, Nat.reduceSub, Nat.reduceEqDiff, Nat.reduceBEq, Int.reduceToNat, reduceCtorEq]
      repeat ((with_reducible refine And.intro ?_ ?_); focus (first | (with_reducible trivial) | omega | grind))
      refine rg ctNo_ok ?_
      simp only [go_sem, Nat.reduceLeDiff, Nat.reduceLT, Nat.reduceAdd, Nat.reduceMul, Nat.reduceSub, Nat.reduceEqDiff, Nat.reduceBEq, Int.reduceToNat, reduceCtorEq]
      obtain rfl := Option.some.inj H
      refine RetE_mk [] [some 6, some 7, some 5] ?_ ?_ ?_ ?_ (by rfl) (by rfl)
      · simp only [List.length_cons, List.length_nil, Nat.zero_mul, Nat.add_zero, fzV, fzL, fzOb, fzObL, fzH, fzHF, fzB, fzObB, fzObH, inL, rowOb, geth, cond_true, cond_false, Bool.or_false, Bool.or_true, Bool.false_or, Bool.true_or, and_self, true_and, and_true, Nat.reduceEqDiff, Nat.reduceBEq, beq_self_eq_true, sub_enR0, Nat.reduceAdd, Nat.zero_add, Nat.le_refl, List.nil_append]
        try (and_intros <;> first | trivial | omega | exact nfc)
      · simp only [List.length_cons, List.length_nil, Nat.zero_mul, Nat.add_zero, fzV, fzL, fzOb, fzObL, fzH, fzHF, fzB, fzObB, fzObH, inL, rowOb, geth, cond_true, cond_false, Bool.or_false, Bool.or_true, Bool.false_or, Bool.true_or, and_self, true_and, and_true, Nat.reduceEqDiff, Nat.reduceBEq, beq_self_eq_true, sub_enR0, Nat.reduceAdd, Nat.zero_add, Nat.le_refl, List.nil_append]
        try (and_intros <;> first | trivial | omega | exact nfc)
      · simp only [List.length_cons, List.length_nil, Nat.zero_mul, Nat.add_zero, fzV, fzL, fzOb, fzObL, fzH, fzHF, fzB, fzObB, fzObH, inL, rowOb, geth, cond_true, cond_false, Bool.or_false, Bool.or_true, Bool.false_or, Bool.true_or, and_self, true_and, and_true, Nat.reduceEqDiff, Nat.reduceBEq, beq_self_eq_true, sub_enR0, Nat.reduceAdd, Nat.zero_add, Nat.le_refl, List.nil_append]
        exact Cv_tup (CvL_cons (by simp [Cv, CvL, getM, gt_some]) (CvL_cons (by simp [Cv, CvL, getM, gt_some]) (CvL_cons (by simp [Cv, CvL, getM, gt_some]) CvL_nil)))
      · simp only [List.length_cons, List.length_nil, Nat.zero_mul, Nat.add_zero, fzV, fzL, fzOb, fzObL, fzH, fzHF, fzB, fzObB, fzObH, inL, rowOb, geth, cond_true, cond_false, Bool.or_false, Bool.or_true, Bool.false_or, Bool.true_or, and_self, true_and, and_true, Nat.reduceEqDiff, Nat.reduceBEq, beq_self_eq_true, sub_enR0, Nat.reduceAdd, Nat.zero_add, Nat.le_refl, List.nil_append, CvH, gt_some, Option.isSome_some, Option.isSome_none]
        first | exact ⟨CvB_row nr_TTree (by first | rfl | simp) (fun _ _ _ _ => rfl), CvB_row nr_TProxied (by first | rfl | simp) (fun _ _ _ _ => rfl), CvB_row nr_A6u8 (by first | rfl | simp) (fun _ _ _ _ => rfl)⟩ | trivial
  · cases hb
/-! hotspot/hotspotref40.Tick -/
noncomputable def ct23t0 : Ct := tab [(35, pureC body35)]
theorem ct23t0_ok : CtOk Try.prog ct23t0 := tab_cons ok35 <| tab_nil
theorem ct23t0_35 (l : List AV) (h : List ABlk) : ct23t0 35 l h = pureC body35 l h := rfl
noncomputable def ct23t1 : Ct := tab [(60, pureC body60)]
theorem ct23t1_ok : CtOk Try.prog ct23t1 := tab_cons ok60 <| tab_nil
theorem ct23t1_60 (l : List AV) (h : List ABlk) : ct23t1 60 l h = pureC body60 l h := rfl
noncomputable def F23_L1 (p0 : TRoots) (p1 : Int) (v1_1 : List A6u8) (v1_2 : Int) (v1_3 : List TTree) : Option (Lp ((List A6u8) × Int × (List TTree)) (((List A6u8) × (List TTree)) ⊕ (TRoots × (List A6u8) × Int))) :=
  bif (bLt v1_2 (p0.Trees.length : Nat)) then (need (inb v1_2 p0.Trees.length) <| bif (bLe ((gd p0.Trees v1_2.toNat).Until) p1) then (need (inb v1_2 p0.Trees.length) <| need (capb 6 (v1_1.length + 1)) <| some (.next ((v1_1 ++ [((gd p0.Trees v1_2.toNat).Root)]), wr .i64 (v1_2 + 1), v1_3))) else (need (inb v1_2 p0.Trees.length) <| need (capb 56 (v1_3.length + 1)) <| some (.next (v1_1, wr .i64 (v1_2 + 1), (v1_3 ++ [(TTree.mk (A6u8.mk (((gd p0.Trees v1_2.toNat).Root).x0) (((gd p0.Trees v1_2.toNat).Root).x1) (((gd p0.Trees v1_2.toNat).Root).x2) (((gd p0.Trees v1_2.toNat).Root).x3) (((gd p0.Trees v1_2.toNat).Root).x4) (((gd p0.Trees v1_2.toNat).Root).x5)) (A6u8.mk (((gd p0.Trees v1_2.toNat).Parent).x0) (((gd p0.Trees v1_2.toNat).Parent).x1) (((gd p0.Trees v1_2.toNat).Parent).x2) (((gd p0.Trees v1_2.toNat).Parent).x3) (((gd p0.Trees v1_2.toNat).Parent).x4) (((gd p0.Trees v1_2.toNat).Parent).x5)) ((gd p0.Trees v1_2.toNat).Seq) ((gd p0.Trees v1_2.toNat).Hops) ((gd p0.Trees v1_2.toNat).Cost) ((gd p0.Trees v1_2.toNat).Gate) ((gd p0.Trees v1_2.toNat).Until))]))))) else (some (.done (.inl (v1_1, v1_3))))
noncomputable def F23_L2 (p0 : TRoots) (p1 : Int) (v2_1 : Int) (v2_2 : List TProxied) : Option (Lp (Int × (List TProxied)) ((List TProxied) ⊕ (TRoots × (List A6u8) × Int))) :=
  bif (bLt v2_1 (p0.Proxies.length : Nat)) then (need (inb v2_1 p0.Proxies.length) <| bif (bLt p1 ((gd p0.Proxies v2_1.toNat).Until)) then (need (inb v2_1 p0.Proxies.length) <| need (capb 24 (v2_2.length + 1)) <| some (.next (wr .i64 (v2_1 + 1), (v2_2 ++ [(TProxied.mk (A6u8.mk (((gd p0.Proxies v2_1.toNat).Out).x0) (((gd p0.Proxies v2_1.toNat).Out).x1) (((gd p0.Proxies v2_1.toNat).Out).x2) (((gd p0.Proxies v2_1.toNat).Out).x3) (((gd p0.Proxies v2_1.toNat).Out).x4) (((gd p0.Proxies v2_1.toNat).Out).x5)) (A6u8.mk (((gd p0.Proxies v2_1.toNat).Via).x0) (((gd p0.Proxies v2_1.toNat).Via).x1) (((gd p0.Proxies v2_1.toNat).Via).x2) (((gd p0.Proxies v2_1.toNat).Via).x3) (((gd p0.Proxies v2_1.toNat).Via).x4) (((gd p0.Proxies v2_1.toNat).Via).x5)) ((gd p0.Proxies v2_1.toNat).Until))])))) else (some (.next (wr .i64 (v2_1 + 1), v2_2)))) else (some (.done (.inl v2_2)))
noncomputable def F23 (p0 : TRoots) (p1 : Int) : Option (TRoots × (List A6u8) × Int) :=
  (F35 p0).bind fun r1 => bif (!r1) then (some ((TRoots.mk (A6u8.mk 0 0 0 0 0 0) false false 0 [] []), [], 8)) else ((F60 p1 0 1099511627776).bind fun r3 => bif (!r3) then (some ((TRoots.mk (A6u8.mk 0 0 0 0 0 0) false false 0 [] []), [], 2)) else (lp (loopD (fun s => F23_L1 p0 p1 s.1 s.2.1 s.2.2) ([], 0, [])) (fun e => lp (loopD (fun s => F23_L2 p0 p1 s.1 s.2) (0, [])) (fun w2_5 => some ((TRoots.mk (A6u8.mk p0.Own.x0 p0.Own.x1 p0.Own.x2 p0.Own.x3 p0.Own.x4 p0.Own.x5) p0.Root p0.Gate p0.Seq e.2 w2_5), e.1, 0)) some) some))
noncomputable def body23 : List AV → List ABlk → ED
  | [v0, v1], h => .ed [] (aK 11 k_TRoots (roD (deadL h []) v0) ∧ roDOb (deadL h []) v0 ∧ iK .i64 (roD (deadL h []) v1) ∧ roDOb (deadL h []) v1 ∧ (F23 (g_TRoots (aL (roD (deadL h []) v0))) (iA (roD (deadL h []) v1))).isSome = true) (.tup [.agg [.int .u8 ((((gt (F23 (g_TRoots (aL (roD (deadL h []) v0))) (iA (roD (deadL h []) v1)))).1).Own).x0), .int .u8 ((((gt (F23 (g_TRoots (aL (roD (deadL h []) v0))) (iA (roD (deadL h []) v1)))).1).Own).x1), .int .u8 ((((gt (F23 (g_TRoots (aL (roD (deadL h []) v0))) (iA (roD (deadL h []) v1)))).1).Own).x2), .int .u8 ((((gt (F23 (g_TRoots (aL (roD (deadL h []) v0))) (iA (roD (deadL h []) v1)))).1).Own).x3), .int .u8 ((((gt (F23 (g_TRoots (aL (roD (deadL h []) v0))) (iA (roD (deadL h []) v1)))).1).Own).x4), .int .u8 ((((gt (F23 (g_TRoots (aL (roD (deadL h []) v0))) (iA (roD (deadL h []) v1)))).1).Own).x5), .bool (((gt (F23 (g_TRoots (aL (roD (deadL h []) v0))) (iA (roD (deadL h []) v1)))).1).Root), .bool (((gt (F23 (g_TRoots (aL (roD (deadL h []) v0))) (iA (roD (deadL h []) v1)))).1).Gate), .int .i64 (((gt (F23 (g_TRoots (aL (roD (deadL h []) v0))) (iA (roD (deadL h []) v1)))).1).Seq), .sl 0 17 0 ((((gt (F23 (g_TRoots (aL (roD (deadL h []) v0))) (iA (roD (deadL h []) v1)))).1).Trees).length) false, .sl 1 13 0 ((((gt (F23 (g_TRoots (aL (roD (deadL h []) v0))) (iA (roD (deadL h []) v1)))).1).Proxies).length) false], .sl 2 6 0 (((gt (F23 (g_TRoots (aL (roD (deadL h []) v0))) (iA (roD (deadL h []) v1)))).2.1).length) false, .int .i64 ((gt (F23 (g_TRoots (aL (roD (deadL h []) v0))) (iA (roD (deadL h []) v1)))).2.2)]) [.row 62 17 ((((gt (F23 (g_TRoots (aL (roD (deadL h []) v0))) (iA (roD (deadL h []) v1)))).1).Trees).length) (enR c_TTree (((gt (F23 (g_TRoots (aL (roD (deadL h []) v0))) (iA (roD (deadL h []) v1)))).1).Trees)), .row 64 13 ((((gt (F23 (g_TRoots (aL (roD (deadL h []) v0))) (iA (roD (deadL h []) v1)))).1).Proxies).length) (enR c_TProxied (((gt (F23 (g_TRoots (aL (roD (deadL h []) v0))) (iA (roD (deadL h []) v1)))).1).Proxies)), .row 23 6 (((gt (F23 (g_TRoots (aL (roD (deadL h []) v0))) (iA (roD (deadL h []) v1)))).2.1).length) (enR c_A6u8 ((gt (F23 (g_TRoots (aL (roD (deadL h []) v0))) (iA (roD (deadL h []) v1)))).2.1))]
  | _, _ => .fail
set_option maxHeartbeats 4000000 in
set_option maxRecDepth 20000 in
theorem ok23 : FnOk Try.prog 23 (edC body23) := by
  refine edit_fnV body23 (rs := [.cell 4 41, .tmp 5, .tmp 6]) Try.func23 (by kernel_rfl) rfl rfl ?_
  intro l h bs ob q0 g0 hb hob
  unfold body23 at hb
  split at hb
  · rename_i v0 v1
    injection hb with q1 q2 q3 q4; subst q1 q2 q3 q4
    obtain ⟨hk0_0, hk0_1, hk1_0, hk1_1, hob⟩ := hob
    obtain ⟨r, H⟩ := Option.isSome_iff_exists.1 hob
    rw [H, gt_some]
    have hw0 := wA_TRoots hk0_0
    obtain ⟨p0, hp_p0⟩ : ∃ p0, p0 = g_TRoots (aL (roD (deadL h []) v0)) := ⟨_, rfl⟩
    rw [← hp_p0] at H hw0
    have hw1 := iK_wk hk1_0
    obtain ⟨p1, hp_p1⟩ : ∃ p1, p1 = iA (roD (deadL h []) v1) := ⟨_, rfl⟩
    rw [← hp_p1] at H hw1
    refine ⟨[.agg [.int .u8 p0.Own.x0, .int .u8 p0.Own.x1, .int .u8 p0.Own.x2, .int .u8 p0.Own.x3, .int .u8 p0.Own.x4, .int .u8 p0.Own.x5, .bool p0.Root, .bool p0.Gate, .int .i64 p0.Seq, .ro 17 p0.Trees.length false (enR c_TTree p0.Trees), .ro 13 p0.Proxies.length false (enR c_TProxied p0.Proxies)], .int .i64 p1], [], rfl, ⟨(EW_view hk0_1 hw0), ⟨(EW_view hk1_1 hw1), trivial⟩⟩, trivial, trivial, ⟨(nfB_en nr_TTree), ⟨(nfB_en nr_TProxied), ⟨(nfB_en nr_A6u8), trivial⟩⟩⟩, ⟨noroB_en, ⟨noroB_en, ⟨noroB_en, trivial⟩⟩⟩, (by first | (simp only [noro, noroL, and_self]; done) | (simp only [noro, noroL]; and_intros <;> first | trivial | exact noro_bif (by simp only [noro]) (by simp only [noro]) | (simp only [noro, noroL, and_self]))), ?_⟩
    rw [Try.ntmps23]
    simp only [List.length_cons, List.length_nil, Nat.reduceAdd, Nat.reduceSub, List.replicate_succ, List.replicate_zero, List.cons_append, List.nil_append]
    unfold F23 at H
    try dsimp only at H
    refine sq ctNo_ok ?_
    simp only [go_sem, Nat.reduceLeDiff, Nat.reduceLT, Nat.reduceAdd, Nat.reduceMul, Nat.reduceSub, Nat.reduceEqDiff, Nat.reduceBEq, Int.reduceToNat, reduceCtorEq]
    refine seqM ?_
    refine seqM ?_
    obtain ⟨r1, e2, H⟩ := Option.bind_eq_some_iff.1 H
    refine rg ct23t0_ok ?_
    simp only [go_sem, Nat.reduceLeDiff, Nat.reduceLT, Nat.reduceAdd, Nat.reduceMul, Nat.reduceSub, Nat.reduceEqDiff, Nat.reduceBEq, Int.reduceToNat, reduceCtorEq, ct23t0_35, body35, e2]
    repeat ((with_reducible refine And.intro ?_ ?_); focus (first | (with_reducible trivial) | omega | (and_intros <;> first | (with_reducible trivial) | omega | assumption | exact nfc | first | exact rfl | exact trivial | exact fitI | exact Or.inr rfl | exact Or.inl rfl | exact fun x hx => absurd hx (by omega) | (intro x hx; (repeat (first | (and_intros <;> (first | exact rfl | exact trivial | exact fitI | exact Or.inr rfl | exact Or.inl rfl | exact fun x hx => absurd hx (by omega))) | (exfalso; omega) | (rcases x with _ | x))); done)) | grind))
    refine condM rfl trivial (fun hc => ?_) (fun hc => ?_)
    · replace H := cond_t hc H
      refine sq ctNo_ok ?_
      simp only [go_sem, Nat.reduceLeDiff, Nat.reduceLT, Nat.reduceAdd, Nat.reduceMul, Nat.reduceSub, Nat.reduceEqDiff, Nat.reduceBEq, Int.reduceToNat, reduceCtorEq]
      repeat ((with_reducible refine And.intro ?_ ?_); focus (first | (with_reducible trivial) | omega | grind))
      refine rg ctNo_ok ?_
      simp only [go_sem, Nat.reduceLeDiff, Nat.reduceLT, Nat.reduceAdd, Nat.reduceMul, Nat.reduceSub, Nat.reduceEqDiff, Nat.reduceBEq, Int.reduceToNat, reduceCtorEq]
      obtain rfl := Option.some.inj H
      refine RetE_mk [] [none, none, none] ?_ ?_ ?_ ?_ (by rfl) (by rfl)
      · simp only [List.length_cons, List.length_nil, Nat.zero_mul, Nat.add_zero, fzV, fzL, fzOb, fzObL, fzH, fzHF, fzB, fzObB, fzObH, inL, rowOb, geth, cond_true, cond_false, Bool.or_false, Bool.or_true, Bool.false_or, Bool.true_or, and_self, true_and, and_true, Nat.reduceEqDiff, Nat.reduceBEq, beq_self_eq_true, sub_enR0, Nat.reduceAdd, Nat.zero_add, Nat.le_refl, List.nil_append]
        try (and_intros <;> first | trivial | omega | exact nfc)
      · simp only [List.length_cons, List.length_nil, Nat.zero_mul, Nat.add_zero, fzV, fzL, fzOb, fzObL, fzH, fzHF, fzB, fzObB, fzObH, inL, rowOb, geth, cond_true, cond_false, Bool.or_false, Bool.or_true, Bool.false_or, Bool.true_or, and_self, true_and, and_true, Nat.reduceEqDiff, Nat.reduceBEq, beq_self_eq_true, sub_enR0, Nat.reduceAdd, Nat.zero_add, Nat.le_refl, List.nil_append]
        try (and_intros <;> first | trivial | omega | exact nfc)
      · simp only [List.length_cons, List.length_nil, Nat.zero_mul, Nat.add_zero, fzV, fzL, fzOb, fzObL, fzH, fzHF, fzB, fzObB, fzObH, inL, rowOb, geth, cond_true, cond_false, Bool.or_false, Bool.or_true, Bool.false_or, Bool.true_or, and_self, true_and, and_true, Nat.reduceEqDiff, Nat.reduceBEq, beq_self_eq_true, sub_enR0, Nat.reduceAdd, Nat.zero_add, Nat.le_refl, List.nil_append]
        exact Cv_tup (CvL_cons (by simp [Cv, CvL, getM, gt_some]) (CvL_cons (by simp [Cv, CvL, getM, gt_some]) (CvL_cons (by simp [Cv, CvL, getM, gt_some]) CvL_nil)))
      · simp only [List.length_cons, List.length_nil, Nat.zero_mul, Nat.add_zero, fzV, fzL, fzOb, fzObL, fzH, fzHF, fzB, fzObB, fzObH, inL, rowOb, geth, cond_true, cond_false, Bool.or_false, Bool.or_true, Bool.false_or, Bool.true_or, and_self, true_and, and_true, Nat.reduceEqDiff, Nat.reduceBEq, beq_self_eq_true, sub_enR0, Nat.reduceAdd, Nat.zero_add, Nat.le_refl, List.nil_append, CvH, gt_some, Option.isSome_some, Option.isSome_none]
        first | exact ⟨CvB_none, CvB_none, CvB_none⟩ | trivial
    replace H := cond_f hc H
    refine rg ctNo_ok ?_
    simp only [go_sem, Nat.reduceLeDiff, Nat.reduceLT, Nat.reduceAdd, Nat.reduceMul, Nat.reduceSub, Nat.reduceEqDiff, Nat.reduceBEq, Int.reduceToNat, reduceCtorEq]
    refine seqM ?_
    refine seqM ?_
    obtain ⟨r3, e4, H⟩ := Option.bind_eq_some_iff.1 H
    refine rg ct23t1_ok ?_
    simp only [go_sem, Nat.reduceLeDiff, Nat.reduceLT, Nat.reduceAdd, Nat.reduceMul, Nat.reduceSub, Nat.reduceEqDiff, Nat.reduceBEq, Int.reduceToNat, reduceCtorEq, ct23t1_60, body60, e4]
    repeat ((with_reducible refine And.intro ?_ ?_); focus (first | (with_reducible trivial) | omega | (and_intros <;> first | (with_reducible trivial) | omega | assumption | exact nfc | first | exact rfl | exact trivial | exact fitI | exact Or.inr rfl | exact Or.inl rfl | exact fun x hx => absurd hx (by omega) | (intro x hx; (repeat (first | (and_intros <;> (first | exact rfl | exact trivial | exact fitI | exact Or.inr rfl | exact Or.inl rfl | exact fun x hx => absurd hx (by omega))) | (exfalso; omega) | (rcases x with _ | x))); done)) | grind))
    refine condM rfl trivial (fun hc => ?_) (fun hc => ?_)
    · replace H := cond_t hc H
      refine sq ctNo_ok ?_
      simp only [go_sem, Nat.reduceLeDiff, Nat.reduceLT, Nat.reduceAdd, Nat.reduceMul, Nat.reduceSub, Nat.reduceEqDiff, Nat.reduceBEq, Int.reduceToNat, reduceCtorEq]
      repeat ((with_reducible refine And.intro ?_ ?_); focus (first | (with_reducible trivial) | omega | grind))
      refine rg ctNo_ok ?_
      simp only [go_sem, Nat.reduceLeDiff, Nat.reduceLT, Nat.reduceAdd, Nat.reduceMul, Nat.reduceSub, Nat.reduceEqDiff, Nat.reduceBEq, Int.reduceToNat, reduceCtorEq]
      obtain rfl := Option.some.inj H
      refine RetE_mk [] [none, none, none] ?_ ?_ ?_ ?_ (by rfl) (by rfl)
      · simp only [List.length_cons, List.length_nil, Nat.zero_mul, Nat.add_zero, fzV, fzL, fzOb, fzObL, fzH, fzHF, fzB, fzObB, fzObH, inL, rowOb, geth, cond_true, cond_false, Bool.or_false, Bool.or_true, Bool.false_or, Bool.true_or, and_self, true_and, and_true, Nat.reduceEqDiff, Nat.reduceBEq, beq_self_eq_true, sub_enR0, Nat.reduceAdd, Nat.zero_add, Nat.le_refl, List.nil_append]
        try (and_intros <;> first | trivial | omega | exact nfc)
      · simp only [List.length_cons, List.length_nil, Nat.zero_mul, Nat.add_zero, fzV, fzL, fzOb, fzObL, fzH, fzHF, fzB, fzObB, fzObH, inL, rowOb, geth, cond_true, cond_false, Bool.or_false, Bool.or_true, Bool.false_or, Bool.true_or, and_self, true_and, and_true, Nat.reduceEqDiff, Nat.reduceBEq, beq_self_eq_true, sub_enR0, Nat.reduceAdd, Nat.zero_add, Nat.le_refl, List.nil_append]
        try (and_intros <;> first | trivial | omega | exact nfc)
      · simp only [List.length_cons, List.length_nil, Nat.zero_mul, Nat.add_zero, fzV, fzL, fzOb, fzObL, fzH, fzHF, fzB, fzObB, fzObH, inL, rowOb, geth, cond_true, cond_false, Bool.or_false, Bool.or_true, Bool.false_or, Bool.true_or, and_self, true_and, and_true, Nat.reduceEqDiff, Nat.reduceBEq, beq_self_eq_true, sub_enR0, Nat.reduceAdd, Nat.zero_add, Nat.le_refl, List.nil_append]
        exact Cv_tup (CvL_cons (by simp [Cv, CvL, getM, gt_some]) (CvL_cons (by simp [Cv, CvL, getM, gt_some]) (CvL_cons (by simp [Cv, CvL, getM, gt_some]) CvL_nil)))
      · simp only [List.length_cons, List.length_nil, Nat.zero_mul, Nat.add_zero, fzV, fzL, fzOb, fzObL, fzH, fzHF, fzB, fzObB, fzObH, inL, rowOb, geth, cond_true, cond_false, Bool.or_false, Bool.or_true, Bool.false_or, Bool.true_or, and_self, true_and, and_true, Nat.reduceEqDiff, Nat.reduceBEq, beq_self_eq_true, sub_enR0, Nat.reduceAdd, Nat.zero_add, Nat.le_refl, List.nil_append, CvH, gt_some, Option.isSome_some, Option.isSome_none]
        first | exact ⟨CvB_none, CvB_none, CvB_none⟩ | trivial
    replace H := cond_f hc H
    refine rg ctNo_ok ?_
    simp only [go_sem, Nat.reduceLeDiff, Nat.reduceLT, Nat.reduceAdd, Nat.reduceMul, Nat.reduceSub, Nat.reduceEqDiff, Nat.reduceBEq, Int.reduceToNat, reduceCtorEq]
    refine sq ctNo_ok ?_
    simp only [go_sem, Nat.reduceLeDiff, Nat.reduceLT, Nat.reduceAdd, Nat.reduceMul, Nat.reduceSub, Nat.reduceEqDiff, Nat.reduceBEq, Int.reduceToNat, reduceCtorEq]
    repeat ((with_reducible refine And.intro ?_ ?_); focus (first | (with_reducible trivial) | omega | grind))
    refine sq ctNo_ok ?_
    simp only [go_sem, Nat.reduceLeDiff, Nat.reduceLT, Nat.reduceAdd, Nat.reduceMul, Nat.reduceSub, Nat.reduceEqDiff, Nat.reduceBEq, Int.reduceToNat, reduceCtorEq]
    repeat ((with_reducible refine And.intro ?_ ?_); focus (first | (with_reducible trivial) | omega | grind))
    refine sq ctNo_ok ?_
    simp only [go_sem, Nat.reduceLeDiff, Nat.reduceLT, Nat.reduceAdd, Nat.reduceMul, Nat.reduceSub, Nat.reduceEqDiff, Nat.reduceBEq, Int.reduceToNat, reduceCtorEq]
    repeat ((with_reducible refine And.intro ?_ ?_); focus (first | (with_reducible trivial) | omega | grind))
    refine sq ctNo_ok ?_
    simp only [go_sem, Nat.reduceLeDiff, Nat.reduceLT, Nat.reduceAdd, Nat.reduceMul, Nat.reduceSub, Nat.reduceEqDiff, Nat.reduceBEq, Int.reduceToNat, reduceCtorEq]
    refine seqM ?_
    refine sq ctNo_ok ?_
    simp only [go_sem, Nat.reduceLeDiff, Nat.reduceLT, Nat.reduceAdd, Nat.reduceMul, Nat.reduceSub, Nat.reduceEqDiff, Nat.reduceBEq, Int.reduceToNat, reduceCtorEq]
    refine blkM ?_
    refine loop_den (fun s : (List A6u8) × Int × (List TTree) => (.top :: .int .i64 p1 :: .ptr 0 0 0 0 :: .top :: .ptr 1 0 0 0 :: .top :: .top :: .ptr 2 0 0 0 :: .sl 3 6 0 s.1.length false :: .int .i64 s.2.1 :: .top :: .top :: .top :: .top :: .top :: .top :: .top :: .top :: .top :: .top :: .top :: .top :: .top :: .top :: .top :: .top :: .top :: .top :: .top :: .top :: .top :: .top :: .top :: .top :: .top :: .top :: .top :: .top :: .top :: .top :: .top :: .top :: .top :: .top :: .top :: .top :: .top :: .top :: .top :: .top :: .top :: .top :: .top :: .top :: .top :: .top :: .top :: .top :: .top :: .top :: .top :: .top :: .top :: .top :: .top :: .top :: .top :: .top :: .top :: .top :: .top :: .top :: .top :: .top :: .top :: .top :: .top :: .top :: .top :: .top :: .top :: .top :: .top :: [])) (fun s => [.lit 41 [.int .u8 p0.Own.x0, .int .u8 p0.Own.x1, .int .u8 p0.Own.x2, .int .u8 p0.Own.x3, .int .u8 p0.Own.x4, .int .u8 p0.Own.x5, .bool p0.Root, .bool p0.Gate, .int .i64 p0.Seq, .ro 17 p0.Trees.length false (enR c_TTree p0.Trees), .ro 13 p0.Proxies.length false (enR c_TProxied p0.Proxies)], .lit 41 [.int .u8 0, .int .u8 0, .int .u8 0, .int .u8 0, .int .u8 0, .int .u8 0, .bool false, .bool false, .int .i64 0, .ro 0 0 true (fun _ _ => .top), .ro 0 0 true (fun _ _ => .top)], .lit 41 [.int .u8 p0.Own.x0, .int .u8 p0.Own.x1, .int .u8 p0.Own.x2, .int .u8 p0.Own.x3, .int .u8 p0.Own.x4, .int .u8 p0.Own.x5, .bool p0.Root, .bool p0.Gate, .int .i64 p0.Seq, .sl 4 17 0 s.2.2.length false, .ro 0 0 true (fun _ _ => .top)], .row 23 6 s.1.length (enR c_A6u8 s.1), .row 62 17 s.2.2.length (enR c_TTree s.2.2)]) (fun e : (List A6u8) × (List TTree) => (.top :: .int .i64 p1 :: .ptr 0 0 0 0 :: .top :: .ptr 1 0 0 0 :: .top :: .top :: .ptr 2 0 0 0 :: .sl 3 6 0 e.1.length false :: .top :: .top :: .top :: .top :: .top :: .top :: .top :: .top :: .top :: .top :: .top :: .top :: .top :: .top :: .top :: .top :: .top :: .top :: .top :: .top :: .top :: .top :: .top :: .top :: .top :: .top :: .top :: .top :: .top :: .top :: .top :: .top :: .top :: .top :: .top :: .top :: .top :: .top :: .top :: .top :: .top :: .top :: .top :: .top :: .top :: .top :: .top :: .top :: .top :: .top :: .top :: .top :: .top :: .top :: .top :: .top :: .top :: .top :: .top :: .top :: .top :: .top :: .top :: .top :: .top :: .top :: .top :: .top :: .top :: .top :: .top :: .top :: .top :: .top :: [])) (fun e => [.lit 41 [.int .u8 p0.Own.x0, .int .u8 p0.Own.x1, .int .u8 p0.Own.x2, .int .u8 p0.Own.x3, .int .u8 p0.Own.x4, .int .u8 p0.Own.x5, .bool p0.Root, .bool p0.Gate, .int .i64 p0.Seq, .ro 17 p0.Trees.length false (enR c_TTree p0.Trees), .ro 13 p0.Proxies.length false (enR c_TProxied p0.Proxies)], .lit 41 [.int .u8 0, .int .u8 0, .int .u8 0, .int .u8 0, .int .u8 0, .int .u8 0, .bool false, .bool false, .int .i64 0, .ro 0 0 true (fun _ _ => .top), .ro 0 0 true (fun _ _ => .top)], .lit 41 [.int .u8 p0.Own.x0, .int .u8 p0.Own.x1, .int .u8 p0.Own.x2, .int .u8 p0.Own.x3, .int .u8 p0.Own.x4, .int .u8 p0.Own.x5, .bool p0.Root, .bool p0.Gate, .int .i64 p0.Seq, .sl 4 17 0 e.2.length false, .ro 0 0 true (fun _ _ => .top)], .row 23 6 e.1.length (enR c_A6u8 e.1), .row 62 17 e.2.length (enR c_TTree e.2)]) H ?_ (fun s o H hn1_1 hn2_1 => ?_) (fun e H => ?_)
    · refine SubF_of ⟨[some 0, some 1, some 2, none, none], ?_, ?_, by rfl, by rfl⟩
      · simp [CvL, Cv, getM]
      · exact ⟨(by simp [CvB, CvL, Cv, blkAt, geth, getM]), (by simp [CvB, CvL, Cv, blkAt, geth, getM]), (by simp [CvB, CvL, Cv, blkAt, geth, getM]), CvB_none, CvB_none, trivial⟩
    · obtain ⟨v1_1, v1_2, v1_3⟩ := s
      unfold F23_L1 at H
      try dsimp only at H ⊢
      refine seqM ?_
      refine sq ctNo_ok ?_
      simp only [go_sem, Nat.reduceLeDiff, Nat.reduceLT, Nat.reduceAdd, Nat.reduceMul, Nat.reduceSub, Nat.reduceEqDiff, Nat.reduceBEq, Int.reduceToNat, reduceCtorEq]
      repeat ((with_reducible refine And.intro ?_ ?_); focus (first | (with_reducible trivial) | omega | (and_intros <;> first | (with_reducible trivial) | omega | assumption | exact nfc | first | exact rfl | exact trivial | exact fitI | exact Or.inr rfl | exact Or.inl rfl | exact fun x hx => absurd hx (by omega) | (intro x hx; (repeat (first | (and_intros <;> (first | exact rfl | exact trivial | exact fitI | exact Or.inr rfl | exact Or.inl rfl | exact fun x hx => absurd hx (by omega))) | (exfalso; omega) | (rcases x with _ | x))); done)) | grind))
      refine condM' rfl trivial (fun hc => ?_) (fun hc => ?_)
      · replace H := cond_f hc H
        refine rg ctNo_ok ?_
        simp only [go_sem, Nat.reduceLeDiff, Nat.reduceLT, Nat.reduceAdd, Nat.reduceMul, Nat.reduceSub, Nat.reduceEqDiff, Nat.reduceBEq, Int.reduceToNat, reduceCtorEq]
        refine ⟨_, (Option.some.inj H).symm, ?_⟩
        refine SubF_of ⟨[some 0, some 1, some 2, some 3, some 4], ?_, ?_, by rfl, by rfl⟩
        · simp [CvL, Cv, getM]
        · exact ⟨(by simp [CvB, CvL, Cv, blkAt, geth, getM]), (by simp [CvB, CvL, Cv, blkAt, geth, getM]), (by simp [CvB, CvL, Cv, blkAt, geth, getM]), CvB_row nr_A6u8 (by first | rfl | simp) (fun _ _ _ _ => rfl), CvB_row nr_TTree (by first | rfl | simp) (fun _ _ _ _ => rfl), trivial⟩
      replace H := cond_t hc H
      refine rg ctNo_ok ?_
      simp only [go_sem, Nat.reduceLeDiff, Nat.reduceLT, Nat.reduceAdd, Nat.reduceMul, Nat.reduceSub, Nat.reduceEqDiff, Nat.reduceBEq, Int.reduceToNat, reduceCtorEq]
      refine seqM ?_
      refine blkM ?_
      refine seqM ?_
      obtain ⟨f5, H⟩ := need_some.1 H
      replace f5 := inb_iff.1 f5
      refine rg ctNo_ok ?_
      simp only [go_sem, Nat.reduceLeDiff, Nat.reduceLT, Nat.reduceAdd, Nat.reduceMul, Nat.reduceSub, Nat.reduceEqDiff, Nat.reduceBEq, Int.reduceToNat, reduceCtorEq, f5]
      repeat ((with_reducible refine And.intro ?_ ?_); focus (first | (with_reducible trivial) | omega | grind))
      refine condM rfl trivial (fun hc => ?_) (fun hc => ?_)
      · replace H := cond_t hc H
        obtain ⟨f6, H⟩ := need_some.1 H
        replace f6 := inb_iff.1 f6
        obtain ⟨f7, H⟩ := need_some.1 H
        replace f7 := capb_iff.1 f7
        refine rg ctNo_ok ?_
        simp only [go_sem, Nat.reduceLeDiff, Nat.reduceLT, Nat.reduceAdd, Nat.reduceMul, Nat.reduceSub, Nat.reduceEqDiff, Nat.reduceBEq, Int.reduceToNat, reduceCtorEq, f6, f7]
        repeat ((with_reducible refine And.intro ?_ ?_); focus (first | (with_reducible trivial) | omega | (and_intros <;> first | (with_reducible trivial) | omega | assumption | exact nfc | first | exact rfl | exact trivial | exact fitI | exact Or.inr rfl | exact Or.inl rfl | exact fun x hx => absurd hx (by omega) | (intro x hx; (repeat (first | (and_intros <;> (first | exact rfl | exact trivial | exact fitI | exact Or.inr rfl | exact Or.inl rfl | exact fun x hx => absurd hx (by omega))) | (exfalso; omega) | (rcases x with _ | x))); done) | (refine Fit_app ?_ ?_ <;> first | exact fitI | (intro x hx; (repeat (first | (and_intros <;> (first | exact rfl | exact trivial | exact fitI | exact Or.inr rfl | exact Or.inl rfl | exact fun x hx => absurd hx (by omega))) | (exfalso; omega) | (rcases x with _ | x))); done) | (refine Fit_app ?_ ?_ <;> first | exact fitI | (intro x hx; (repeat (first | (and_intros <;> (first | exact rfl | exact trivial | exact fitI | exact Or.inr rfl | exact Or.inl rfl | exact fun x hx => absurd hx (by omega))) | (exfalso; omega) | (rcases x with _ | x))); done)))) | grind))
        refine rg ctNo_ok ?_
        simp only [go_sem, Nat.reduceLeDiff, Nat.reduceLT, Nat.reduceAdd, Nat.reduceMul, Nat.reduceSub, Nat.reduceEqDiff, Nat.reduceBEq, Int.reduceToNat, reduceCtorEq]
        refine ⟨_, (Option.some.inj H).symm, ?_⟩
        refine SubF_of ⟨[some 0, some 1, some 2, some 6, some 4], ?_, ?_, by rfl, by rfl⟩
        · simp [CvL, Cv, getM]
        · exact ⟨(by simp [CvB, CvL, Cv, blkAt, geth, getM]), (by simp [CvB, CvL, Cv, blkAt, geth, getM]), (by simp [CvB, CvL, Cv, blkAt, geth, getM]), CvB_row nr_A6u8 (by first | rfl | simp) (app_row (f := c_A6u8) v1_1 [((gd p0.Trees v1_2.toNat).Root)] (fun _ _ _ _ => rfl) (lit_row (f := c_A6u8) [((gd p0.Trees v1_2.toNat).Root)] (fun _ _ => rfl) rfl)), CvB_row nr_TTree (by first | rfl | simp) (fun _ _ _ _ => rfl), trivial⟩
      replace H := cond_f hc H
      obtain ⟨f8, H⟩ := need_some.1 H
      replace f8 := inb_iff.1 f8
      obtain ⟨f9, H⟩ := need_some.1 H
      replace f9 := capb_iff.1 f9
      refine draw_rule shT_ok ctNo_ok 2 (by kernel_rfl) (by kernel_rfl) ?_
      intro an han
      simp only [d_nil, d_cons, nxtD, xrD, xoD, roEq, minL, List.append_nil, refsOp, refs, refsL, mask, maskF, place, placeF, okLog, pairOk, hit, inL, slotsF, ren, renL, rnN, nrH, nrB, nrL, nr, dead0, deadS, List.replicate_zero, List.replicate_succ, Nat.sub_self, Nat.add_zero, Nat.zero_add, Nat.reduceSub, Nat.not_lt_zero, Nat.zero_le, Nat.lt_add_one, go_sem, Nat.reduceLeDiff, Nat.reduceLT, Nat.reduceAdd, Nat.reduceMul, Nat.reduceSub, Nat.reduceEqDiff, Nat.reduceBEq, Int.reduceToNat, reduceCtorEq, f8, f9]
      repeat ((with_reducible refine And.intro ?_ ?_); focus (and_intros <;> first | (with_reducible trivial) | (show anB _ _ _ = true; subst han; kernel_rfl) | (show (anB _ _ _ && _) = true; subst han; kernel_rfl) | omega | assumption | exact nrc | exact nfc | first | exact rfl | exact trivial | exact fitI | exact Or.inr rfl | exact Or.inl rfl | exact fun x hx => absurd hx (by omega) | (intro x hx; (repeat (first | (and_intros <;> (first | exact rfl | exact trivial | exact fitI | exact Or.inr rfl | exact Or.inl rfl | exact fun x hx => absurd hx (by omega))) | (exfalso; omega) | (rcases x with _ | x))); done) | (refine Fit_app ?_ ?_ <;> first | exact fitI | (intro x hx; (repeat (first | (and_intros <;> (first | exact rfl | exact trivial | exact fitI | exact Or.inr rfl | exact Or.inl rfl | exact fun x hx => absurd hx (by omega))) | (exfalso; omega) | (rcases x with _ | x))); done) | (refine Fit_app ?_ ?_ <;> first | exact fitI | (intro x hx; (repeat (first | (and_intros <;> (first | exact rfl | exact trivial | exact fitI | exact Or.inr rfl | exact Or.inl rfl | exact fun x hx => absurd hx (by omega))) | (exfalso; omega) | (rcases x with _ | x))); done)))))
      refine rg ctNo_ok ?_
      simp only [go_sem, Nat.reduceLeDiff, Nat.reduceLT, Nat.reduceAdd, Nat.reduceMul, Nat.reduceSub, Nat.reduceEqDiff, Nat.reduceBEq, Int.reduceToNat, reduceCtorEq]
      refine ⟨_, (Option.some.inj H).symm, ?_⟩
      refine SubF_of ⟨[some 0, some 1, some 2, some 3, some 6], ?_, ?_, by rfl, by rfl⟩
      · simp [CvL, Cv, getM]
      · exact ⟨(by simp [CvB, CvL, Cv, blkAt, geth, getM]), (by simp [CvB, CvL, Cv, blkAt, geth, getM]), (by simp [CvB, CvL, Cv, blkAt, geth, getM]), CvB_row nr_A6u8 (by first | rfl | simp) (fun _ _ _ _ => rfl), CvB_row nr_TTree (by first | rfl | simp) (app_row (f := c_TTree) v1_3 [(TTree.mk (A6u8.mk (((gd p0.Trees v1_2.toNat).Root).x0) (((gd p0.Trees v1_2.toNat).Root).x1) (((gd p0.Trees v1_2.toNat).Root).x2) (((gd p0.Trees v1_2.toNat).Root).x3) (((gd p0.Trees v1_2.toNat).Root).x4) (((gd p0.Trees v1_2.toNat).Root).x5)) (A6u8.mk (((gd p0.Trees v1_2.toNat).Parent).x0) (((gd p0.Trees v1_2.toNat).Parent).x1) (((gd p0.Trees v1_2.toNat).Parent).x2) (((gd p0.Trees v1_2.toNat).Parent).x3) (((gd p0.Trees v1_2.toNat).Parent).x4) (((gd p0.Trees v1_2.toNat).Parent).x5)) ((gd p0.Trees v1_2.toNat).Seq) ((gd p0.Trees v1_2.toNat).Hops) ((gd p0.Trees v1_2.toNat).Cost) ((gd p0.Trees v1_2.toNat).Gate) ((gd p0.Trees v1_2.toNat).Until))] (fun _ _ _ _ => rfl) (lit_row (f := c_TTree) [(TTree.mk (A6u8.mk (((gd p0.Trees v1_2.toNat).Root).x0) (((gd p0.Trees v1_2.toNat).Root).x1) (((gd p0.Trees v1_2.toNat).Root).x2) (((gd p0.Trees v1_2.toNat).Root).x3) (((gd p0.Trees v1_2.toNat).Root).x4) (((gd p0.Trees v1_2.toNat).Root).x5)) (A6u8.mk (((gd p0.Trees v1_2.toNat).Parent).x0) (((gd p0.Trees v1_2.toNat).Parent).x1) (((gd p0.Trees v1_2.toNat).Parent).x2) (((gd p0.Trees v1_2.toNat).Parent).x3) (((gd p0.Trees v1_2.toNat).Parent).x4) (((gd p0.Trees v1_2.toNat).Parent).x5)) ((gd p0.Trees v1_2.toNat).Seq) ((gd p0.Trees v1_2.toNat).Hops) ((gd p0.Trees v1_2.toNat).Cost) ((gd p0.Trees v1_2.toNat).Gate) ((gd p0.Trees v1_2.toNat).Until))] (fun _ _ => rfl) rfl)), trivial⟩
    · obtain ⟨w1_4, w1_5⟩ := e
      try dsimp only at H ⊢
      try simp only [m_normal, k_normal, b_normal, kL_normal, r_normal]
      refine seqM ?_
      refine sq ctNo_ok ?_
      simp only [go_sem, Nat.reduceLeDiff, Nat.reduceLT, Nat.reduceAdd, Nat.reduceMul, Nat.reduceSub, Nat.reduceEqDiff, Nat.reduceBEq, Int.reduceToNat, reduceCtorEq]
      refine blkM ?_
      refine loop_den (fun s : Int × (List TProxied) => (.top :: .int .i64 p1 :: .ptr 0 0 0 0 :: .top :: .ptr 1 0 0 0 :: .top :: .top :: .ptr 2 0 0 0 :: .sl 3 6 0 w1_4.length false :: .top :: .int .i64 s.1 :: .top :: .top :: .top :: .top :: .top :: .top :: .top :: .top :: .top :: .top :: .top :: .top :: .top :: .top :: .top :: .top :: .top :: .top :: .top :: .top :: .top :: .top :: .top :: .top :: .top :: .top :: .top :: .top :: .top :: .top :: .top :: .top :: .top :: .top :: .top :: .top :: .top :: .top :: .top :: .top :: .top :: .top :: .top :: .top :: .top :: .top :: .top :: .top :: .top :: .top :: .top :: .top :: .top :: .top :: .top :: .top :: .top :: .top :: .top :: .top :: .top :: .top :: .top :: .top :: .top :: .top :: .top :: .top :: .top :: .top :: .top :: .top :: [])) (fun s => [.lit 41 [.int .u8 p0.Own.x0, .int .u8 p0.Own.x1, .int .u8 p0.Own.x2, .int .u8 p0.Own.x3, .int .u8 p0.Own.x4, .int .u8 p0.Own.x5, .bool p0.Root, .bool p0.Gate, .int .i64 p0.Seq, .ro 17 p0.Trees.length false (enR c_TTree p0.Trees), .ro 13 p0.Proxies.length false (enR c_TProxied p0.Proxies)], .lit 41 [.int .u8 0, .int .u8 0, .int .u8 0, .int .u8 0, .int .u8 0, .int .u8 0, .bool false, .bool false, .int .i64 0, .ro 0 0 true (fun _ _ => .top), .ro 0 0 true (fun _ _ => .top)], .lit 41 [.int .u8 p0.Own.x0, .int .u8 p0.Own.x1, .int .u8 p0.Own.x2, .int .u8 p0.Own.x3, .int .u8 p0.Own.x4, .int .u8 p0.Own.x5, .bool p0.Root, .bool p0.Gate, .int .i64 p0.Seq, .sl 4 17 0 w1_5.length false, .sl 5 13 0 s.2.length false], .row 23 6 w1_4.length (enR c_A6u8 w1_4), .row 62 17 w1_5.length (enR c_TTree w1_5), .row 64 13 s.2.length (enR c_TProxied s.2)]) (fun e : List TProxied => (.top :: .top :: .top :: .top :: .ptr 1 0 0 0 :: .top :: .top :: .ptr 2 0 0 0 :: .sl 3 6 0 w1_4.length false :: .top :: .top :: .top :: .top :: .top :: .top :: .top :: .top :: .top :: .top :: .top :: .top :: .top :: .top :: .top :: .top :: .top :: .top :: .top :: .top :: .top :: .top :: .top :: .top :: .top :: .top :: .top :: .top :: .top :: .top :: .top :: .top :: .top :: .top :: .top :: .top :: .top :: .top :: .top :: .top :: .top :: .top :: .top :: .top :: .top :: .top :: .top :: .top :: .top :: .top :: .top :: .top :: .top :: .top :: .top :: .top :: .top :: .top :: .top :: .top :: .top :: .top :: .top :: .top :: .top :: .top :: .top :: .top :: .top :: .top :: .top :: .top :: .top :: .top :: [])) (fun e => [.dead, .lit 41 [.int .u8 0, .int .u8 0, .int .u8 0, .int .u8 0, .int .u8 0, .int .u8 0, .bool false, .bool false, .int .i64 0, .ro 0 0 true (fun _ _ => .top), .ro 0 0 true (fun _ _ => .top)], .lit 41 [.int .u8 p0.Own.x0, .int .u8 p0.Own.x1, .int .u8 p0.Own.x2, .int .u8 p0.Own.x3, .int .u8 p0.Own.x4, .int .u8 p0.Own.x5, .bool p0.Root, .bool p0.Gate, .int .i64 p0.Seq, .sl 4 17 0 w1_5.length false, .sl 5 13 0 e.length false], .row 23 6 w1_4.length (enR c_A6u8 w1_4), .row 62 17 w1_5.length (enR c_TTree w1_5), .row 64 13 e.length (enR c_TProxied e)]) H ?_ (fun s o H hn1_2 hn2_2 => ?_) (fun w2_5 H => ?_)
      · refine SubF_of ⟨[some 0, some 1, some 2, some 3, some 4, none], ?_, ?_, by rfl, by rfl⟩
        · simp [CvL, Cv, getM]
        · exact ⟨(by simp [CvB, CvL, Cv, blkAt, geth, getM]), (by simp [CvB, CvL, Cv, blkAt, geth, getM]), (by simp [CvB, CvL, Cv, blkAt, geth, getM]), (CvB_same nfA), (CvB_same nfA), CvB_none, trivial⟩
      · obtain ⟨v2_1, v2_2⟩ := s
        unfold F23_L2 at H
        try dsimp only at H ⊢
        refine seqM ?_
        refine sq ctNo_ok ?_
        simp only [go_sem, Nat.reduceLeDiff, Nat.reduceLT, Nat.reduceAdd, Nat.reduceMul, Nat.reduceSub, Nat.reduceEqDiff, Nat.reduceBEq, Int.reduceToNat, reduceCtorEq]
        repeat ((with_reducible refine And.intro ?_ ?_); focus (first | (with_reducible trivial) | omega | (and_intros <;> first | (with_reducible trivial) | omega | assumption | exact nfc | first | exact rfl | exact trivial | exact fitI | exact Or.inr rfl | exact Or.inl rfl | exact fun x hx => absurd hx (by omega) | (intro x hx; (repeat (first | (and_intros <;> (first | exact rfl | exact trivial | exact fitI | exact Or.inr rfl | exact Or.inl rfl | exact fun x hx => absurd hx (by omega))) | (exfalso; omega) | (rcases x with _ | x))); done)) | grind))
        refine condM' rfl trivial (fun hc => ?_) (fun hc => ?_)
        · replace H := cond_f hc H
          refine rg ctNo_ok ?_
          simp only [go_sem, Nat.reduceLeDiff, Nat.reduceLT, Nat.reduceAdd, Nat.reduceMul, Nat.reduceSub, Nat.reduceEqDiff, Nat.reduceBEq, Int.reduceToNat, reduceCtorEq]
          refine ⟨_, (Option.some.inj H).symm, ?_⟩
          refine SubF_of ⟨[some 0, some 1, some 2, some 3, some 4, some 5], ?_, ?_, by rfl, by rfl⟩
          · simp [CvL, Cv, getM]
          · exact ⟨CvB_dead, (by simp [CvB, CvL, Cv, blkAt, geth, getM]), (by simp [CvB, CvL, Cv, blkAt, geth, getM]), (CvB_same nfA), (CvB_same nfA), CvB_row nr_TProxied (by first | rfl | simp) (fun _ _ _ _ => rfl), trivial⟩
        replace H := cond_t hc H
        refine rg ctNo_ok ?_
        simp only [go_sem, Nat.reduceLeDiff, Nat.reduceLT, Nat.reduceAdd, Nat.reduceMul, Nat.reduceSub, Nat.reduceEqDiff, Nat.reduceBEq, Int.reduceToNat, reduceCtorEq]
        refine seqM ?_
        refine blkM ?_
        refine seqM ?_
        obtain ⟨f10, H⟩ := need_some.1 H
        replace f10 := inb_iff.1 f10
        refine rg ctNo_ok ?_
        simp only [go_sem, Nat.reduceLeDiff, Nat.reduceLT, Nat.reduceAdd, Nat.reduceMul, Nat.reduceSub, Nat.reduceEqDiff, Nat.reduceBEq, Int.reduceToNat, reduceCtorEq, f10]
        repeat ((with_reducible refine And.intro ?_ ?_); focus (first | (with_reducible trivial) | omega | grind))
        refine condM' rfl trivial (fun hc => ?_) (fun hc => ?_)
        · replace H := cond_f hc H
          refine rg ctNo_ok ?_
          simp only [go_sem, Nat.reduceLeDiff, Nat.reduceLT, Nat.reduceAdd, Nat.reduceMul, Nat.reduceSub, Nat.reduceEqDiff, Nat.reduceBEq, Int.reduceToNat, reduceCtorEq]
          refine rg ctNo_ok ?_
          simp only [go_sem, Nat.reduceLeDiff, Nat.reduceLT, Nat.reduceAdd, Nat.reduceMul, Nat.reduceSub, Nat.reduceEqDiff, Nat.reduceBEq, Int.reduceToNat, reduceCtorEq]
          refine ⟨_, (Option.some.inj H).symm, ?_⟩
          refine SubF_of ⟨[some 0, some 1, some 2, some 3, some 4, some 5], ?_, ?_, by rfl, by rfl⟩
          · simp [CvL, Cv, getM]
          · exact ⟨(by simp [CvB, CvL, Cv, blkAt, geth, getM]), (by simp [CvB, CvL, Cv, blkAt, geth, getM]), (by simp [CvB, CvL, Cv, blkAt, geth, getM]), (CvB_same nfA), (CvB_same nfA), CvB_row nr_TProxied (by first | rfl | simp) (fun _ _ _ _ => rfl), trivial⟩
        replace H := cond_t hc H
        obtain ⟨f11, H⟩ := need_some.1 H
        replace f11 := inb_iff.1 f11
        obtain ⟨f12, H⟩ := need_some.1 H
        replace f12 := capb_iff.1 f12
        refine draw_rule shT_ok ctNo_ok 2 (by kernel_rfl) (by kernel_rfl) ?_
        intro an han
        simp only [d_nil, d_cons, nxtD, xrD, xoD, roEq, minL, List.append_nil, refsOp, refs, refsL, mask, maskF, place, placeF, okLog, pairOk, hit, inL, slotsF, ren, renL, rnN, nrH, nrB, nrL, nr, dead0, deadS, List.replicate_zero, List.replicate_succ, Nat.sub_self, Nat.add_zero, Nat.zero_add, Nat.reduceSub, Nat.not_lt_zero, Nat.zero_le, Nat.lt_add_one, go_sem, Nat.reduceLeDiff, Nat.reduceLT, Nat.reduceAdd, Nat.reduceMul, Nat.reduceSub, Nat.reduceEqDiff, Nat.reduceBEq, Int.reduceToNat, reduceCtorEq, f11, f12]
        repeat ((with_reducible refine And.intro ?_ ?_); focus (and_intros <;> first | (with_reducible trivial) | (show anB _ _ _ = true; subst han; kernel_rfl) | (show (anB _ _ _ && _) = true; subst han; kernel_rfl) | omega | assumption | exact nrc | exact nfc | first | exact rfl | exact trivial | exact fitI | exact Or.inr rfl | exact Or.inl rfl | exact fun x hx => absurd hx (by omega) | (intro x hx; (repeat (first | (and_intros <;> (first | exact rfl | exact trivial | exact fitI | exact Or.inr rfl | exact Or.inl rfl | exact fun x hx => absurd hx (by omega))) | (exfalso; omega) | (rcases x with _ | x))); done) | (refine Fit_app ?_ ?_ <;> first | exact fitI | (intro x hx; (repeat (first | (and_intros <;> (first | exact rfl | exact trivial | exact fitI | exact Or.inr rfl | exact Or.inl rfl | exact fun x hx => absurd hx (by omega))) | (exfalso; omega) | (rcases x with _ | x))); done) | (refine Fit_app ?_ ?_ <;> first | exact fitI | (intro x hx; (repeat (first | (and_intros <;> (first | exact rfl | exact trivial | exact fitI | exact Or.inr rfl | exact Or.inl rfl | exact fun x hx => absurd hx (by omega))) | (exfalso; omega) | (rcases x with _ | x))); done)))))
        refine rg ctNo_ok ?_
        simp only [go_sem, Nat.reduceLeDiff, Nat.reduceLT, Nat.reduceAdd, Nat.reduceMul, Nat.reduceSub, Nat.reduceEqDiff, Nat.reduceBEq, Int.reduceToNat, reduceCtorEq]
        refine ⟨_, (Option.some.inj H).symm, ?_⟩
        refine SubF_of ⟨[some 0, some 1, some 2, some 3, some 4, some 7], ?_, ?_, by rfl, by rfl⟩
        · simp [CvL, Cv, getM]
        · exact ⟨(by simp [CvB, CvL, Cv, blkAt, geth, getM]), (by simp [CvB, CvL, Cv, blkAt, geth, getM]), (by simp [CvB, CvL, Cv, blkAt, geth, getM]), (CvB_same nfA), (CvB_same nfA), CvB_row nr_TProxied (by first | rfl | simp) (app_row (f := c_TProxied) v2_2 [(TProxied.mk (A6u8.mk (((gd p0.Proxies v2_1.toNat).Out).x0) (((gd p0.Proxies v2_1.toNat).Out).x1) (((gd p0.Proxies v2_1.toNat).Out).x2) (((gd p0.Proxies v2_1.toNat).Out).x3) (((gd p0.Proxies v2_1.toNat).Out).x4) (((gd p0.Proxies v2_1.toNat).Out).x5)) (A6u8.mk (((gd p0.Proxies v2_1.toNat).Via).x0) (((gd p0.Proxies v2_1.toNat).Via).x1) (((gd p0.Proxies v2_1.toNat).Via).x2) (((gd p0.Proxies v2_1.toNat).Via).x3) (((gd p0.Proxies v2_1.toNat).Via).x4) (((gd p0.Proxies v2_1.toNat).Via).x5)) ((gd p0.Proxies v2_1.toNat).Until))] (fun _ _ _ _ => rfl) (lit_row (f := c_TProxied) [(TProxied.mk (A6u8.mk (((gd p0.Proxies v2_1.toNat).Out).x0) (((gd p0.Proxies v2_1.toNat).Out).x1) (((gd p0.Proxies v2_1.toNat).Out).x2) (((gd p0.Proxies v2_1.toNat).Out).x3) (((gd p0.Proxies v2_1.toNat).Out).x4) (((gd p0.Proxies v2_1.toNat).Out).x5)) (A6u8.mk (((gd p0.Proxies v2_1.toNat).Via).x0) (((gd p0.Proxies v2_1.toNat).Via).x1) (((gd p0.Proxies v2_1.toNat).Via).x2) (((gd p0.Proxies v2_1.toNat).Via).x3) (((gd p0.Proxies v2_1.toNat).Via).x4) (((gd p0.Proxies v2_1.toNat).Via).x5)) ((gd p0.Proxies v2_1.toNat).Until))] (fun _ _ => rfl) rfl)), trivial⟩
      · try dsimp only at H ⊢
        try simp only [m_normal, k_normal, b_normal, kL_normal, r_normal]
        refine sq ctNo_ok ?_
        simp only [go_sem, Nat.reduceLeDiff, Nat.reduceLT, Nat.reduceAdd, Nat.reduceMul, Nat.reduceSub, Nat.reduceEqDiff, Nat.reduceBEq, Int.reduceToNat, reduceCtorEq]
        repeat ((with_reducible refine And.intro ?_ ?_); focus (first | (with_reducible trivial) | omega | grind))
        refine rg ctNo_ok ?_
        simp only [go_sem, Nat.reduceLeDiff, Nat.reduceLT, Nat.reduceAdd, Nat.reduceMul, Nat.reduceSub, Nat.reduceEqDiff, Nat.reduceBEq, Int.reduceToNat, reduceCtorEq]
        obtain rfl := Option.some.inj H
        refine RetE_mk [] [some 4, some 5, some 3] ?_ ?_ ?_ ?_ (by rfl) (by rfl)
        · simp only [List.length_cons, List.length_nil, Nat.zero_mul, Nat.add_zero, fzV, fzL, fzOb, fzObL, fzH, fzHF, fzB, fzObB, fzObH, inL, rowOb, geth, cond_true, cond_false, Bool.or_false, Bool.or_true, Bool.false_or, Bool.true_or, and_self, true_and, and_true, Nat.reduceEqDiff, Nat.reduceBEq, beq_self_eq_true, sub_enR0, Nat.reduceAdd, Nat.zero_add, Nat.le_refl, List.nil_append]
          try (and_intros <;> first | trivial | omega | exact nfc)
        · simp only [List.length_cons, List.length_nil, Nat.zero_mul, Nat.add_zero, fzV, fzL, fzOb, fzObL, fzH, fzHF, fzB, fzObB, fzObH, inL, rowOb, geth, cond_true, cond_false, Bool.or_false, Bool.or_true, Bool.false_or, Bool.true_or, and_self, true_and, and_true, Nat.reduceEqDiff, Nat.reduceBEq, beq_self_eq_true, sub_enR0, Nat.reduceAdd, Nat.zero_add, Nat.le_refl, List.nil_append]
          try (and_intros <;> first | trivial | omega | exact nfc)
        · simp only [List.length_cons, List.length_nil, Nat.zero_mul, Nat.add_zero, fzV, fzL, fzOb, fzObL, fzH, fzHF, fzB, fzObB, fzObH, inL, rowOb, geth, cond_true, cond_false, Bool.or_false, Bool.or_true, Bool.false_or, Bool.true_or, and_self, true_and, and_true, Nat.reduceEqDiff, Nat.reduceBEq, beq_self_eq_true, sub_enR0, Nat.reduceAdd, Nat.zero_add, Nat.le_refl, List.nil_append]
          exact Cv_tup (CvL_cons (by simp [Cv, CvL, getM, gt_some]) (CvL_cons (by simp [Cv, CvL, getM, gt_some]) (CvL_cons (by simp [Cv, CvL, getM, gt_some]) CvL_nil)))
        · simp only [List.length_cons, List.length_nil, Nat.zero_mul, Nat.add_zero, fzV, fzL, fzOb, fzObL, fzH, fzHF, fzB, fzObB, fzObH, inL, rowOb, geth, cond_true, cond_false, Bool.or_false, Bool.or_true, Bool.false_or, Bool.true_or, and_self, true_and, and_true, Nat.reduceEqDiff, Nat.reduceBEq, beq_self_eq_true, sub_enR0, Nat.reduceAdd, Nat.zero_add, Nat.le_refl, List.nil_append, CvH, gt_some, Option.isSome_some, Option.isSome_none]
          first | exact ⟨CvB_row nr_TTree (by first | rfl | simp) (fun _ _ _ _ => rfl), CvB_row nr_TProxied (by first | rfl | simp) (fun _ _ _ _ => rfl), CvB_row nr_A6u8 (by first | rfl | simp) (fun _ _ _ _ => rfl)⟩ | trivial
  · cases hb
/-! hotspot/hotspotref40.Same -/
noncomputable def F24_L1 (p0 : TRoots) (p1 : TRoots) (v1_1 : Int) : Option (Lp (Int) ((Unit) ⊕ (Bool))) :=
  bif (bLt v1_1 (p0.Trees.length : Nat)) then (need (inb v1_1 p0.Trees.length) <| need (inb v1_1 p1.Trees.length) <| bif (!(bEq (((gd p0.Trees v1_1.toNat).Root).x0) (((gd p1.Trees v1_1.toNat).Root).x0) && (bEq (((gd p0.Trees v1_1.toNat).Root).x1) (((gd p1.Trees v1_1.toNat).Root).x1) && (bEq (((gd p0.Trees v1_1.toNat).Root).x2) (((gd p1.Trees v1_1.toNat).Root).x2) && (bEq (((gd p0.Trees v1_1.toNat).Root).x3) (((gd p1.Trees v1_1.toNat).Root).x3) && (bEq (((gd p0.Trees v1_1.toNat).Root).x4) (((gd p1.Trees v1_1.toNat).Root).x4) && (bEq (((gd p0.Trees v1_1.toNat).Root).x5) (((gd p1.Trees v1_1.toNat).Root).x5) && (bEq (((gd p0.Trees v1_1.toNat).Parent).x0) (((gd p1.Trees v1_1.toNat).Parent).x0) && (bEq (((gd p0.Trees v1_1.toNat).Parent).x1) (((gd p1.Trees v1_1.toNat).Parent).x1) && (bEq (((gd p0.Trees v1_1.toNat).Parent).x2) (((gd p1.Trees v1_1.toNat).Parent).x2) && (bEq (((gd p0.Trees v1_1.toNat).Parent).x3) (((gd p1.Trees v1_1.toNat).Parent).x3) && (bEq (((gd p0.Trees v1_1.toNat).Parent).x4) (((gd p1.Trees v1_1.toNat).Parent).x4) && (bEq (((gd p0.Trees v1_1.toNat).Parent).x5) (((gd p1.Trees v1_1.toNat).Parent).x5) && (bEq ((gd p0.Trees v1_1.toNat).Seq) ((gd p1.Trees v1_1.toNat).Seq) && (bEq ((gd p0.Trees v1_1.toNat).Hops) ((gd p1.Trees v1_1.toNat).Hops) && (bEq ((gd p0.Trees v1_1.toNat).Cost) ((gd p1.Trees v1_1.toNat).Cost) && (bB ((gd p0.Trees v1_1.toNat).Gate) ((gd p1.Trees v1_1.toNat).Gate) && (bEq ((gd p0.Trees v1_1.toNat).Until) ((gd p1.Trees v1_1.toNat).Until))))))))))))))))))) then (some (.done (.inr false))) else (some (.next (wr .i64 (v1_1 + 1))))) else (some (.done (.inl ())))
noncomputable def F24_L2 (p0 : TRoots) (p1 : TRoots) (v2_1 : Int) : Option (Lp (Int) ((Unit) ⊕ (Bool))) :=
  bif (bLt v2_1 (p0.Proxies.length : Nat)) then (need (inb v2_1 p0.Proxies.length) <| need (inb v2_1 p1.Proxies.length) <| bif (!(bEq (((gd p0.Proxies v2_1.toNat).Out).x0) (((gd p1.Proxies v2_1.toNat).Out).x0) && (bEq (((gd p0.Proxies v2_1.toNat).Out).x1) (((gd p1.Proxies v2_1.toNat).Out).x1) && (bEq (((gd p0.Proxies v2_1.toNat).Out).x2) (((gd p1.Proxies v2_1.toNat).Out).x2) && (bEq (((gd p0.Proxies v2_1.toNat).Out).x3) (((gd p1.Proxies v2_1.toNat).Out).x3) && (bEq (((gd p0.Proxies v2_1.toNat).Out).x4) (((gd p1.Proxies v2_1.toNat).Out).x4) && (bEq (((gd p0.Proxies v2_1.toNat).Out).x5) (((gd p1.Proxies v2_1.toNat).Out).x5) && (bEq (((gd p0.Proxies v2_1.toNat).Via).x0) (((gd p1.Proxies v2_1.toNat).Via).x0) && (bEq (((gd p0.Proxies v2_1.toNat).Via).x1) (((gd p1.Proxies v2_1.toNat).Via).x1) && (bEq (((gd p0.Proxies v2_1.toNat).Via).x2) (((gd p1.Proxies v2_1.toNat).Via).x2) && (bEq (((gd p0.Proxies v2_1.toNat).Via).x3) (((gd p1.Proxies v2_1.toNat).Via).x3) && (bEq (((gd p0.Proxies v2_1.toNat).Via).x4) (((gd p1.Proxies v2_1.toNat).Via).x4) && (bEq (((gd p0.Proxies v2_1.toNat).Via).x5) (((gd p1.Proxies v2_1.toNat).Via).x5) && (bEq ((gd p0.Proxies v2_1.toNat).Until) ((gd p1.Proxies v2_1.toNat).Until))))))))))))))) then (some (.done (.inr false))) else (some (.next (wr .i64 (v2_1 + 1))))) else (some (.done (.inl ())))
noncomputable def F24 (p0 : TRoots) (p1 : TRoots) : Option (Bool) :=
  bif ((((((!(bEq p0.Own.x0 p1.Own.x0 && (bEq p0.Own.x1 p1.Own.x1 && (bEq p0.Own.x2 p1.Own.x2 && (bEq p0.Own.x3 p1.Own.x3 && (bEq p0.Own.x4 p1.Own.x4 && (bEq p0.Own.x5 p1.Own.x5))))))) || (!bB p0.Root p1.Root)) || (!bB p0.Gate p1.Gate)) || (!bEq p0.Seq p1.Seq)) || (!bEq (p0.Trees.length : Nat) (p1.Trees.length : Nat))) || (!bEq (p0.Proxies.length : Nat) (p1.Proxies.length : Nat))) then (some false) else (lp (loopD (fun s => F24_L1 p0 p1 s) 0) (fun e => lp (loopD (fun s => F24_L2 p0 p1 s) 0) (fun e => some true) some) some)
noncomputable def body24 : List AV → AR
  | [v0, v1] => .pure (aK 11 k_TRoots v0 ∧ aK 11 k_TRoots v1 ∧ (F24 (g_TRoots (aL v0)) (g_TRoots (aL v1))).isSome = true) (.bool (gt (F24 (g_TRoots (aL v0)) (g_TRoots (aL v1)))))
  | _ => .fail
set_option maxHeartbeats 4000000 in
set_option maxRecDepth 20000 in
theorem ok24 : FnOk Try.prog 24 (pureC body24) := by
  refine pure_fnM body24 (rs := [.tmp 4]) Try.func24 (by kernel_rfl) rfl rfl ?_
  intro l ob v hb hob
  unfold body24 at hb
  split at hb
  · rename_i v0 v1
    injection hb with q1 q2; subst q1 q2
    obtain ⟨hk0_0, hk1_0, hob⟩ := hob
    obtain ⟨r, H⟩ := Option.isSome_iff_exists.1 hob
    rw [H, gt_some]
    have hw0 := wA_TRoots hk0_0
    have hw1 := wA_TRoots hk1_0
    generalize g_TRoots (aL v0) = p0 at H hw0
    generalize g_TRoots (aL v1) = p1 at H hw1
    refine ⟨[.agg [.int .u8 p0.Own.x0, .int .u8 p0.Own.x1, .int .u8 p0.Own.x2, .int .u8 p0.Own.x3, .int .u8 p0.Own.x4, .int .u8 p0.Own.x5, .bool p0.Root, .bool p0.Gate, .int .i64 p0.Seq, .ro 17 p0.Trees.length false (enR c_TTree p0.Trees), .ro 13 p0.Proxies.length false (enR c_TProxied p0.Proxies)], .agg [.int .u8 p1.Own.x0, .int .u8 p1.Own.x1, .int .u8 p1.Own.x2, .int .u8 p1.Own.x3, .int .u8 p1.Own.x4, .int .u8 p1.Own.x5, .bool p1.Root, .bool p1.Gate, .int .i64 p1.Seq, .ro 17 p1.Trees.length false (enR c_TTree p1.Trees), .ro 13 p1.Proxies.length false (enR c_TProxied p1.Proxies)]], _, (fun E vs F => FR_wk1 hw0.1 F (fun vs F => FR_wk1 hw1.1 F (fun vs F => F))), rfl, rfl, ?_⟩
    rw [Try.ntmps24]
    simp only [List.length_cons, List.length_nil, Nat.reduceAdd, Nat.reduceSub, List.replicate_succ, List.replicate_zero, List.cons_append, List.nil_append]
    unfold F24 at H
    try dsimp only at H
    refine sq ctNo_ok ?_
    simp only [go_sem, Nat.reduceLeDiff, Nat.reduceLT, Nat.reduceAdd, Nat.reduceMul, Nat.reduceSub, Nat.reduceEqDiff, Nat.reduceBEq, Int.reduceToNat, reduceCtorEq]
    refine seqM ?_
    refine sq ctNo_ok ?_
    simp only [go_sem, Nat.reduceLeDiff, Nat.reduceLT, Nat.reduceAdd, Nat.reduceMul, Nat.reduceSub, Nat.reduceEqDiff, Nat.reduceBEq, Int.reduceToNat, reduceCtorEq]
    repeat ((with_reducible refine And.intro ?_ ?_); focus (first | (with_reducible trivial) | omega | (intro g; and_intros <;> first | (with_reducible trivial) | assumption | exact nfc | (intro g2; rw [g, g2]; rfl) | (intro g2; assumption) | (simp only [g, Bool.true_and, Bool.and_true, Bool.not_false, Bool.not_true]; assumption) | grind) | (and_intros <;> first | (with_reducible trivial) | omega | assumption | exact nfc | first | exact rfl | exact trivial | exact fitI | exact Or.inr rfl | exact Or.inl rfl | exact fun x hx => absurd hx (by omega) | (intro x hx; (repeat (first | (and_intros <;> (first | exact rfl | exact trivial | exact fitI | exact Or.inr rfl | exact Or.inl rfl | exact fun x hx => absurd hx (by omega))) | (exfalso; omega) | (rcases x with _ | x))); done)) | grind))
    refine condM rfl trivial (fun hc => ?_) (fun hc => ?_)
    · replace H := cond_t hc H
      refine sq ctNo_ok ?_
      simp only [go_sem, Nat.reduceLeDiff, Nat.reduceLT, Nat.reduceAdd, Nat.reduceMul, Nat.reduceSub, Nat.reduceEqDiff, Nat.reduceBEq, Int.reduceToNat, reduceCtorEq]
      refine rg ctNo_ok ?_
      simp only [go_sem, Nat.reduceLeDiff, Nat.reduceLT, Nat.reduceAdd, Nat.reduceMul, Nat.reduceSub, Nat.reduceEqDiff, Nat.reduceBEq, Int.reduceToNat, reduceCtorEq]
      obtain rfl := Option.some.inj H
      first | rfl | simp only [Bool.and_false, Bool.false_and, Bool.and_true, Bool.true_and]
    replace H := cond_f hc H
    refine rg ctNo_ok ?_
    simp only [go_sem, Nat.reduceLeDiff, Nat.reduceLT, Nat.reduceAdd, Nat.reduceMul, Nat.reduceSub, Nat.reduceEqDiff, Nat.reduceBEq, Int.reduceToNat, reduceCtorEq]
    refine seqM ?_
    refine sq ctNo_ok ?_
    simp only [go_sem, Nat.reduceLeDiff, Nat.reduceLT, Nat.reduceAdd, Nat.reduceMul, Nat.reduceSub, Nat.reduceEqDiff, Nat.reduceBEq, Int.reduceToNat, reduceCtorEq]
    refine blkM ?_
    refine loop_den (fun s : Int => (.top :: .top :: .ptr 0 0 0 0 :: .ptr 1 0 0 0 :: .top :: .int .i64 s :: .top :: .top :: .top :: .top :: .top :: .top :: .top :: .top :: .top :: .top :: .top :: .top :: .top :: .top :: .top :: .top :: .top :: .top :: .top :: .top :: .top :: .top :: .top :: .top :: .top :: .top :: .top :: .top :: .top :: .top :: .top :: .top :: .top :: .top :: .top :: .top :: .top :: .top :: .top :: .top :: .top :: .top :: .top :: .top :: .top :: .top :: .top :: .top :: .top :: .top :: .top :: .top :: .top :: .top :: .top :: .top :: .top :: .top :: .top :: .top :: .top :: .top :: .top :: .top :: .top :: .top :: .top :: .top :: .top :: .top :: .top :: .top :: .top :: .top :: .top :: .top :: .top :: .top :: .top :: .top :: .top :: [])) (fun s => [.lit 41 [.int .u8 p0.Own.x0, .int .u8 p0.Own.x1, .int .u8 p0.Own.x2, .int .u8 p0.Own.x3, .int .u8 p0.Own.x4, .int .u8 p0.Own.x5, .bool p0.Root, .bool p0.Gate, .int .i64 p0.Seq, .ro 17 p0.Trees.length false (enR c_TTree p0.Trees), .ro 13 p0.Proxies.length false (enR c_TProxied p0.Proxies)], .lit 41 [.int .u8 p1.Own.x0, .int .u8 p1.Own.x1, .int .u8 p1.Own.x2, .int .u8 p1.Own.x3, .int .u8 p1.Own.x4, .int .u8 p1.Own.x5, .bool p1.Root, .bool p1.Gate, .int .i64 p1.Seq, .ro 17 p1.Trees.length false (enR c_TTree p1.Trees), .ro 13 p1.Proxies.length false (enR c_TProxied p1.Proxies)]]) (fun e : Unit => (.top :: .top :: .ptr 0 0 0 0 :: .ptr 1 0 0 0 :: .top :: .top :: .top :: .top :: .top :: .top :: .top :: .top :: .top :: .top :: .top :: .top :: .top :: .top :: .top :: .top :: .top :: .top :: .top :: .top :: .top :: .top :: .top :: .top :: .top :: .top :: .top :: .top :: .top :: .top :: .top :: .top :: .top :: .top :: .top :: .top :: .top :: .top :: .top :: .top :: .top :: .top :: .top :: .top :: .top :: .top :: .top :: .top :: .top :: .top :: .top :: .top :: .top :: .top :: .top :: .top :: .top :: .top :: .top :: .top :: .top :: .top :: .top :: .top :: .top :: .top :: .top :: .top :: .top :: .top :: .top :: .top :: .top :: .top :: .top :: .top :: .top :: .top :: .top :: .top :: .top :: .top :: .top :: [])) (fun e => [.lit 41 [.int .u8 p0.Own.x0, .int .u8 p0.Own.x1, .int .u8 p0.Own.x2, .int .u8 p0.Own.x3, .int .u8 p0.Own.x4, .int .u8 p0.Own.x5, .bool p0.Root, .bool p0.Gate, .int .i64 p0.Seq, .ro 17 p0.Trees.length false (enR c_TTree p0.Trees), .ro 13 p0.Proxies.length false (enR c_TProxied p0.Proxies)], .lit 41 [.int .u8 p1.Own.x0, .int .u8 p1.Own.x1, .int .u8 p1.Own.x2, .int .u8 p1.Own.x3, .int .u8 p1.Own.x4, .int .u8 p1.Own.x5, .bool p1.Root, .bool p1.Gate, .int .i64 p1.Seq, .ro 17 p1.Trees.length false (enR c_TTree p1.Trees), .ro 13 p1.Proxies.length false (enR c_TProxied p1.Proxies)]]) H ?_ (fun v1_1 o H hn1_1 hn2_1 => ?_) (fun e H => ?_)
    · refine SubF_of ⟨[some 0, some 1], ?_, ?_, by rfl, by rfl⟩
      · simp [CvL, Cv, getM]
      · exact ⟨(by simp [CvB, CvL, Cv, blkAt, geth, getM]), (by simp [CvB, CvL, Cv, blkAt, geth, getM]), trivial⟩
    · unfold F24_L1 at H
      try dsimp only at H ⊢
      refine seqM ?_
      refine sq ctNo_ok ?_
      simp only [go_sem, Nat.reduceLeDiff, Nat.reduceLT, Nat.reduceAdd, Nat.reduceMul, Nat.reduceSub, Nat.reduceEqDiff, Nat.reduceBEq, Int.reduceToNat, reduceCtorEq]
      repeat ((with_reducible refine And.intro ?_ ?_); focus (first | (with_reducible trivial) | omega | (and_intros <;> first | (with_reducible trivial) | omega | assumption | exact nfc | first | exact rfl | exact trivial | exact fitI | exact Or.inr rfl | exact Or.inl rfl | exact fun x hx => absurd hx (by omega) | (intro x hx; (repeat (first | (and_intros <;> (first | exact rfl | exact trivial | exact fitI | exact Or.inr rfl | exact Or.inl rfl | exact fun x hx => absurd hx (by omega))) | (exfalso; omega) | (rcases x with _ | x))); done)) | grind))
      refine condM' rfl trivial (fun hc => ?_) (fun hc => ?_)
      · replace H := cond_f hc H
        refine rg ctNo_ok ?_
        simp only [go_sem, Nat.reduceLeDiff, Nat.reduceLT, Nat.reduceAdd, Nat.reduceMul, Nat.reduceSub, Nat.reduceEqDiff, Nat.reduceBEq, Int.reduceToNat, reduceCtorEq]
        refine ⟨_, (Option.some.inj H).symm, ?_⟩
        refine SubF_of ⟨[some 0, some 1], ?_, ?_, by rfl, by rfl⟩
        · simp [CvL, Cv, getM]
        · exact ⟨(by simp [CvB, CvL, Cv, blkAt, geth, getM]), (by simp [CvB, CvL, Cv, blkAt, geth, getM]), trivial⟩
      replace H := cond_t hc H
      refine rg ctNo_ok ?_
      simp only [go_sem, Nat.reduceLeDiff, Nat.reduceLT, Nat.reduceAdd, Nat.reduceMul, Nat.reduceSub, Nat.reduceEqDiff, Nat.reduceBEq, Int.reduceToNat, reduceCtorEq]
      refine seqM ?_
      refine blkM ?_
      refine seqM ?_
      obtain ⟨f1, H⟩ := need_some.1 H
      replace f1 := inb_iff.1 f1
      obtain ⟨f2, H⟩ := need_some.1 H
      replace f2 := inb_iff.1 f2
      refine draw_quiet shT_ok ctNo_ok (by kernel_rfl) (by kernel_rfl) ?_
      simp only [go_sem, Nat.reduceLeDiff, Nat.reduceLT, Nat.reduceAdd, Nat.reduceMul, Nat.reduceSub, Nat.reduceEqDiff, Nat.reduceBEq, Int.reduceToNat, reduceCtorEq, f1, f2]
      repeat ((with_reducible refine And.intro ?_ ?_); focus (first | (with_reducible trivial) | omega | grind))
      refine condM rfl trivial (fun hc => ?_) (fun hc => ?_)
      · replace H := cond_t hc H
        refine sq ctNo_ok ?_
        simp only [go_sem, Nat.reduceLeDiff, Nat.reduceLT, Nat.reduceAdd, Nat.reduceMul, Nat.reduceSub, Nat.reduceEqDiff, Nat.reduceBEq, Int.reduceToNat, reduceCtorEq]
        refine rg ctNo_ok ?_
        simp only [go_sem, Nat.reduceLeDiff, Nat.reduceLT, Nat.reduceAdd, Nat.reduceMul, Nat.reduceSub, Nat.reduceEqDiff, Nat.reduceBEq, Int.reduceToNat, reduceCtorEq]
        have H := hn2_1 _ (Option.some.inj H).symm
        obtain rfl := Option.some.inj H
        first | rfl | simp only [Bool.and_false, Bool.false_and, Bool.and_true, Bool.true_and]
      replace H := cond_f hc H
      refine rg ctNo_ok ?_
      simp only [go_sem, Nat.reduceLeDiff, Nat.reduceLT, Nat.reduceAdd, Nat.reduceMul, Nat.reduceSub, Nat.reduceEqDiff, Nat.reduceBEq, Int.reduceToNat, reduceCtorEq]
      refine rg ctNo_ok ?_
      simp only [go_sem, Nat.reduceLeDiff, Nat.reduceLT, Nat.reduceAdd, Nat.reduceMul, Nat.reduceSub, Nat.reduceEqDiff, Nat.reduceBEq, Int.reduceToNat, reduceCtorEq]
      refine ⟨_, (Option.some.inj H).symm, ?_⟩
      refine SubF_of ⟨[some 0, some 1], ?_, ?_, by rfl, by rfl⟩
      · simp [CvL, Cv, getM]
      · exact ⟨(by simp [CvB, CvL, Cv, blkAt, geth, getM]), (by simp [CvB, CvL, Cv, blkAt, geth, getM]), trivial⟩
    · try dsimp only at H ⊢
      try simp only [m_normal, k_normal, b_normal, kL_normal, r_normal]
      refine seqM ?_
      refine sq ctNo_ok ?_
      simp only [go_sem, Nat.reduceLeDiff, Nat.reduceLT, Nat.reduceAdd, Nat.reduceMul, Nat.reduceSub, Nat.reduceEqDiff, Nat.reduceBEq, Int.reduceToNat, reduceCtorEq]
      refine blkM ?_
      refine loop_den (fun s : Int => (.top :: .top :: .ptr 0 0 0 0 :: .ptr 1 0 0 0 :: .top :: .top :: .int .i64 s :: .top :: .top :: .top :: .top :: .top :: .top :: .top :: .top :: .top :: .top :: .top :: .top :: .top :: .top :: .top :: .top :: .top :: .top :: .top :: .top :: .top :: .top :: .top :: .top :: .top :: .top :: .top :: .top :: .top :: .top :: .top :: .top :: .top :: .top :: .top :: .top :: .top :: .top :: .top :: .top :: .top :: .top :: .top :: .top :: .top :: .top :: .top :: .top :: .top :: .top :: .top :: .top :: .top :: .top :: .top :: .top :: .top :: .top :: .top :: .top :: .top :: .top :: .top :: .top :: .top :: .top :: .top :: .top :: .top :: .top :: .top :: .top :: .top :: .top :: .top :: .top :: .top :: .top :: .top :: .top :: [])) (fun s => [.lit 41 [.int .u8 p0.Own.x0, .int .u8 p0.Own.x1, .int .u8 p0.Own.x2, .int .u8 p0.Own.x3, .int .u8 p0.Own.x4, .int .u8 p0.Own.x5, .bool p0.Root, .bool p0.Gate, .int .i64 p0.Seq, .ro 17 p0.Trees.length false (enR c_TTree p0.Trees), .ro 13 p0.Proxies.length false (enR c_TProxied p0.Proxies)], .lit 41 [.int .u8 p1.Own.x0, .int .u8 p1.Own.x1, .int .u8 p1.Own.x2, .int .u8 p1.Own.x3, .int .u8 p1.Own.x4, .int .u8 p1.Own.x5, .bool p1.Root, .bool p1.Gate, .int .i64 p1.Seq, .ro 17 p1.Trees.length false (enR c_TTree p1.Trees), .ro 13 p1.Proxies.length false (enR c_TProxied p1.Proxies)]]) (fun e : Unit => (.top :: .top :: .top :: .top :: .top :: .top :: .top :: .top :: .top :: .top :: .top :: .top :: .top :: .top :: .top :: .top :: .top :: .top :: .top :: .top :: .top :: .top :: .top :: .top :: .top :: .top :: .top :: .top :: .top :: .top :: .top :: .top :: .top :: .top :: .top :: .top :: .top :: .top :: .top :: .top :: .top :: .top :: .top :: .top :: .top :: .top :: .top :: .top :: .top :: .top :: .top :: .top :: .top :: .top :: .top :: .top :: .top :: .top :: .top :: .top :: .top :: .top :: .top :: .top :: .top :: .top :: .top :: .top :: .top :: .top :: .top :: .top :: .top :: .top :: .top :: .top :: .top :: .top :: .top :: .top :: .top :: .top :: .top :: .top :: .top :: .top :: .top :: [])) (fun e => [.dead, .dead]) H ?_ (fun v2_1 o H hn1_2 hn2_2 => ?_) (fun e H => ?_)
      · refine SubF_of ⟨[some 0, some 1], ?_, ?_, by rfl, by rfl⟩
        · simp [CvL, Cv, getM]
        · exact ⟨(by simp [CvB, CvL, Cv, blkAt, geth, getM]), (by simp [CvB, CvL, Cv, blkAt, geth, getM]), trivial⟩
      · unfold F24_L2 at H
        try dsimp only at H ⊢
        refine seqM ?_
        refine sq ctNo_ok ?_
        simp only [go_sem, Nat.reduceLeDiff, Nat.reduceLT, Nat.reduceAdd, Nat.reduceMul, Nat.reduceSub, Nat.reduceEqDiff, Nat.reduceBEq, Int.reduceToNat, reduceCtorEq]
        repeat ((with_reducible refine And.intro ?_ ?_); focus (first | (with_reducible trivial) | omega | (and_intros <;> first | (with_reducible trivial) | omega | assumption | exact nfc | first | exact rfl | exact trivial | exact fitI | exact Or.inr rfl | exact Or.inl rfl | exact fun x hx => absurd hx (by omega) | (intro x hx; (repeat (first | (and_intros <;> (first | exact rfl | exact trivial | exact fitI | exact Or.inr rfl | exact Or.inl rfl | exact fun x hx => absurd hx (by omega))) | (exfalso; omega) | (rcases x with _ | x))); done)) | grind))
        refine condM' rfl trivial (fun hc => ?_) (fun hc => ?_)
        · replace H := cond_f hc H
          refine rg ctNo_ok ?_
          simp only [go_sem, Nat.reduceLeDiff, Nat.reduceLT, Nat.reduceAdd, Nat.reduceMul, Nat.reduceSub, Nat.reduceEqDiff, Nat.reduceBEq, Int.reduceToNat, reduceCtorEq]
          refine ⟨_, (Option.some.inj H).symm, ?_⟩
          refine SubF_of ⟨[some 0, some 1], ?_, ?_, by rfl, by rfl⟩
          · simp [CvL, Cv, getM]
          · exact ⟨CvB_dead, CvB_dead, trivial⟩
        replace H := cond_t hc H
        refine rg ctNo_ok ?_
        simp only [go_sem, Nat.reduceLeDiff, Nat.reduceLT, Nat.reduceAdd, Nat.reduceMul, Nat.reduceSub, Nat.reduceEqDiff, Nat.reduceBEq, Int.reduceToNat, reduceCtorEq]
        refine seqM ?_
        refine blkM ?_
        refine seqM ?_
        obtain ⟨f3, H⟩ := need_some.1 H
        replace f3 := inb_iff.1 f3
        obtain ⟨f4, H⟩ := need_some.1 H
        replace f4 := inb_iff.1 f4
        refine draw_quiet shT_ok ctNo_ok (by kernel_rfl) (by kernel_rfl) ?_
        simp only [go_sem, Nat.reduceLeDiff, Nat.reduceLT, Nat.reduceAdd, Nat.reduceMul, Nat.reduceSub, Nat.reduceEqDiff, Nat.reduceBEq, Int.reduceToNat, reduceCtorEq, f3, f4]
        repeat ((with_reducible refine And.intro ?_ ?_); focus (first | (with_reducible trivial) | omega | grind))
        refine condM rfl trivial (fun hc => ?_) (fun hc => ?_)
        · replace H := cond_t hc H
          refine sq ctNo_ok ?_
          simp only [go_sem, Nat.reduceLeDiff, Nat.reduceLT, Nat.reduceAdd, Nat.reduceMul, Nat.reduceSub, Nat.reduceEqDiff, Nat.reduceBEq, Int.reduceToNat, reduceCtorEq]
          refine rg ctNo_ok ?_
          simp only [go_sem, Nat.reduceLeDiff, Nat.reduceLT, Nat.reduceAdd, Nat.reduceMul, Nat.reduceSub, Nat.reduceEqDiff, Nat.reduceBEq, Int.reduceToNat, reduceCtorEq]
          have H := hn2_2 _ (Option.some.inj H).symm
          obtain rfl := Option.some.inj H
          first | rfl | simp only [Bool.and_false, Bool.false_and, Bool.and_true, Bool.true_and]
        replace H := cond_f hc H
        refine rg ctNo_ok ?_
        simp only [go_sem, Nat.reduceLeDiff, Nat.reduceLT, Nat.reduceAdd, Nat.reduceMul, Nat.reduceSub, Nat.reduceEqDiff, Nat.reduceBEq, Int.reduceToNat, reduceCtorEq]
        refine rg ctNo_ok ?_
        simp only [go_sem, Nat.reduceLeDiff, Nat.reduceLT, Nat.reduceAdd, Nat.reduceMul, Nat.reduceSub, Nat.reduceEqDiff, Nat.reduceBEq, Int.reduceToNat, reduceCtorEq]
        refine ⟨_, (Option.some.inj H).symm, ?_⟩
        refine SubF_of ⟨[some 0, some 1], ?_, ?_, by rfl, by rfl⟩
        · simp [CvL, Cv, getM]
        · exact ⟨(by simp [CvB, CvL, Cv, blkAt, geth, getM]), (by simp [CvB, CvL, Cv, blkAt, geth, getM]), trivial⟩
      · try dsimp only at H ⊢
        try simp only [m_normal, k_normal, b_normal, kL_normal, r_normal]
        refine sq ctNo_ok ?_
        simp only [go_sem, Nat.reduceLeDiff, Nat.reduceLT, Nat.reduceAdd, Nat.reduceMul, Nat.reduceSub, Nat.reduceEqDiff, Nat.reduceBEq, Int.reduceToNat, reduceCtorEq]
        refine rg ctNo_ok ?_
        simp only [go_sem, Nat.reduceLeDiff, Nat.reduceLT, Nat.reduceAdd, Nat.reduceMul, Nat.reduceSub, Nat.reduceEqDiff, Nat.reduceBEq, Int.reduceToNat, reduceCtorEq]
        obtain rfl := Option.some.inj H
        first | rfl | simp only [Bool.and_false, Bool.false_and, Bool.and_true, Bool.true_and]
  · cases hb
/-! hotspot/hotspotref40.SameWords -/
noncomputable def F25_L1 (p0 : List TRootWord) (p1 : List TRootWord) (v1_1 : Int) : Option (Lp (Int) ((Unit) ⊕ (Bool))) :=
  bif (bLt v1_1 (p0.length : Nat)) then (need (inb v1_1 p0.length) <| need (inb v1_1 p1.length) <| bif (!(bEq (((gd p0 v1_1.toNat).Root).x0) (((gd p1 v1_1.toNat).Root).x0) && (bEq (((gd p0 v1_1.toNat).Root).x1) (((gd p1 v1_1.toNat).Root).x1) && (bEq (((gd p0 v1_1.toNat).Root).x2) (((gd p1 v1_1.toNat).Root).x2) && (bEq (((gd p0 v1_1.toNat).Root).x3) (((gd p1 v1_1.toNat).Root).x3) && (bEq (((gd p0 v1_1.toNat).Root).x4) (((gd p1 v1_1.toNat).Root).x4) && (bEq (((gd p0 v1_1.toNat).Root).x5) (((gd p1 v1_1.toNat).Root).x5) && (bEq ((gd p0 v1_1.toNat).Seq) ((gd p1 v1_1.toNat).Seq) && (bEq ((gd p0 v1_1.toNat).Hops) ((gd p1 v1_1.toNat).Hops) && (bEq ((gd p0 v1_1.toNat).Cost) ((gd p1 v1_1.toNat).Cost) && (bB ((gd p0 v1_1.toNat).Gate) ((gd p1 v1_1.toNat).Gate)))))))))))) then (some (.done (.inr false))) else (some (.next (wr .i64 (v1_1 + 1))))) else (some (.done (.inl ())))
noncomputable def F25 (p0 : List TRootWord) (p1 : List TRootWord) : Option (Bool) :=
  bif (!bEq (p0.length : Nat) (p1.length : Nat)) then (some false) else (lp (loopD (fun s => F25_L1 p0 p1 s) 0) (fun e => some true) some)
noncomputable def body25 : List AV → AR
  | [v0, v1] => .pure (lK k_TRootWord 10 v0 ∧ lK k_TRootWord 10 v1 ∧ (F25 (lA g_TRootWord v0) (lA g_TRootWord v1)).isSome = true) (.bool (gt (F25 (lA g_TRootWord v0) (lA g_TRootWord v1))))
  | _ => .fail
set_option maxHeartbeats 4000000 in
set_option maxRecDepth 20000 in
theorem ok25 : FnOk Try.prog 25 (pureC body25) := by
  refine pure_fnM body25 (rs := [.tmp 4]) Try.func25 (by kernel_rfl) rfl rfl ?_
  intro l ob v hb hob
  unfold body25 at hb
  split at hb
  · rename_i v0 v1
    injection hb with q1 q2; subst q1 q2
    obtain ⟨hk0_0, hk1_0, hob⟩ := hob
    obtain ⟨r, H⟩ := Option.isSome_iff_exists.1 hob
    rw [H, gt_some]
    have hw0 := lK_wk (fun r h => w_TRootWord h) hk0_0
    have hw1 := lK_wk (fun r h => w_TRootWord h) hk1_0
    generalize lA g_TRootWord v0 = p0 at H hw0
    generalize lA g_TRootWord v1 = p1 at H hw1
    refine ⟨[.ro 10 p0.length false (enR c_TRootWord p0), .ro 10 p1.length false (enR c_TRootWord p1)], _, (fun E vs F => FR_wk1 hw0.1 F (fun vs F => FR_wk1 hw1.1 F (fun vs F => F))), rfl, rfl, ?_⟩
    rw [Try.ntmps25]
    simp only [List.length_cons, List.length_nil, Nat.reduceAdd, Nat.reduceSub, List.replicate_succ, List.replicate_zero, List.cons_append, List.nil_append]
    unfold F25 at H
    try dsimp only at H
    refine sq ctNo_ok ?_
    simp only [go_sem, Nat.reduceLeDiff, Nat.reduceLT, Nat.reduceAdd, Nat.reduceMul, Nat.reduceSub, Nat.reduceEqDiff, Nat.reduceBEq, Int.reduceToNat, reduceCtorEq]
    refine seqM ?_
    refine sq ctNo_ok ?_
    simp only [go_sem, Nat.reduceLeDiff, Nat.reduceLT, Nat.reduceAdd, Nat.reduceMul, Nat.reduceSub, Nat.reduceEqDiff, Nat.reduceBEq, Int.reduceToNat, reduceCtorEq]
    repeat ((with_reducible refine And.intro ?_ ?_); focus (first | (with_reducible trivial) | omega | (and_intros <;> first | (with_reducible trivial) | omega | assumption | exact nfc | first | exact rfl | exact trivial | exact fitI | exact Or.inr rfl | exact Or.inl rfl | exact fun x hx => absurd hx (by omega) | (intro x hx; (repeat (first | (and_intros <;> (first | exact rfl | exact trivial | exact fitI | exact Or.inr rfl | exact Or.inl rfl | exact fun x hx => absurd hx (by omega))) | (exfalso; omega) | (rcases x with _ | x))); done)) | grind))
    refine condM rfl trivial (fun hc => ?_) (fun hc => ?_)
    · replace H := cond_t hc H
      refine sq ctNo_ok ?_
      simp only [go_sem, Nat.reduceLeDiff, Nat.reduceLT, Nat.reduceAdd, Nat.reduceMul, Nat.reduceSub, Nat.reduceEqDiff, Nat.reduceBEq, Int.reduceToNat, reduceCtorEq]
      refine rg ctNo_ok ?_
      simp only [go_sem, Nat.reduceLeDiff, Nat.reduceLT, Nat.reduceAdd, Nat.reduceMul, Nat.reduceSub, Nat.reduceEqDiff, Nat.reduceBEq, Int.reduceToNat, reduceCtorEq]
      obtain rfl := Option.some.inj H
      first | rfl | simp only [Bool.and_false, Bool.false_and, Bool.and_true, Bool.true_and]
    replace H := cond_f hc H
    refine rg ctNo_ok ?_
    simp only [go_sem, Nat.reduceLeDiff, Nat.reduceLT, Nat.reduceAdd, Nat.reduceMul, Nat.reduceSub, Nat.reduceEqDiff, Nat.reduceBEq, Int.reduceToNat, reduceCtorEq]
    refine seqM ?_
    refine sq ctNo_ok ?_
    simp only [go_sem, Nat.reduceLeDiff, Nat.reduceLT, Nat.reduceAdd, Nat.reduceMul, Nat.reduceSub, Nat.reduceEqDiff, Nat.reduceBEq, Int.reduceToNat, reduceCtorEq]
    refine blkM ?_
    refine loop_den (fun s : Int => [.ro 10 p0.length false (enR c_TRootWord p0), .ro 10 p1.length false (enR c_TRootWord p1), .top, .top, .top, .int .i64 s, .top, .top, .top, .top, .top, .top, .top, .top, .top, .top, .top, .top, .top, .top, .top, .top, .top, .top, .top, .top]) (fun s => []) (fun e : Unit => [.top, .top, .top, .top, .top, .top, .top, .top, .top, .top, .top, .top, .top, .top, .top, .top, .top, .top, .top, .top, .top, .top, .top, .top, .top, .top]) (fun e => []) H ?_ (fun v1_1 o H hn1_1 hn2_1 => ?_) (fun e H => ?_)
    · refine SubF_of ⟨[], ?_, ?_, by rfl, by rfl⟩
      · simp [CvL, Cv, getM]
      · trivial
    · unfold F25_L1 at H
      try dsimp only at H ⊢
      refine seqM ?_
      refine sq ctNo_ok ?_
      simp only [go_sem, Nat.reduceLeDiff, Nat.reduceLT, Nat.reduceAdd, Nat.reduceMul, Nat.reduceSub, Nat.reduceEqDiff, Nat.reduceBEq, Int.reduceToNat, reduceCtorEq]
      repeat ((with_reducible refine And.intro ?_ ?_); focus (first | (with_reducible trivial) | omega | (and_intros <;> first | (with_reducible trivial) | omega | assumption | exact nfc | first | exact rfl | exact trivial | exact fitI | exact Or.inr rfl | exact Or.inl rfl | exact fun x hx => absurd hx (by omega) | (intro x hx; (repeat (first | (and_intros <;> (first | exact rfl | exact trivial | exact fitI | exact Or.inr rfl | exact Or.inl rfl | exact fun x hx => absurd hx (by omega))) | (exfalso; omega) | (rcases x with _ | x))); done)) | grind))
      refine condM' rfl trivial (fun hc => ?_) (fun hc => ?_)
      · replace H := cond_f hc H
        refine rg ctNo_ok ?_
        simp only [go_sem, Nat.reduceLeDiff, Nat.reduceLT, Nat.reduceAdd, Nat.reduceMul, Nat.reduceSub, Nat.reduceEqDiff, Nat.reduceBEq, Int.reduceToNat, reduceCtorEq]
        refine ⟨_, (Option.some.inj H).symm, ?_⟩
        refine SubF_of ⟨[], ?_, ?_, by rfl, by rfl⟩
        · simp [CvL, Cv, getM]
        · trivial
      replace H := cond_t hc H
      refine rg ctNo_ok ?_
      simp only [go_sem, Nat.reduceLeDiff, Nat.reduceLT, Nat.reduceAdd, Nat.reduceMul, Nat.reduceSub, Nat.reduceEqDiff, Nat.reduceBEq, Int.reduceToNat, reduceCtorEq]
      refine seqM ?_
      refine blkM ?_
      refine seqM ?_
      obtain ⟨f1, H⟩ := need_some.1 H
      replace f1 := inb_iff.1 f1
      obtain ⟨f2, H⟩ := need_some.1 H
      replace f2 := inb_iff.1 f2
      refine draw_quiet shT_ok ctNo_ok (by kernel_rfl) (by kernel_rfl) ?_
      simp only [go_sem, Nat.reduceLeDiff, Nat.reduceLT, Nat.reduceAdd, Nat.reduceMul, Nat.reduceSub, Nat.reduceEqDiff, Nat.reduceBEq, Int.reduceToNat, reduceCtorEq, f1, f2]
      repeat ((with_reducible refine And.intro ?_ ?_); focus (first | (with_reducible trivial) | omega | grind))
      refine condM rfl trivial (fun hc => ?_) (fun hc => ?_)
      · replace H := cond_t hc H
        refine sq ctNo_ok ?_
        simp only [go_sem, Nat.reduceLeDiff, Nat.reduceLT, Nat.reduceAdd, Nat.reduceMul, Nat.reduceSub, Nat.reduceEqDiff, Nat.reduceBEq, Int.reduceToNat, reduceCtorEq]
        refine rg ctNo_ok ?_
        simp only [go_sem, Nat.reduceLeDiff, Nat.reduceLT, Nat.reduceAdd, Nat.reduceMul, Nat.reduceSub, Nat.reduceEqDiff, Nat.reduceBEq, Int.reduceToNat, reduceCtorEq]
        have H := hn2_1 _ (Option.some.inj H).symm
        obtain rfl := Option.some.inj H
        first | rfl | simp only [Bool.and_false, Bool.false_and, Bool.and_true, Bool.true_and]
      replace H := cond_f hc H
      refine rg ctNo_ok ?_
      simp only [go_sem, Nat.reduceLeDiff, Nat.reduceLT, Nat.reduceAdd, Nat.reduceMul, Nat.reduceSub, Nat.reduceEqDiff, Nat.reduceBEq, Int.reduceToNat, reduceCtorEq]
      refine rg ctNo_ok ?_
      simp only [go_sem, Nat.reduceLeDiff, Nat.reduceLT, Nat.reduceAdd, Nat.reduceMul, Nat.reduceSub, Nat.reduceEqDiff, Nat.reduceBEq, Int.reduceToNat, reduceCtorEq]
      refine ⟨_, (Option.some.inj H).symm, ?_⟩
      refine SubF_of ⟨[], ?_, ?_, by rfl, by rfl⟩
      · simp [CvL, Cv, getM]
      · trivial
    · try dsimp only at H ⊢
      try simp only [m_normal, k_normal, b_normal, kL_normal, r_normal]
      refine sq ctNo_ok ?_
      simp only [go_sem, Nat.reduceLeDiff, Nat.reduceLT, Nat.reduceAdd, Nat.reduceMul, Nat.reduceSub, Nat.reduceEqDiff, Nat.reduceBEq, Int.reduceToNat, reduceCtorEq]
      refine rg ctNo_ok ?_
      simp only [go_sem, Nat.reduceLeDiff, Nat.reduceLT, Nat.reduceAdd, Nat.reduceMul, Nat.reduceSub, Nat.reduceEqDiff, Nat.reduceBEq, Int.reduceToNat, reduceCtorEq]
      obtain rfl := Option.some.inj H
      first | rfl | simp only [Bool.and_false, Bool.false_and, Bool.and_true, Bool.true_and]
  · cases hb
/-! hotspot/hotspotref02.Same -/
noncomputable def F26_L1 (p0 : List A6u8) (p1 : List A6u8) (v1_1 : Int) : Option (Lp (Int) ((Unit) ⊕ (Bool))) :=
  bif (bLt v1_1 (p0.length : Nat)) then (need (inb v1_1 p0.length) <| need (inb v1_1 p1.length) <| bif (!(bEq ((gd p0 v1_1.toNat).x0) ((gd p1 v1_1.toNat).x0) && (bEq ((gd p0 v1_1.toNat).x1) ((gd p1 v1_1.toNat).x1) && (bEq ((gd p0 v1_1.toNat).x2) ((gd p1 v1_1.toNat).x2) && (bEq ((gd p0 v1_1.toNat).x3) ((gd p1 v1_1.toNat).x3) && (bEq ((gd p0 v1_1.toNat).x4) ((gd p1 v1_1.toNat).x4) && (bEq ((gd p0 v1_1.toNat).x5) ((gd p1 v1_1.toNat).x5)))))))) then (some (.done (.inr false))) else (some (.next (wr .i64 (v1_1 + 1))))) else (some (.done (.inl ())))
noncomputable def F26 (p0 : List A6u8) (p1 : List A6u8) : Option (Bool) :=
  bif (!bEq (p0.length : Nat) (p1.length : Nat)) then (some false) else (lp (loopD (fun s => F26_L1 p0 p1 s) 0) (fun e => some true) some)
noncomputable def body26 : List AV → AR
  | [v0, v1] => .pure (lK k_A6u8 6 v0 ∧ lK k_A6u8 6 v1 ∧ (F26 (lA g_A6u8 v0) (lA g_A6u8 v1)).isSome = true) (.bool (gt (F26 (lA g_A6u8 v0) (lA g_A6u8 v1))))
  | _ => .fail
set_option maxHeartbeats 4000000 in
set_option maxRecDepth 20000 in
theorem ok26 : FnOk Try.prog 26 (pureC body26) := by
  refine pure_fnM body26 (rs := [.tmp 4]) Try.func26 (by kernel_rfl) rfl rfl ?_
  intro l ob v hb hob
  unfold body26 at hb
  split at hb
  · rename_i v0 v1
    injection hb with q1 q2; subst q1 q2
    obtain ⟨hk0_0, hk1_0, hob⟩ := hob
    obtain ⟨r, H⟩ := Option.isSome_iff_exists.1 hob
    rw [H, gt_some]
    have hw0 := lK_wk (fun r h => w_A6u8 h) hk0_0
    have hw1 := lK_wk (fun r h => w_A6u8 h) hk1_0
    generalize lA g_A6u8 v0 = p0 at H hw0
    generalize lA g_A6u8 v1 = p1 at H hw1
    refine ⟨[.ro 6 p0.length false (enR c_A6u8 p0), .ro 6 p1.length false (enR c_A6u8 p1)], _, (fun E vs F => FR_wk1 hw0.1 F (fun vs F => FR_wk1 hw1.1 F (fun vs F => F))), rfl, rfl, ?_⟩
    rw [Try.ntmps26]
    simp only [List.length_cons, List.length_nil, Nat.reduceAdd, Nat.reduceSub, List.replicate_succ, List.replicate_zero, List.cons_append, List.nil_append]
    unfold F26 at H
    try dsimp only at H
    refine sq ctNo_ok ?_
    simp only [go_sem, Nat.reduceLeDiff, Nat.reduceLT, Nat.reduceAdd, Nat.reduceMul, Nat.reduceSub, Nat.reduceEqDiff, Nat.reduceBEq, Int.reduceToNat, reduceCtorEq]
    refine seqM ?_
    refine sq ctNo_ok ?_
    simp only [go_sem, Nat.reduceLeDiff, Nat.reduceLT, Nat.reduceAdd, Nat.reduceMul, Nat.reduceSub, Nat.reduceEqDiff, Nat.reduceBEq, Int.reduceToNat, reduceCtorEq]
    repeat ((with_reducible refine And.intro ?_ ?_); focus (first | (with_reducible trivial) | omega | (and_intros <;> first | (with_reducible trivial) | omega | assumption | exact nfc | first | exact rfl | exact trivial | exact fitI | exact Or.inr rfl | exact Or.inl rfl | exact fun x hx => absurd hx (by omega) | (intro x hx; (repeat (first | (and_intros <;> (first | exact rfl | exact trivial | exact fitI | exact Or.inr rfl | exact Or.inl rfl | exact fun x hx => absurd hx (by omega))) | (exfalso; omega) | (rcases x with _ | x))); done)) | grind))
    refine condM rfl trivial (fun hc => ?_) (fun hc => ?_)
    · replace H := cond_t hc H
      refine sq ctNo_ok ?_
      simp only [go_sem, Nat.reduceLeDiff, Nat.reduceLT, Nat.reduceAdd, Nat.reduceMul, Nat.reduceSub, Nat.reduceEqDiff, Nat.reduceBEq, Int.reduceToNat, reduceCtorEq]
      refine rg ctNo_ok ?_
      simp only [go_sem, Nat.reduceLeDiff, Nat.reduceLT, Nat.reduceAdd, Nat.reduceMul, Nat.reduceSub, Nat.reduceEqDiff, Nat.reduceBEq, Int.reduceToNat, reduceCtorEq]
      obtain rfl := Option.some.inj H
      first | rfl | simp only [Bool.and_false, Bool.false_and, Bool.and_true, Bool.true_and]
    replace H := cond_f hc H
    refine rg ctNo_ok ?_
    simp only [go_sem, Nat.reduceLeDiff, Nat.reduceLT, Nat.reduceAdd, Nat.reduceMul, Nat.reduceSub, Nat.reduceEqDiff, Nat.reduceBEq, Int.reduceToNat, reduceCtorEq]
    refine seqM ?_
    refine sq ctNo_ok ?_
    simp only [go_sem, Nat.reduceLeDiff, Nat.reduceLT, Nat.reduceAdd, Nat.reduceMul, Nat.reduceSub, Nat.reduceEqDiff, Nat.reduceBEq, Int.reduceToNat, reduceCtorEq]
    refine blkM ?_
    refine loop_den (fun s : Int => [.ro 6 p0.length false (enR c_A6u8 p0), .ro 6 p1.length false (enR c_A6u8 p1), .top, .top, .top, .int .i64 s, .top, .top, .top, .top, .top, .top, .top, .top, .top, .top, .top, .top, .top, .top, .top, .top, .top, .top, .top, .top]) (fun s => []) (fun e : Unit => [.top, .top, .top, .top, .top, .top, .top, .top, .top, .top, .top, .top, .top, .top, .top, .top, .top, .top, .top, .top, .top, .top, .top, .top, .top, .top]) (fun e => []) H ?_ (fun v1_1 o H hn1_1 hn2_1 => ?_) (fun e H => ?_)
    · refine SubF_of ⟨[], ?_, ?_, by rfl, by rfl⟩
      · simp [CvL, Cv, getM]
      · trivial
    · unfold F26_L1 at H
      try dsimp only at H ⊢
      refine seqM ?_
      refine sq ctNo_ok ?_
      simp only [go_sem, Nat.reduceLeDiff, Nat.reduceLT, Nat.reduceAdd, Nat.reduceMul, Nat.reduceSub, Nat.reduceEqDiff, Nat.reduceBEq, Int.reduceToNat, reduceCtorEq]
      repeat ((with_reducible refine And.intro ?_ ?_); focus (first | (with_reducible trivial) | omega | (and_intros <;> first | (with_reducible trivial) | omega | assumption | exact nfc | first | exact rfl | exact trivial | exact fitI | exact Or.inr rfl | exact Or.inl rfl | exact fun x hx => absurd hx (by omega) | (intro x hx; (repeat (first | (and_intros <;> (first | exact rfl | exact trivial | exact fitI | exact Or.inr rfl | exact Or.inl rfl | exact fun x hx => absurd hx (by omega))) | (exfalso; omega) | (rcases x with _ | x))); done)) | grind))
      refine condM' rfl trivial (fun hc => ?_) (fun hc => ?_)
      · replace H := cond_f hc H
        refine rg ctNo_ok ?_
        simp only [go_sem, Nat.reduceLeDiff, Nat.reduceLT, Nat.reduceAdd, Nat.reduceMul, Nat.reduceSub, Nat.reduceEqDiff, Nat.reduceBEq, Int.reduceToNat, reduceCtorEq]
        refine ⟨_, (Option.some.inj H).symm, ?_⟩
        refine SubF_of ⟨[], ?_, ?_, by rfl, by rfl⟩
        · simp [CvL, Cv, getM]
        · trivial
      replace H := cond_t hc H
      refine rg ctNo_ok ?_
      simp only [go_sem, Nat.reduceLeDiff, Nat.reduceLT, Nat.reduceAdd, Nat.reduceMul, Nat.reduceSub, Nat.reduceEqDiff, Nat.reduceBEq, Int.reduceToNat, reduceCtorEq]
      refine seqM ?_
      refine blkM ?_
      refine seqM ?_
      obtain ⟨f1, H⟩ := need_some.1 H
      replace f1 := inb_iff.1 f1
      obtain ⟨f2, H⟩ := need_some.1 H
      replace f2 := inb_iff.1 f2
      refine draw_quiet shT_ok ctNo_ok (by kernel_rfl) (by kernel_rfl) ?_
      simp only [go_sem, Nat.reduceLeDiff, Nat.reduceLT, Nat.reduceAdd, Nat.reduceMul, Nat.reduceSub, Nat.reduceEqDiff, Nat.reduceBEq, Int.reduceToNat, reduceCtorEq, f1, f2]
      repeat ((with_reducible refine And.intro ?_ ?_); focus (first | (with_reducible trivial) | omega | grind))
      refine condM rfl trivial (fun hc => ?_) (fun hc => ?_)
      · replace H := cond_t hc H
        refine sq ctNo_ok ?_
        simp only [go_sem, Nat.reduceLeDiff, Nat.reduceLT, Nat.reduceAdd, Nat.reduceMul, Nat.reduceSub, Nat.reduceEqDiff, Nat.reduceBEq, Int.reduceToNat, reduceCtorEq]
        refine rg ctNo_ok ?_
        simp only [go_sem, Nat.reduceLeDiff, Nat.reduceLT, Nat.reduceAdd, Nat.reduceMul, Nat.reduceSub, Nat.reduceEqDiff, Nat.reduceBEq, Int.reduceToNat, reduceCtorEq]
        have H := hn2_1 _ (Option.some.inj H).symm
        obtain rfl := Option.some.inj H
        first | rfl | simp only [Bool.and_false, Bool.false_and, Bool.and_true, Bool.true_and]
      replace H := cond_f hc H
      refine rg ctNo_ok ?_
      simp only [go_sem, Nat.reduceLeDiff, Nat.reduceLT, Nat.reduceAdd, Nat.reduceMul, Nat.reduceSub, Nat.reduceEqDiff, Nat.reduceBEq, Int.reduceToNat, reduceCtorEq]
      refine rg ctNo_ok ?_
      simp only [go_sem, Nat.reduceLeDiff, Nat.reduceLT, Nat.reduceAdd, Nat.reduceMul, Nat.reduceSub, Nat.reduceEqDiff, Nat.reduceBEq, Int.reduceToNat, reduceCtorEq]
      refine ⟨_, (Option.some.inj H).symm, ?_⟩
      refine SubF_of ⟨[], ?_, ?_, by rfl, by rfl⟩
      · simp [CvL, Cv, getM]
      · trivial
    · try dsimp only at H ⊢
      try simp only [m_normal, k_normal, b_normal, kL_normal, r_normal]
      refine sq ctNo_ok ?_
      simp only [go_sem, Nat.reduceLeDiff, Nat.reduceLT, Nat.reduceAdd, Nat.reduceMul, Nat.reduceSub, Nat.reduceEqDiff, Nat.reduceBEq, Int.reduceToNat, reduceCtorEq]
      refine rg ctNo_ok ?_
      simp only [go_sem, Nat.reduceLeDiff, Nat.reduceLT, Nat.reduceAdd, Nat.reduceMul, Nat.reduceSub, Nat.reduceEqDiff, Nat.reduceBEq, Int.reduceToNat, reduceCtorEq]
      obtain rfl := Option.some.inj H
      first | rfl | simp only [Bool.and_false, Bool.false_and, Bool.and_true, Bool.true_and]
  · cases hb
/-! hotspot/hotspotlaw40.RootHandles -/
noncomputable def ct4t0 : Ct := tab [(16, pureC body16)]
theorem ct4t0_ok : CtOk Try.prog ct4t0 := tab_cons ok16 <| tab_nil
theorem ct4t0_16 (l : List AV) (h : List ABlk) : ct4t0 16 l h = pureC body16 l h := rfl
noncomputable def ct4t1 : Ct := tab [(17, edC body17)]
theorem ct4t1_ok : CtOk Try.prog ct4t1 := tab_cons ok17 <| tab_nil
theorem ct4t1_17 (l : List AV) (h : List ABlk) : ct4t1 17 l h = edC body17 l h := rfl
noncomputable def ct4t2 : Ct := tab [(18, edC body18)]
theorem ct4t2_ok : CtOk Try.prog ct4t2 := tab_cons ok18 <| tab_nil
theorem ct4t2_18 (l : List AV) (h : List ABlk) : ct4t2 18 l h = edC body18 l h := rfl
noncomputable def ct4t3 : Ct := tab [(19, edC body19)]
theorem ct4t3_ok : CtOk Try.prog ct4t3 := tab_cons ok19 <| tab_nil
theorem ct4t3_19 (l : List AV) (h : List ABlk) : ct4t3 19 l h = edC body19 l h := rfl
noncomputable def ct4t4 : Ct := tab [(20, edC body20)]
theorem ct4t4_ok : CtOk Try.prog ct4t4 := tab_cons ok20 <| tab_nil
theorem ct4t4_20 (l : List AV) (h : List ABlk) : ct4t4 20 l h = edC body20 l h := rfl
noncomputable def ct4t5 : Ct := tab [(21, edC body21)]
theorem ct4t5_ok : CtOk Try.prog ct4t5 := tab_cons ok21 <| tab_nil
theorem ct4t5_21 (l : List AV) (h : List ABlk) : ct4t5 21 l h = edC body21 l h := rfl
noncomputable def ct4t6 : Ct := tab [(22, edC body22)]
theorem ct4t6_ok : CtOk Try.prog ct4t6 := tab_cons ok22 <| tab_nil
theorem ct4t6_22 (l : List AV) (h : List ABlk) : ct4t6 22 l h = edC body22 l h := rfl
noncomputable def ct4t7 : Ct := tab [(23, edC body23)]
theorem ct4t7_ok : CtOk Try.prog ct4t7 := tab_cons ok23 <| tab_nil
theorem ct4t7_23 (l : List AV) (h : List ABlk) : ct4t7 23 l h = edC body23 l h := rfl
noncomputable def ct4t8 : Ct := tab [(24, pureC body24), (25, pureC body25), (26, pureC body26)]
theorem ct4t8_ok : CtOk Try.prog ct4t8 := tab_cons ok24 <| tab_cons ok25 <| tab_cons ok26 <| tab_nil
theorem ct4t8_24 (l : List AV) (h : List ABlk) : ct4t8 24 l h = pureC body24 l h := rfl
theorem ct4t8_25 (l : List AV) (h : List ABlk) : ct4t8 25 l h = pureC body25 l h := rfl
theorem ct4t8_26 (l : List AV) (h : List ABlk) : ct4t8 26 l h = pureC body26 l h := rfl
noncomputable def ct4t9 : Ct := tab [(24, pureC body24)]
theorem ct4t9_ok : CtOk Try.prog ct4t9 := tab_cons ok24 <| tab_nil
theorem ct4t9_24 (l : List AV) (h : List ABlk) : ct4t9 24 l h = pureC body24 l h := rfl
noncomputable def F4_L1 (v1_1 : Int) (v1_2 : List TTree) : Option (Lp (Int × (List TTree)) ((Unit) ⊕ (Bool))) :=
  bif (bLt v1_1 (v1_2.length : Nat)) then (need (inb v1_1 v1_2.length) <| some (.next (wr .i64 (v1_1 + 1), (v1_2.set v1_1.toNat (TTree.mk (A6u8.mk (((gd v1_2 v1_1.toNat).Root).x0) (((gd v1_2 v1_1.toNat).Root).x1) (((gd v1_2 v1_1.toNat).Root).x2) (((gd v1_2 v1_1.toNat).Root).x3) (((gd v1_2 v1_1.toNat).Root).x4) (((gd v1_2 v1_1.toNat).Root).x5)) (A6u8.mk (((gd v1_2 v1_1.toNat).Parent).x0) (((gd v1_2 v1_1.toNat).Parent).x1) (((gd v1_2 v1_1.toNat).Parent).x2) (((gd v1_2 v1_1.toNat).Parent).x3) (((gd v1_2 v1_1.toNat).Parent).x4) (((gd v1_2 v1_1.toNat).Parent).x5)) ((gd v1_2 v1_1.toNat).Seq) ((gd v1_2 v1_1.toNat).Hops) (-1) ((gd v1_2 v1_1.toNat).Gate) ((gd v1_2 v1_1.toNat).Until)))))) else (some (.done (.inl ())))
noncomputable def F4_L2 (v2_1 : Int) (v2_2 : List TProxied) : Option (Lp (Int × (List TProxied)) ((Unit) ⊕ (Bool))) :=
  bif (bLt v2_1 (v2_2.length : Nat)) then (need (inb v2_1 v2_2.length) <| some (.next (wr .i64 (v2_1 + 1), (v2_2.set v2_1.toNat (TProxied.mk (A6u8.mk (((gd v2_2 v2_1.toNat).Out).x0) (((gd v2_2 v2_1.toNat).Out).x1) (((gd v2_2 v2_1.toNat).Out).x2) (((gd v2_2 v2_1.toNat).Out).x3) (((gd v2_2 v2_1.toNat).Out).x4) (((gd v2_2 v2_1.toNat).Out).x5)) (A6u8.mk (((gd v2_2 v2_1.toNat).Via).x0) (((gd v2_2 v2_1.toNat).Via).x1) (((gd v2_2 v2_1.toNat).Via).x2) (((gd v2_2 v2_1.toNat).Via).x3) (((gd v2_2 v2_1.toNat).Via).x4) (((gd v2_2 v2_1.toNat).Via).x5)) (-1)))))) else (some (.done (.inl ())))
noncomputable def F4 (p0 : TRoots) (p1 : TRootWord) (p2 : A6u8) (p3 : Int) (p4 : Int) : Option (Bool) :=
  (F16 p0).bind fun r1 => bif r1 then (some true) else ((F17 p0).bind fun r3 => (F18 p0).bind fun r5 => (F19 p0).bind fun r7 => (F20 p0 p1 p2 p3 p4).bind fun r9 => (F21 p0 p1 p2 p3 p4).bind fun r11 => (F22 p0 p4).bind fun r13 => (F23 p0 p4).bind fun r15 => need (bif (bEq r5.1.Root.x0 r7.1.Root.x0 && (bEq r5.1.Root.x1 r7.1.Root.x1 && (bEq r5.1.Root.x2 r7.1.Root.x2 && (bEq r5.1.Root.x3 r7.1.Root.x3 && (bEq r5.1.Root.x4 r7.1.Root.x4 && (bEq r5.1.Root.x5 r7.1.Root.x5 && (bEq r5.1.Seq r7.1.Seq && (bEq r5.1.Hops r7.1.Hops && (bEq r5.1.Cost r7.1.Cost && (bB r5.1.Gate r7.1.Gate)))))))))) then ((F24 (TRoots.mk (A6u8.mk r5.2.1.Own.x0 r5.2.1.Own.x1 r5.2.1.Own.x2 r5.2.1.Own.x3 r5.2.1.Own.x4 r5.2.1.Own.x5) r5.2.1.Root r5.2.1.Gate r5.2.1.Seq r5.2.1.Trees r5.2.1.Proxies) (TRoots.mk (A6u8.mk r7.2.1.Own.x0 r7.2.1.Own.x1 r7.2.1.Own.x2 r7.2.1.Own.x3 r7.2.1.Own.x4 r7.2.1.Own.x5) r7.2.1.Root r7.2.1.Gate r7.2.1.Seq r7.2.1.Trees r7.2.1.Proxies)).isSome) else true) <| need (bif (((bEq r5.1.Root.x0 r7.1.Root.x0 && (bEq r5.1.Root.x1 r7.1.Root.x1 && (bEq r5.1.Root.x2 r7.1.Root.x2 && (bEq r5.1.Root.x3 r7.1.Root.x3 && (bEq r5.1.Root.x4 r7.1.Root.x4 && (bEq r5.1.Root.x5 r7.1.Root.x5 && (bEq r5.1.Seq r7.1.Seq && (bEq r5.1.Hops r7.1.Hops && (bEq r5.1.Cost r7.1.Cost && (bB r5.1.Gate r7.1.Gate)))))))))) && (gt (F24 (TRoots.mk (A6u8.mk r5.2.1.Own.x0 r5.2.1.Own.x1 r5.2.1.Own.x2 r5.2.1.Own.x3 r5.2.1.Own.x4 r5.2.1.Own.x5) r5.2.1.Root r5.2.1.Gate r5.2.1.Seq r5.2.1.Trees r5.2.1.Proxies) (TRoots.mk (A6u8.mk r7.2.1.Own.x0 r7.2.1.Own.x1 r7.2.1.Own.x2 r7.2.1.Own.x3 r7.2.1.Own.x4 r7.2.1.Own.x5) r7.2.1.Root r7.2.1.Gate r7.2.1.Seq r7.2.1.Trees r7.2.1.Proxies)))) && (bEq r5.2.2 r7.2.2)) then ((F24 (TRoots.mk (A6u8.mk r9.1.Own.x0 r9.1.Own.x1 r9.1.Own.x2 r9.1.Own.x3 r9.1.Own.x4 r9.1.Own.x5) r9.1.Root r9.1.Gate r9.1.Seq r9.1.Trees r9.1.Proxies) (TRoots.mk (A6u8.mk r11.1.Own.x0 r11.1.Own.x1 r11.1.Own.x2 r11.1.Own.x3 r11.1.Own.x4 r11.1.Own.x5) r11.1.Root r11.1.Gate r11.1.Seq r11.1.Trees r11.1.Proxies)).isSome) else true) <| need (bif ((((bEq r5.1.Root.x0 r7.1.Root.x0 && (bEq r5.1.Root.x1 r7.1.Root.x1 && (bEq r5.1.Root.x2 r7.1.Root.x2 && (bEq r5.1.Root.x3 r7.1.Root.x3 && (bEq r5.1.Root.x4 r7.1.Root.x4 && (bEq r5.1.Root.x5 r7.1.Root.x5 && (bEq r5.1.Seq r7.1.Seq && (bEq r5.1.Hops r7.1.Hops && (bEq r5.1.Cost r7.1.Cost && (bB r5.1.Gate r7.1.Gate)))))))))) && (gt (F24 (TRoots.mk (A6u8.mk r5.2.1.Own.x0 r5.2.1.Own.x1 r5.2.1.Own.x2 r5.2.1.Own.x3 r5.2.1.Own.x4 r5.2.1.Own.x5) r5.2.1.Root r5.2.1.Gate r5.2.1.Seq r5.2.1.Trees r5.2.1.Proxies) (TRoots.mk (A6u8.mk r7.2.1.Own.x0 r7.2.1.Own.x1 r7.2.1.Own.x2 r7.2.1.Own.x3 r7.2.1.Own.x4 r7.2.1.Own.x5) r7.2.1.Root r7.2.1.Gate r7.2.1.Seq r7.2.1.Trees r7.2.1.Proxies)))) && (bEq r5.2.2 r7.2.2)) && (gt (F24 (TRoots.mk (A6u8.mk r9.1.Own.x0 r9.1.Own.x1 r9.1.Own.x2 r9.1.Own.x3 r9.1.Own.x4 r9.1.Own.x5) r9.1.Root r9.1.Gate r9.1.Seq r9.1.Trees r9.1.Proxies) (TRoots.mk (A6u8.mk r11.1.Own.x0 r11.1.Own.x1 r11.1.Own.x2 r11.1.Own.x3 r11.1.Own.x4 r11.1.Own.x5) r11.1.Root r11.1.Gate r11.1.Seq r11.1.Trees r11.1.Proxies)))) then ((F25 r9.2.1 r11.2.1).isSome) else true) <| need (bif ((((((bEq r5.1.Root.x0 r7.1.Root.x0 && (bEq r5.1.Root.x1 r7.1.Root.x1 && (bEq r5.1.Root.x2 r7.1.Root.x2 && (bEq r5.1.Root.x3 r7.1.Root.x3 && (bEq r5.1.Root.x4 r7.1.Root.x4 && (bEq r5.1.Root.x5 r7.1.Root.x5 && (bEq r5.1.Seq r7.1.Seq && (bEq r5.1.Hops r7.1.Hops && (bEq r5.1.Cost r7.1.Cost && (bB r5.1.Gate r7.1.Gate)))))))))) && (gt (F24 (TRoots.mk (A6u8.mk r5.2.1.Own.x0 r5.2.1.Own.x1 r5.2.1.Own.x2 r5.2.1.Own.x3 r5.2.1.Own.x4 r5.2.1.Own.x5) r5.2.1.Root r5.2.1.Gate r5.2.1.Seq r5.2.1.Trees r5.2.1.Proxies) (TRoots.mk (A6u8.mk r7.2.1.Own.x0 r7.2.1.Own.x1 r7.2.1.Own.x2 r7.2.1.Own.x3 r7.2.1.Own.x4 r7.2.1.Own.x5) r7.2.1.Root r7.2.1.Gate r7.2.1.Seq r7.2.1.Trees r7.2.1.Proxies)))) && (bEq r5.2.2 r7.2.2)) && (gt (F24 (TRoots.mk (A6u8.mk r9.1.Own.x0 r9.1.Own.x1 r9.1.Own.x2 r9.1.Own.x3 r9.1.Own.x4 r9.1.Own.x5) r9.1.Root r9.1.Gate r9.1.Seq r9.1.Trees r9.1.Proxies) (TRoots.mk (A6u8.mk r11.1.Own.x0 r11.1.Own.x1 r11.1.Own.x2 r11.1.Own.x3 r11.1.Own.x4 r11.1.Own.x5) r11.1.Root r11.1.Gate r11.1.Seq r11.1.Trees r11.1.Proxies)))) && (gt (F25 r9.2.1 r11.2.1))) && (bEq r9.2.2 r11.2.2)) then ((F24 (TRoots.mk (A6u8.mk r13.1.Own.x0 r13.1.Own.x1 r13.1.Own.x2 r13.1.Own.x3 r13.1.Own.x4 r13.1.Own.x5) r13.1.Root r13.1.Gate r13.1.Seq r13.1.Trees r13.1.Proxies) (TRoots.mk (A6u8.mk r15.1.Own.x0 r15.1.Own.x1 r15.1.Own.x2 r15.1.Own.x3 r15.1.Own.x4 r15.1.Own.x5) r15.1.Root r15.1.Gate r15.1.Seq r15.1.Trees r15.1.Proxies)).isSome) else true) <| need (bif (((((((bEq r5.1.Root.x0 r7.1.Root.x0 && (bEq r5.1.Root.x1 r7.1.Root.x1 && (bEq r5.1.Root.x2 r7.1.Root.x2 && (bEq r5.1.Root.x3 r7.1.Root.x3 && (bEq r5.1.Root.x4 r7.1.Root.x4 && (bEq r5.1.Root.x5 r7.1.Root.x5 && (bEq r5.1.Seq r7.1.Seq && (bEq r5.1.Hops r7.1.Hops && (bEq r5.1.Cost r7.1.Cost && (bB r5.1.Gate r7.1.Gate)))))))))) && (gt (F24 (TRoots.mk (A6u8.mk r5.2.1.Own.x0 r5.2.1.Own.x1 r5.2.1.Own.x2 r5.2.1.Own.x3 r5.2.1.Own.x4 r5.2.1.Own.x5) r5.2.1.Root r5.2.1.Gate r5.2.1.Seq r5.2.1.Trees r5.2.1.Proxies) (TRoots.mk (A6u8.mk r7.2.1.Own.x0 r7.2.1.Own.x1 r7.2.1.Own.x2 r7.2.1.Own.x3 r7.2.1.Own.x4 r7.2.1.Own.x5) r7.2.1.Root r7.2.1.Gate r7.2.1.Seq r7.2.1.Trees r7.2.1.Proxies)))) && (bEq r5.2.2 r7.2.2)) && (gt (F24 (TRoots.mk (A6u8.mk r9.1.Own.x0 r9.1.Own.x1 r9.1.Own.x2 r9.1.Own.x3 r9.1.Own.x4 r9.1.Own.x5) r9.1.Root r9.1.Gate r9.1.Seq r9.1.Trees r9.1.Proxies) (TRoots.mk (A6u8.mk r11.1.Own.x0 r11.1.Own.x1 r11.1.Own.x2 r11.1.Own.x3 r11.1.Own.x4 r11.1.Own.x5) r11.1.Root r11.1.Gate r11.1.Seq r11.1.Trees r11.1.Proxies)))) && (gt (F25 r9.2.1 r11.2.1))) && (bEq r9.2.2 r11.2.2)) && (gt (F24 (TRoots.mk (A6u8.mk r13.1.Own.x0 r13.1.Own.x1 r13.1.Own.x2 r13.1.Own.x3 r13.1.Own.x4 r13.1.Own.x5) r13.1.Root r13.1.Gate r13.1.Seq r13.1.Trees r13.1.Proxies) (TRoots.mk (A6u8.mk r15.1.Own.x0 r15.1.Own.x1 r15.1.Own.x2 r15.1.Own.x3 r15.1.Own.x4 r15.1.Own.x5) r15.1.Root r15.1.Gate r15.1.Seq r15.1.Trees r15.1.Proxies)))) then ((F26 r13.2.1 r15.2.1).isSome) else true) <| lp (loopD (fun s => F4_L1 s.1 s.2) (0, r9.1.Trees)) (fun e => lp (loopD (fun s => F4_L2 s.1 s.2) (0, r13.1.Proxies)) (fun e => need (bif (((((((((bEq r5.1.Root.x0 r7.1.Root.x0 && (bEq r5.1.Root.x1 r7.1.Root.x1 && (bEq r5.1.Root.x2 r7.1.Root.x2 && (bEq r5.1.Root.x3 r7.1.Root.x3 && (bEq r5.1.Root.x4 r7.1.Root.x4 && (bEq r5.1.Root.x5 r7.1.Root.x5 && (bEq r5.1.Seq r7.1.Seq && (bEq r5.1.Hops r7.1.Hops && (bEq r5.1.Cost r7.1.Cost && (bB r5.1.Gate r7.1.Gate)))))))))) && (gt (F24 (TRoots.mk (A6u8.mk r5.2.1.Own.x0 r5.2.1.Own.x1 r5.2.1.Own.x2 r5.2.1.Own.x3 r5.2.1.Own.x4 r5.2.1.Own.x5) r5.2.1.Root r5.2.1.Gate r5.2.1.Seq r5.2.1.Trees r5.2.1.Proxies) (TRoots.mk (A6u8.mk r7.2.1.Own.x0 r7.2.1.Own.x1 r7.2.1.Own.x2 r7.2.1.Own.x3 r7.2.1.Own.x4 r7.2.1.Own.x5) r7.2.1.Root r7.2.1.Gate r7.2.1.Seq r7.2.1.Trees r7.2.1.Proxies)))) && (bEq r5.2.2 r7.2.2)) && (gt (F24 (TRoots.mk (A6u8.mk r9.1.Own.x0 r9.1.Own.x1 r9.1.Own.x2 r9.1.Own.x3 r9.1.Own.x4 r9.1.Own.x5) r9.1.Root r9.1.Gate r9.1.Seq r9.1.Trees r9.1.Proxies) (TRoots.mk (A6u8.mk r11.1.Own.x0 r11.1.Own.x1 r11.1.Own.x2 r11.1.Own.x3 r11.1.Own.x4 r11.1.Own.x5) r11.1.Root r11.1.Gate r11.1.Seq r11.1.Trees r11.1.Proxies)))) && (gt (F25 r9.2.1 r11.2.1))) && (bEq r9.2.2 r11.2.2)) && (gt (F24 (TRoots.mk (A6u8.mk r13.1.Own.x0 r13.1.Own.x1 r13.1.Own.x2 r13.1.Own.x3 r13.1.Own.x4 r13.1.Own.x5) r13.1.Root r13.1.Gate r13.1.Seq r13.1.Trees r13.1.Proxies) (TRoots.mk (A6u8.mk r15.1.Own.x0 r15.1.Own.x1 r15.1.Own.x2 r15.1.Own.x3 r15.1.Own.x4 r15.1.Own.x5) r15.1.Root r15.1.Gate r15.1.Seq r15.1.Trees r15.1.Proxies)))) && (gt (F26 r13.2.1 r15.2.1))) && (bEq r13.2.2 r15.2.2)) then ((F24 p0 (TRoots.mk (A6u8.mk r3.Own.x0 r3.Own.x1 r3.Own.x2 r3.Own.x3 r3.Own.x4 r3.Own.x5) r3.Root r3.Gate r3.Seq r3.Trees r3.Proxies)).isSome) else true) <| some ((((((((((bEq r5.1.Root.x0 r7.1.Root.x0 && (bEq r5.1.Root.x1 r7.1.Root.x1 && (bEq r5.1.Root.x2 r7.1.Root.x2 && (bEq r5.1.Root.x3 r7.1.Root.x3 && (bEq r5.1.Root.x4 r7.1.Root.x4 && (bEq r5.1.Root.x5 r7.1.Root.x5 && (bEq r5.1.Seq r7.1.Seq && (bEq r5.1.Hops r7.1.Hops && (bEq r5.1.Cost r7.1.Cost && (bB r5.1.Gate r7.1.Gate)))))))))) && (gt (F24 (TRoots.mk (A6u8.mk r5.2.1.Own.x0 r5.2.1.Own.x1 r5.2.1.Own.x2 r5.2.1.Own.x3 r5.2.1.Own.x4 r5.2.1.Own.x5) r5.2.1.Root r5.2.1.Gate r5.2.1.Seq r5.2.1.Trees r5.2.1.Proxies) (TRoots.mk (A6u8.mk r7.2.1.Own.x0 r7.2.1.Own.x1 r7.2.1.Own.x2 r7.2.1.Own.x3 r7.2.1.Own.x4 r7.2.1.Own.x5) r7.2.1.Root r7.2.1.Gate r7.2.1.Seq r7.2.1.Trees r7.2.1.Proxies)))) && (bEq r5.2.2 r7.2.2)) && (gt (F24 (TRoots.mk (A6u8.mk r9.1.Own.x0 r9.1.Own.x1 r9.1.Own.x2 r9.1.Own.x3 r9.1.Own.x4 r9.1.Own.x5) r9.1.Root r9.1.Gate r9.1.Seq r9.1.Trees r9.1.Proxies) (TRoots.mk (A6u8.mk r11.1.Own.x0 r11.1.Own.x1 r11.1.Own.x2 r11.1.Own.x3 r11.1.Own.x4 r11.1.Own.x5) r11.1.Root r11.1.Gate r11.1.Seq r11.1.Trees r11.1.Proxies)))) && (gt (F25 r9.2.1 r11.2.1))) && (bEq r9.2.2 r11.2.2)) && (gt (F24 (TRoots.mk (A6u8.mk r13.1.Own.x0 r13.1.Own.x1 r13.1.Own.x2 r13.1.Own.x3 r13.1.Own.x4 r13.1.Own.x5) r13.1.Root r13.1.Gate r13.1.Seq r13.1.Trees r13.1.Proxies) (TRoots.mk (A6u8.mk r15.1.Own.x0 r15.1.Own.x1 r15.1.Own.x2 r15.1.Own.x3 r15.1.Own.x4 r15.1.Own.x5) r15.1.Root r15.1.Gate r15.1.Seq r15.1.Trees r15.1.Proxies)))) && (gt (F26 r13.2.1 r15.2.1))) && (bEq r13.2.2 r15.2.2)) && (gt (F24 p0 (TRoots.mk (A6u8.mk r3.Own.x0 r3.Own.x1 r3.Own.x2 r3.Own.x3 r3.Own.x4 r3.Own.x5) r3.Root r3.Gate r3.Seq r3.Trees r3.Proxies))))) some) some)
noncomputable def body4 : List AV → AR
  | [v0, v1, v2, v3, v4] => .pure (aK 11 k_TRoots v0 ∧ aK 10 k_TRootWord v1 ∧ aK 6 k_A6u8 v2 ∧ iK .i64 v3 ∧ iK .i64 v4 ∧ (F4 (g_TRoots (aL v0)) (g_TRootWord (aL v1)) (g_A6u8 (aL v2)) (iA v3) (iA v4)).isSome = true) (.bool (gt (F4 (g_TRoots (aL v0)) (g_TRootWord (aL v1)) (g_A6u8 (aL v2)) (iA v3) (iA v4))))
  | _ => .fail
set_option maxHeartbeats 4000000 in
set_option maxRecDepth 20000 in
theorem ok4 : FnOk Try.prog 4 (pureC body4) := by
  refine pure_fnM body4 (rs := [.tmp 10]) Try.func4 (by kernel_rfl) rfl rfl ?_
  intro l ob v hb hob
  unfold body4 at hb
  split at hb
  · rename_i v0 v1 v2 v3 v4
    injection hb with q1 q2; subst q1 q2
    obtain ⟨hk0_0, hk1_0, hk2_0, hk3_0, hk4_0, hob⟩ := hob
    obtain ⟨r, H⟩ := Option.isSome_iff_exists.1 hob
    rw [H, gt_some]
    have hw0 := wA_TRoots hk0_0
    have hw1 := wA_TRootWord hk1_0
    have hw2 := wA_A6u8 hk2_0
    have hw3 := iK_wk hk3_0
    have hw4 := iK_wk hk4_0
    generalize g_TRoots (aL v0) = p0 at H hw0
    generalize g_TRootWord (aL v1) = p1 at H hw1
    generalize g_A6u8 (aL v2) = p2 at H hw2
    generalize iA v3 = p3 at H hw3
    generalize iA v4 = p4 at H hw4
    refine ⟨[.agg [.int .u8 p0.Own.x0, .int .u8 p0.Own.x1, .int .u8 p0.Own.x2, .int .u8 p0.Own.x3, .int .u8 p0.Own.x4, .int .u8 p0.Own.x5, .bool p0.Root, .bool p0.Gate, .int .i64 p0.Seq, .ro 17 p0.Trees.length false (enR c_TTree p0.Trees), .ro 13 p0.Proxies.length false (enR c_TProxied p0.Proxies)], .agg [.int .u8 p1.Root.x0, .int .u8 p1.Root.x1, .int .u8 p1.Root.x2, .int .u8 p1.Root.x3, .int .u8 p1.Root.x4, .int .u8 p1.Root.x5, .int .i64 p1.Seq, .int .i64 p1.Hops, .int .i64 p1.Cost, .bool p1.Gate], .agg [.int .u8 p2.x0, .int .u8 p2.x1, .int .u8 p2.x2, .int .u8 p2.x3, .int .u8 p2.x4, .int .u8 p2.x5], .int .i64 p3, .int .i64 p4], _, (fun E vs F => FR_wk1 hw0.1 F (fun vs F => FR_wk1 hw1.1 F (fun vs F => FR_wk1 hw2.1 F (fun vs F => FR_wk1 hw3.1 F (fun vs F => FR_wk1 hw4.1 F (fun vs F => F)))))), rfl, rfl, ?_⟩
    rw [Try.ntmps4]
    simp only [List.length_cons, List.length_nil, Nat.reduceAdd, Nat.reduceSub, List.replicate_succ, List.replicate_zero, List.cons_append, List.nil_append]
    unfold F4 at H
    try dsimp only at H
    refine sq ctNo_ok ?_
    simp only [go_sem, Nat.reduceLeDiff, Nat.reduceLT, Nat.reduceAdd, Nat.reduceMul, Nat.reduceSub, Nat.reduceEqDiff, Nat.reduceBEq, Int.reduceToNat, reduceCtorEq]
    refine seqM ?_
    refine seqM ?_
    obtain ⟨r1, e2, H⟩ := Option.bind_eq_some_iff.1 H
    refine rg ct4t0_ok ?_
    simp only [go_sem, Nat.reduceLeDiff, Nat.reduceLT, Nat.reduceAdd, Nat.reduceMul, Nat.reduceSub, Nat.reduceEqDiff, Nat.reduceBEq, Int.reduceToNat, reduceCtorEq, ct4t0_16, body16, e2]
    repeat ((with_reducible refine And.intro ?_ ?_); focus (first | (with_reducible trivial) | omega | (and_intros <;> first | (with_reducible trivial) | omega | assumption | exact nfc | first | exact rfl | exact trivial | exact fitI | exact Or.inr rfl | exact Or.inl rfl | exact fun x hx => absurd hx (by omega) | (intro x hx; (repeat (first | (and_intros <;> (first | exact rfl | exact trivial | exact fitI | exact Or.inr rfl | exact Or.inl rfl | exact fun x hx => absurd hx (by omega))) | (exfalso; omega) | (rcases x with _ | x))); done)) | grind))
    refine condM rfl trivial (fun hc => ?_) (fun hc => ?_)
    · replace H := cond_t hc H
      refine sq ctNo_ok ?_
      simp only [go_sem, Nat.reduceLeDiff, Nat.reduceLT, Nat.reduceAdd, Nat.reduceMul, Nat.reduceSub, Nat.reduceEqDiff, Nat.reduceBEq, Int.reduceToNat, reduceCtorEq]
      refine rg ctNo_ok ?_
      simp only [go_sem, Nat.reduceLeDiff, Nat.reduceLT, Nat.reduceAdd, Nat.reduceMul, Nat.reduceSub, Nat.reduceEqDiff, Nat.reduceBEq, Int.reduceToNat, reduceCtorEq]
      obtain rfl := Option.some.inj H
      first | rfl | simp only [Bool.and_false, Bool.false_and, Bool.and_true, Bool.true_and]
    replace H := cond_f hc H
    refine rg ctNo_ok ?_
    simp only [go_sem, Nat.reduceLeDiff, Nat.reduceLT, Nat.reduceAdd, Nat.reduceMul, Nat.reduceSub, Nat.reduceEqDiff, Nat.reduceBEq, Int.reduceToNat, reduceCtorEq]
    refine seqM ?_
    obtain ⟨r3, e4, H⟩ := Option.bind_eq_some_iff.1 H
    refine rg ct4t1_ok ?_
    simp only [go_sem, Nat.reduceLeDiff, Nat.reduceLT, Nat.reduceAdd, Nat.reduceMul, Nat.reduceSub, Nat.reduceEqDiff, Nat.reduceBEq, Int.reduceToNat, reduceCtorEq, roD, roDOb, deadL, edC, edR, nodupB, rnm, rnmL, rnmB, rnmH, rnm_bif, rnmB_bif, putH, dropH, rhoN, ptB, slN, litL, celL, pK, isLit, oS, isRow, inL, ct4t1_17, body17, e4]
    repeat ((with_reducible refine And.intro ?_ ?_); focus (first | (with_reducible trivial) | omega | (and_intros <;> first | (with_reducible trivial) | omega | assumption | exact nfc | first | exact rfl | exact trivial | exact fitI | exact Or.inr rfl | exact Or.inl rfl | exact fun x hx => absurd hx (by omega) | (intro x hx; (repeat (first | (and_intros <;> (first | exact rfl | exact trivial | exact fitI | exact Or.inr rfl | exact Or.inl rfl | exact fun x hx => absurd hx (by omega))) | (exfalso; omega) | (rcases x with _ | x))); done)) | grind))
    refine seqM ?_
    obtain ⟨r5, e6, H⟩ := Option.bind_eq_some_iff.1 H
    refine rg ct4t2_ok ?_
    simp only [go_sem, Nat.reduceLeDiff, Nat.reduceLT, Nat.reduceAdd, Nat.reduceMul, Nat.reduceSub, Nat.reduceEqDiff, Nat.reduceBEq, Int.reduceToNat, reduceCtorEq, roD, roDOb, deadL, edC, edR, nodupB, rnm, rnmL, rnmB, rnmH, rnm_bif, rnmB_bif, putH, dropH, rhoN, ptB, slN, litL, celL, pK, isLit, oS, isRow, inL, ct4t2_18, body18, e6]
    repeat ((with_reducible refine And.intro ?_ ?_); focus (first | (with_reducible trivial) | omega | (and_intros <;> first | (with_reducible trivial) | omega | assumption | exact nfc | first | exact rfl | exact trivial | exact fitI | exact Or.inr rfl | exact Or.inl rfl | exact fun x hx => absurd hx (by omega) | (intro x hx; (repeat (first | (and_intros <;> (first | exact rfl | exact trivial | exact fitI | exact Or.inr rfl | exact Or.inl rfl | exact fun x hx => absurd hx (by omega))) | (exfalso; omega) | (rcases x with _ | x))); done)) | grind))
    refine seqM ?_
    obtain ⟨r7, e8, H⟩ := Option.bind_eq_some_iff.1 H
    refine rg ct4t3_ok ?_
    simp only [go_sem, Nat.reduceLeDiff, Nat.reduceLT, Nat.reduceAdd, Nat.reduceMul, Nat.reduceSub, Nat.reduceEqDiff, Nat.reduceBEq, Int.reduceToNat, reduceCtorEq, roD, roDOb, deadL, edC, edR, nodupB, rnm, rnmL, rnmB, rnmH, rnm_bif, rnmB_bif, putH, dropH, rhoN, ptB, slN, litL, celL, pK, isLit, oS, isRow, inL, ct4t3_19, body19, e8]
    repeat ((with_reducible refine And.intro ?_ ?_); focus (first | (with_reducible trivial) | omega | (and_intros <;> first | (with_reducible trivial) | omega | assumption | exact nfc | first | exact rfl | exact trivial | exact fitI | exact Or.inr rfl | exact Or.inl rfl | exact fun x hx => absurd hx (by omega) | (intro x hx; (repeat (first | (and_intros <;> (first | exact rfl | exact trivial | exact fitI | exact Or.inr rfl | exact Or.inl rfl | exact fun x hx => absurd hx (by omega))) | (exfalso; omega) | (rcases x with _ | x))); done)) | grind))
    refine seqM ?_
    obtain ⟨r9, e10, H⟩ := Option.bind_eq_some_iff.1 H
    refine rg ct4t4_ok ?_
    simp only [go_sem, Nat.reduceLeDiff, Nat.reduceLT, Nat.reduceAdd, Nat.reduceMul, Nat.reduceSub, Nat.reduceEqDiff, Nat.reduceBEq, Int.reduceToNat, reduceCtorEq, roD, roDOb, deadL, edC, edR, nodupB, rnm, rnmL, rnmB, rnmH, rnm_bif, rnmB_bif, putH, dropH, rhoN, ptB, slN, litL, celL, pK, isLit, oS, isRow, inL, ct4t4_20, body20, e10]
    repeat ((with_reducible refine And.intro ?_ ?_); focus (first | (with_reducible trivial) | omega | (and_intros <;> first | (with_reducible trivial) | omega | assumption | exact nfc | first | exact rfl | exact trivial | exact fitI | exact Or.inr rfl | exact Or.inl rfl | exact fun x hx => absurd hx (by omega) | (intro x hx; (repeat (first | (and_intros <;> (first | exact rfl | exact trivial | exact fitI | exact Or.inr rfl | exact Or.inl rfl | exact fun x hx => absurd hx (by omega))) | (exfalso; omega) | (rcases x with _ | x))); done)) | grind))
    refine seqM ?_
    obtain ⟨r11, e12, H⟩ := Option.bind_eq_some_iff.1 H
    refine rg ct4t5_ok ?_
    simp only [go_sem, Nat.reduceLeDiff, Nat.reduceLT, Nat.reduceAdd, Nat.reduceMul, Nat.reduceSub, Nat.reduceEqDiff, Nat.reduceBEq, Int.reduceToNat, reduceCtorEq, roD, roDOb, deadL, edC, edR, nodupB, rnm, rnmL, rnmB, rnmH, rnm_bif, rnmB_bif, putH, dropH, rhoN, ptB, slN, litL, celL, pK, isLit, oS, isRow, inL, ct4t5_21, body21, e12]
    repeat ((with_reducible refine And.intro ?_ ?_); focus (first | (with_reducible trivial) | omega | (and_intros <;> first | (with_reducible trivial) | omega | assumption | exact nfc | first | exact rfl | exact trivial | exact fitI | exact Or.inr rfl | exact Or.inl rfl | exact fun x hx => absurd hx (by omega) | (intro x hx; (repeat (first | (and_intros <;> (first | exact rfl | exact trivial | exact fitI | exact Or.inr rfl | exact Or.inl rfl | exact fun x hx => absurd hx (by omega))) | (exfalso; omega) | (rcases x with _ | x))); done)) | grind))
    refine seqM ?_
    obtain ⟨r13, e14, H⟩ := Option.bind_eq_some_iff.1 H
    refine rg ct4t6_ok ?_
    simp only [go_sem, Nat.reduceLeDiff, Nat.reduceLT, Nat.reduceAdd, Nat.reduceMul, Nat.reduceSub, Nat.reduceEqDiff, Nat.reduceBEq, Int.reduceToNat, reduceCtorEq, roD, roDOb, deadL, edC, edR, nodupB, rnm, rnmL, rnmB, rnmH, rnm_bif, rnmB_bif, putH, dropH, rhoN, ptB, slN, litL, celL, pK, isLit, oS, isRow, inL, ct4t6_22, body22, e14]
    repeat ((with_reducible refine And.intro ?_ ?_); focus (first | (with_reducible trivial) | omega | (and_intros <;> first | (with_reducible trivial) | omega | assumption | exact nfc | first | exact rfl | exact trivial | exact fitI | exact Or.inr rfl | exact Or.inl rfl | exact fun x hx => absurd hx (by omega) | (intro x hx; (repeat (first | (and_intros <;> (first | exact rfl | exact trivial | exact fitI | exact Or.inr rfl | exact Or.inl rfl | exact fun x hx => absurd hx (by omega))) | (exfalso; omega) | (rcases x with _ | x))); done)) | grind))
    refine seqM ?_
    obtain ⟨r15, e16, H⟩ := Option.bind_eq_some_iff.1 H
    refine rg ct4t7_ok ?_
    simp only [go_sem, Nat.reduceLeDiff, Nat.reduceLT, Nat.reduceAdd, Nat.reduceMul, Nat.reduceSub, Nat.reduceEqDiff, Nat.reduceBEq, Int.reduceToNat, reduceCtorEq, roD, roDOb, deadL, edC, edR, nodupB, rnm, rnmL, rnmB, rnmH, rnm_bif, rnmB_bif, putH, dropH, rhoN, ptB, slN, litL, celL, pK, isLit, oS, isRow, inL, ct4t7_23, body23, e16]
    repeat ((with_reducible refine And.intro ?_ ?_); focus (first | (with_reducible trivial) | omega | (and_intros <;> first | (with_reducible trivial) | omega | assumption | exact nfc | first | exact rfl | exact trivial | exact fitI | exact Or.inr rfl | exact Or.inl rfl | exact fun x hx => absurd hx (by omega) | (intro x hx; (repeat (first | (and_intros <;> (first | exact rfl | exact trivial | exact fitI | exact Or.inr rfl | exact Or.inl rfl | exact fun x hx => absurd hx (by omega))) | (exfalso; omega) | (rcases x with _ | x))); done)) | grind))
    refine seqM ?_
    obtain ⟨f17, H⟩ := need_some.1 H
    replace f17 := g_iff.1 f17
    obtain ⟨f18, H⟩ := need_some.1 H
    replace f18 := g_iff.1 f18
    obtain ⟨f19, H⟩ := need_some.1 H
    replace f19 := g_iff.1 f19
    obtain ⟨f20, H⟩ := need_some.1 H
    replace f20 := g_iff.1 f20
    obtain ⟨f21, H⟩ := need_some.1 H
    replace f21 := g_iff.1 f21
    refine rg ct4t8_ok ?_
    simp only [go_sem, Nat.reduceLeDiff, Nat.reduceLT, Nat.reduceAdd, Nat.reduceMul, Nat.reduceSub, Nat.reduceEqDiff, Nat.reduceBEq, Int.reduceToNat, reduceCtorEq, ct4t8_24, body24, ct4t8_25, body25, ct4t8_26, body26]
    repeat ((with_reducible refine And.intro ?_ ?_); focus (first | (with_reducible trivial) | omega | exact f17 | exact f18 | exact f19 | exact f20 | exact f21 | (intro g; have q := f17 (by first | exact g | (rw [g]; rfl) | simpa using g); first | exact q | exact ⟨q.1, q.2.1⟩ | exact q.2.2 | omega | exact ⟨g, q⟩ | exact ⟨trivial, q⟩ | exact ⟨g, q.1, q.2.1⟩ | exact ⟨g, q.2.2⟩) | (intro g; have q := f18 (by first | exact g | (rw [g]; rfl) | simpa using g); first | exact q | exact ⟨q.1, q.2.1⟩ | exact q.2.2 | omega | exact ⟨g, q⟩ | exact ⟨trivial, q⟩ | exact ⟨g, q.1, q.2.1⟩ | exact ⟨g, q.2.2⟩) | (intro g; have q := f19 (by first | exact g | (rw [g]; rfl) | simpa using g); first | exact q | exact ⟨q.1, q.2.1⟩ | exact q.2.2 | omega | exact ⟨g, q⟩ | exact ⟨trivial, q⟩ | exact ⟨g, q.1, q.2.1⟩ | exact ⟨g, q.2.2⟩) | (intro g; have q := f20 (by first | exact g | (rw [g]; rfl) | simpa using g); first | exact q | exact ⟨q.1, q.2.1⟩ | exact q.2.2 | omega | exact ⟨g, q⟩ | exact ⟨trivial, q⟩ | exact ⟨g, q.1, q.2.1⟩ | exact ⟨g, q.2.2⟩) | (intro g; have q := f21 (by first | exact g | (rw [g]; rfl) | simpa using g); first | exact q | exact ⟨q.1, q.2.1⟩ | exact q.2.2 | omega | exact ⟨g, q⟩ | exact ⟨trivial, q⟩ | exact ⟨g, q.1, q.2.1⟩ | exact ⟨g, q.2.2⟩) | (intro g; (try have q0 := f17 (by first | exact g | (rw [g]; rfl) | simpa using g)); (try have q1 := f18 (by first | exact g | (rw [g]; rfl) | simpa using g)); (try have q2 := f19 (by first | exact g | (rw [g]; rfl) | simpa using g)); (try have q3 := f20 (by first | exact g | (rw [g]; rfl) | simpa using g)); (try have q4 := f21 (by first | exact g | (rw [g]; rfl) | simpa using g)); and_intros <;> first | (with_reducible trivial) | assumption | exact nfc | (intro g2; rw [g, g2]; rfl) | (intro g2; assumption) | (simp only [g, Bool.true_and, Bool.and_true, Bool.not_false, Bool.not_true]; assumption) | grind) | (and_intros <;> first | (with_reducible trivial) | omega | assumption | exact nfc | first | exact rfl | exact trivial | exact fitI | exact Or.inr rfl | exact Or.inl rfl | exact fun x hx => absurd hx (by omega) | (intro x hx; (repeat (first | (and_intros <;> (first | exact rfl | exact trivial | exact fitI | exact Or.inr rfl | exact Or.inl rfl | exact fun x hx => absurd hx (by omega))) | (exfalso; omega) | (rcases x with _ | x))); done)) | grind))
    refine seqM ?_
    refine sq ctNo_ok ?_
    simp only [go_sem, Nat.reduceLeDiff, Nat.reduceLT, Nat.reduceAdd, Nat.reduceMul, Nat.reduceSub, Nat.reduceEqDiff, Nat.reduceBEq, Int.reduceToNat, reduceCtorEq]
    refine blkM ?_
    refine loop_den (fun s : Int × (List TTree) => (.top :: .top :: .top :: .top :: .top :: .ptr 0 0 0 0 :: .top :: .top :: .top :: .top :: .top :: .ptr 5 0 0 0 :: .top :: .top :: .top :: .top :: .top :: .top :: .ptr 17 0 0 0 :: .top :: .top :: .top :: .top :: .top :: .ptr 25 0 0 0 :: .top :: .top :: .top :: .top :: .top :: .bool (((((((((bEq r5.1.Root.x0 r7.1.Root.x0 && (bEq r5.1.Root.x1 r7.1.Root.x1 && (bEq r5.1.Root.x2 r7.1.Root.x2 && (bEq r5.1.Root.x3 r7.1.Root.x3 && (bEq r5.1.Root.x4 r7.1.Root.x4 && (bEq r5.1.Root.x5 r7.1.Root.x5 && (bEq r5.1.Seq r7.1.Seq && (bEq r5.1.Hops r7.1.Hops && (bEq r5.1.Cost r7.1.Cost && (bB r5.1.Gate r7.1.Gate)))))))))) && (gt (F24 (TRoots.mk (A6u8.mk r5.2.1.Own.x0 r5.2.1.Own.x1 r5.2.1.Own.x2 r5.2.1.Own.x3 r5.2.1.Own.x4 r5.2.1.Own.x5) r5.2.1.Root r5.2.1.Gate r5.2.1.Seq r5.2.1.Trees r5.2.1.Proxies) (TRoots.mk (A6u8.mk r7.2.1.Own.x0 r7.2.1.Own.x1 r7.2.1.Own.x2 r7.2.1.Own.x3 r7.2.1.Own.x4 r7.2.1.Own.x5) r7.2.1.Root r7.2.1.Gate r7.2.1.Seq r7.2.1.Trees r7.2.1.Proxies)))) && (bEq r5.2.2 r7.2.2)) && (gt (F24 (TRoots.mk (A6u8.mk r9.1.Own.x0 r9.1.Own.x1 r9.1.Own.x2 r9.1.Own.x3 r9.1.Own.x4 r9.1.Own.x5) r9.1.Root r9.1.Gate r9.1.Seq r9.1.Trees r9.1.Proxies) (TRoots.mk (A6u8.mk r11.1.Own.x0 r11.1.Own.x1 r11.1.Own.x2 r11.1.Own.x3 r11.1.Own.x4 r11.1.Own.x5) r11.1.Root r11.1.Gate r11.1.Seq r11.1.Trees r11.1.Proxies)))) && (gt (F25 r9.2.1 r11.2.1))) && (bEq r9.2.2 r11.2.2)) && (gt (F24 (TRoots.mk (A6u8.mk r13.1.Own.x0 r13.1.Own.x1 r13.1.Own.x2 r13.1.Own.x3 r13.1.Own.x4 r13.1.Own.x5) r13.1.Root r13.1.Gate r13.1.Seq r13.1.Trees r13.1.Proxies) (TRoots.mk (A6u8.mk r15.1.Own.x0 r15.1.Own.x1 r15.1.Own.x2 r15.1.Own.x3 r15.1.Own.x4 r15.1.Own.x5) r15.1.Root r15.1.Gate r15.1.Seq r15.1.Trees r15.1.Proxies)))) && (gt (F26 r13.2.1 r15.2.1))) && (bEq r13.2.2 r15.2.2)) :: .int .i64 s.1 :: .top :: .top :: .top :: .top :: .top :: .top :: .top :: .top :: .top :: .top :: .top :: .top :: .top :: .top :: .top :: .top :: .top :: .top :: .top :: .top :: .top :: .top :: .top :: .top :: .top :: .top :: .top :: .top :: .top :: .top :: .top :: .top :: .top :: .top :: .top :: .top :: .top :: .top :: .top :: .top :: .top :: .top :: .top :: .top :: .top :: .top :: .top :: .top :: .top :: .top :: .top :: .top :: .top :: .top :: .top :: .top :: .top :: .top :: .top :: .top :: .top :: .top :: .top :: .top :: .top :: .top :: .top :: .top :: .top :: .top :: .top :: .top :: .top :: .top :: .top :: .top :: .top :: .top :: .top :: .top :: .top :: .top :: .top :: .top :: .top :: .top :: .top :: .top :: .top :: .top :: .top :: .top :: .top :: .top :: .top :: .top :: .top :: .top :: .top :: .top :: .top :: .top :: .top :: .top :: .top :: .top :: .top :: .top :: .top :: .top :: .top :: .top :: .top :: .top :: .top :: .top :: .top :: .top :: .top :: .top :: .top :: .top :: .top :: .top :: [])) (fun s => (.lit 41 [.int .u8 p0.Own.x0, .int .u8 p0.Own.x1, .int .u8 p0.Own.x2, .int .u8 p0.Own.x3, .int .u8 p0.Own.x4, .int .u8 p0.Own.x5, .bool p0.Root, .bool p0.Gate, .int .i64 p0.Seq, .ro 17 p0.Trees.length false (enR c_TTree p0.Trees), .ro 13 p0.Proxies.length false (enR c_TProxied p0.Proxies)] :: .dead :: .dead :: .row 62 17 r3.Trees.length (enR c_TTree r3.Trees) :: .row 64 13 r3.Proxies.length (enR c_TProxied r3.Proxies) :: .lit 41 [.int .u8 r3.Own.x0, .int .u8 r3.Own.x1, .int .u8 r3.Own.x2, .int .u8 r3.Own.x3, .int .u8 r3.Own.x4, .int .u8 r3.Own.x5, .bool r3.Root, .bool r3.Gate, .int .i64 r3.Seq, .sl 3 17 0 r3.Trees.length false, .sl 4 13 0 r3.Proxies.length false] :: .dead :: .dead :: .dead :: .dead :: .dead :: .dead :: .dead :: .dead :: .dead :: .row 64 13 r9.1.Proxies.length (enR c_TProxied r9.1.Proxies) :: .dead :: .lit 41 [.int .u8 r9.1.Own.x0, .int .u8 r9.1.Own.x1, .int .u8 r9.1.Own.x2, .int .u8 r9.1.Own.x3, .int .u8 r9.1.Own.x4, .int .u8 r9.1.Own.x5, .bool r9.1.Root, .bool r9.1.Gate, .int .i64 r9.1.Seq, .sl 30 17 0 s.2.length false, .sl 15 13 0 r9.1.Proxies.length false] :: .dead :: .dead :: .dead :: .dead :: .row 62 17 r13.1.Trees.length (enR c_TTree r13.1.Trees) :: .row 64 13 r13.1.Proxies.length (enR c_TProxied r13.1.Proxies) :: .dead :: .lit 41 [.int .u8 r13.1.Own.x0, .int .u8 r13.1.Own.x1, .int .u8 r13.1.Own.x2, .int .u8 r13.1.Own.x3, .int .u8 r13.1.Own.x4, .int .u8 r13.1.Own.x5, .bool r13.1.Root, .bool r13.1.Gate, .int .i64 r13.1.Seq, .sl 22 17 0 r13.1.Trees.length false, .sl 23 13 0 r13.1.Proxies.length false] :: .dead :: .dead :: .dead :: .dead :: .row 62 17 s.2.length (enR c_TTree s.2) :: [])) (fun e : Unit => (.top :: .top :: .top :: .top :: .top :: .ptr 0 0 0 0 :: .top :: .top :: .top :: .top :: .top :: .ptr 5 0 0 0 :: .top :: .top :: .top :: .top :: .top :: .top :: .top :: .top :: .top :: .top :: .top :: .top :: .ptr 25 0 0 0 :: .top :: .top :: .top :: .top :: .top :: .bool (((((((((bEq r5.1.Root.x0 r7.1.Root.x0 && (bEq r5.1.Root.x1 r7.1.Root.x1 && (bEq r5.1.Root.x2 r7.1.Root.x2 && (bEq r5.1.Root.x3 r7.1.Root.x3 && (bEq r5.1.Root.x4 r7.1.Root.x4 && (bEq r5.1.Root.x5 r7.1.Root.x5 && (bEq r5.1.Seq r7.1.Seq && (bEq r5.1.Hops r7.1.Hops && (bEq r5.1.Cost r7.1.Cost && (bB r5.1.Gate r7.1.Gate)))))))))) && (gt (F24 (TRoots.mk (A6u8.mk r5.2.1.Own.x0 r5.2.1.Own.x1 r5.2.1.Own.x2 r5.2.1.Own.x3 r5.2.1.Own.x4 r5.2.1.Own.x5) r5.2.1.Root r5.2.1.Gate r5.2.1.Seq r5.2.1.Trees r5.2.1.Proxies) (TRoots.mk (A6u8.mk r7.2.1.Own.x0 r7.2.1.Own.x1 r7.2.1.Own.x2 r7.2.1.Own.x3 r7.2.1.Own.x4 r7.2.1.Own.x5) r7.2.1.Root r7.2.1.Gate r7.2.1.Seq r7.2.1.Trees r7.2.1.Proxies)))) && (bEq r5.2.2 r7.2.2)) && (gt (F24 (TRoots.mk (A6u8.mk r9.1.Own.x0 r9.1.Own.x1 r9.1.Own.x2 r9.1.Own.x3 r9.1.Own.x4 r9.1.Own.x5) r9.1.Root r9.1.Gate r9.1.Seq r9.1.Trees r9.1.Proxies) (TRoots.mk (A6u8.mk r11.1.Own.x0 r11.1.Own.x1 r11.1.Own.x2 r11.1.Own.x3 r11.1.Own.x4 r11.1.Own.x5) r11.1.Root r11.1.Gate r11.1.Seq r11.1.Trees r11.1.Proxies)))) && (gt (F25 r9.2.1 r11.2.1))) && (bEq r9.2.2 r11.2.2)) && (gt (F24 (TRoots.mk (A6u8.mk r13.1.Own.x0 r13.1.Own.x1 r13.1.Own.x2 r13.1.Own.x3 r13.1.Own.x4 r13.1.Own.x5) r13.1.Root r13.1.Gate r13.1.Seq r13.1.Trees r13.1.Proxies) (TRoots.mk (A6u8.mk r15.1.Own.x0 r15.1.Own.x1 r15.1.Own.x2 r15.1.Own.x3 r15.1.Own.x4 r15.1.Own.x5) r15.1.Root r15.1.Gate r15.1.Seq r15.1.Trees r15.1.Proxies)))) && (gt (F26 r13.2.1 r15.2.1))) && (bEq r13.2.2 r15.2.2)) :: .top :: .top :: .top :: .top :: .top :: .top :: .top :: .top :: .top :: .top :: .top :: .top :: .top :: .top :: .top :: .top :: .top :: .top :: .top :: .top :: .top :: .top :: .top :: .top :: .top :: .top :: .top :: .top :: .top :: .top :: .top :: .top :: .top :: .top :: .top :: .top :: .top :: .top :: .top :: .top :: .top :: .top :: .top :: .top :: .top :: .top :: .top :: .top :: .top :: .top :: .top :: .top :: .top :: .top :: .top :: .top :: .top :: .top :: .top :: .top :: .top :: .top :: .top :: .top :: .top :: .top :: .top :: .top :: .top :: .top :: .top :: .top :: .top :: .top :: .top :: .top :: .top :: .top :: .top :: .top :: .top :: .top :: .top :: .top :: .top :: .top :: .top :: .top :: .top :: .top :: .top :: .top :: .top :: .top :: .top :: .top :: .top :: .top :: .top :: .top :: .top :: .top :: .top :: .top :: .top :: .top :: .top :: .top :: .top :: .top :: .top :: .top :: .top :: .top :: .top :: .top :: .top :: .top :: .top :: .top :: .top :: .top :: .top :: .top :: .top :: [])) (fun e => [.lit 41 [.int .u8 p0.Own.x0, .int .u8 p0.Own.x1, .int .u8 p0.Own.x2, .int .u8 p0.Own.x3, .int .u8 p0.Own.x4, .int .u8 p0.Own.x5, .bool p0.Root, .bool p0.Gate, .int .i64 p0.Seq, .ro 17 p0.Trees.length false (enR c_TTree p0.Trees), .ro 13 p0.Proxies.length false (enR c_TProxied p0.Proxies)], .dead, .dead, .row 62 17 r3.Trees.length (enR c_TTree r3.Trees), .row 64 13 r3.Proxies.length (enR c_TProxied r3.Proxies), .lit 41 [.int .u8 r3.Own.x0, .int .u8 r3.Own.x1, .int .u8 r3.Own.x2, .int .u8 r3.Own.x3, .int .u8 r3.Own.x4, .int .u8 r3.Own.x5, .bool r3.Root, .bool r3.Gate, .int .i64 r3.Seq, .sl 3 17 0 r3.Trees.length false, .sl 4 13 0 r3.Proxies.length false], .dead, .dead, .dead, .dead, .dead, .dead, .dead, .dead, .dead, .dead, .dead, .dead, .dead, .dead, .dead, .dead, .row 62 17 r13.1.Trees.length (enR c_TTree r13.1.Trees), .row 64 13 r13.1.Proxies.length (enR c_TProxied r13.1.Proxies), .dead, .lit 41 [.int .u8 r13.1.Own.x0, .int .u8 r13.1.Own.x1, .int .u8 r13.1.Own.x2, .int .u8 r13.1.Own.x3, .int .u8 r13.1.Own.x4, .int .u8 r13.1.Own.x5, .bool r13.1.Root, .bool r13.1.Gate, .int .i64 r13.1.Seq, .sl 22 17 0 r13.1.Trees.length false, .sl 23 13 0 r13.1.Proxies.length false], .dead, .dead, .dead, .dead]) H ?_ (fun s o H hn1_1 hn2_1 => ?_) (fun e H => ?_)
    · refine SubF_of ⟨[some 0, some 1, some 2, some 3, some 4, some 5, some 6, some 7, some 8, some 9, some 10, some 11, some 12, some 13, some 14, some 15, some 16, some 17, some 18, some 19, some 20, some 21, some 22, some 23, some 24, some 25, some 26, some 27, some 28, some 29, some 14], ?_, ?_, by rfl, by rfl⟩
      · simp [CvL, Cv, getM]
      · exact ⟨(by simp [CvB, CvL, Cv, blkAt, geth, getM]), CvB_dead, CvB_dead, (CvB_same nfA), (CvB_same nfA), (by simp [CvB, CvL, Cv, blkAt, geth, getM]), CvB_dead, CvB_dead, CvB_dead, CvB_dead, CvB_dead, CvB_dead, CvB_dead, CvB_dead, CvB_dead, (CvB_same nfA), CvB_dead, (by simp [CvB, CvL, Cv, blkAt, geth, getM]), CvB_dead, CvB_dead, CvB_dead, CvB_dead, (CvB_same nfA), (CvB_same nfA), CvB_dead, (by simp [CvB, CvL, Cv, blkAt, geth, getM]), CvB_dead, CvB_dead, CvB_dead, CvB_dead, CvB_row nr_TTree (by first | rfl | simp) (fun _ _ _ _ => rfl), trivial⟩
    · obtain ⟨v1_1, v1_2⟩ := s
      unfold F4_L1 at H
      try dsimp only at H ⊢
      refine seqM ?_
      refine sq ctNo_ok ?_
      simp only [go_sem, Nat.reduceLeDiff, Nat.reduceLT, Nat.reduceAdd, Nat.reduceMul, Nat.reduceSub, Nat.reduceEqDiff, Nat.reduceBEq, Int.reduceToNat, reduceCtorEq]
      repeat ((with_reducible refine And.intro ?_ ?_); focus (first | (with_reducible trivial) | omega | (and_intros <;> first | (with_reducible trivial) | omega | assumption | exact nfc | first | exact rfl | exact trivial | exact fitI | exact Or.inr rfl | exact Or.inl rfl | exact fun x hx => absurd hx (by omega) | (intro x hx; (repeat (first | (and_intros <;> (first | exact rfl | exact trivial | exact fitI | exact Or.inr rfl | exact Or.inl rfl | exact fun x hx => absurd hx (by omega))) | (exfalso; omega) | (rcases x with _ | x))); done)) | grind))
      refine condM' rfl trivial (fun hc => ?_) (fun hc => ?_)
      · replace H := cond_f hc H
        refine rg ctNo_ok ?_
        simp only [go_sem, Nat.reduceLeDiff, Nat.reduceLT, Nat.reduceAdd, Nat.reduceMul, Nat.reduceSub, Nat.reduceEqDiff, Nat.reduceBEq, Int.reduceToNat, reduceCtorEq]
        refine ⟨_, (Option.some.inj H).symm, ?_⟩
        refine SubF_of ⟨[some 0, some 1, some 2, some 3, some 4, some 5, some 6, some 7, some 8, some 9, some 10, some 11, some 12, some 13, some 14, some 15, some 16, some 17, some 18, some 19, some 20, some 21, some 22, some 23, some 24, some 25, some 26, some 27, some 28, some 29], ?_, ?_, by rfl, by rfl⟩
        · simp [CvL, Cv, getM]
        · exact ⟨(by simp [CvB, CvL, Cv, blkAt, geth, getM]), CvB_dead, CvB_dead, (CvB_same nfA), (CvB_same nfA), (by simp [CvB, CvL, Cv, blkAt, geth, getM]), CvB_dead, CvB_dead, CvB_dead, CvB_dead, CvB_dead, CvB_dead, CvB_dead, CvB_dead, CvB_dead, CvB_dead, CvB_dead, CvB_dead, CvB_dead, CvB_dead, CvB_dead, CvB_dead, (CvB_same nfA), (CvB_same nfA), CvB_dead, (by simp [CvB, CvL, Cv, blkAt, geth, getM]), CvB_dead, CvB_dead, CvB_dead, CvB_dead, trivial⟩
      replace H := cond_t hc H
      refine rg ctNo_ok ?_
      simp only [go_sem, Nat.reduceLeDiff, Nat.reduceLT, Nat.reduceAdd, Nat.reduceMul, Nat.reduceSub, Nat.reduceEqDiff, Nat.reduceBEq, Int.reduceToNat, reduceCtorEq]
      refine seqM ?_
      refine blkM ?_
      obtain ⟨f22, H⟩ := need_some.1 H
      replace f22 := inb_iff.1 f22
      refine rg ctNo_ok ?_
      simp only [go_sem, Nat.reduceLeDiff, Nat.reduceLT, Nat.reduceAdd, Nat.reduceMul, Nat.reduceSub, Nat.reduceEqDiff, Nat.reduceBEq, Int.reduceToNat, reduceCtorEq, f22]
      repeat ((with_reducible refine And.intro ?_ ?_); focus (first | (with_reducible trivial) | omega | grind))
      refine rg ctNo_ok ?_
      simp only [go_sem, Nat.reduceLeDiff, Nat.reduceLT, Nat.reduceAdd, Nat.reduceMul, Nat.reduceSub, Nat.reduceEqDiff, Nat.reduceBEq, Int.reduceToNat, reduceCtorEq]
      refine ⟨_, (Option.some.inj H).symm, ?_⟩
      refine SubF_of ⟨[some 0, some 1, some 2, some 3, some 4, some 5, some 6, some 7, some 8, some 9, some 10, some 11, some 12, some 13, some 14, some 15, some 16, some 17, some 18, some 19, some 20, some 21, some 22, some 23, some 24, some 25, some 26, some 27, some 28, some 29, some 30], ?_, ?_, by rfl, by rfl⟩
      · simp [CvL, Cv, getM]
      · exact ⟨(by simp [CvB, CvL, Cv, blkAt, geth, getM]), CvB_dead, CvB_dead, (CvB_same nfA), (CvB_same nfA), (by simp [CvB, CvL, Cv, blkAt, geth, getM]), CvB_dead, CvB_dead, CvB_dead, CvB_dead, CvB_dead, CvB_dead, CvB_dead, CvB_dead, CvB_dead, (CvB_same nfA), CvB_dead, (by simp [CvB, CvL, Cv, blkAt, geth, getM]), CvB_dead, CvB_dead, CvB_dead, CvB_dead, (CvB_same nfA), (CvB_same nfA), CvB_dead, (by simp [CvB, CvL, Cv, blkAt, geth, getM]), CvB_dead, CvB_dead, CvB_dead, CvB_dead, CvB_row nr_TTree (by first | rfl | simp) (upc_row (f := c_TTree) v1_2 v1_1.toNat 14 (TTree.mk (A6u8.mk (((gd v1_2 v1_1.toNat).Root).x0) (((gd v1_2 v1_1.toNat).Root).x1) (((gd v1_2 v1_1.toNat).Root).x2) (((gd v1_2 v1_1.toNat).Root).x3) (((gd v1_2 v1_1.toNat).Root).x4) (((gd v1_2 v1_1.toNat).Root).x5)) (A6u8.mk (((gd v1_2 v1_1.toNat).Parent).x0) (((gd v1_2 v1_1.toNat).Parent).x1) (((gd v1_2 v1_1.toNat).Parent).x2) (((gd v1_2 v1_1.toNat).Parent).x3) (((gd v1_2 v1_1.toNat).Parent).x4) (((gd v1_2 v1_1.toNat).Parent).x5)) ((gd v1_2 v1_1.toNat).Seq) ((gd v1_2 v1_1.toNat).Hops) (-1) ((gd v1_2 v1_1.toNat).Gate) ((gd v1_2 v1_1.toNat).Until)) (fun _ _ _ _ => rfl) (fun y hy => match y, hy with | 0, _ => rfl | 1, _ => rfl | 2, _ => rfl | 3, _ => rfl | 4, _ => rfl | 5, _ => rfl | 6, _ => rfl | 7, _ => rfl | 8, _ => rfl | 9, _ => rfl | 10, _ => rfl | 11, _ => rfl | 12, _ => rfl | 13, _ => rfl | 14, _ => rfl | 15, _ => rfl | 16, _ => rfl | (y+17), h => absurd h (by omega))), trivial⟩
    · try dsimp only at H ⊢
      try simp only [m_normal, k_normal, b_normal, kL_normal, r_normal]
      refine seqM ?_
      refine sq ctNo_ok ?_
      simp only [go_sem, Nat.reduceLeDiff, Nat.reduceLT, Nat.reduceAdd, Nat.reduceMul, Nat.reduceSub, Nat.reduceEqDiff, Nat.reduceBEq, Int.reduceToNat, reduceCtorEq]
      refine blkM ?_
      refine loop_den (fun s : Int × (List TProxied) => (.top :: .top :: .top :: .top :: .top :: .ptr 0 0 0 0 :: .top :: .top :: .top :: .top :: .top :: .ptr 5 0 0 0 :: .top :: .top :: .top :: .top :: .top :: .top :: .top :: .top :: .top :: .top :: .top :: .top :: .ptr 25 0 0 0 :: .top :: .top :: .top :: .top :: .top :: .bool (((((((((bEq r5.1.Root.x0 r7.1.Root.x0 && (bEq r5.1.Root.x1 r7.1.Root.x1 && (bEq r5.1.Root.x2 r7.1.Root.x2 && (bEq r5.1.Root.x3 r7.1.Root.x3 && (bEq r5.1.Root.x4 r7.1.Root.x4 && (bEq r5.1.Root.x5 r7.1.Root.x5 && (bEq r5.1.Seq r7.1.Seq && (bEq r5.1.Hops r7.1.Hops && (bEq r5.1.Cost r7.1.Cost && (bB r5.1.Gate r7.1.Gate)))))))))) && (gt (F24 (TRoots.mk (A6u8.mk r5.2.1.Own.x0 r5.2.1.Own.x1 r5.2.1.Own.x2 r5.2.1.Own.x3 r5.2.1.Own.x4 r5.2.1.Own.x5) r5.2.1.Root r5.2.1.Gate r5.2.1.Seq r5.2.1.Trees r5.2.1.Proxies) (TRoots.mk (A6u8.mk r7.2.1.Own.x0 r7.2.1.Own.x1 r7.2.1.Own.x2 r7.2.1.Own.x3 r7.2.1.Own.x4 r7.2.1.Own.x5) r7.2.1.Root r7.2.1.Gate r7.2.1.Seq r7.2.1.Trees r7.2.1.Proxies)))) && (bEq r5.2.2 r7.2.2)) && (gt (F24 (TRoots.mk (A6u8.mk r9.1.Own.x0 r9.1.Own.x1 r9.1.Own.x2 r9.1.Own.x3 r9.1.Own.x4 r9.1.Own.x5) r9.1.Root r9.1.Gate r9.1.Seq r9.1.Trees r9.1.Proxies) (TRoots.mk (A6u8.mk r11.1.Own.x0 r11.1.Own.x1 r11.1.Own.x2 r11.1.Own.x3 r11.1.Own.x4 r11.1.Own.x5) r11.1.Root r11.1.Gate r11.1.Seq r11.1.Trees r11.1.Proxies)))) && (gt (F25 r9.2.1 r11.2.1))) && (bEq r9.2.2 r11.2.2)) && (gt (F24 (TRoots.mk (A6u8.mk r13.1.Own.x0 r13.1.Own.x1 r13.1.Own.x2 r13.1.Own.x3 r13.1.Own.x4 r13.1.Own.x5) r13.1.Root r13.1.Gate r13.1.Seq r13.1.Trees r13.1.Proxies) (TRoots.mk (A6u8.mk r15.1.Own.x0 r15.1.Own.x1 r15.1.Own.x2 r15.1.Own.x3 r15.1.Own.x4 r15.1.Own.x5) r15.1.Root r15.1.Gate r15.1.Seq r15.1.Trees r15.1.Proxies)))) && (gt (F26 r13.2.1 r15.2.1))) && (bEq r13.2.2 r15.2.2)) :: .top :: .int .i64 s.1 :: .top :: .top :: .top :: .top :: .top :: .top :: .top :: .top :: .top :: .top :: .top :: .top :: .top :: .top :: .top :: .top :: .top :: .top :: .top :: .top :: .top :: .top :: .top :: .top :: .top :: .top :: .top :: .top :: .top :: .top :: .top :: .top :: .top :: .top :: .top :: .top :: .top :: .top :: .top :: .top :: .top :: .top :: .top :: .top :: .top :: .top :: .top :: .top :: .top :: .top :: .top :: .top :: .top :: .top :: .top :: .top :: .top :: .top :: .top :: .top :: .top :: .top :: .top :: .top :: .top :: .top :: .top :: .top :: .top :: .top :: .top :: .top :: .top :: .top :: .top :: .top :: .top :: .top :: .top :: .top :: .top :: .top :: .top :: .top :: .top :: .top :: .top :: .top :: .top :: .top :: .top :: .top :: .top :: .top :: .top :: .top :: .top :: .top :: .top :: .top :: .top :: .top :: .top :: .top :: .top :: .top :: .top :: .top :: .top :: .top :: .top :: .top :: .top :: .top :: .top :: .top :: .top :: .top :: .top :: .top :: .top :: .top :: .top :: [])) (fun s => (.lit 41 [.int .u8 p0.Own.x0, .int .u8 p0.Own.x1, .int .u8 p0.Own.x2, .int .u8 p0.Own.x3, .int .u8 p0.Own.x4, .int .u8 p0.Own.x5, .bool p0.Root, .bool p0.Gate, .int .i64 p0.Seq, .ro 17 p0.Trees.length false (enR c_TTree p0.Trees), .ro 13 p0.Proxies.length false (enR c_TProxied p0.Proxies)] :: .dead :: .dead :: .row 62 17 r3.Trees.length (enR c_TTree r3.Trees) :: .row 64 13 r3.Proxies.length (enR c_TProxied r3.Proxies) :: .lit 41 [.int .u8 r3.Own.x0, .int .u8 r3.Own.x1, .int .u8 r3.Own.x2, .int .u8 r3.Own.x3, .int .u8 r3.Own.x4, .int .u8 r3.Own.x5, .bool r3.Root, .bool r3.Gate, .int .i64 r3.Seq, .sl 3 17 0 r3.Trees.length false, .sl 4 13 0 r3.Proxies.length false] :: .dead :: .dead :: .dead :: .dead :: .dead :: .dead :: .dead :: .dead :: .dead :: .dead :: .dead :: .dead :: .dead :: .dead :: .dead :: .dead :: .row 62 17 r13.1.Trees.length (enR c_TTree r13.1.Trees) :: .dead :: .dead :: .lit 41 [.int .u8 r13.1.Own.x0, .int .u8 r13.1.Own.x1, .int .u8 r13.1.Own.x2, .int .u8 r13.1.Own.x3, .int .u8 r13.1.Own.x4, .int .u8 r13.1.Own.x5, .bool r13.1.Root, .bool r13.1.Gate, .int .i64 r13.1.Seq, .sl 22 17 0 r13.1.Trees.length false, .sl 30 13 0 s.2.length false] :: .dead :: .dead :: .dead :: .dead :: .row 64 13 s.2.length (enR c_TProxied s.2) :: [])) (fun e : Unit => (.top :: .top :: .top :: .top :: .top :: .ptr 0 0 0 0 :: .top :: .top :: .top :: .top :: .top :: .ptr 5 0 0 0 :: .top :: .top :: .top :: .top :: .top :: .top :: .top :: .top :: .top :: .top :: .top :: .top :: .top :: .top :: .top :: .top :: .top :: .top :: .bool (((((((((bEq r5.1.Root.x0 r7.1.Root.x0 && (bEq r5.1.Root.x1 r7.1.Root.x1 && (bEq r5.1.Root.x2 r7.1.Root.x2 && (bEq r5.1.Root.x3 r7.1.Root.x3 && (bEq r5.1.Root.x4 r7.1.Root.x4 && (bEq r5.1.Root.x5 r7.1.Root.x5 && (bEq r5.1.Seq r7.1.Seq && (bEq r5.1.Hops r7.1.Hops && (bEq r5.1.Cost r7.1.Cost && (bB r5.1.Gate r7.1.Gate)))))))))) && (gt (F24 (TRoots.mk (A6u8.mk r5.2.1.Own.x0 r5.2.1.Own.x1 r5.2.1.Own.x2 r5.2.1.Own.x3 r5.2.1.Own.x4 r5.2.1.Own.x5) r5.2.1.Root r5.2.1.Gate r5.2.1.Seq r5.2.1.Trees r5.2.1.Proxies) (TRoots.mk (A6u8.mk r7.2.1.Own.x0 r7.2.1.Own.x1 r7.2.1.Own.x2 r7.2.1.Own.x3 r7.2.1.Own.x4 r7.2.1.Own.x5) r7.2.1.Root r7.2.1.Gate r7.2.1.Seq r7.2.1.Trees r7.2.1.Proxies)))) && (bEq r5.2.2 r7.2.2)) && (gt (F24 (TRoots.mk (A6u8.mk r9.1.Own.x0 r9.1.Own.x1 r9.1.Own.x2 r9.1.Own.x3 r9.1.Own.x4 r9.1.Own.x5) r9.1.Root r9.1.Gate r9.1.Seq r9.1.Trees r9.1.Proxies) (TRoots.mk (A6u8.mk r11.1.Own.x0 r11.1.Own.x1 r11.1.Own.x2 r11.1.Own.x3 r11.1.Own.x4 r11.1.Own.x5) r11.1.Root r11.1.Gate r11.1.Seq r11.1.Trees r11.1.Proxies)))) && (gt (F25 r9.2.1 r11.2.1))) && (bEq r9.2.2 r11.2.2)) && (gt (F24 (TRoots.mk (A6u8.mk r13.1.Own.x0 r13.1.Own.x1 r13.1.Own.x2 r13.1.Own.x3 r13.1.Own.x4 r13.1.Own.x5) r13.1.Root r13.1.Gate r13.1.Seq r13.1.Trees r13.1.Proxies) (TRoots.mk (A6u8.mk r15.1.Own.x0 r15.1.Own.x1 r15.1.Own.x2 r15.1.Own.x3 r15.1.Own.x4 r15.1.Own.x5) r15.1.Root r15.1.Gate r15.1.Seq r15.1.Trees r15.1.Proxies)))) && (gt (F26 r13.2.1 r15.2.1))) && (bEq r13.2.2 r15.2.2)) :: .top :: .top :: .top :: .top :: .top :: .top :: .top :: .top :: .top :: .top :: .top :: .top :: .top :: .top :: .top :: .top :: .top :: .top :: .top :: .top :: .top :: .top :: .top :: .top :: .top :: .top :: .top :: .top :: .top :: .top :: .top :: .top :: .top :: .top :: .top :: .top :: .top :: .top :: .top :: .top :: .top :: .top :: .top :: .top :: .top :: .top :: .top :: .top :: .top :: .top :: .top :: .top :: .top :: .top :: .top :: .top :: .top :: .top :: .top :: .top :: .top :: .top :: .top :: .top :: .top :: .top :: .top :: .top :: .top :: .top :: .top :: .top :: .top :: .top :: .top :: .top :: .top :: .top :: .top :: .top :: .top :: .top :: .top :: .top :: .top :: .top :: .top :: .top :: .top :: .top :: .top :: .top :: .top :: .top :: .top :: .top :: .top :: .top :: .top :: .top :: .top :: .top :: .top :: .top :: .top :: .top :: .top :: .top :: .top :: .top :: .top :: .top :: .top :: .top :: .top :: .top :: .top :: .top :: .top :: .top :: .top :: .top :: .top :: .top :: .top :: [])) (fun e => [.lit 41 [.int .u8 p0.Own.x0, .int .u8 p0.Own.x1, .int .u8 p0.Own.x2, .int .u8 p0.Own.x3, .int .u8 p0.Own.x4, .int .u8 p0.Own.x5, .bool p0.Root, .bool p0.Gate, .int .i64 p0.Seq, .ro 17 p0.Trees.length false (enR c_TTree p0.Trees), .ro 13 p0.Proxies.length false (enR c_TProxied p0.Proxies)], .dead, .dead, .row 62 17 r3.Trees.length (enR c_TTree r3.Trees), .row 64 13 r3.Proxies.length (enR c_TProxied r3.Proxies), .lit 41 [.int .u8 r3.Own.x0, .int .u8 r3.Own.x1, .int .u8 r3.Own.x2, .int .u8 r3.Own.x3, .int .u8 r3.Own.x4, .int .u8 r3.Own.x5, .bool r3.Root, .bool r3.Gate, .int .i64 r3.Seq, .sl 3 17 0 r3.Trees.length false, .sl 4 13 0 r3.Proxies.length false], .dead, .dead, .dead, .dead, .dead, .dead, .dead, .dead, .dead, .dead, .dead, .dead, .dead, .dead, .dead, .dead, .dead, .dead, .dead, .dead, .dead, .dead, .dead, .dead]) H ?_ (fun s o H hn1_2 hn2_2 => ?_) (fun e H => ?_)
      · refine SubF_of ⟨[some 0, some 1, some 2, some 3, some 4, some 5, some 6, some 7, some 8, some 9, some 10, some 11, some 12, some 13, some 14, some 15, some 16, some 17, some 18, some 19, some 20, some 21, some 22, some 23, some 24, some 25, some 26, some 27, some 28, some 29, some 23], ?_, ?_, by rfl, by rfl⟩
        · simp [CvL, Cv, getM]
        · exact ⟨(by simp [CvB, CvL, Cv, blkAt, geth, getM]), CvB_dead, CvB_dead, (CvB_same nfA), (CvB_same nfA), (by simp [CvB, CvL, Cv, blkAt, geth, getM]), CvB_dead, CvB_dead, CvB_dead, CvB_dead, CvB_dead, CvB_dead, CvB_dead, CvB_dead, CvB_dead, CvB_dead, CvB_dead, CvB_dead, CvB_dead, CvB_dead, CvB_dead, CvB_dead, (CvB_same nfA), CvB_dead, CvB_dead, (by simp [CvB, CvL, Cv, blkAt, geth, getM]), CvB_dead, CvB_dead, CvB_dead, CvB_dead, CvB_row nr_TProxied (by first | rfl | simp) (fun _ _ _ _ => rfl), trivial⟩
      · obtain ⟨v2_1, v2_2⟩ := s
        unfold F4_L2 at H
        try dsimp only at H ⊢
        refine seqM ?_
        refine sq ctNo_ok ?_
        simp only [go_sem, Nat.reduceLeDiff, Nat.reduceLT, Nat.reduceAdd, Nat.reduceMul, Nat.reduceSub, Nat.reduceEqDiff, Nat.reduceBEq, Int.reduceToNat, reduceCtorEq]
        repeat ((with_reducible refine And.intro ?_ ?_); focus (first | (with_reducible trivial) | omega | (and_intros <;> first | (with_reducible trivial) | omega | assumption | exact nfc | first | exact rfl | exact trivial | exact fitI | exact Or.inr rfl | exact Or.inl rfl | exact fun x hx => absurd hx (by omega) | (intro x hx; (repeat (first | (and_intros <;> (first | exact rfl | exact trivial | exact fitI | exact Or.inr rfl | exact Or.inl rfl | exact fun x hx => absurd hx (by omega))) | (exfalso; omega) | (rcases x with _ | x))); done)) | grind))
        refine condM' rfl trivial (fun hc => ?_) (fun hc => ?_)
        · replace H := cond_f hc H
          refine rg ctNo_ok ?_
          simp only [go_sem, Nat.reduceLeDiff, Nat.reduceLT, Nat.reduceAdd, Nat.reduceMul, Nat.reduceSub, Nat.reduceEqDiff, Nat.reduceBEq, Int.reduceToNat, reduceCtorEq]
          refine ⟨_, (Option.some.inj H).symm, ?_⟩
          refine SubF_of ⟨[some 0, some 1, some 2, some 3, some 4, some 5, some 6, some 7, some 8, some 9, some 10, some 11, some 12, some 13, some 14, some 15, some 16, some 17, some 18, some 19, some 20, some 21, some 22, some 23, some 24, some 25, some 26, some 27, some 28, some 29], ?_, ?_, by rfl, by rfl⟩
          · simp [CvL, Cv, getM]
          · exact ⟨(by simp [CvB, CvL, Cv, blkAt, geth, getM]), CvB_dead, CvB_dead, (CvB_same nfA), (CvB_same nfA), (by simp [CvB, CvL, Cv, blkAt, geth, getM]), CvB_dead, CvB_dead, CvB_dead, CvB_dead, CvB_dead, CvB_dead, CvB_dead, CvB_dead, CvB_dead, CvB_dead, CvB_dead, CvB_dead, CvB_dead, CvB_dead, CvB_dead, CvB_dead, CvB_dead, CvB_dead, CvB_dead, CvB_dead, CvB_dead, CvB_dead, CvB_dead, CvB_dead, trivial⟩
        replace H := cond_t hc H
        refine rg ctNo_ok ?_
        simp only [go_sem, Nat.reduceLeDiff, Nat.reduceLT, Nat.reduceAdd, Nat.reduceMul, Nat.reduceSub, Nat.reduceEqDiff, Nat.reduceBEq, Int.reduceToNat, reduceCtorEq]
        refine seqM ?_
        refine blkM ?_
        obtain ⟨f23, H⟩ := need_some.1 H
        replace f23 := inb_iff.1 f23
        refine rg ctNo_ok ?_
        simp only [go_sem, Nat.reduceLeDiff, Nat.reduceLT, Nat.reduceAdd, Nat.reduceMul, Nat.reduceSub, Nat.reduceEqDiff, Nat.reduceBEq, Int.reduceToNat, reduceCtorEq, f23]
        repeat ((with_reducible refine And.intro ?_ ?_); focus (first | (with_reducible trivial) | omega | grind))
        refine rg ctNo_ok ?_
        simp only [go_sem, Nat.reduceLeDiff, Nat.reduceLT, Nat.reduceAdd, Nat.reduceMul, Nat.reduceSub, Nat.reduceEqDiff, Nat.reduceBEq, Int.reduceToNat, reduceCtorEq]
        refine ⟨_, (Option.some.inj H).symm, ?_⟩
        refine SubF_of ⟨[some 0, some 1, some 2, some 3, some 4, some 5, some 6, some 7, some 8, some 9, some 10, some 11, some 12, some 13, some 14, some 15, some 16, some 17, some 18, some 19, some 20, some 21, some 22, some 23, some 24, some 25, some 26, some 27, some 28, some 29, some 30], ?_, ?_, by rfl, by rfl⟩
        · simp [CvL, Cv, getM]
        · exact ⟨(by simp [CvB, CvL, Cv, blkAt, geth, getM]), CvB_dead, CvB_dead, (CvB_same nfA), (CvB_same nfA), (by simp [CvB, CvL, Cv, blkAt, geth, getM]), CvB_dead, CvB_dead, CvB_dead, CvB_dead, CvB_dead, CvB_dead, CvB_dead, CvB_dead, CvB_dead, CvB_dead, CvB_dead, CvB_dead, CvB_dead, CvB_dead, CvB_dead, CvB_dead, (CvB_same nfA), CvB_dead, CvB_dead, (by simp [CvB, CvL, Cv, blkAt, geth, getM]), CvB_dead, CvB_dead, CvB_dead, CvB_dead, CvB_row nr_TProxied (by first | rfl | simp) (upc_row (f := c_TProxied) v2_2 v2_1.toNat 12 (TProxied.mk (A6u8.mk (((gd v2_2 v2_1.toNat).Out).x0) (((gd v2_2 v2_1.toNat).Out).x1) (((gd v2_2 v2_1.toNat).Out).x2) (((gd v2_2 v2_1.toNat).Out).x3) (((gd v2_2 v2_1.toNat).Out).x4) (((gd v2_2 v2_1.toNat).Out).x5)) (A6u8.mk (((gd v2_2 v2_1.toNat).Via).x0) (((gd v2_2 v2_1.toNat).Via).x1) (((gd v2_2 v2_1.toNat).Via).x2) (((gd v2_2 v2_1.toNat).Via).x3) (((gd v2_2 v2_1.toNat).Via).x4) (((gd v2_2 v2_1.toNat).Via).x5)) (-1)) (fun _ _ _ _ => rfl) (fun y hy => match y, hy with | 0, _ => rfl | 1, _ => rfl | 2, _ => rfl | 3, _ => rfl | 4, _ => rfl | 5, _ => rfl | 6, _ => rfl | 7, _ => rfl | 8, _ => rfl | 9, _ => rfl | 10, _ => rfl | 11, _ => rfl | 12, _ => rfl | (y+13), h => absurd h (by omega))), trivial⟩
      · try dsimp only at H ⊢
        try simp only [m_normal, k_normal, b_normal, kL_normal, r_normal]
        refine seqM ?_
        obtain ⟨f24, H⟩ := need_some.1 H
        replace f24 := g_iff.1 f24
        refine rg ct4t9_ok ?_
        simp only [go_sem, Nat.reduceLeDiff, Nat.reduceLT, Nat.reduceAdd, Nat.reduceMul, Nat.reduceSub, Nat.reduceEqDiff, Nat.reduceBEq, Int.reduceToNat, reduceCtorEq, ct4t9_24, body24]
        repeat ((with_reducible refine And.intro ?_ ?_); focus (first | (with_reducible trivial) | omega | exact f24 | (intro g; have q := f24 (by first | exact g | (rw [g]; rfl) | simpa using g); first | exact q | exact ⟨q.1, q.2.1⟩ | exact q.2.2 | omega | exact ⟨g, q⟩ | exact ⟨trivial, q⟩ | exact ⟨g, q.1, q.2.1⟩ | exact ⟨g, q.2.2⟩) | (intro g; (try have q0 := f24 (by first | exact g | (rw [g]; rfl) | simpa using g)); and_intros <;> first | (with_reducible trivial) | assumption | exact nfc | (intro g2; rw [g, g2]; rfl) | (intro g2; assumption) | (simp only [g, Bool.true_and, Bool.and_true, Bool.not_false, Bool.not_true]; assumption) | grind) | (and_intros <;> first | (with_reducible trivial) | omega | assumption | exact nfc | first | exact rfl | exact trivial | exact fitI | exact Or.inr rfl | exact Or.inl rfl | exact fun x hx => absurd hx (by omega) | (intro x hx; (repeat (first | (and_intros <;> (first | exact rfl | exact trivial | exact fitI | exact Or.inr rfl | exact Or.inl rfl | exact fun x hx => absurd hx (by omega))) | (exfalso; omega) | (rcases x with _ | x))); done)) | grind))
        refine rg ctNo_ok ?_
        simp only [go_sem, Nat.reduceLeDiff, Nat.reduceLT, Nat.reduceAdd, Nat.reduceMul, Nat.reduceSub, Nat.reduceEqDiff, Nat.reduceBEq, Int.reduceToNat, reduceCtorEq]
        obtain rfl := Option.some.inj H
        first | rfl | simp only [Bool.and_false, Bool.false_and, Bool.and_true, Bool.true_and]
  · cases hb
end Go.Proofs.Ytdcepineppafpaa
