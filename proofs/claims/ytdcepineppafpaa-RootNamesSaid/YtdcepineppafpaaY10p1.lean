/-
  What RootNames reaches.
-/
import Derived.Test.YtdcepineppafpaaB
namespace Go.Proofs.Ytdcepineppafpaa
open Go.Am
set_option linter.unusedVariables false
set_option linter.unusedSimpArgs false
attribute [local go_sem] w_skip w_label w_goto w_scope k_goto b_goto l_goto s_normal s_exit s_ret s_goto w_region w_draw w_seq w_cond w_block w_exit w_ret w_loop k_normal k_exit k_ret b_normal b_exit b_ret l_normal l_exit l_ret m_normal m_exit m_ret m_goto kL_normal kL_exit kL_ret kS_normal kS_exit kS_ret kS_goto r_normal r_ret o_nil o_cons q_nil q_cons nxt gval gvd gvl gvw dstOf evO ogOp ogC og ogL ogP ogO rho rhoO strip optOk getL setL setT absC absV absL pO hO evLoad ldB geth seth evStore stRes stB evBox evAlloc evFieldAddr evField evIndexAddr evBin2 binI binB binNR binU nilR_isEmpty nilR_t nilR_0 nilR_s evInt evStr evUn evConv cvO evPick mrg evExtract evNil evCall mapR evBuiltin evLen2 vcells vcOk atom tabF cnd retK resFin resL resA resC resCons evBuild evBuildP placeS placeA fillA fillOk putL getP nxtQ pureC_eq pureR genC_eq genR roV roL roOb roObL roW roWL roWOb roWObL nref nrefL binA binN eqSh eqRes evIndex evIndex2 evIndexS evSlice evSlice2 evSliceS evBound evConv2 cvS evAppend appRes srcOf evMake evBuildSlice repL evFn evMin evMax freshC freshR sub_enR0 evClear evClearR evCopy evCopyR lenS cutS Bool.or_false Bool.false_or Bool.or_true Bool.true_or Bool.and_false Bool.false_and Option.map_some Option.map_none Option.getD_some Option.getD_none Option.bind_some Option.bind_none Option.or_some Option.or_none Option.none_or Option.isSome_none Option.isNone_none Option.isNone_some List.nil_append List.cons_append List.append_nil cond_true cond_false List.length_cons List.length_nil beq_self_eq_true Bool.and_true Bool.true_and Bool.not_true Bool.not_false true_and and_true and_self true_implies implies_true ne_eq not_false_eq_true Bool.false_eq_true Bool.true_eq_false false_implies Nat.lt_irrefl Nat.le_refl Nat.succ_ne_self imp_self Bool.cond_false_right Bool.cond_true_left decide_true decide_false Bool.not_eq_true' Bool.not_eq_false' Bool.not_not Nat.zero_mul Nat.zero_add Nat.add_zero Nat.mul_one Nat.one_mul Bool.cond_self tsz3 tby3 tagg3 tslice3 tarr3 tzero3 tzn3 tplaces3 tint3 tstr3 tnoint3 tbool3 tany3 tintk3 tbytes3 tsz4 tby4 tagg4 tslice4 tarr4 tzero4 tzn4 tplaces4 tint4 tstr4 tnoint4 tbool4 tany4 tintk4 tbytes4 tsz5 tby5 tagg5 tslice5 tarr5 tzero5 tzn5 tplaces5 tint5 tstr5 tnoint5 tbool5 tany5 tintk5 tbytes5 tsz23 tby23 tagg23 tslice23 tarr23 tzero23 tzn23 tplaces23 tint23 tstr23 tnoint23 tbool23 tany23 tintk23 tbytes23 tsz25 tby25 tagg25 tslice25 tarr25 tzero25 tzn25 tplaces25 tint25 tstr25 tnoint25 tbool25 tany25 tintk25 tbytes25 tfld25_0 tfld25_1 tfld25_2 tfld25_3 tfld25_4 tsz26 tby26 tagg26 tslice26 tarr26 tzero26 tzn26 tplaces26 tint26 tstr26 tnoint26 tbool26 tany26 tintk26 tbytes26 tsz27 tby27 tagg27 tslice27 tarr27 tzero27 tzn27 tplaces27 tint27 tstr27 tnoint27 tbool27 tany27 tintk27 tbytes27 tsz38 tby38 tagg38 tslice38 tarr38 tzero38 tzn38 tplaces38 tint38 tstr38 tnoint38 tbool38 tany38 tintk38 tbytes38 tsz39 tby39 tagg39 tslice39 tarr39 tzero39 tzn39 tplaces39 tint39 tstr39 tnoint39 tbool39 tany39 tintk39 tbytes39 tsz41 tby41 tagg41 tslice41 tarr41 tzero41 tzn41 tplaces41 tint41 tstr41 tnoint41 tbool41 tany41 tintk41 tbytes41 tfld41_0 tfld41_1 tfld41_2 tfld41_3 tfld41_4 tfld41_5 tsz48 tby48 tagg48 tslice48 tarr48 tzero48 tzn48 tplaces48 tint48 tstr48 tnoint48 tbool48 tany48 tintk48 tbytes48 tsz53 tby53 tagg53 tslice53 tarr53 tzero53 tzn53 tplaces53 tint53 tstr53 tnoint53 tbool53 tany53 tintk53 tbytes53 tsz62 tby62 tagg62 tslice62 tarr62 tzero62 tzn62 tplaces62 tint62 tstr62 tnoint62 tbool62 tany62 tintk62 tbytes62 tfld62_0 tfld62_1 tfld62_2 tfld62_3 tfld62_4 tfld62_5 tfld62_6 tsz64 tby64 tagg64 tslice64 tarr64 tzero64 tzn64 tplaces64 tint64 tstr64 tnoint64 tbool64 tany64 tintk64 tbytes64 tfld64_0 tfld64_1 tfld64_2 tsz80 tby80 tagg80 tslice80 tarr80 tzero80 tzn80 tplaces80 tint80 tstr80 tnoint80 tbool80 tany80 tintk80 tbytes80 tsz81 tby81 tagg81 tslice81 tarr81 tzero81 tzn81 tplaces81 tint81 tstr81 tnoint81 tbool81 tany81 tintk81 tbytes81 tsz82 tby82 tagg82 tslice82 tarr82 tzero82 tzn82 tplaces82 tint82 tstr82 tnoint82 tbool82 tany82 tintk82 tbytes82 tsz84 tby84 tagg84 tslice84 tarr84 tzn84 tplaces84 tint84 tstr84 tnoint84 tbool84 tany84 tintk84 tbytes84 tsz94 tby94 tagg94 tslice94 tarr94 tzero94 tzn94 tplaces94 tint94 tstr94 tnoint94 tbool94 tany94 tintk94 tbytes94 tsz97 tby97 tagg97 tslice97 tarr97 tzero97 tzn97 tplaces97 tint97 tstr97 tnoint97 tbool97 tany97 tintk97 tbytes97 tsz100 tby100 tagg100 tslice100 tarr100 tzero100 tzn100 tplaces100 tint100 tstr100 tnoint100 tbool100 tany100 tintk100 tbytes100 tfld100_0 tfld100_1 tsz117 tby117 tagg117 tslice117 tarr117 tzero117 tzn117 tplaces117 tint117 tstr117 tnoint117 tbool117 tany117 tintk117 tbytes117 tsz119 tby119 tagg119 tslice119 tarr119 tzero119 tzn119 tplaces119 tint119 tstr119 tnoint119 tbool119 tany119 tintk119 tbytes119 tsz125 tby125 tagg125 tslice125 tarr125 tzero125 tzn125 tplaces125 tint125 tstr125 tnoint125 tbool125 tany125 tintk125 tbytes125 tsz127 tby127 tagg127 tslice127 tarr127 tzero127 tzn127 tplaces127 tint127 tstr127 tnoint127 tbool127 tany127 tintk127 tbytes127 tsz130 tby130 tagg130 tslice130 tarr130 tzero130 tzn130 tplaces130 tint130 tstr130 tnoint130 tbool130 tany130 tintk130 tbytes130 tfld130_0 tfld130_1 tfld130_2 tsz140 tby140 tagg140 tslice140 tarr140 tzero140 tzn140 tplaces140 tint140 tstr140 tnoint140 tbool140 tany140 tintk140 tbytes140 tsz148 tby148 tagg148 tslice148 tarr148 tzero148 tzn148 tplaces148 tint148 tstr148 tnoint148 tbool148 tany148 tintk148 tbytes148 tsz152 tby152 tagg152 tslice152 tarr152 tzero152 tzn152 tplaces152 tint152 tstr152 tnoint152 tbool152 tany152 tintk152 tbytes152 e_u8_0 fit_u8 de_u8 g_u8 k_u8 e_i64_0 fit_i64 de_i64 g_i64 k_i64 e_b_0 fit_b de_b g_b k_b e_A6u8_0 e_A6u8_1 e_A6u8_2 e_A6u8_3 e_A6u8_4 e_A6u8_5 fit_A6u8 de_A6u8 g_A6u8 k_A6u8 eta_A6u8 e_TRootWord_0 e_TRootWord_1 e_TRootWord_2 e_TRootWord_3 e_TRootWord_4 e_TRootWord_5 e_TRootWord_6 e_TRootWord_7 e_TRootWord_8 e_TRootWord_9 fit_TRootWord de_TRootWord g_TRootWord k_TRootWord eta_TRootWord e_lu8_0 fit_lu8 de_lu8 g_lu8 k_lu8 e_TTree_0 e_TTree_1 e_TTree_2 e_TTree_3 e_TTree_4 e_TTree_5 e_TTree_6 e_TTree_7 e_TTree_8 e_TTree_9 e_TTree_10 e_TTree_11 e_TTree_12 e_TTree_13 e_TTree_14 e_TTree_15 e_TTree_16 fit_TTree de_TTree g_TTree k_TTree eta_TTree e_lTTree_0 fit_lTTree de_lTTree g_lTTree k_lTTree e_TProxied_0 e_TProxied_1 e_TProxied_2 e_TProxied_3 e_TProxied_4 e_TProxied_5 e_TProxied_6 e_TProxied_7 e_TProxied_8 e_TProxied_9 e_TProxied_10 e_TProxied_11 e_TProxied_12 fit_TProxied de_TProxied g_TProxied k_TProxied eta_TProxied e_lTProxied_0 fit_lTProxied de_lTProxied g_lTProxied k_lTProxied e_TRoots_0 e_TRoots_1 e_TRoots_2 e_TRoots_3 e_TRoots_4 e_TRoots_5 e_TRoots_6 e_TRoots_7 e_TRoots_8 e_TRoots_9 e_TRoots_10 fit_TRoots de_TRoots g_TRoots k_TRoots eta_TRoots e_lTRootWord_0 fit_lTRootWord de_lTRootWord g_lTRootWord k_lTRootWord e_lA6u8_0 fit_lA6u8 de_lA6u8 g_lA6u8 k_lA6u8 e_A8i64_0 e_A8i64_1 e_A8i64_2 e_A8i64_3 e_A8i64_4 e_A8i64_5 e_A8i64_6 e_A8i64_7 fit_A8i64 de_A8i64 g_A8i64 k_A8i64 eta_A8i64 e_A8A8i64_0 e_A8A8i64_1 e_A8A8i64_2 e_A8A8i64_3 e_A8A8i64_4 e_A8A8i64_5 e_A8A8i64_6 e_A8A8i64_7 e_A8A8i64_8 e_A8A8i64_9 e_A8A8i64_10 e_A8A8i64_11 e_A8A8i64_12 e_A8A8i64_13 e_A8A8i64_14 e_A8A8i64_15 e_A8A8i64_16 e_A8A8i64_17 e_A8A8i64_18 e_A8A8i64_19 e_A8A8i64_20 e_A8A8i64_21 e_A8A8i64_22 e_A8A8i64_23 e_A8A8i64_24 e_A8A8i64_25 e_A8A8i64_26 e_A8A8i64_27 e_A8A8i64_28 e_A8A8i64_29 e_A8A8i64_30 e_A8A8i64_31 e_A8A8i64_32 e_A8A8i64_33 e_A8A8i64_34 e_A8A8i64_35 e_A8A8i64_36 e_A8A8i64_37 e_A8A8i64_38 e_A8A8i64_39 e_A8A8i64_40 e_A8A8i64_41 e_A8A8i64_42 e_A8A8i64_43 e_A8A8i64_44 e_A8A8i64_45 e_A8A8i64_46 e_A8A8i64_47 e_A8A8i64_48 e_A8A8i64_49 e_A8A8i64_50 e_A8A8i64_51 e_A8A8i64_52 e_A8A8i64_53 e_A8A8i64_54 e_A8A8i64_55 e_A8A8i64_56 e_A8A8i64_57 e_A8A8i64_58 e_A8A8i64_59 e_A8A8i64_60 e_A8A8i64_61 e_A8A8i64_62 e_A8A8i64_63 fit_A8A8i64 de_A8A8i64 g_A8A8i64 k_A8A8i64 eta_A8A8i64 e_li64_0 fit_li64 de_li64 g_li64 k_li64 e_u32_0 fit_u32 de_u32 g_u32 k_u32 e_u64_0 fit_u64 de_u64 g_u64 k_u64 e_TReader_0 e_TReader_1 fit_TReader de_TReader g_TReader k_TReader eta_TReader e_Tmessage_0 e_Tmessage_1 e_Tmessage_2 e_Tmessage_3 e_Tmessage_4 e_Tmessage_5 e_Tmessage_6 e_Tmessage_7 e_Tmessage_8 e_Tmessage_9 e_Tmessage_10 e_Tmessage_11 fit_Tmessage de_Tmessage g_Tmessage k_Tmessage eta_Tmessage e_lTmessage_0 fit_lTmessage de_lTmessage g_lTmessage k_lTmessage deR_0 deR_1 deR_2 deR_3 deR_4 deR_5 deR_6 deR_7 deR_8 deR_9 deR_10 deR_11 deR_12 litC_x0 litC_x1 litC_x2 litC_x3 litC_x4 litC_x5 litC_x6 litC_x7 litC_x8 litC_x9 litC_x10 litC_x11 strE_u8 Fit_0 Option.isSome_some gt_some gd_one evCopyL tabR sub_enR List.drop_zero xrD xoD roEq minL rK rM rG aL aK iK bK sK lK iA bA sA lA or_true true_or Int.toNat_natCast shT_23 shT_25 shT_62 shT_64 shT_80 shT_130 Int.toNat_zero Int.cast_ofNat_Int aLs roD roDOb deadL edC edR nodupB rnm rnmL rnmB rnmH rnm_bif rnmB_bif putH dropH rhoN ptB slN litL celL pK isLit oS isRow inL fzV fzL fzOb fzObL fzH fzHF fzB fzObB fzObH rowOb
/-! hotspot/root.New -/
noncomputable def F33 (p0 : A6u8) (p1 : Bool) (p2 : Bool) : Option (TRoots × Int) :=
  bif (p2 && (!p1)) then (some ((TRoots.mk (A6u8.mk 0 0 0 0 0 0) false false 0 [] []), 2)) else (some ((TRoots.mk (A6u8.mk p0.x0 p0.x1 p0.x2 p0.x3 p0.x4 p0.x5) p1 p2 0 [] []), 0))
noncomputable def body33 : List AV -> List ABlk -> ED
  | [v0, v1, v2], h => .ed [] (aK 6 k_A6u8 (roD (deadL h []) v0) /\ roDOb (deadL h []) v0 /\ bK (roD (deadL h []) v1) /\ roDOb (deadL h []) v1 /\ bK (roD (deadL h []) v2) /\ roDOb (deadL h []) v2 /\ (F33 (g_A6u8 (aL (roD (deadL h []) v0))) (bA (roD (deadL h []) v1)) (bA (roD (deadL h []) v2))).isSome = true) (.tup [.agg [.int .u8 ((((gt (F33 (g_A6u8 (aL (roD (deadL h []) v0))) (bA (roD (deadL h []) v1)) (bA (roD (deadL h []) v2)))).1).Own).x0), .int .u8 ((((gt (F33 (g_A6u8 (aL (roD (deadL h []) v0))) (bA (roD (deadL h []) v1)) (bA (roD (deadL h []) v2)))).1).Own).x1), .int .u8 ((((gt (F33 (g_A6u8 (aL (roD (deadL h []) v0))) (bA (roD (deadL h []) v1)) (bA (roD (deadL h []) v2)))).1).Own).x2), .int .u8 ((((gt (F33 (g_A6u8 (aL (roD (deadL h []) v0))) (bA (roD (deadL h []) v1)) (bA (roD (deadL h []) v2)))).1).Own).x3), .int .u8 ((((gt (F33 (g_A6u8 (aL (roD (deadL h []) v0))) (bA (roD (deadL h []) v1)) (bA (roD (deadL h []) v2)))).1).Own).x4), .int .u8 ((((gt (F33 (g_A6u8 (aL (roD (deadL h []) v0))) (bA (roD (deadL h []) v1)) (bA (roD (deadL h []) v2)))).1).Own).x5), .bool (((gt (F33 (g_A6u8 (aL (roD (deadL h []) v0))) (bA (roD (deadL h []) v1)) (bA (roD (deadL h []) v2)))).1).Root), .bool (((gt (F33 (g_A6u8 (aL (roD (deadL h []) v0))) (bA (roD (deadL h []) v1)) (bA (roD (deadL h []) v2)))).1).Gate), .int .i64 (((gt (F33 (g_A6u8 (aL (roD (deadL h []) v0))) (bA (roD (deadL h []) v1)) (bA (roD (deadL h []) v2)))).1).Seq), .sl 0 17 0 ((((gt (F33 (g_A6u8 (aL (roD (deadL h []) v0))) (bA (roD (deadL h []) v1)) (bA (roD (deadL h []) v2)))).1).Trees).length) false, .sl 1 13 0 ((((gt (F33 (g_A6u8 (aL (roD (deadL h []) v0))) (bA (roD (deadL h []) v1)) (bA (roD (deadL h []) v2)))).1).Proxies).length) false], .int .i64 ((gt (F33 (g_A6u8 (aL (roD (deadL h []) v0))) (bA (roD (deadL h []) v1)) (bA (roD (deadL h []) v2)))).2)]) [.row 62 17 ((((gt (F33 (g_A6u8 (aL (roD (deadL h []) v0))) (bA (roD (deadL h []) v1)) (bA (roD (deadL h []) v2)))).1).Trees).length) (enR c_TTree (((gt (F33 (g_A6u8 (aL (roD (deadL h []) v0))) (bA (roD (deadL h []) v1)) (bA (roD (deadL h []) v2)))).1).Trees)), .row 64 13 ((((gt (F33 (g_A6u8 (aL (roD (deadL h []) v0))) (bA (roD (deadL h []) v1)) (bA (roD (deadL h []) v2)))).1).Proxies).length) (enR c_TProxied (((gt (F33 (g_A6u8 (aL (roD (deadL h []) v0))) (bA (roD (deadL h []) v1)) (bA (roD (deadL h []) v2)))).1).Proxies))]
  | _, _ => .fail
set_option maxHeartbeats 4000000 in
set_option maxRecDepth 20000 in
theorem ok33 : FnOk Try.prog 33 (edC body33) := by
  refine edit_fnV body33 (rs := [.cell 6 41, .tmp 7]) Try.func33 (by kernel_rfl) rfl rfl ?_
  intro l h bs ob q0 g0 hb hob
  unfold body33 at hb
  split at hb
  · rename_i v0 v1 v2
    injection hb with q1 q2 q3 q4; subst q1 q2 q3 q4
    obtain ⟨hk0_0, hk0_1, hk1_0, hk1_1, hk2_0, hk2_1, hob⟩ := hob
    obtain ⟨r, H⟩ := Option.isSome_iff_exists.1 hob
    rw [H, gt_some]
    have hw0 := wA_A6u8 hk0_0
    obtain ⟨p0, hp_p0⟩ : ∃ p0, p0 = g_A6u8 (aL (roD (deadL h []) v0)) := ⟨_, rfl⟩
    rw [← hp_p0] at H hw0
    have hw1 := bK_wk hk1_0
    obtain ⟨p1, hp_p1⟩ : ∃ p1, p1 = bA (roD (deadL h []) v1) := ⟨_, rfl⟩
    rw [← hp_p1] at H hw1
    have hw2 := bK_wk hk2_0
    obtain ⟨p2, hp_p2⟩ : ∃ p2, p2 = bA (roD (deadL h []) v2) := ⟨_, rfl⟩
    rw [← hp_p2] at H hw2
    refine ⟨[.agg [.int .u8 p0.x0, .int .u8 p0.x1, .int .u8 p0.x2, .int .u8 p0.x3, .int .u8 p0.x4, .int .u8 p0.x5], .bool p1, .bool p2], [], rfl, ⟨(EW_view hk0_1 hw0), ⟨(EW_view hk1_1 hw1), ⟨(EW_view hk2_1 hw2), trivial⟩⟩⟩, trivial, trivial, ⟨(nfB_en nr_TTree), ⟨(nfB_en nr_TProxied), trivial⟩⟩, ⟨noroB_en, ⟨noroB_en, trivial⟩⟩, (by first | (simp only [noro, noroL, and_self]; done) | (simp only [noro, noroL]; and_intros <;> first | trivial | exact noro_bif (by simp only [noro]) (by simp only [noro]) | (simp only [noro, noroL, and_self]))), ?_⟩
    rw [Try.ntmps33]
    simp only [List.length_cons, List.length_nil, Nat.reduceAdd, Nat.reduceSub, List.replicate_succ, List.replicate_zero, List.cons_append, List.nil_append]
    unfold F33 at H
    try dsimp only at H
    refine sq ctNo_ok ?_
    simp only [go_sem, Nat.reduceLeDiff, Nat.reduceLT, Nat.reduceAdd, Nat.reduceMul, Nat.reduceSub, Nat.reduceEqDiff, Nat.reduceBEq, Int.reduceToNat, reduceCtorEq]
    refine seqM ?_
    refine sq ctNo_ok ?_
    simp only [go_sem, Nat.reduceLeDiff, Nat.reduceLT, Nat.reduceAdd, Nat.reduceMul, Nat.reduceSub, Nat.reduceEqDiff, Nat.reduceBEq, Int.reduceToNat, reduceCtorEq]
    repeat ((with_reducible refine And.intro ?_ ?_); focus (first | (with_reducible trivial) | omega | grind))
    refine condM rfl trivial (fun hc => ?_) (fun hc => ?_)
    · replace H := cond_t hc H
      refine sq ctNo_ok ?_
      simp only [go_sem, Nat.reduceLeDiff, Nat.reduceLT, Nat.reduceAdd, Nat.reduceMul, Nat.reduceSub, Nat.reduceEqDiff, Nat.reduceBEq, Int.reduceToNat, reduceCtorEq]
      repeat ((with_reducible refine And.intro ?_ ?_); focus (first | (with_reducible trivial) | omega | grind))
      refine rg ctNo_ok ?_
      simp only [go_sem, Nat.reduceLeDiff, Nat.reduceLT, Nat.reduceAdd, Nat.reduceMul, Nat.reduceSub, Nat.reduceEqDiff, Nat.reduceBEq, Int.reduceToNat, reduceCtorEq]
      obtain rfl := Option.some.inj H
      refine RetE_mk [] [none, none] ?_ ?_ ?_ ?_ (by rfl) (by rfl)
      · simp only [go_sem, Nat.reduceEqDiff, Nat.reduceBEq, Nat.reduceAdd]
        try (and_intros <;> first | trivial | omega | exact nfc)
      · simp only [go_sem, Nat.reduceEqDiff, Nat.reduceBEq, Nat.reduceAdd]
        try (and_intros <;> first | trivial | omega | exact nfc)
      · simp only [go_sem, Nat.reduceEqDiff, Nat.reduceBEq, Nat.reduceAdd]
        exact Cv_tup (CvL_cons (by first | (simp [Cv, CvL, getM, gt_some]; done) | (simp [Cv, CvL, getM, gt_some]; omega)) (CvL_cons (by simp [Cv, CvL, getM, gt_some]) CvL_nil))
      · simp only [go_sem, Nat.reduceEqDiff, Nat.reduceBEq, Nat.reduceAdd, CvH, gt_some, Option.isSome_some, Option.isSome_none]
        first | exact ⟨CvB_none, CvB_none⟩ | trivial
    replace H := cond_f hc H
    refine rg ctNo_ok ?_
    simp only [go_sem, Nat.reduceLeDiff, Nat.reduceLT, Nat.reduceAdd, Nat.reduceMul, Nat.reduceSub, Nat.reduceEqDiff, Nat.reduceBEq, Int.reduceToNat, reduceCtorEq]
    refine sq ctNo_ok ?_
    simp only [go_sem, Nat.reduceLeDiff, Nat.reduceLT, Nat.reduceAdd, Nat.reduceMul, Nat.reduceSub, Nat.reduceEqDiff, Nat.reduceBEq, Int.reduceToNat, reduceCtorEq]
    repeat ((with_reducible refine And.intro ?_ ?_); focus (first | (with_reducible trivial) | omega | grind))
    refine rg ctNo_ok ?_
    simp only [go_sem, Nat.reduceLeDiff, Nat.reduceLT, Nat.reduceAdd, Nat.reduceMul, Nat.reduceSub, Nat.reduceEqDiff, Nat.reduceBEq, Int.reduceToNat, reduceCtorEq]
    obtain rfl := Option.some.inj H
    refine RetE_mk [] [none, none] ?_ ?_ ?_ ?_ (by rfl) (by rfl)
    · simp only [go_sem, Nat.reduceEqDiff, Nat.reduceBEq, Nat.reduceAdd]
      try (and_intros <;> first | trivial | omega | exact nfc)
    · simp only [go_sem, Nat.reduceEqDiff, Nat.reduceBEq, Nat.reduceAdd]
      try (and_intros <;> first | trivial | omega | exact nfc)
    · simp only [go_sem, Nat.reduceEqDiff, Nat.reduceBEq, Nat.reduceAdd]
      exact Cv_tup (CvL_cons (by first | (simp [Cv, CvL, getM, gt_some]; done) | (simp [Cv, CvL, getM, gt_some]; omega)) (CvL_cons (by simp [Cv, CvL, getM, gt_some]) CvL_nil))
    · simp only [go_sem, Nat.reduceEqDiff, Nat.reduceBEq, Nat.reduceAdd, CvH, gt_some, Option.isSome_some, Option.isSome_none]
      first | exact ⟨CvB_none, CvB_none⟩ | trivial
  · cases hb
/-! hotspot/root.within -/
noncomputable def F57 (p0 : Int) (p1 : Int) (p2 : Int) : Option (Bool) :=
  some ((bLe p1 p0) && (bLe p0 p2))
noncomputable def body57 : List AV -> AR
  | [v0, v1, v2] => .pure (iK .i64 v0 /\ iK .i64 v1 /\ iK .i64 v2 /\ (F57 (iA v0) (iA v1) (iA v2)).isSome = true) (.bool (gt (F57 (iA v0) (iA v1) (iA v2))))
  | _ => .fail
set_option maxHeartbeats 4000000 in
set_option maxRecDepth 20000 in
theorem ok57 : FnOk Try.prog 57 (pureC body57) := by
  refine pure_fnM body57 (rs := [.tmp 6]) Try.func57 (by kernel_rfl) rfl rfl ?_
  intro l ob v hb hob
  unfold body57 at hb
  split at hb
  · rename_i v0 v1 v2
    injection hb with q1 q2; subst q1 q2
    obtain ⟨hk0_0, hk1_0, hk2_0, hob⟩ := hob
    obtain ⟨r, H⟩ := Option.isSome_iff_exists.1 hob
    rw [H, gt_some]
    have hw0 := iK_wk hk0_0
    have hw1 := iK_wk hk1_0
    have hw2 := iK_wk hk2_0
    generalize iA v0 = p0 at H hw0
    generalize iA v1 = p1 at H hw1
    generalize iA v2 = p2 at H hw2
    refine ⟨[.int .i64 p0, .int .i64 p1, .int .i64 p2], _, (fun E vs F => FR_wk1 hw0.1 F (fun vs F => FR_wk1 hw1.1 F (fun vs F => FR_wk1 hw2.1 F (fun vs F => F)))), rfl, rfl, ?_⟩
    rw [Try.ntmps57]
    simp only [List.length_cons, List.length_nil, Nat.reduceAdd, Nat.reduceSub, List.replicate_succ, List.replicate_zero, List.cons_append, List.nil_append]
    unfold F57 at H
    try dsimp only at H
    refine sq ctNo_ok ?_
    simp only [go_sem, Nat.reduceLeDiff, Nat.reduceLT, Nat.reduceAdd, Nat.reduceMul, Nat.reduceSub, Nat.reduceEqDiff, Nat.reduceBEq, Int.reduceToNat, reduceCtorEq]
    refine sq ctNo_ok ?_
    simp only [go_sem, Nat.reduceLeDiff, Nat.reduceLT, Nat.reduceAdd, Nat.reduceMul, Nat.reduceSub, Nat.reduceEqDiff, Nat.reduceBEq, Int.reduceToNat, reduceCtorEq]
    repeat ((with_reducible refine And.intro ?_ ?_); focus (first | (with_reducible trivial) | omega | grind))
    refine rg ctNo_ok ?_
    simp only [go_sem, Nat.reduceLeDiff, Nat.reduceLT, Nat.reduceAdd, Nat.reduceMul, Nat.reduceSub, Nat.reduceEqDiff, Nat.reduceBEq, Int.reduceToNat, reduceCtorEq]
    obtain rfl := Option.some.inj H
    first | rfl | simp only [Bool.and_false, Bool.false_and, Bool.and_true, Bool.true_and]
  · cases hb
/-! bytes.Compare -/
noncomputable def F94 (p0 : List Int) (p1 : List Int) : Option Int :=
  need (u8A p0) <| need (u8A p1) <| some (cmpL p0 p1)
noncomputable def body94 : List AV -> AR
  | [v0, v1] => .pure (lK k_u8 1 v0 /\ lK k_u8 1 v1 /\ (F94 (lA g_u8 v0) (lA g_u8 v1)).isSome = true) (.int .i64 (gt (F94 (lA g_u8 v0) (lA g_u8 v1))))
  | _ => .fail
theorem walk94 (u v : Value) (r : Int) (w : World) (hd : (callFunc 101 #[u, v]).run Try.prog w = .ok (.value (.int .i64 r)) w) : Calls Try.prog 94 #[u, v] w fun e w' => e = .returned (.int .i64 r) /\ w' = w := by
  go_enter Try.func94, Try.ntmps94
  go_wp2
  go_ret
  exact ⟨rfl, rfl⟩
theorem ok94 : FnOk Try.prog 94 (pureC body94) := by
  refine pure_ext ⟨_, Try.func94, by kernel_rfl, by kernel_rfl⟩ body94 ?_
  intro E l vs ob x hb hob F
  unfold body94 at hb
  split at hb
  · rename_i v0 v1
    injection hb with q1 q2; subst q1 q2
    obtain ⟨h0, h1, hob⟩ := hob
    obtain ⟨r, H⟩ := Option.isSome_iff_exists.1 hob
    rw [H, gt_some]
    have w0 := lK_wk (fun r h => w_u8 h) h0
    have w1 := lK_wk (fun r h => w_u8 h) h1
    generalize lA g_u8 v0 = p0 at H w0
    generalize lA g_u8 v1 = p1 at H w1
    unfold F94 at H
    obtain ⟨f0, H⟩ := need_some.1 H
    obtain ⟨f1, H⟩ := need_some.1 H
    obtain rfl := Option.some.inj H
    obtain ⟨vs⟩ := vs
    match vs, F.1 with
    | [u, v], _ =>
      have hx := w0.1 E u (F.2 0 _ u rfl rfl)
      have hy := w1.1 E v (F.2 1 _ v rfl rfl)
      refine ⟨_, rfl, walk94 u v _ E.w ?_⟩
      rw [run_callFunc_extern Try.func101 (by kernel_rfl) (by kernel_rfl) (by kernel_rfl) (e := Extern.BytealgCompare.compare) (by kernel_rfl), run_compareBytes hx hy (u8b_iff.1 ((u8b_enR (f := c_u8) (fun _ => rfl) p0).trans f0)) (u8b_iff.1 ((u8b_enR (f := c_u8) (fun _ => rfl) p1).trans f1)), bytesC_enR (f := c_u8) (fun _ => rfl), bytesC_enR (f := c_u8) (fun _ => rfl)]
      simp only [strL]
      rw [cmpL_eq p0 p1 (u8A_iff.1 f0) (u8A_iff.1 f1)]
      rfl
  · cases hb
/-! hotspot/address.Compare -/
noncomputable def ct72t0 : Ct := tab [(94, pureC body94)]
theorem ct72t0_ok : CtOk Try.prog ct72t0 := tab_cons ok94 <| tab_nil
theorem ct72t0_94 (l : List AV) (h : List ABlk) : ct72t0 94 l h = pureC body94 l h := rfl
noncomputable def F72 (p0 : A6u8) (p1 : A6u8) : Option (Int) :=
  (F94 [p0.x0, p0.x1, p0.x2, p0.x3, p0.x4, p0.x5] [p1.x0, p1.x1, p1.x2, p1.x3, p1.x4, p1.x5]).bind fun r1 => some r1
noncomputable def body72 : List AV -> AR
  | [v0, v1] => .pure (aK 6 k_A6u8 v0 /\ aK 6 k_A6u8 v1 /\ (F72 (g_A6u8 (aL v0)) (g_A6u8 (aL v1))).isSome = true) (.int .i64 (gt (F72 (g_A6u8 (aL v0)) (g_A6u8 (aL v1)))))
  | _ => .fail
set_option maxHeartbeats 4000000 in
set_option maxRecDepth 20000 in
theorem ok72 : FnOk Try.prog 72 (pureC body72) := by
  refine pure_fnM body72 (rs := [.tmp 4]) Try.func72 (by kernel_rfl) rfl rfl ?_
  intro l ob v hb hob
  unfold body72 at hb
  split at hb
  · rename_i v0 v1
    injection hb with q1 q2; subst q1 q2
    obtain ⟨hk0_0, hk1_0, hob⟩ := hob
    obtain ⟨r, H⟩ := Option.isSome_iff_exists.1 hob
    rw [H, gt_some]
    have hw0 := wA_A6u8 hk0_0
    have hw1 := wA_A6u8 hk1_0
    generalize g_A6u8 (aL v0) = p0 at H hw0
    generalize g_A6u8 (aL v1) = p1 at H hw1
    refine ⟨[.agg [.int .u8 p0.x0, .int .u8 p0.x1, .int .u8 p0.x2, .int .u8 p0.x3, .int .u8 p0.x4, .int .u8 p0.x5], .agg [.int .u8 p1.x0, .int .u8 p1.x1, .int .u8 p1.x2, .int .u8 p1.x3, .int .u8 p1.x4, .int .u8 p1.x5]], _, (fun E vs F => FR_wk1 hw0.1 F (fun vs F => FR_wk1 hw1.1 F (fun vs F => F))), rfl, rfl, ?_⟩
    rw [Try.ntmps72]
    simp only [List.length_cons, List.length_nil, Nat.reduceAdd, Nat.reduceSub, List.replicate_succ, List.replicate_zero, List.cons_append, List.nil_append]
    unfold F72 at H
    try dsimp only at H
    refine sq ctNo_ok ?_
    simp only [go_sem, Nat.reduceLeDiff, Nat.reduceLT, Nat.reduceAdd, Nat.reduceMul, Nat.reduceSub, Nat.reduceEqDiff, Nat.reduceBEq, Int.reduceToNat, reduceCtorEq]
    refine seqM ?_
    obtain ⟨r1, e2, H⟩ := bsi H
    refine draw_quiet shT_ok ct72t0_ok (by kernel_rfl) (by kernel_rfl) ?_
    simp only [go_sem, Nat.reduceLeDiff, Nat.reduceLT, Nat.reduceAdd, Nat.reduceMul, Nat.reduceSub, Nat.reduceEqDiff, Nat.reduceBEq, Int.reduceToNat, reduceCtorEq, ct72t0_94, body94, e2]
    repeat ((with_reducible refine And.intro ?_ ?_); focus (first | (and_intros <;> first | (with_reducible trivial) | omega | assumption | exact nfc | first | exact rfl | exact trivial | exact fitI | exact .inr rfl | exact .inl rfl | exact fun x hx => absurd hx (by omega) | (intro x hx; (repeat (first | (and_intros <;> (first | exact rfl | exact trivial | exact fitI | exact .inr rfl | exact .inl rfl | exact fun x hx => absurd hx (by omega))) | (exfalso; omega) | (rcases x with _ | x))); done)) | grind))
    refine rg ctNo_ok ?_
    simp only [go_sem, Nat.reduceLeDiff, Nat.reduceLT, Nat.reduceAdd, Nat.reduceMul, Nat.reduceSub, Nat.reduceEqDiff, Nat.reduceBEq, Int.reduceToNat, reduceCtorEq]
    obtain rfl := Option.some.inj H
    first | rfl | simp only [Bool.and_false, Bool.false_and, Bool.and_true, Bool.true_and]
  · cases hb
/-! hotspot/root.Check -/
noncomputable def ct34t0 : Ct := tab [(57, pureC body57)]
theorem ct34t0_ok : CtOk Try.prog ct34t0 := tab_cons ok57 <| tab_nil
theorem ct34t0_57 (l : List AV) (h : List ABlk) : ct34t0 57 l h = pureC body57 l h := rfl
noncomputable def ct34t1 : Ct := tab [(72, pureC body72)]
theorem ct34t1_ok : CtOk Try.prog ct34t1 := tab_cons ok72 <| tab_nil
theorem ct34t1_72 (l : List AV) (h : List ABlk) : ct34t1 72 l h = pureC body72 l h := rfl
noncomputable def ct34t2 : Ct := tab [(57, pureC body57), (72, pureC body72)]
theorem ct34t2_ok : CtOk Try.prog ct34t2 := tab_cons ok57 <| tab_cons ok72 <| tab_nil
theorem ct34t2_57 (l : List AV) (h : List ABlk) : ct34t2 57 l h = pureC body57 l h := rfl
theorem ct34t2_72 (l : List AV) (h : List ABlk) : ct34t2 72 l h = pureC body72 l h := rfl
noncomputable def F34_L1 (p0 : TRoots) (v1_1 : Int) : Option (Lp (Int) ((Unit) ⊕ (Int))) :=
  bif (bLt v1_1 (p0.Trees.length : Nat)) then (need (inb v1_1 p0.Trees.length) <| need (bif (!(bEq v1_1 0)) then inb (wr .i64 (v1_1 - 1)) p0.Trees.length else true) <| need (bif (!(bEq v1_1 0)) then ((F72 ((gd p0.Trees ((wr .i64 (v1_1 - 1)).toNat)).Root) ((gd p0.Trees v1_1.toNat).Root)).isSome) else true) <| (F57 ((gd p0.Trees v1_1.toNat).Seq) 1 2147483647).bind fun r5 => need (bif r5 then ((F57 ((gd p0.Trees v1_1.toNat).Hops) 1 16).isSome) else true) <| need (bif (r5 && (gt (F57 ((gd p0.Trees v1_1.toNat).Hops) 1 16))) then ((F57 ((gd p0.Trees v1_1.toNat).Cost) 1 1099511627776).isSome) else true) <| need (bif ((r5 && (gt (F57 ((gd p0.Trees v1_1.toNat).Hops) 1 16))) && (gt (F57 ((gd p0.Trees v1_1.toNat).Cost) 1 1099511627776))) then ((F57 ((gd p0.Trees v1_1.toNat).Until) 0 1099516627776).isSome) else true) <| bif ((((!((bEq v1_1 0) || (bLt (gt (F72 ((gd p0.Trees ((wr .i64 (v1_1 - 1)).toNat)).Root) ((gd p0.Trees v1_1.toNat).Root))) 0))) || (!(((r5 && (gt (F57 ((gd p0.Trees v1_1.toNat).Hops) 1 16))) && (gt (F57 ((gd p0.Trees v1_1.toNat).Cost) 1 1099511627776))) && (gt (F57 ((gd p0.Trees v1_1.toNat).Until) 0 1099516627776))))) || (bEq (((gd p0.Trees v1_1.toNat).Root).x0) p0.Own.x0 && (bEq (((gd p0.Trees v1_1.toNat).Root).x1) p0.Own.x1 && (bEq (((gd p0.Trees v1_1.toNat).Root).x2) p0.Own.x2 && (bEq (((gd p0.Trees v1_1.toNat).Root).x3) p0.Own.x3 && (bEq (((gd p0.Trees v1_1.toNat).Root).x4) p0.Own.x4 && (bEq (((gd p0.Trees v1_1.toNat).Root).x5) p0.Own.x5))))))) || (bEq (((gd p0.Trees v1_1.toNat).Parent).x0) p0.Own.x0 && (bEq (((gd p0.Trees v1_1.toNat).Parent).x1) p0.Own.x1 && (bEq (((gd p0.Trees v1_1.toNat).Parent).x2) p0.Own.x2 && (bEq (((gd p0.Trees v1_1.toNat).Parent).x3) p0.Own.x3 && (bEq (((gd p0.Trees v1_1.toNat).Parent).x4) p0.Own.x4 && (bEq (((gd p0.Trees v1_1.toNat).Parent).x5) p0.Own.x5))))))) then (some (.done (.inr 8))) else (some (.next (wr .i64 (v1_1 + 1))))) else (some (.done (.inl ())))
noncomputable def F34_L2 (p0 : TRoots) (v2_1 : Int) : Option (Lp (Int) ((Unit) ⊕ (Int))) :=
  bif (bLt v2_1 (p0.Proxies.length : Nat)) then (need (inb v2_1 p0.Proxies.length) <| need (bif (bLt 0 v2_1) then inb (wr .i64 (v2_1 - 1)) p0.Proxies.length else true) <| need (bif (bLt 0 v2_1) then ((F72 ((gd p0.Proxies ((wr .i64 (v2_1 - 1)).toNat)).Out) ((gd p0.Proxies v2_1.toNat).Out)).isSome) else true) <| need (bif (!((bLt 0 v2_1) && (bLe 0 (gt (F72 ((gd p0.Proxies ((wr .i64 (v2_1 - 1)).toNat)).Out) ((gd p0.Proxies v2_1.toNat).Out)))))) then ((F57 ((gd p0.Proxies v2_1.toNat).Until) 0 1099520627776).isSome) else true) <| bif (((bLt 0 v2_1) && (bLe 0 (gt (F72 ((gd p0.Proxies ((wr .i64 (v2_1 - 1)).toNat)).Out) ((gd p0.Proxies v2_1.toNat).Out))))) || (!(gt (F57 ((gd p0.Proxies v2_1.toNat).Until) 0 1099520627776)))) then (some (.done (.inr 8))) else (some (.next (wr .i64 (v2_1 + 1))))) else (some (.done (.inl ())))
noncomputable def F34 (p0 : TRoots) : Option (Int) :=
  need (bif (!(p0.Gate && (!p0.Root))) then ((F57 p0.Seq 0 2147483647).isSome) else true) <| bif ((((p0.Gate && (!p0.Root)) || (!(gt (F57 p0.Seq 0 2147483647)))) || (bLt 8 (p0.Trees.length : Nat))) || (bLt 64 (p0.Proxies.length : Nat))) then (some 8) else (lp (loopD (fun s => F34_L1 p0 s) 0) (fun e => lp (loopD (fun s => F34_L2 p0 s) 0) (fun e => some 0) some) some)
noncomputable def body34 : List AV -> AR
  | [v0] => .pure (aK 11 k_TRoots v0 /\ (F34 (g_TRoots (aL v0))).isSome = true) (.int .i64 (gt (F34 (g_TRoots (aL v0)))))
  | _ => .fail
set_option maxHeartbeats 4000000 in
set_option maxRecDepth 20000 in
theorem ok34 : FnOk Try.prog 34 (pureC body34) := by
  refine pure_fnM body34 (rs := [.tmp 2]) Try.func34 (by kernel_rfl) rfl rfl ?_
  intro l ob v hb hob
  unfold body34 at hb
  split at hb
  · rename_i v0
    injection hb with q1 q2; subst q1 q2
    obtain ⟨hk0_0, hob⟩ := hob
    obtain ⟨r, H⟩ := Option.isSome_iff_exists.1 hob
    rw [H, gt_some]
    have hw0 := wA_TRoots hk0_0
    generalize g_TRoots (aL v0) = p0 at H hw0
    refine ⟨[.agg [.int .u8 p0.Own.x0, .int .u8 p0.Own.x1, .int .u8 p0.Own.x2, .int .u8 p0.Own.x3, .int .u8 p0.Own.x4, .int .u8 p0.Own.x5, .bool p0.Root, .bool p0.Gate, .int .i64 p0.Seq, .ro 17 p0.Trees.length false (enR c_TTree p0.Trees), .ro 13 p0.Proxies.length false (enR c_TProxied p0.Proxies)]], _, (fun E vs F => FR_wk1 hw0.1 F (fun vs F => F)), rfl, rfl, ?_⟩
    rw [Try.ntmps34]
    simp only [List.length_cons, List.length_nil, Nat.reduceAdd, Nat.reduceSub, List.replicate_succ, List.replicate_zero, List.cons_append, List.nil_append]
    unfold F34 at H
    try dsimp only at H
    refine sq ctNo_ok ?_
    simp only [go_sem, Nat.reduceLeDiff, Nat.reduceLT, Nat.reduceAdd, Nat.reduceMul, Nat.reduceSub, Nat.reduceEqDiff, Nat.reduceBEq, Int.reduceToNat, reduceCtorEq]
    refine seqM ?_
    refine seqM ?_
    obtain ⟨f1, H⟩ := need_some.1 H
    replace f1 := g_iff.1 f1
    refine rg ct34t0_ok ?_
    simp only [go_sem, Nat.reduceLeDiff, Nat.reduceLT, Nat.reduceAdd, Nat.reduceMul, Nat.reduceSub, Nat.reduceEqDiff, Nat.reduceBEq, Int.reduceToNat, reduceCtorEq, ct34t0_57, body57]
    repeat ((with_reducible refine And.intro ?_ ?_); focus (first | (with_reducible trivial) | omega | exact f1 | (intro g; have q := f1 (by first | exact g | (rw [g]; rfl) | simpa using g); first | exact q | exact ⟨q.1, q.2.1⟩ | exact q.2.2 | omega | exact ⟨g, q⟩ | exact ⟨trivial, q⟩ | exact ⟨g, q.1, q.2.1⟩ | exact ⟨g, q.2.2⟩) | (intro g; (try have q0 := f1 (by first | exact g | (rw [g]; rfl) | simpa using g)); and_intros <;> first | (with_reducible trivial) | assumption | exact nfc | (intro g2; rw [g, g2]; rfl) | (intro g2; assumption) | (simp only [g, Bool.true_and, Bool.and_true, Bool.not_false, Bool.not_true]; assumption) | grind) | (and_intros <;> first | (with_reducible trivial) | omega | assumption | exact nfc | first | exact rfl | exact trivial | exact fitI | exact .inr rfl | exact .inl rfl | exact fun x hx => absurd hx (by omega)) | grind))
    refine condM rfl trivial (fun hc => ?_) (fun hc => ?_)
    · replace H := cond_t hc H
      refine sq ctNo_ok ?_
      simp only [go_sem, Nat.reduceLeDiff, Nat.reduceLT, Nat.reduceAdd, Nat.reduceMul, Nat.reduceSub, Nat.reduceEqDiff, Nat.reduceBEq, Int.reduceToNat, reduceCtorEq]
      refine rg ctNo_ok ?_
      simp only [go_sem, Nat.reduceLeDiff, Nat.reduceLT, Nat.reduceAdd, Nat.reduceMul, Nat.reduceSub, Nat.reduceEqDiff, Nat.reduceBEq, Int.reduceToNat, reduceCtorEq]
      obtain rfl := Option.some.inj H
      first | rfl | simp only [Bool.and_false, Bool.false_and, Bool.and_true, Bool.true_and]
    replace H := cond_f hc H
    refine rg ctNo_ok ?_
    simp only [go_sem, Nat.reduceLeDiff, Nat.reduceLT, Nat.reduceAdd, Nat.reduceMul, Nat.reduceSub, Nat.reduceEqDiff, Nat.reduceBEq, Int.reduceToNat, reduceCtorEq]
    refine seqM ?_
    refine sq ctNo_ok ?_
    simp only [go_sem, Nat.reduceLeDiff, Nat.reduceLT, Nat.reduceAdd, Nat.reduceMul, Nat.reduceSub, Nat.reduceEqDiff, Nat.reduceBEq, Int.reduceToNat, reduceCtorEq]
    repeat ((with_reducible refine And.intro ?_ ?_); focus (first | (and_intros <;> first | (with_reducible trivial) | omega | assumption | exact nfc | first | exact rfl | exact trivial | exact fitI | exact .inr rfl | exact .inl rfl | exact fun x hx => absurd hx (by omega)) | grind))
    refine blkM ?_
    refine loop_den (fun s : Int => (.top :: .ptr 0 0 0 0 :: tp 33 (.ro 17 p0.Trees.length false (enR c_TTree p0.Trees) :: .int .i64 (p0.Trees.length : Nat) :: .int .i64 s :: tp 88 []))) (fun s => [.lit 41 [.int .u8 p0.Own.x0, .int .u8 p0.Own.x1, .int .u8 p0.Own.x2, .int .u8 p0.Own.x3, .int .u8 p0.Own.x4, .int .u8 p0.Own.x5, .bool p0.Root, .bool p0.Gate, .int .i64 p0.Seq, .ro 17 p0.Trees.length false (enR c_TTree p0.Trees), .ro 13 p0.Proxies.length false (enR c_TProxied p0.Proxies)]]) (fun e : Unit => (.top :: .ptr 0 0 0 0 :: tp 124 [])) (fun e => [.lit 41 [.int .u8 p0.Own.x0, .int .u8 p0.Own.x1, .int .u8 p0.Own.x2, .int .u8 p0.Own.x3, .int .u8 p0.Own.x4, .int .u8 p0.Own.x5, .bool p0.Root, .bool p0.Gate, .int .i64 p0.Seq, .ro 17 p0.Trees.length false (enR c_TTree p0.Trees), .ro 13 p0.Proxies.length false (enR c_TProxied p0.Proxies)]]) H ?_ (fun v1_1 o H hn1_1 hn2_1 => ?_) (fun e H => ?_)
    · refine SubF_of ⟨[some 0], ?_, ?_, by rfl, by rfl⟩
      · simp [CvL, Cv, getM, tp]
      · exact ⟨(by simp [CvB, CvL, Cv, blkAt, geth, getM]), trivial⟩
    · unfold F34_L1 at H
      try dsimp only at H ⊢
      try simp only [tp]
      refine sq ctNo_ok ?_
      simp only [go_sem, Nat.reduceLeDiff, Nat.reduceLT, Nat.reduceAdd, Nat.reduceMul, Nat.reduceSub, Nat.reduceEqDiff, Nat.reduceBEq, Int.reduceToNat, reduceCtorEq]
      refine seqM ?_
      refine condM' rfl trivial (fun hc => ?_) (fun hc => ?_)
      · replace H := cond_f hc H
        refine rg ctNo_ok ?_
        simp only [go_sem, Nat.reduceLeDiff, Nat.reduceLT, Nat.reduceAdd, Nat.reduceMul, Nat.reduceSub, Nat.reduceEqDiff, Nat.reduceBEq, Int.reduceToNat, reduceCtorEq]
        refine ⟨_, (Option.some.inj H).symm, ?_⟩
        refine SubF_of ⟨[some 0], ?_, ?_, by rfl, by rfl⟩
        · simp [CvL, Cv, getM, tp]
        · exact ⟨(by simp [CvB, CvL, Cv, blkAt, geth, getM]), trivial⟩
      replace H := cond_t hc H
      refine rg ctNo_ok ?_
      simp only [go_sem, Nat.reduceLeDiff, Nat.reduceLT, Nat.reduceAdd, Nat.reduceMul, Nat.reduceSub, Nat.reduceEqDiff, Nat.reduceBEq, Int.reduceToNat, reduceCtorEq]
      refine seqM ?_
      refine blkM ?_
      refine seqM ?_
      obtain ⟨f2, H⟩ := need_some.1 H
      replace f2 := inb_iff.1 f2
      refine rg ctNo_ok ?_
      simp only [go_sem, Nat.reduceLeDiff, Nat.reduceLT, Nat.reduceAdd, Nat.reduceMul, Nat.reduceSub, Nat.reduceEqDiff, Nat.reduceBEq, Int.reduceToNat, reduceCtorEq, f2]
      repeat ((with_reducible refine And.intro ?_ ?_); focus (first | (with_reducible trivial) | omega | grind))
      refine seqM ?_
      obtain ⟨f3, H⟩ := need_some.1 H
      replace f3 := g_iff.1 f3
      replace f3 := fun g => inb_iff.1 (f3 g)
      obtain ⟨f4, H⟩ := need_some.1 H
      replace f4 := g_iff.1 f4
      refine draw_quiet shT_ok ct34t1_ok (by kernel_rfl) (by kernel_rfl) ?_
      simp only [go_sem, Nat.reduceLeDiff, Nat.reduceLT, Nat.reduceAdd, Nat.reduceMul, Nat.reduceSub, Nat.reduceEqDiff, Nat.reduceBEq, Int.reduceToNat, reduceCtorEq, ct34t1_72, body72]
      repeat ((with_reducible refine And.intro ?_ ?_); focus (first | (with_reducible trivial) | omega | exact f3 | exact f4 | (intro g; have q := f3 (by first | exact g | (rw [g]; rfl) | simpa using g); first | exact q | exact ⟨q.1, q.2.1⟩ | exact q.2.2 | omega | exact ⟨g, q⟩ | exact ⟨trivial, q⟩ | exact ⟨g, q.1, q.2.1⟩ | exact ⟨g, q.2.2⟩) | (intro g; have q := f4 (by first | exact g | (rw [g]; rfl) | simpa using g); first | exact q | exact ⟨q.1, q.2.1⟩ | exact q.2.2 | omega | exact ⟨g, q⟩ | exact ⟨trivial, q⟩ | exact ⟨g, q.1, q.2.1⟩ | exact ⟨g, q.2.2⟩) | (intro g; (try have q0 := f3 (by first | exact g | (rw [g]; rfl) | simpa using g)); (try have q1 := f4 (by first | exact g | (rw [g]; rfl) | simpa using g)); and_intros <;> first | (with_reducible trivial) | assumption | exact nfc | (intro g2; rw [g, g2]; rfl) | (intro g2; assumption) | (simp only [g, Bool.true_and, Bool.and_true, Bool.not_false, Bool.not_true]; assumption) | grind) | (and_intros <;> first | (with_reducible trivial) | omega | assumption | exact nfc | first | exact rfl | exact trivial | exact fitI | exact .inr rfl | exact .inl rfl | exact fun x hx => absurd hx (by omega)) | grind))
      refine seqM ?_
      obtain ⟨r5, e6, H⟩ := bsi H
      obtain ⟨f7, H⟩ := need_some.1 H
      replace f7 := g_iff.1 f7
      obtain ⟨f8, H⟩ := need_some.1 H
      replace f8 := g_iff.1 f8
      obtain ⟨f9, H⟩ := need_some.1 H
      replace f9 := g_iff.1 f9
      refine rg ct34t0_ok ?_
      simp only [go_sem, Nat.reduceLeDiff, Nat.reduceLT, Nat.reduceAdd, Nat.reduceMul, Nat.reduceSub, Nat.reduceEqDiff, Nat.reduceBEq, Int.reduceToNat, reduceCtorEq, ct34t0_57, body57, e6]
      repeat ((with_reducible refine And.intro ?_ ?_); focus (first | (with_reducible trivial) | omega | exact f7 | exact f8 | exact f9 | (intro g; have q := f7 (by first | exact g | (rw [g]; rfl) | simpa using g); first | exact q | exact ⟨q.1, q.2.1⟩ | exact q.2.2 | omega | exact ⟨g, q⟩ | exact ⟨trivial, q⟩ | exact ⟨g, q.1, q.2.1⟩ | exact ⟨g, q.2.2⟩) | (intro g; have q := f8 (by first | exact g | (rw [g]; rfl) | simpa using g); first | exact q | exact ⟨q.1, q.2.1⟩ | exact q.2.2 | omega | exact ⟨g, q⟩ | exact ⟨trivial, q⟩ | exact ⟨g, q.1, q.2.1⟩ | exact ⟨g, q.2.2⟩) | (intro g; have q := f9 (by first | exact g | (rw [g]; rfl) | simpa using g); first | exact q | exact ⟨q.1, q.2.1⟩ | exact q.2.2 | omega | exact ⟨g, q⟩ | exact ⟨trivial, q⟩ | exact ⟨g, q.1, q.2.1⟩ | exact ⟨g, q.2.2⟩) | (intro g; (try have q0 := f7 (by first | exact g | (rw [g]; rfl) | simpa using g)); (try have q1 := f8 (by first | exact g | (rw [g]; rfl) | simpa using g)); (try have q2 := f9 (by first | exact g | (rw [g]; rfl) | simpa using g)); and_intros <;> first | (with_reducible trivial) | assumption | exact nfc | (intro g2; rw [g, g2]; rfl) | (intro g2; assumption) | (simp only [g, Bool.true_and, Bool.and_true, Bool.not_false, Bool.not_true]; assumption) | grind) | (and_intros <;> first | (with_reducible trivial) | omega | assumption | exact nfc | first | exact rfl | exact trivial | exact fitI | exact .inr rfl | exact .inl rfl | exact fun x hx => absurd hx (by omega)) | grind))
      refine sq ctNo_ok ?_
      simp only [go_sem, Nat.reduceLeDiff, Nat.reduceLT, Nat.reduceAdd, Nat.reduceMul, Nat.reduceSub, Nat.reduceEqDiff, Nat.reduceBEq, Int.reduceToNat, reduceCtorEq]
      repeat ((with_reducible refine And.intro ?_ ?_); focus (first | (with_reducible trivial) | omega | grind))
      refine condM rfl trivial (fun hc => ?_) (fun hc => ?_)
      · replace H := cond_t hc H
        refine sq ctNo_ok ?_
        simp only [go_sem, Nat.reduceLeDiff, Nat.reduceLT, Nat.reduceAdd, Nat.reduceMul, Nat.reduceSub, Nat.reduceEqDiff, Nat.reduceBEq, Int.reduceToNat, reduceCtorEq]
        refine rg ctNo_ok ?_
        simp only [go_sem, Nat.reduceLeDiff, Nat.reduceLT, Nat.reduceAdd, Nat.reduceMul, Nat.reduceSub, Nat.reduceEqDiff, Nat.reduceBEq, Int.reduceToNat, reduceCtorEq]
        have H := hn2_1 _ (Option.some.inj H).symm
        obtain rfl := Option.some.inj H
        first | rfl | simp only [Bool.and_false, Bool.false_and, Bool.and_true, Bool.true_and]
      replace H := cond_f hc H
      refine rg ctNo_ok ?_
      simp only [go_sem, Nat.reduceLeDiff, Nat.reduceLT, Nat.reduceAdd, Nat.reduceMul, Nat.reduceSub, Nat.reduceEqDiff, Nat.reduceBEq, Int.reduceToNat, reduceCtorEq]
      refine rg ctNo_ok ?_
      simp only [go_sem, Nat.reduceLeDiff, Nat.reduceLT, Nat.reduceAdd, Nat.reduceMul, Nat.reduceSub, Nat.reduceEqDiff, Nat.reduceBEq, Int.reduceToNat, reduceCtorEq]
      refine ⟨_, (Option.some.inj H).symm, ?_⟩
      refine SubF_of ⟨[some 0], ?_, ?_, by rfl, by rfl⟩
      · simp [CvL, Cv, getM, tp]
      · exact ⟨(by simp [CvB, CvL, Cv, blkAt, geth, getM]), trivial⟩
    · try dsimp only at H ⊢
      try simp only [tp]
      try simp only [m_normal, k_normal, b_normal, kL_normal, r_normal]
      refine seqM ?_
      refine sq ctNo_ok ?_
      simp only [go_sem, Nat.reduceLeDiff, Nat.reduceLT, Nat.reduceAdd, Nat.reduceMul, Nat.reduceSub, Nat.reduceEqDiff, Nat.reduceBEq, Int.reduceToNat, reduceCtorEq]
      repeat ((with_reducible refine And.intro ?_ ?_); focus (first | (and_intros <;> first | (with_reducible trivial) | omega | assumption | exact nfc | first | exact rfl | exact trivial | exact fitI | exact .inr rfl | exact .inl rfl | exact fun x hx => absurd hx (by omega)) | grind))
      refine blkM ?_
      refine loop_den (fun s : Int => (.top :: .ptr 0 0 0 0 :: tp 95 (.ro 13 p0.Proxies.length false (enR c_TProxied p0.Proxies) :: .int .i64 (p0.Proxies.length : Nat) :: .int .i64 s :: tp 26 []))) (fun s => [.lit 41 [.int .u8 p0.Own.x0, .int .u8 p0.Own.x1, .int .u8 p0.Own.x2, .int .u8 p0.Own.x3, .int .u8 p0.Own.x4, .int .u8 p0.Own.x5, .bool p0.Root, .bool p0.Gate, .int .i64 p0.Seq, .ro 17 p0.Trees.length false (enR c_TTree p0.Trees), .ro 13 p0.Proxies.length false (enR c_TProxied p0.Proxies)]]) (fun e : Unit => (tp 126 [])) (fun e => [.dead]) H ?_ (fun v2_1 o H hn1_2 hn2_2 => ?_) (fun e H => ?_)
      · refine SubF_of ⟨[some 0], ?_, ?_, by rfl, by rfl⟩
        · simp [CvL, Cv, getM, tp]
        · exact ⟨(by simp [CvB, CvL, Cv, blkAt, geth, getM]), trivial⟩
      · unfold F34_L2 at H
        try dsimp only at H ⊢
        try simp only [tp]
        refine sq ctNo_ok ?_
        simp only [go_sem, Nat.reduceLeDiff, Nat.reduceLT, Nat.reduceAdd, Nat.reduceMul, Nat.reduceSub, Nat.reduceEqDiff, Nat.reduceBEq, Int.reduceToNat, reduceCtorEq]
        refine seqM ?_
        refine condM' rfl trivial (fun hc => ?_) (fun hc => ?_)
        · replace H := cond_f hc H
          refine rg ctNo_ok ?_
          simp only [go_sem, Nat.reduceLeDiff, Nat.reduceLT, Nat.reduceAdd, Nat.reduceMul, Nat.reduceSub, Nat.reduceEqDiff, Nat.reduceBEq, Int.reduceToNat, reduceCtorEq]
          refine ⟨_, (Option.some.inj H).symm, ?_⟩
          refine SubF_of ⟨[some 0], ?_, ?_, by rfl, by rfl⟩
          · simp [CvL, Cv, getM, tp]
          · exact ⟨CvB_dead, trivial⟩
        replace H := cond_t hc H
        refine rg ctNo_ok ?_
        simp only [go_sem, Nat.reduceLeDiff, Nat.reduceLT, Nat.reduceAdd, Nat.reduceMul, Nat.reduceSub, Nat.reduceEqDiff, Nat.reduceBEq, Int.reduceToNat, reduceCtorEq]
        refine seqM ?_
        refine blkM ?_
        refine seqM ?_
        obtain ⟨f10, H⟩ := need_some.1 H
        replace f10 := inb_iff.1 f10
        refine rg ctNo_ok ?_
        simp only [go_sem, Nat.reduceLeDiff, Nat.reduceLT, Nat.reduceAdd, Nat.reduceMul, Nat.reduceSub, Nat.reduceEqDiff, Nat.reduceBEq, Int.reduceToNat, reduceCtorEq, f10]
        repeat ((with_reducible refine And.intro ?_ ?_); focus (first | (with_reducible trivial) | omega | grind))
        refine seqM ?_
        obtain ⟨f11, H⟩ := need_some.1 H
        replace f11 := g_iff.1 f11
        replace f11 := fun g => inb_iff.1 (f11 g)
        obtain ⟨f12, H⟩ := need_some.1 H
        replace f12 := g_iff.1 f12
        obtain ⟨f13, H⟩ := need_some.1 H
        replace f13 := g_iff.1 f13
        refine draw_quiet shT_ok ct34t2_ok (by kernel_rfl) (by kernel_rfl) ?_
        simp only [go_sem, Nat.reduceLeDiff, Nat.reduceLT, Nat.reduceAdd, Nat.reduceMul, Nat.reduceSub, Nat.reduceEqDiff, Nat.reduceBEq, Int.reduceToNat, reduceCtorEq, ct34t2_57, body57, ct34t2_72, body72]
        repeat ((with_reducible refine And.intro ?_ ?_); focus (first | (with_reducible trivial) | omega | exact f11 | exact f12 | exact f13 | (intro g; have q := f11 (by first | exact g | (rw [g]; rfl) | simpa using g); first | exact q | exact ⟨q.1, q.2.1⟩ | exact q.2.2 | omega | exact ⟨g, q⟩ | exact ⟨trivial, q⟩ | exact ⟨g, q.1, q.2.1⟩ | exact ⟨g, q.2.2⟩) | (intro g; have q := f12 (by first | exact g | (rw [g]; rfl) | simpa using g); first | exact q | exact ⟨q.1, q.2.1⟩ | exact q.2.2 | omega | exact ⟨g, q⟩ | exact ⟨trivial, q⟩ | exact ⟨g, q.1, q.2.1⟩ | exact ⟨g, q.2.2⟩) | (intro g; have q := f13 (by first | exact g | (rw [g]; rfl) | simpa using g); first | exact q | exact ⟨q.1, q.2.1⟩ | exact q.2.2 | omega | exact ⟨g, q⟩ | exact ⟨trivial, q⟩ | exact ⟨g, q.1, q.2.1⟩ | exact ⟨g, q.2.2⟩) | (intro g; (try have q0 := f11 (by first | exact g | (rw [g]; rfl) | simpa using g)); (try have q1 := f12 (by first | exact g | (rw [g]; rfl) | simpa using g)); (try have q2 := f13 (by first | exact g | (rw [g]; rfl) | simpa using g)); and_intros <;> first | (with_reducible trivial) | assumption | exact nfc | (intro g2; rw [g, g2]; rfl) | (intro g2; assumption) | (simp only [g, Bool.true_and, Bool.and_true, Bool.not_false, Bool.not_true]; assumption) | grind) | (and_intros <;> first | (with_reducible trivial) | omega | assumption | exact nfc | first | exact rfl | exact trivial | exact fitI | exact .inr rfl | exact .inl rfl | exact fun x hx => absurd hx (by omega)) | grind))
        refine condM rfl trivial (fun hc => ?_) (fun hc => ?_)
        · replace H := cond_t hc H
          refine sq ctNo_ok ?_
          simp only [go_sem, Nat.reduceLeDiff, Nat.reduceLT, Nat.reduceAdd, Nat.reduceMul, Nat.reduceSub, Nat.reduceEqDiff, Nat.reduceBEq, Int.reduceToNat, reduceCtorEq]
          refine rg ctNo_ok ?_
          simp only [go_sem, Nat.reduceLeDiff, Nat.reduceLT, Nat.reduceAdd, Nat.reduceMul, Nat.reduceSub, Nat.reduceEqDiff, Nat.reduceBEq, Int.reduceToNat, reduceCtorEq]
          have H := hn2_2 _ (Option.some.inj H).symm
          obtain rfl := Option.some.inj H
          first | rfl | simp only [Bool.and_false, Bool.false_and, Bool.and_true, Bool.true_and]
        replace H := cond_f hc H
        refine rg ctNo_ok ?_
        simp only [go_sem, Nat.reduceLeDiff, Nat.reduceLT, Nat.reduceAdd, Nat.reduceMul, Nat.reduceSub, Nat.reduceEqDiff, Nat.reduceBEq, Int.reduceToNat, reduceCtorEq]
        refine rg ctNo_ok ?_
        simp only [go_sem, Nat.reduceLeDiff, Nat.reduceLT, Nat.reduceAdd, Nat.reduceMul, Nat.reduceSub, Nat.reduceEqDiff, Nat.reduceBEq, Int.reduceToNat, reduceCtorEq]
        refine ⟨_, (Option.some.inj H).symm, ?_⟩
        refine SubF_of ⟨[some 0], ?_, ?_, by rfl, by rfl⟩
        · simp [CvL, Cv, getM, tp]
        · exact ⟨(by simp [CvB, CvL, Cv, blkAt, geth, getM]), trivial⟩
      · try dsimp only at H ⊢
        try simp only [tp]
        try simp only [m_normal, k_normal, b_normal, kL_normal, r_normal]
        refine sq ctNo_ok ?_
        simp only [go_sem, Nat.reduceLeDiff, Nat.reduceLT, Nat.reduceAdd, Nat.reduceMul, Nat.reduceSub, Nat.reduceEqDiff, Nat.reduceBEq, Int.reduceToNat, reduceCtorEq]
        refine rg ctNo_ok ?_
        simp only [go_sem, Nat.reduceLeDiff, Nat.reduceLT, Nat.reduceAdd, Nat.reduceMul, Nat.reduceSub, Nat.reduceEqDiff, Nat.reduceBEq, Int.reduceToNat, reduceCtorEq]
        obtain rfl := Option.some.inj H
        first | rfl | simp only [Bool.and_false, Bool.false_and, Bool.and_true, Bool.true_and]
  · cases hb
/-! slices.Clone[[]hotspot/api.Tree,hotspot/api.Tree] -/
noncomputable def F66 (p0 : List TTree) : Option (List TTree) :=
  need (capb 56 p0.length) <| some p0
noncomputable def body66 : List AV -> List ABlk -> ED
  | [v0], h => .ed [] (lK k_TTree 17 (roD (deadL h []) v0) /\ roDOb (deadL h []) v0 /\ (F66 (lA g_TTree (roD (deadL h []) v0))).isSome = true) (.sl 0 17 0 (gt (F66 (lA g_TTree (roD (deadL h []) v0)))).length false) [.row 62 17 (gt (F66 (lA g_TTree (roD (deadL h []) v0)))).length (enR c_TTree (gt (F66 (lA g_TTree (roD (deadL h []) v0)))))]
  | _, _ => .fail
set_option maxHeartbeats 4000000 in
set_option maxRecDepth 20000 in
theorem ok66 : FnOk Try.prog 66 (edC body66) := by
  refine edit_fnV body66 (rs := [.tmp 2]) Try.func66 (by kernel_rfl) rfl rfl ?_
  intro l h bs ob q0 g0 hb hob
  unfold body66 at hb
  split at hb
  · rename_i v0
    injection hb with q1 q2 q3 q4; subst q1 q2 q3 q4
    obtain ⟨hk0, hk1, hob⟩ := hob
    obtain ⟨r, H⟩ := Option.isSome_iff_exists.1 hob
    rw [H, gt_some]
    have hw0 := lK_wk (fun r h => w_TTree h) hk0
    generalize lA g_TTree (roD (deadL h []) v0) = p0 at H hw0
    unfold F66 at H
    obtain ⟨f1, H⟩ := need_some.1 H
    replace f1 := capb_iff.1 f1
    obtain rfl := Option.some.inj H
    refine ⟨[.ro 17 p0.length false (enR c_TTree p0)], [], rfl, ⟨EW_view hk1 hw0, trivial⟩, trivial, trivial, ⟨nfB_en nr_TTree, trivial⟩, ⟨noroB_en, trivial⟩, (by simp only [noro]), ?_⟩
    rw [Try.ntmps66]
    simp only [List.length_cons, List.length_nil, Nat.reduceAdd, Nat.reduceSub, List.replicate_succ, List.replicate_zero, List.cons_append, List.nil_append]
    refine rg ctNo_ok ?_
    have nfs : ∀ x y, nref (enR c_TTree p0 x y) := fun x y => nfR_en nr_TTree
    generalize hc : enR c_TTree p0 = c at nfs hw0
    cases hn : p0.length with
    | zero =>
      simp only [go_sem, Nat.reduceLeDiff, Nat.reduceLT, Nat.reduceAdd, Nat.reduceMul, Nat.reduceSub, Nat.reduceEqDiff, Nat.reduceBEq, Int.reduceToNat, reduceCtorEq]
      have hp : p0 = [] := List.eq_nil_of_length_eq_zero hn
      subst hp; subst hc
      refine ⟨?_, ?_⟩
      · refine RetE_mk [] [none] ?_ ?_ ?_ ?_ (by rfl) (by rfl)
        · simp only [List.length_cons, List.length_nil, Nat.zero_mul, Nat.add_zero, fzV, fzL, fzOb, fzObL, fzH, fzHF, fzB, fzObB, fzObH, inL, rowOb, geth, cond_true, cond_false, Bool.or_false, Bool.or_true, Bool.false_or, Bool.true_or, and_self, true_and, and_true, Nat.reduceEqDiff, Nat.reduceBEq, beq_self_eq_true, sub_enR0, Nat.reduceAdd, Nat.zero_add, Nat.le_refl, List.nil_append]
        · simp only [List.length_cons, List.length_nil, Nat.zero_mul, Nat.add_zero, fzV, fzL, fzOb, fzObL, fzH, fzHF, fzB, fzObB, fzObH, inL, rowOb, geth, cond_true, cond_false, Bool.or_false, Bool.or_true, Bool.false_or, Bool.true_or, and_self, true_and, and_true, Nat.reduceEqDiff, Nat.reduceBEq, beq_self_eq_true, sub_enR0, Nat.reduceAdd, Nat.zero_add, Nat.le_refl, List.nil_append]
        · simp [fzV, Cv, CvL, getM]
        · simp only [List.length_cons, List.length_nil, Nat.zero_mul, Nat.add_zero, fzV, fzL, fzOb, fzObL, fzH, fzHF, fzB, fzObB, fzObH, inL, rowOb, geth, cond_true, cond_false, Bool.or_false, Bool.or_true, Bool.false_or, Bool.true_or, and_self, true_and, and_true, Nat.reduceEqDiff, Nat.reduceBEq, beq_self_eq_true, sub_enR0, Nat.reduceAdd, Nat.zero_add, Nat.le_refl, List.nil_append, CvH, and_true]; exact CvB_none
      · refine ⟨by omega, RetE_mk [] [some 1] ?_ ?_ ?_ ?_ (by rfl) (by rfl)⟩
        · simp only [List.length_cons, List.length_nil, Nat.zero_mul, Nat.add_zero, fzV, fzL, fzOb, fzObL, fzH, fzHF, fzB, fzObB, fzObH, inL, rowOb, geth, cond_true, cond_false, Bool.or_false, Bool.or_true, Bool.false_or, Bool.true_or, and_self, true_and, and_true, Nat.reduceEqDiff, Nat.reduceBEq, beq_self_eq_true, sub_enR0, Nat.reduceAdd, Nat.zero_add, Nat.le_refl, List.nil_append]
        · simp only [List.length_cons, List.length_nil, Nat.zero_mul, Nat.add_zero, fzV, fzL, fzOb, fzObL, fzH, fzHF, fzB, fzObB, fzObH, inL, rowOb, geth, cond_true, cond_false, Bool.or_false, Bool.or_true, Bool.false_or, Bool.true_or, and_self, true_and, and_true, Nat.reduceEqDiff, Nat.reduceBEq, beq_self_eq_true, sub_enR0, Nat.reduceAdd, Nat.zero_add, Nat.le_refl, List.nil_append]
        · simp [fzV, inL, Cv, CvL, getM]
        · simp only [List.length_cons, List.length_nil, Nat.zero_mul, Nat.add_zero, fzV, fzL, fzOb, fzObL, fzH, fzHF, fzB, fzObB, fzObH, inL, rowOb, geth, cond_true, cond_false, Bool.or_false, Bool.or_true, Bool.false_or, Bool.true_or, and_self, true_and, and_true, Nat.reduceEqDiff, Nat.reduceBEq, beq_self_eq_true, sub_enR0, Nat.reduceAdd, Nat.zero_add, Nat.le_refl, List.nil_append, CvH, and_true]; exact CvB_row0 nr_TTree
    | succ m =>
      simp only [go_sem, Nat.reduceLeDiff, Nat.reduceLT, Nat.reduceAdd, Nat.reduceMul, Nat.reduceSub, Nat.reduceEqDiff, Nat.reduceBEq, Int.reduceToNat, reduceCtorEq]
      refine ⟨by omega, RetE_mk [] [some 1] ?_ ?_ ?_ ?_ (by rfl) (by rfl)⟩
      · simp only [List.length_cons, List.length_nil, Nat.zero_mul, Nat.add_zero, fzV, fzL, fzOb, fzObL, fzH, fzHF, fzB, fzObB, fzObH, inL, rowOb, geth, cond_true, cond_false, Bool.or_false, Bool.or_true, Bool.false_or, Bool.true_or, and_self, true_and, and_true, Nat.reduceEqDiff, Nat.reduceBEq, beq_self_eq_true, sub_enR0, Nat.reduceAdd, Nat.zero_add, Nat.le_refl, List.nil_append]
      · simp only [List.length_cons, List.length_nil, Nat.zero_mul, Nat.add_zero, fzV, fzL, fzOb, fzObL, fzH, fzHF, fzB, fzObB, fzObH, inL, rowOb, geth, cond_true, cond_false, Bool.or_false, Bool.or_true, Bool.false_or, Bool.true_or, and_self, true_and, and_true, Nat.reduceEqDiff, Nat.reduceBEq, beq_self_eq_true, sub_enR0, Nat.reduceAdd, Nat.zero_add, Nat.le_refl, List.nil_append]
      · simp [fzV, inL, Cv, CvL, getM]
      · simp only [List.length_cons, List.length_nil, Nat.zero_mul, Nat.add_zero, fzV, fzL, fzOb, fzObL, fzH, fzHF, fzB, fzObB, fzObH, inL, rowOb, geth, cond_true, cond_false, Bool.or_false, Bool.or_true, Bool.false_or, Bool.true_or, and_self, true_and, and_true, Nat.reduceEqDiff, Nat.reduceBEq, beq_self_eq_true, sub_enR0, Nat.reduceAdd, Nat.zero_add, Nat.le_refl, List.nil_append, CvH, and_true]; rw [← hn, ← hc]; exact CvB_row nr_TTree rfl (fun x y hx hy => by simp only [appC, Nat.not_lt_zero, if_false, Nat.sub_zero])
  · cases hb
/-! slices.Clone[[]hotspot/api.Proxied,hotspot/api.Proxied] -/
noncomputable def F86 (p0 : List TProxied) : Option (List TProxied) :=
  need (capb 24 p0.length) <| some p0
noncomputable def body86 : List AV -> List ABlk -> ED
  | [v0], h => .ed [] (lK k_TProxied 13 (roD (deadL h []) v0) /\ roDOb (deadL h []) v0 /\ (F86 (lA g_TProxied (roD (deadL h []) v0))).isSome = true) (.sl 0 13 0 (gt (F86 (lA g_TProxied (roD (deadL h []) v0)))).length false) [.row 64 13 (gt (F86 (lA g_TProxied (roD (deadL h []) v0)))).length (enR c_TProxied (gt (F86 (lA g_TProxied (roD (deadL h []) v0)))))]
  | _, _ => .fail
set_option maxHeartbeats 4000000 in
set_option maxRecDepth 20000 in
theorem ok86 : FnOk Try.prog 86 (edC body86) := by
  refine edit_fnV body86 (rs := [.tmp 2]) Try.func86 (by kernel_rfl) rfl rfl ?_
  intro l h bs ob q0 g0 hb hob
  unfold body86 at hb
  split at hb
  · rename_i v0
    injection hb with q1 q2 q3 q4; subst q1 q2 q3 q4
    obtain ⟨hk0, hk1, hob⟩ := hob
    obtain ⟨r, H⟩ := Option.isSome_iff_exists.1 hob
    rw [H, gt_some]
    have hw0 := lK_wk (fun r h => w_TProxied h) hk0
    generalize lA g_TProxied (roD (deadL h []) v0) = p0 at H hw0
    unfold F86 at H
    obtain ⟨f1, H⟩ := need_some.1 H
    replace f1 := capb_iff.1 f1
    obtain rfl := Option.some.inj H
    refine ⟨[.ro 13 p0.length false (enR c_TProxied p0)], [], rfl, ⟨EW_view hk1 hw0, trivial⟩, trivial, trivial, ⟨nfB_en nr_TProxied, trivial⟩, ⟨noroB_en, trivial⟩, (by simp only [noro]), ?_⟩
    rw [Try.ntmps86]
    simp only [List.length_cons, List.length_nil, Nat.reduceAdd, Nat.reduceSub, List.replicate_succ, List.replicate_zero, List.cons_append, List.nil_append]
    refine rg ctNo_ok ?_
    have nfs : ∀ x y, nref (enR c_TProxied p0 x y) := fun x y => nfR_en nr_TProxied
    generalize hc : enR c_TProxied p0 = c at nfs hw0
    cases hn : p0.length with
    | zero =>
      simp only [go_sem, Nat.reduceLeDiff, Nat.reduceLT, Nat.reduceAdd, Nat.reduceMul, Nat.reduceSub, Nat.reduceEqDiff, Nat.reduceBEq, Int.reduceToNat, reduceCtorEq]
      have hp : p0 = [] := List.eq_nil_of_length_eq_zero hn
      subst hp; subst hc
      refine ⟨?_, ?_⟩
      · refine RetE_mk [] [none] ?_ ?_ ?_ ?_ (by rfl) (by rfl)
        · simp only [List.length_cons, List.length_nil, Nat.zero_mul, Nat.add_zero, fzV, fzL, fzOb, fzObL, fzH, fzHF, fzB, fzObB, fzObH, inL, rowOb, geth, cond_true, cond_false, Bool.or_false, Bool.or_true, Bool.false_or, Bool.true_or, and_self, true_and, and_true, Nat.reduceEqDiff, Nat.reduceBEq, beq_self_eq_true, sub_enR0, Nat.reduceAdd, Nat.zero_add, Nat.le_refl, List.nil_append]
        · simp only [List.length_cons, List.length_nil, Nat.zero_mul, Nat.add_zero, fzV, fzL, fzOb, fzObL, fzH, fzHF, fzB, fzObB, fzObH, inL, rowOb, geth, cond_true, cond_false, Bool.or_false, Bool.or_true, Bool.false_or, Bool.true_or, and_self, true_and, and_true, Nat.reduceEqDiff, Nat.reduceBEq, beq_self_eq_true, sub_enR0, Nat.reduceAdd, Nat.zero_add, Nat.le_refl, List.nil_append]
        · simp [fzV, Cv, CvL, getM]
        · simp only [List.length_cons, List.length_nil, Nat.zero_mul, Nat.add_zero, fzV, fzL, fzOb, fzObL, fzH, fzHF, fzB, fzObB, fzObH, inL, rowOb, geth, cond_true, cond_false, Bool.or_false, Bool.or_true, Bool.false_or, Bool.true_or, and_self, true_and, and_true, Nat.reduceEqDiff, Nat.reduceBEq, beq_self_eq_true, sub_enR0, Nat.reduceAdd, Nat.zero_add, Nat.le_refl, List.nil_append, CvH, and_true]; exact CvB_none
      · refine ⟨by omega, RetE_mk [] [some 1] ?_ ?_ ?_ ?_ (by rfl) (by rfl)⟩
        · simp only [List.length_cons, List.length_nil, Nat.zero_mul, Nat.add_zero, fzV, fzL, fzOb, fzObL, fzH, fzHF, fzB, fzObB, fzObH, inL, rowOb, geth, cond_true, cond_false, Bool.or_false, Bool.or_true, Bool.false_or, Bool.true_or, and_self, true_and, and_true, Nat.reduceEqDiff, Nat.reduceBEq, beq_self_eq_true, sub_enR0, Nat.reduceAdd, Nat.zero_add, Nat.le_refl, List.nil_append]
        · simp only [List.length_cons, List.length_nil, Nat.zero_mul, Nat.add_zero, fzV, fzL, fzOb, fzObL, fzH, fzHF, fzB, fzObB, fzObH, inL, rowOb, geth, cond_true, cond_false, Bool.or_false, Bool.or_true, Bool.false_or, Bool.true_or, and_self, true_and, and_true, Nat.reduceEqDiff, Nat.reduceBEq, beq_self_eq_true, sub_enR0, Nat.reduceAdd, Nat.zero_add, Nat.le_refl, List.nil_append]
        · simp [fzV, inL, Cv, CvL, getM]
        · simp only [List.length_cons, List.length_nil, Nat.zero_mul, Nat.add_zero, fzV, fzL, fzOb, fzObL, fzH, fzHF, fzB, fzObB, fzObH, inL, rowOb, geth, cond_true, cond_false, Bool.or_false, Bool.or_true, Bool.false_or, Bool.true_or, and_self, true_and, and_true, Nat.reduceEqDiff, Nat.reduceBEq, beq_self_eq_true, sub_enR0, Nat.reduceAdd, Nat.zero_add, Nat.le_refl, List.nil_append, CvH, and_true]; exact CvB_row0 nr_TProxied
    | succ m =>
      simp only [go_sem, Nat.reduceLeDiff, Nat.reduceLT, Nat.reduceAdd, Nat.reduceMul, Nat.reduceSub, Nat.reduceEqDiff, Nat.reduceBEq, Int.reduceToNat, reduceCtorEq]
      refine ⟨by omega, RetE_mk [] [some 1] ?_ ?_ ?_ ?_ (by rfl) (by rfl)⟩
      · simp only [List.length_cons, List.length_nil, Nat.zero_mul, Nat.add_zero, fzV, fzL, fzOb, fzObL, fzH, fzHF, fzB, fzObB, fzObH, inL, rowOb, geth, cond_true, cond_false, Bool.or_false, Bool.or_true, Bool.false_or, Bool.true_or, and_self, true_and, and_true, Nat.reduceEqDiff, Nat.reduceBEq, beq_self_eq_true, sub_enR0, Nat.reduceAdd, Nat.zero_add, Nat.le_refl, List.nil_append]
      · simp only [List.length_cons, List.length_nil, Nat.zero_mul, Nat.add_zero, fzV, fzL, fzOb, fzObL, fzH, fzHF, fzB, fzObB, fzObH, inL, rowOb, geth, cond_true, cond_false, Bool.or_false, Bool.or_true, Bool.false_or, Bool.true_or, and_self, true_and, and_true, Nat.reduceEqDiff, Nat.reduceBEq, beq_self_eq_true, sub_enR0, Nat.reduceAdd, Nat.zero_add, Nat.le_refl, List.nil_append]
      · simp [fzV, inL, Cv, CvL, getM]
      · simp only [List.length_cons, List.length_nil, Nat.zero_mul, Nat.add_zero, fzV, fzL, fzOb, fzObL, fzH, fzHF, fzB, fzObB, fzObH, inL, rowOb, geth, cond_true, cond_false, Bool.or_false, Bool.or_true, Bool.false_or, Bool.true_or, and_self, true_and, and_true, Nat.reduceEqDiff, Nat.reduceBEq, beq_self_eq_true, sub_enR0, Nat.reduceAdd, Nat.zero_add, Nat.le_refl, List.nil_append, CvH, and_true]; rw [← hn, ← hc]; exact CvB_row nr_TProxied rfl (fun x y hx hy => by simp only [appC, Nat.not_lt_zero, if_false, Nat.sub_zero])
  · cases hb
/-! hotspot/root.twin -/
noncomputable def ct56t0 : Ct := tab [(66, edC body66), (86, edC body86)]
theorem ct56t0_ok : CtOk Try.prog ct56t0 := tab_cons ok66 <| tab_cons ok86 <| tab_nil
theorem ct56t0_66 (l : List AV) (h : List ABlk) : ct56t0 66 l h = edC body66 l h := rfl
theorem ct56t0_86 (l : List AV) (h : List ABlk) : ct56t0 86 l h = edC body86 l h := rfl
noncomputable def F56 (p0 : TRoots) : Option (TRoots) :=
  (F66 p0.Trees).bind fun r1 => (F86 p0.Proxies).bind fun r3 => some (TRoots.mk (A6u8.mk p0.Own.x0 p0.Own.x1 p0.Own.x2 p0.Own.x3 p0.Own.x4 p0.Own.x5) p0.Root p0.Gate p0.Seq r1 r3)
noncomputable def body56 : List AV -> List ABlk -> ED
  | [v0], h => .ed [] (aK 11 k_TRoots (roD (deadL h []) v0) /\ roDOb (deadL h []) v0 /\ (F56 (g_TRoots (aL (roD (deadL h []) v0)))).isSome = true) (.agg [.int .u8 (((gt (F56 (g_TRoots (aL (roD (deadL h []) v0))))).Own).x0), .int .u8 (((gt (F56 (g_TRoots (aL (roD (deadL h []) v0))))).Own).x1), .int .u8 (((gt (F56 (g_TRoots (aL (roD (deadL h []) v0))))).Own).x2), .int .u8 (((gt (F56 (g_TRoots (aL (roD (deadL h []) v0))))).Own).x3), .int .u8 (((gt (F56 (g_TRoots (aL (roD (deadL h []) v0))))).Own).x4), .int .u8 (((gt (F56 (g_TRoots (aL (roD (deadL h []) v0))))).Own).x5), .bool ((gt (F56 (g_TRoots (aL (roD (deadL h []) v0))))).Root), .bool ((gt (F56 (g_TRoots (aL (roD (deadL h []) v0))))).Gate), .int .i64 ((gt (F56 (g_TRoots (aL (roD (deadL h []) v0))))).Seq), .sl 0 17 0 (((gt (F56 (g_TRoots (aL (roD (deadL h []) v0))))).Trees).length) false, .sl 1 13 0 (((gt (F56 (g_TRoots (aL (roD (deadL h []) v0))))).Proxies).length) false]) [.row 62 17 (((gt (F56 (g_TRoots (aL (roD (deadL h []) v0))))).Trees).length) (enR c_TTree ((gt (F56 (g_TRoots (aL (roD (deadL h []) v0))))).Trees)), .row 64 13 (((gt (F56 (g_TRoots (aL (roD (deadL h []) v0))))).Proxies).length) (enR c_TProxied ((gt (F56 (g_TRoots (aL (roD (deadL h []) v0))))).Proxies))]
  | _, _ => .fail
set_option maxHeartbeats 4000000 in
set_option maxRecDepth 20000 in
theorem ok56 : FnOk Try.prog 56 (edC body56) := by
  refine edit_fnV body56 (rs := [.cell 2 41]) Try.func56 (by kernel_rfl) rfl rfl ?_
  intro l h bs ob q0 g0 hb hob
  unfold body56 at hb
  split at hb
  · rename_i v0
    injection hb with q1 q2 q3 q4; subst q1 q2 q3 q4
    obtain ⟨hk0_0, hk0_1, hob⟩ := hob
    obtain ⟨r, H⟩ := Option.isSome_iff_exists.1 hob
    rw [H, gt_some]
    have hw0 := wA_TRoots hk0_0
    obtain ⟨p0, hp_p0⟩ : ∃ p0, p0 = g_TRoots (aL (roD (deadL h []) v0)) := ⟨_, rfl⟩
    rw [← hp_p0] at H hw0
    refine ⟨[.agg [.int .u8 p0.Own.x0, .int .u8 p0.Own.x1, .int .u8 p0.Own.x2, .int .u8 p0.Own.x3, .int .u8 p0.Own.x4, .int .u8 p0.Own.x5, .bool p0.Root, .bool p0.Gate, .int .i64 p0.Seq, .ro 17 p0.Trees.length false (enR c_TTree p0.Trees), .ro 13 p0.Proxies.length false (enR c_TProxied p0.Proxies)]], [], rfl, ⟨(EW_view hk0_1 hw0), trivial⟩, trivial, trivial, ⟨(nfB_en nr_TTree), ⟨(nfB_en nr_TProxied), trivial⟩⟩, ⟨noroB_en, ⟨noroB_en, trivial⟩⟩, (by first | (simp only [noro, noroL, and_self]; done) | (simp only [noro, noroL]; and_intros <;> first | trivial | exact noro_bif (by simp only [noro]) (by simp only [noro]) | (simp only [noro, noroL, and_self]))), ?_⟩
    rw [Try.ntmps56]
    simp only [List.length_cons, List.length_nil, Nat.reduceAdd, Nat.reduceSub, List.replicate_succ, List.replicate_zero, List.cons_append, List.nil_append]
    unfold F56 at H
    try dsimp only at H
    refine sq ctNo_ok ?_
    simp only [go_sem, Nat.reduceLeDiff, Nat.reduceLT, Nat.reduceAdd, Nat.reduceMul, Nat.reduceSub, Nat.reduceEqDiff, Nat.reduceBEq, Int.reduceToNat, reduceCtorEq]
    refine seqM ?_
    obtain ⟨r1, e2, H⟩ := bsi H
    obtain ⟨r3, e4, H⟩ := bsi H
    refine draw_rule shT_ok ct56t0_ok 2 (by kernel_rfl) (by kernel_rfl) ?_
    intro an han
    simp only [d_nil, d_cons, nxtD, xrD, xoD, roEq, minL, List.append_nil, refsOp, refs, refsL, mask, maskF, place, placeF, okLog, pairOk, hit, inL, slotsF, ren, renL, rnN, nrH, nrB, nrL, nr, dead0, deadS, List.replicate_zero, List.replicate_succ, Nat.sub_self, Nat.add_zero, Nat.zero_add, Nat.reduceSub, Nat.not_lt_zero, Nat.zero_le, Nat.lt_add_one, go_sem, Nat.reduceLeDiff, Nat.reduceLT, Nat.reduceAdd, Nat.reduceMul, Nat.reduceSub, Nat.reduceEqDiff, Nat.reduceBEq, Int.reduceToNat, reduceCtorEq, ct56t0_66, body66, ct56t0_86, body86, e2, e4]
    repeat ((with_reducible refine And.intro ?_ ?_); focus (and_intros <;> first | (with_reducible trivial) | (show anB _ _ _ = true; subst han; kernel_rfl) | (show (anB _ _ _ && _) = true; subst han; kernel_rfl) | omega | assumption | exact nrc | exact nfc | first | exact rfl | exact trivial | exact fitI | exact .inr rfl | exact .inl rfl | exact fun x hx => absurd hx (by omega)))
    refine sq ctNo_ok ?_
    simp only [go_sem, Nat.reduceLeDiff, Nat.reduceLT, Nat.reduceAdd, Nat.reduceMul, Nat.reduceSub, Nat.reduceEqDiff, Nat.reduceBEq, Int.reduceToNat, reduceCtorEq]
    repeat ((with_reducible refine And.intro ?_ ?_); focus (first | (with_reducible trivial) | omega | grind))
    refine rg ctNo_ok ?_
    simp only [go_sem, Nat.reduceLeDiff, Nat.reduceLT, Nat.reduceAdd, Nat.reduceMul, Nat.reduceSub, Nat.reduceEqDiff, Nat.reduceBEq, Int.reduceToNat, reduceCtorEq]
    obtain rfl := Option.some.inj H
    refine RetE_mk [] [some 2, some 3] ?_ ?_ ?_ ?_ (by rfl) (by rfl)
    · simp only [go_sem, Nat.reduceEqDiff, Nat.reduceBEq, Nat.reduceAdd]
      try (and_intros <;> first | trivial | omega | exact nfc)
    · simp only [go_sem, Nat.reduceEqDiff, Nat.reduceBEq, Nat.reduceAdd]
      try (and_intros <;> first | trivial | omega | exact nfc)
    · simp only [go_sem, Nat.reduceEqDiff, Nat.reduceBEq, Nat.reduceAdd]
      exact (by first | (simp [Cv, CvL, getM, gt_some]; done) | (simp [Cv, CvL, getM, gt_some]; omega))
    · simp only [go_sem, Nat.reduceEqDiff, Nat.reduceBEq, Nat.reduceAdd, CvH, gt_some, Option.isSome_some, Option.isSome_none]
      first | exact ⟨CvB_row nr_TTree (by first | rfl | (simp; done) | (simp; omega)) (fun _ _ _ _ => rfl), CvB_row nr_TProxied (by first | rfl | (simp; done) | (simp; omega)) (fun _ _ _ _ => rfl)⟩ | trivial
  · cases hb
/-! hotspot/root.Announce -/
noncomputable def ct18t0 : Ct := tab [(34, pureC body34)]
theorem ct18t0_ok : CtOk Try.prog ct18t0 := tab_cons ok34 <| tab_nil
theorem ct18t0_34 (l : List AV) (h : List ABlk) : ct18t0 34 l h = pureC body34 l h := rfl
noncomputable def ct18t1 : Ct := tab [(56, edC body56)]
theorem ct18t1_ok : CtOk Try.prog ct18t1 := tab_cons ok56 <| tab_nil
theorem ct18t1_56 (l : List AV) (h : List ABlk) : ct18t1 56 l h = edC body56 l h := rfl
noncomputable def F18 (p0 : TRoots) : Option (TRootWord × TRoots × Int) :=
  (F34 p0).bind fun r1 => bif (!bEq r1 0) then (some ((TRootWord.mk (A6u8.mk 0 0 0 0 0 0) 0 0 0 false), (TRoots.mk (A6u8.mk 0 0 0 0 0 0) false false 0 [] []), r1)) else (bif (!p0.Root) then (some ((TRootWord.mk (A6u8.mk 0 0 0 0 0 0) 0 0 0 false), (TRoots.mk (A6u8.mk 0 0 0 0 0 0) false false 0 [] []), 20)) else (bif (bEq p0.Seq 2147483647) then (some ((TRootWord.mk (A6u8.mk 0 0 0 0 0 0) 0 0 0 false), (TRoots.mk (A6u8.mk 0 0 0 0 0 0) false false 0 [] []), 22)) else ((F56 p0).bind fun r3 => some ((TRootWord.mk (A6u8.mk r3.Own.x0 r3.Own.x1 r3.Own.x2 r3.Own.x3 r3.Own.x4 r3.Own.x5) (wr .i64 (r3.Seq + 1)) 0 0 r3.Gate), (TRoots.mk (A6u8.mk r3.Own.x0 r3.Own.x1 r3.Own.x2 r3.Own.x3 r3.Own.x4 r3.Own.x5) r3.Root r3.Gate (wr .i64 (r3.Seq + 1)) r3.Trees r3.Proxies), 0))))
noncomputable def body18 : List AV -> List ABlk -> ED
  | [v0], h => .ed [] (aK 11 k_TRoots (roD (deadL h []) v0) /\ roDOb (deadL h []) v0 /\ (F18 (g_TRoots (aL (roD (deadL h []) v0)))).isSome = true) (.tup [.agg [.int .u8 ((((gt (F18 (g_TRoots (aL (roD (deadL h []) v0))))).1).Root).x0), .int .u8 ((((gt (F18 (g_TRoots (aL (roD (deadL h []) v0))))).1).Root).x1), .int .u8 ((((gt (F18 (g_TRoots (aL (roD (deadL h []) v0))))).1).Root).x2), .int .u8 ((((gt (F18 (g_TRoots (aL (roD (deadL h []) v0))))).1).Root).x3), .int .u8 ((((gt (F18 (g_TRoots (aL (roD (deadL h []) v0))))).1).Root).x4), .int .u8 ((((gt (F18 (g_TRoots (aL (roD (deadL h []) v0))))).1).Root).x5), .int .i64 (((gt (F18 (g_TRoots (aL (roD (deadL h []) v0))))).1).Seq), .int .i64 (((gt (F18 (g_TRoots (aL (roD (deadL h []) v0))))).1).Hops), .int .i64 (((gt (F18 (g_TRoots (aL (roD (deadL h []) v0))))).1).Cost), .bool (((gt (F18 (g_TRoots (aL (roD (deadL h []) v0))))).1).Gate)], .agg [.int .u8 ((((gt (F18 (g_TRoots (aL (roD (deadL h []) v0))))).2.1).Own).x0), .int .u8 ((((gt (F18 (g_TRoots (aL (roD (deadL h []) v0))))).2.1).Own).x1), .int .u8 ((((gt (F18 (g_TRoots (aL (roD (deadL h []) v0))))).2.1).Own).x2), .int .u8 ((((gt (F18 (g_TRoots (aL (roD (deadL h []) v0))))).2.1).Own).x3), .int .u8 ((((gt (F18 (g_TRoots (aL (roD (deadL h []) v0))))).2.1).Own).x4), .int .u8 ((((gt (F18 (g_TRoots (aL (roD (deadL h []) v0))))).2.1).Own).x5), .bool (((gt (F18 (g_TRoots (aL (roD (deadL h []) v0))))).2.1).Root), .bool (((gt (F18 (g_TRoots (aL (roD (deadL h []) v0))))).2.1).Gate), .int .i64 (((gt (F18 (g_TRoots (aL (roD (deadL h []) v0))))).2.1).Seq), .sl 0 17 0 ((((gt (F18 (g_TRoots (aL (roD (deadL h []) v0))))).2.1).Trees).length) false, .sl 1 13 0 ((((gt (F18 (g_TRoots (aL (roD (deadL h []) v0))))).2.1).Proxies).length) false], .int .i64 ((gt (F18 (g_TRoots (aL (roD (deadL h []) v0))))).2.2)]) [.row 62 17 ((((gt (F18 (g_TRoots (aL (roD (deadL h []) v0))))).2.1).Trees).length) (enR c_TTree (((gt (F18 (g_TRoots (aL (roD (deadL h []) v0))))).2.1).Trees)), .row 64 13 ((((gt (F18 (g_TRoots (aL (roD (deadL h []) v0))))).2.1).Proxies).length) (enR c_TProxied (((gt (F18 (g_TRoots (aL (roD (deadL h []) v0))))).2.1).Proxies))]
  | _, _ => .fail
set_option maxHeartbeats 4000000 in
set_option maxRecDepth 20000 in
theorem ok18 : FnOk Try.prog 18 (edC body18) := by
  refine edit_fnV body18 (rs := [.cell 2 25, .cell 3 41, .tmp 4]) Try.func18 (by kernel_rfl) rfl rfl ?_
  intro l h bs ob q0 g0 hb hob
  unfold body18 at hb
  split at hb
  · rename_i v0
    injection hb with q1 q2 q3 q4; subst q1 q2 q3 q4
    obtain ⟨hk0_0, hk0_1, hob⟩ := hob
    obtain ⟨r, H⟩ := Option.isSome_iff_exists.1 hob
    rw [H, gt_some]
    have hw0 := wA_TRoots hk0_0
    obtain ⟨p0, hp_p0⟩ : ∃ p0, p0 = g_TRoots (aL (roD (deadL h []) v0)) := ⟨_, rfl⟩
    rw [← hp_p0] at H hw0
    refine ⟨[.agg [.int .u8 p0.Own.x0, .int .u8 p0.Own.x1, .int .u8 p0.Own.x2, .int .u8 p0.Own.x3, .int .u8 p0.Own.x4, .int .u8 p0.Own.x5, .bool p0.Root, .bool p0.Gate, .int .i64 p0.Seq, .ro 17 p0.Trees.length false (enR c_TTree p0.Trees), .ro 13 p0.Proxies.length false (enR c_TProxied p0.Proxies)]], [], rfl, ⟨(EW_view hk0_1 hw0), trivial⟩, trivial, trivial, ⟨(nfB_en nr_TTree), ⟨(nfB_en nr_TProxied), trivial⟩⟩, ⟨noroB_en, ⟨noroB_en, trivial⟩⟩, (by first | (simp only [noro, noroL, and_self]; done) | (simp only [noro, noroL]; and_intros <;> first | trivial | exact noro_bif (by simp only [noro]) (by simp only [noro]) | (simp only [noro, noroL, and_self]))), ?_⟩
    rw [Try.ntmps18]
    simp only [List.length_cons, List.length_nil, Nat.reduceAdd, Nat.reduceSub, List.replicate_succ, List.replicate_zero, List.cons_append, List.nil_append]
    unfold F18 at H
    try dsimp only at H
    refine sq ctNo_ok ?_
    simp only [go_sem, Nat.reduceLeDiff, Nat.reduceLT, Nat.reduceAdd, Nat.reduceMul, Nat.reduceSub, Nat.reduceEqDiff, Nat.reduceBEq, Int.reduceToNat, reduceCtorEq]
    refine seqM ?_
    obtain ⟨r1, e2, H⟩ := bsi H
    refine rg ct18t0_ok ?_
    simp only [go_sem, Nat.reduceLeDiff, Nat.reduceLT, Nat.reduceAdd, Nat.reduceMul, Nat.reduceSub, Nat.reduceEqDiff, Nat.reduceBEq, Int.reduceToNat, reduceCtorEq, ct18t0_34, body34, e2]
    repeat ((with_reducible refine And.intro ?_ ?_); focus (first | (and_intros <;> first | (with_reducible trivial) | omega | assumption | exact nfc | first | exact rfl | exact trivial | exact fitI | exact .inr rfl | exact .inl rfl | exact fun x hx => absurd hx (by omega)) | grind))
    refine seqM ?_
    refine blkM ?_
    refine sq ctNo_ok ?_
    simp only [go_sem, Nat.reduceLeDiff, Nat.reduceLT, Nat.reduceAdd, Nat.reduceMul, Nat.reduceSub, Nat.reduceEqDiff, Nat.reduceBEq, Int.reduceToNat, reduceCtorEq]
    refine condM rfl trivial (fun hc => ?_) (fun hc => ?_)
    · replace H := cond_t hc H
      refine sq ctNo_ok ?_
      simp only [go_sem, Nat.reduceLeDiff, Nat.reduceLT, Nat.reduceAdd, Nat.reduceMul, Nat.reduceSub, Nat.reduceEqDiff, Nat.reduceBEq, Int.reduceToNat, reduceCtorEq]
      repeat ((with_reducible refine And.intro ?_ ?_); focus (first | (with_reducible trivial) | omega | grind))
      refine rg ctNo_ok ?_
      simp only [go_sem, Nat.reduceLeDiff, Nat.reduceLT, Nat.reduceAdd, Nat.reduceMul, Nat.reduceSub, Nat.reduceEqDiff, Nat.reduceBEq, Int.reduceToNat, reduceCtorEq]
      obtain rfl := Option.some.inj H
      refine RetE_mk [] [none, none] ?_ ?_ ?_ ?_ (by rfl) (by rfl)
      · simp only [go_sem, Nat.reduceEqDiff, Nat.reduceBEq, Nat.reduceAdd]
        try (and_intros <;> first | trivial | omega | exact nfc)
      · simp only [go_sem, Nat.reduceEqDiff, Nat.reduceBEq, Nat.reduceAdd]
        try (and_intros <;> first | trivial | omega | exact nfc)
      · simp only [go_sem, Nat.reduceEqDiff, Nat.reduceBEq, Nat.reduceAdd]
        exact Cv_tup (CvL_cons (by simp [Cv, CvL, getM, gt_some]) (CvL_cons (by first | (simp [Cv, CvL, getM, gt_some]; done) | (simp [Cv, CvL, getM, gt_some]; omega)) (CvL_cons (by simp [Cv, CvL, getM, gt_some]) CvL_nil)))
      · simp only [go_sem, Nat.reduceEqDiff, Nat.reduceBEq, Nat.reduceAdd, CvH, gt_some, Option.isSome_some, Option.isSome_none]
        first | exact ⟨CvB_none, CvB_none⟩ | trivial
    replace H := cond_f hc H
    refine sq ctNo_ok ?_
    simp only [go_sem, Nat.reduceLeDiff, Nat.reduceLT, Nat.reduceAdd, Nat.reduceMul, Nat.reduceSub, Nat.reduceEqDiff, Nat.reduceBEq, Int.reduceToNat, reduceCtorEq]
    refine condM rfl trivial (fun hc => ?_) (fun hc => ?_)
    · replace H := cond_t hc H
      refine sq ctNo_ok ?_
      simp only [go_sem, Nat.reduceLeDiff, Nat.reduceLT, Nat.reduceAdd, Nat.reduceMul, Nat.reduceSub, Nat.reduceEqDiff, Nat.reduceBEq, Int.reduceToNat, reduceCtorEq]
      repeat ((with_reducible refine And.intro ?_ ?_); focus (first | (with_reducible trivial) | omega | grind))
      refine rg ctNo_ok ?_
      simp only [go_sem, Nat.reduceLeDiff, Nat.reduceLT, Nat.reduceAdd, Nat.reduceMul, Nat.reduceSub, Nat.reduceEqDiff, Nat.reduceBEq, Int.reduceToNat, reduceCtorEq]
      obtain rfl := Option.some.inj H
      refine RetE_mk [] [none, none] ?_ ?_ ?_ ?_ (by rfl) (by rfl)
      · simp only [go_sem, Nat.reduceEqDiff, Nat.reduceBEq, Nat.reduceAdd]
        try (and_intros <;> first | trivial | omega | exact nfc)
      · simp only [go_sem, Nat.reduceEqDiff, Nat.reduceBEq, Nat.reduceAdd]
        try (and_intros <;> first | trivial | omega | exact nfc)
      · simp only [go_sem, Nat.reduceEqDiff, Nat.reduceBEq, Nat.reduceAdd]
        exact Cv_tup (CvL_cons (by simp [Cv, CvL, getM, gt_some]) (CvL_cons (by first | (simp [Cv, CvL, getM, gt_some]; done) | (simp [Cv, CvL, getM, gt_some]; omega)) (CvL_cons (by simp [Cv, CvL, getM, gt_some]) CvL_nil)))
      · simp only [go_sem, Nat.reduceEqDiff, Nat.reduceBEq, Nat.reduceAdd, CvH, gt_some, Option.isSome_some, Option.isSome_none]
        first | exact ⟨CvB_none, CvB_none⟩ | trivial
    replace H := cond_f hc H
    refine sq ctNo_ok ?_
    simp only [go_sem, Nat.reduceLeDiff, Nat.reduceLT, Nat.reduceAdd, Nat.reduceMul, Nat.reduceSub, Nat.reduceEqDiff, Nat.reduceBEq, Int.reduceToNat, reduceCtorEq]
    refine condM rfl trivial (fun hc => ?_) (fun hc => ?_)
    · replace H := cond_t hc H
      refine sq ctNo_ok ?_
      simp only [go_sem, Nat.reduceLeDiff, Nat.reduceLT, Nat.reduceAdd, Nat.reduceMul, Nat.reduceSub, Nat.reduceEqDiff, Nat.reduceBEq, Int.reduceToNat, reduceCtorEq]
      repeat ((with_reducible refine And.intro ?_ ?_); focus (first | (with_reducible trivial) | omega | grind))
      refine rg ctNo_ok ?_
      simp only [go_sem, Nat.reduceLeDiff, Nat.reduceLT, Nat.reduceAdd, Nat.reduceMul, Nat.reduceSub, Nat.reduceEqDiff, Nat.reduceBEq, Int.reduceToNat, reduceCtorEq]
      obtain rfl := Option.some.inj H
      refine RetE_mk [] [none, none] ?_ ?_ ?_ ?_ (by rfl) (by rfl)
      · simp only [go_sem, Nat.reduceEqDiff, Nat.reduceBEq, Nat.reduceAdd]
        try (and_intros <;> first | trivial | omega | exact nfc)
      · simp only [go_sem, Nat.reduceEqDiff, Nat.reduceBEq, Nat.reduceAdd]
        try (and_intros <;> first | trivial | omega | exact nfc)
      · simp only [go_sem, Nat.reduceEqDiff, Nat.reduceBEq, Nat.reduceAdd]
        exact Cv_tup (CvL_cons (by simp [Cv, CvL, getM, gt_some]) (CvL_cons (by first | (simp [Cv, CvL, getM, gt_some]; done) | (simp [Cv, CvL, getM, gt_some]; omega)) (CvL_cons (by simp [Cv, CvL, getM, gt_some]) CvL_nil)))
      · simp only [go_sem, Nat.reduceEqDiff, Nat.reduceBEq, Nat.reduceAdd, CvH, gt_some, Option.isSome_some, Option.isSome_none]
        first | exact ⟨CvB_none, CvB_none⟩ | trivial
    replace H := cond_f hc H
    refine rg ctNo_ok ?_
    simp only [go_sem, Nat.reduceLeDiff, Nat.reduceLT, Nat.reduceAdd, Nat.reduceMul, Nat.reduceSub, Nat.reduceEqDiff, Nat.reduceBEq, Int.reduceToNat, reduceCtorEq]
    refine seqM ?_
    obtain ⟨r3, e4, H⟩ := bsi H
    refine rg ct18t1_ok ?_
    simp only [go_sem, Nat.reduceLeDiff, Nat.reduceLT, Nat.reduceAdd, Nat.reduceMul, Nat.reduceSub, Nat.reduceEqDiff, Nat.reduceBEq, Int.reduceToNat, reduceCtorEq, ct18t1_56, body56, e4]
    repeat ((with_reducible refine And.intro ?_ ?_); focus (first | (and_intros <;> first | (with_reducible trivial) | omega | assumption | exact nfc | first | exact rfl | exact trivial | exact fitI | exact .inr rfl | exact .inl rfl | exact fun x hx => absurd hx (by omega)) | grind))
    refine sq ctNo_ok ?_
    simp only [go_sem, Nat.reduceLeDiff, Nat.reduceLT, Nat.reduceAdd, Nat.reduceMul, Nat.reduceSub, Nat.reduceEqDiff, Nat.reduceBEq, Int.reduceToNat, reduceCtorEq]
    repeat ((with_reducible refine And.intro ?_ ?_); focus (first | (with_reducible trivial) | omega | grind))
    refine seqM ?_
    refine draw_rule shT_ok ctNo_ok 0 (by kernel_rfl) (by kernel_rfl) ?_
    intro an han
    simp only [d_nil, d_cons, nxtD, xrD, xoD, roEq, minL, List.append_nil, refsOp, refs, refsL, mask, maskF, place, placeF, okLog, pairOk, hit, inL, slotsF, ren, renL, rnN, nrH, nrB, nrL, nr, dead0, deadS, List.replicate_zero, List.replicate_succ, Nat.sub_self, Nat.add_zero, Nat.zero_add, Nat.reduceSub, Nat.not_lt_zero, Nat.zero_le, Nat.lt_add_one, go_sem, Nat.reduceLeDiff, Nat.reduceLT, Nat.reduceAdd, Nat.reduceMul, Nat.reduceSub, Nat.reduceEqDiff, Nat.reduceBEq, Int.reduceToNat, reduceCtorEq]
    repeat ((with_reducible refine And.intro ?_ ?_); focus (and_intros <;> first | (with_reducible trivial) | (show anB _ _ _ = true; subst han; kernel_rfl) | (show (anB _ _ _ && _) = true; subst han; kernel_rfl) | omega | assumption | exact nrc | exact nfc | first | exact rfl | exact trivial | exact fitI | exact .inr rfl | exact .inl rfl | exact fun x hx => absurd hx (by omega)))
    refine rg ctNo_ok ?_
    simp only [go_sem, Nat.reduceLeDiff, Nat.reduceLT, Nat.reduceAdd, Nat.reduceMul, Nat.reduceSub, Nat.reduceEqDiff, Nat.reduceBEq, Int.reduceToNat, reduceCtorEq]
    obtain rfl := Option.some.inj H
    refine RetE_mk [] [some 3, some 4] ?_ ?_ ?_ ?_ (by rfl) (by rfl)
    · simp only [go_sem, Nat.reduceEqDiff, Nat.reduceBEq, Nat.reduceAdd]
      try (and_intros <;> first | trivial | omega | exact nfc)
    · simp only [go_sem, Nat.reduceEqDiff, Nat.reduceBEq, Nat.reduceAdd]
      try (and_intros <;> first | trivial | omega | exact nfc)
    · simp only [go_sem, Nat.reduceEqDiff, Nat.reduceBEq, Nat.reduceAdd]
      exact Cv_tup (CvL_cons (by simp [Cv, CvL, getM, gt_some]) (CvL_cons (by first | (simp [Cv, CvL, getM, gt_some]; done) | (simp [Cv, CvL, getM, gt_some]; omega)) (CvL_cons (by simp [Cv, CvL, getM, gt_some]) CvL_nil)))
    · simp only [go_sem, Nat.reduceEqDiff, Nat.reduceBEq, Nat.reduceAdd, CvH, gt_some, Option.isSome_some, Option.isSome_none]
      first | exact ⟨CvB_row nr_TTree (by first | rfl | (simp; done) | (simp; omega)) (fun _ _ _ _ => rfl), CvB_row nr_TProxied (by first | rfl | (simp; done) | (simp; omega)) (fun _ _ _ _ => rfl)⟩ | trivial
  · cases hb
/-! hotspot/root.checkWord -/
noncomputable def ct43t0 : Ct := tab [(57, pureC body57)]
theorem ct43t0_ok : CtOk Try.prog ct43t0 := tab_cons ok57 <| tab_nil
theorem ct43t0_57 (l : List AV) (h : List ABlk) : ct43t0 57 l h = pureC body57 l h := rfl
noncomputable def F43 (p0 : TRootWord) : Option (Bool) :=
  (F57 p0.Seq 1 2147483647).bind fun r1 => need (bif r1 then ((F57 p0.Hops 0 15).isSome) else true) <| need (bif (r1 && (gt (F57 p0.Hops 0 15))) then ((F57 p0.Cost 0 1099511627776).isSome) else true) <| some ((r1 && (gt (F57 p0.Hops 0 15))) && (gt (F57 p0.Cost 0 1099511627776)))
noncomputable def body43 : List AV -> AR
  | [v0] => .pure (aK 10 k_TRootWord v0 /\ (F43 (g_TRootWord (aL v0))).isSome = true) (.bool (gt (F43 (g_TRootWord (aL v0)))))
  | _ => .fail
set_option maxHeartbeats 4000000 in
set_option maxRecDepth 20000 in
theorem ok43 : FnOk Try.prog 43 (pureC body43) := by
  refine pure_fnM body43 (rs := [.tmp 2]) Try.func43 (by kernel_rfl) rfl rfl ?_
  intro l ob v hb hob
  unfold body43 at hb
  split at hb
  · rename_i v0
    injection hb with q1 q2; subst q1 q2
    obtain ⟨hk0_0, hob⟩ := hob
    obtain ⟨r, H⟩ := Option.isSome_iff_exists.1 hob
    rw [H, gt_some]
    have hw0 := wA_TRootWord hk0_0
    generalize g_TRootWord (aL v0) = p0 at H hw0
    refine ⟨[.agg [.int .u8 p0.Root.x0, .int .u8 p0.Root.x1, .int .u8 p0.Root.x2, .int .u8 p0.Root.x3, .int .u8 p0.Root.x4, .int .u8 p0.Root.x5, .int .i64 p0.Seq, .int .i64 p0.Hops, .int .i64 p0.Cost, .bool p0.Gate]], _, (fun E vs F => FR_wk1 hw0.1 F (fun vs F => F)), rfl, rfl, ?_⟩
    rw [Try.ntmps43]
    simp only [List.length_cons, List.length_nil, Nat.reduceAdd, Nat.reduceSub, List.replicate_succ, List.replicate_zero, List.cons_append, List.nil_append]
    unfold F43 at H
    try dsimp only at H
    refine sq ctNo_ok ?_
    simp only [go_sem, Nat.reduceLeDiff, Nat.reduceLT, Nat.reduceAdd, Nat.reduceMul, Nat.reduceSub, Nat.reduceEqDiff, Nat.reduceBEq, Int.reduceToNat, reduceCtorEq]
    refine seqM ?_
    obtain ⟨r1, e2, H⟩ := bsi H
    obtain ⟨f3, H⟩ := need_some.1 H
    replace f3 := g_iff.1 f3
    obtain ⟨f4, H⟩ := need_some.1 H
    replace f4 := g_iff.1 f4
    refine rg ct43t0_ok ?_
    simp only [go_sem, Nat.reduceLeDiff, Nat.reduceLT, Nat.reduceAdd, Nat.reduceMul, Nat.reduceSub, Nat.reduceEqDiff, Nat.reduceBEq, Int.reduceToNat, reduceCtorEq, ct43t0_57, body57, e2]
    repeat ((with_reducible refine And.intro ?_ ?_); focus (first | (with_reducible trivial) | omega | exact f3 | exact f4 | (intro g; have q := f3 (by first | exact g | (rw [g]; rfl) | simpa using g); first | exact q | exact ⟨q.1, q.2.1⟩ | exact q.2.2 | omega | exact ⟨g, q⟩ | exact ⟨trivial, q⟩ | exact ⟨g, q.1, q.2.1⟩ | exact ⟨g, q.2.2⟩) | (intro g; have q := f4 (by first | exact g | (rw [g]; rfl) | simpa using g); first | exact q | exact ⟨q.1, q.2.1⟩ | exact q.2.2 | omega | exact ⟨g, q⟩ | exact ⟨trivial, q⟩ | exact ⟨g, q.1, q.2.1⟩ | exact ⟨g, q.2.2⟩) | (intro g; (try have q0 := f3 (by first | exact g | (rw [g]; rfl) | simpa using g)); (try have q1 := f4 (by first | exact g | (rw [g]; rfl) | simpa using g)); and_intros <;> first | (with_reducible trivial) | assumption | exact nfc | (intro g2; rw [g, g2]; rfl) | (intro g2; assumption) | (simp only [g, Bool.true_and, Bool.and_true, Bool.not_false, Bool.not_true]; assumption) | grind) | (and_intros <;> first | (with_reducible trivial) | omega | assumption | exact nfc | first | exact rfl | exact trivial | exact fitI | exact .inr rfl | exact .inl rfl | exact fun x hx => absurd hx (by omega)) | grind))
    refine rg ctNo_ok ?_
    simp only [go_sem, Nat.reduceLeDiff, Nat.reduceLT, Nat.reduceAdd, Nat.reduceMul, Nat.reduceSub, Nat.reduceEqDiff, Nat.reduceBEq, Int.reduceToNat, reduceCtorEq]
    obtain rfl := Option.some.inj H
    first | rfl | simp only [Bool.and_false, Bool.false_and, Bool.and_true, Bool.true_and]
  · cases hb
/-! hotspot/root.tree$1 -/
noncomputable def ct88t0 : Ct := tab [(72, pureC body72)]
theorem ct88t0_ok : CtOk Try.prog ct88t0 := tab_cons ok72 <| tab_nil
theorem ct88t0_72 (l : List AV) (h : List ABlk) : ct88t0 72 l h = pureC body72 l h := rfl
noncomputable def F88 (p0 : TTree) (p1 : A6u8) : Option (Int) :=
  (F72 p0.Root p1).bind fun r1 => some r1
noncomputable def body88 : List AV -> AR
  | [v0, v1] => .pure (aK 17 k_TTree v0 /\ aK 6 k_A6u8 v1 /\ (F88 (g_TTree (aL v0)) (g_A6u8 (aL v1))).isSome = true) (.int .i64 (gt (F88 (g_TTree (aL v0)) (g_A6u8 (aL v1)))))
  | _ => .fail
set_option maxHeartbeats 4000000 in
set_option maxRecDepth 20000 in
theorem ok88 : FnOk Try.prog 88 (pureC body88) := by
  refine pure_fnM body88 (rs := [.tmp 4]) Try.func88 (by kernel_rfl) rfl rfl ?_
  intro l ob v hb hob
  unfold body88 at hb
  split at hb
  · rename_i v0 v1
    injection hb with q1 q2; subst q1 q2
    obtain ⟨hk0_0, hk1_0, hob⟩ := hob
    obtain ⟨r, H⟩ := Option.isSome_iff_exists.1 hob
    rw [H, gt_some]
    have hw0 := wA_TTree hk0_0
    have hw1 := wA_A6u8 hk1_0
    generalize g_TTree (aL v0) = p0 at H hw0
    generalize g_A6u8 (aL v1) = p1 at H hw1
    refine ⟨[.agg [.int .u8 p0.Root.x0, .int .u8 p0.Root.x1, .int .u8 p0.Root.x2, .int .u8 p0.Root.x3, .int .u8 p0.Root.x4, .int .u8 p0.Root.x5, .int .u8 p0.Parent.x0, .int .u8 p0.Parent.x1, .int .u8 p0.Parent.x2, .int .u8 p0.Parent.x3, .int .u8 p0.Parent.x4, .int .u8 p0.Parent.x5, .int .i64 p0.Seq, .int .i64 p0.Hops, .int .i64 p0.Cost, .bool p0.Gate, .int .i64 p0.Until], .agg [.int .u8 p1.x0, .int .u8 p1.x1, .int .u8 p1.x2, .int .u8 p1.x3, .int .u8 p1.x4, .int .u8 p1.x5]], _, (fun E vs F => FR_wk1 hw0.1 F (fun vs F => FR_wk1 hw1.1 F (fun vs F => F))), rfl, rfl, ?_⟩
    rw [Try.ntmps88]
    simp only [List.length_cons, List.length_nil, Nat.reduceAdd, Nat.reduceSub, List.replicate_succ, List.replicate_zero, List.cons_append, List.nil_append]
    unfold F88 at H
    try dsimp only at H
    refine sq ctNo_ok ?_
    simp only [go_sem, Nat.reduceLeDiff, Nat.reduceLT, Nat.reduceAdd, Nat.reduceMul, Nat.reduceSub, Nat.reduceEqDiff, Nat.reduceBEq, Int.reduceToNat, reduceCtorEq]
    refine seqM ?_
    obtain ⟨r1, e2, H⟩ := bsi H
    refine rg ct88t0_ok ?_
    simp only [go_sem, Nat.reduceLeDiff, Nat.reduceLT, Nat.reduceAdd, Nat.reduceMul, Nat.reduceSub, Nat.reduceEqDiff, Nat.reduceBEq, Int.reduceToNat, reduceCtorEq, ct88t0_72, body72, e2]
    repeat ((with_reducible refine And.intro ?_ ?_); focus (first | (and_intros <;> first | (with_reducible trivial) | omega | assumption | exact nfc | first | exact rfl | exact trivial | exact fitI | exact .inr rfl | exact .inl rfl | exact fun x hx => absurd hx (by omega)) | grind))
    refine rg ctNo_ok ?_
    simp only [go_sem, Nat.reduceLeDiff, Nat.reduceLT, Nat.reduceAdd, Nat.reduceMul, Nat.reduceSub, Nat.reduceEqDiff, Nat.reduceBEq, Int.reduceToNat, reduceCtorEq]
    obtain rfl := Option.some.inj H
    first | rfl | simp only [Bool.and_false, Bool.false_and, Bool.and_true, Bool.true_and]
  · cases hb
/-! slices.BinarySearchFunc[[]hotspot/api.Tree,hotspot/api.Tree,hotspot/api.Addr] -/
noncomputable def ct87_0t0 : Ct := tab [(88, pureC body88)]
theorem ct87_0t0_ok : CtOk Try.prog ct87_0t0 := tab_cons ok88 <| tab_nil
theorem ct87_0t0_88 (l : List AV) (h : List ABlk) : ct87_0t0 88 l h = pureC body88 l h := rfl
noncomputable def F87_0_L1 (p0 : List TTree) (p1 : A6u8) (v1_1 : Int) (v1_2 : Int) : Option (Lp (Int × Int) ((Int) ⊕ (Int × Bool))) :=
  bif (bLt v1_1 v1_2) then (need (inb (wr .i64 (shrI .u64 (wr .u64 (wr .i64 (v1_1 + v1_2))) 1)) p0.length) <| (F88 (TTree.mk (A6u8.mk (((gd p0 ((wr .i64 (shrI .u64 (wr .u64 (wr .i64 (v1_1 + v1_2))) 1)).toNat)).Root).x0) (((gd p0 ((wr .i64 (shrI .u64 (wr .u64 (wr .i64 (v1_1 + v1_2))) 1)).toNat)).Root).x1) (((gd p0 ((wr .i64 (shrI .u64 (wr .u64 (wr .i64 (v1_1 + v1_2))) 1)).toNat)).Root).x2) (((gd p0 ((wr .i64 (shrI .u64 (wr .u64 (wr .i64 (v1_1 + v1_2))) 1)).toNat)).Root).x3) (((gd p0 ((wr .i64 (shrI .u64 (wr .u64 (wr .i64 (v1_1 + v1_2))) 1)).toNat)).Root).x4) (((gd p0 ((wr .i64 (shrI .u64 (wr .u64 (wr .i64 (v1_1 + v1_2))) 1)).toNat)).Root).x5)) (A6u8.mk (((gd p0 ((wr .i64 (shrI .u64 (wr .u64 (wr .i64 (v1_1 + v1_2))) 1)).toNat)).Parent).x0) (((gd p0 ((wr .i64 (shrI .u64 (wr .u64 (wr .i64 (v1_1 + v1_2))) 1)).toNat)).Parent).x1) (((gd p0 ((wr .i64 (shrI .u64 (wr .u64 (wr .i64 (v1_1 + v1_2))) 1)).toNat)).Parent).x2) (((gd p0 ((wr .i64 (shrI .u64 (wr .u64 (wr .i64 (v1_1 + v1_2))) 1)).toNat)).Parent).x3) (((gd p0 ((wr .i64 (shrI .u64 (wr .u64 (wr .i64 (v1_1 + v1_2))) 1)).toNat)).Parent).x4) (((gd p0 ((wr .i64 (shrI .u64 (wr .u64 (wr .i64 (v1_1 + v1_2))) 1)).toNat)).Parent).x5)) ((gd p0 ((wr .i64 (shrI .u64 (wr .u64 (wr .i64 (v1_1 + v1_2))) 1)).toNat)).Seq) ((gd p0 ((wr .i64 (shrI .u64 (wr .u64 (wr .i64 (v1_1 + v1_2))) 1)).toNat)).Hops) ((gd p0 ((wr .i64 (shrI .u64 (wr .u64 (wr .i64 (v1_1 + v1_2))) 1)).toNat)).Cost) ((gd p0 ((wr .i64 (shrI .u64 (wr .u64 (wr .i64 (v1_1 + v1_2))) 1)).toNat)).Gate) ((gd p0 ((wr .i64 (shrI .u64 (wr .u64 (wr .i64 (v1_1 + v1_2))) 1)).toNat)).Until)) p1).bind fun r2 => bif (bLt r2 0) then (some (.next (wr .i64 ((wr .i64 (shrI .u64 (wr .u64 (wr .i64 (v1_1 + v1_2))) 1)) + 1), v1_2))) else (some (.next (v1_1, wr .i64 (shrI .u64 (wr .u64 (wr .i64 (v1_1 + v1_2))) 1))))) else (some (.done (.inl v1_1)))
noncomputable def F87_0 (p0 : List TTree) (p1 : A6u8) : Option (Int × Bool) :=
  lp (loopD (fun s => F87_0_L1 p0 p1 s.1 s.2) (0, (p0.length : Nat))) (fun w1_3 => need (bif (bLt w1_3 (p0.length : Nat)) then inb w1_3 p0.length else true) <| need (bif (bLt w1_3 (p0.length : Nat)) then ((F88 (TTree.mk (A6u8.mk (((gd p0 w1_3.toNat).Root).x0) (((gd p0 w1_3.toNat).Root).x1) (((gd p0 w1_3.toNat).Root).x2) (((gd p0 w1_3.toNat).Root).x3) (((gd p0 w1_3.toNat).Root).x4) (((gd p0 w1_3.toNat).Root).x5)) (A6u8.mk (((gd p0 w1_3.toNat).Parent).x0) (((gd p0 w1_3.toNat).Parent).x1) (((gd p0 w1_3.toNat).Parent).x2) (((gd p0 w1_3.toNat).Parent).x3) (((gd p0 w1_3.toNat).Parent).x4) (((gd p0 w1_3.toNat).Parent).x5)) ((gd p0 w1_3.toNat).Seq) ((gd p0 w1_3.toNat).Hops) ((gd p0 w1_3.toNat).Cost) ((gd p0 w1_3.toNat).Gate) ((gd p0 w1_3.toNat).Until)) p1).isSome) else true) <| some (w1_3, ((bLt w1_3 (p0.length : Nat)) && (bEq (gt (F88 (TTree.mk (A6u8.mk (((gd p0 w1_3.toNat).Root).x0) (((gd p0 w1_3.toNat).Root).x1) (((gd p0 w1_3.toNat).Root).x2) (((gd p0 w1_3.toNat).Root).x3) (((gd p0 w1_3.toNat).Root).x4) (((gd p0 w1_3.toNat).Root).x5)) (A6u8.mk (((gd p0 w1_3.toNat).Parent).x0) (((gd p0 w1_3.toNat).Parent).x1) (((gd p0 w1_3.toNat).Parent).x2) (((gd p0 w1_3.toNat).Parent).x3) (((gd p0 w1_3.toNat).Parent).x4) (((gd p0 w1_3.toNat).Parent).x5)) ((gd p0 w1_3.toNat).Seq) ((gd p0 w1_3.toNat).Hops) ((gd p0 w1_3.toNat).Cost) ((gd p0 w1_3.toNat).Gate) ((gd p0 w1_3.toNat).Until)) p1)) 0)))) some
noncomputable def body87_0 : List AV -> AR
  | [v0, v1, .fn 88 []] => .pure (lK k_TTree 17 v0 /\ aK 6 k_A6u8 v1 /\ (F87_0 (lA g_TTree v0) (g_A6u8 (aL v1))).isSome = true) (.tup [.int .i64 ((gt (F87_0 (lA g_TTree v0) (g_A6u8 (aL v1)))).1), .bool ((gt (F87_0 (lA g_TTree v0) (g_A6u8 (aL v1)))).2)])
  | _ => .fail
set_option maxHeartbeats 4000000 in
set_option maxRecDepth 20000 in
theorem ok87_0 : FnOk Try.prog 87 (pureC body87_0) := by
  refine pure_fnM body87_0 (rs := [.tmp 6, .tmp 7]) Try.func87 (by kernel_rfl) rfl rfl ?_
  intro l ob v hb hob
  unfold body87_0 at hb
  split at hb
  · rename_i v0 v1
    injection hb with q1 q2; subst q1 q2
    obtain ⟨hk0_0, hk1_0, hob⟩ := hob
    obtain ⟨r, H⟩ := Option.isSome_iff_exists.1 hob
    rw [H, gt_some]
    have hw0 := lK_wk (fun r h => w_TTree h) hk0_0
    have hw1 := wA_A6u8 hk1_0
    generalize lA g_TTree v0 = p0 at H hw0
    generalize g_A6u8 (aL v1) = p1 at H hw1
    refine ⟨[.ro 17 p0.length false (enR c_TTree p0), .agg [.int .u8 p1.x0, .int .u8 p1.x1, .int .u8 p1.x2, .int .u8 p1.x3, .int .u8 p1.x4, .int .u8 p1.x5], .fn 88 []], _, (fun E vs F => FR_wk1 hw0.1 F (fun vs F => FR_wk1 hw1.1 F (fun vs F => FR_wk1 (fn_wk LW_nil) F (fun vs F => F)))), rfl, rfl, ?_⟩
    rw [Try.ntmps87]
    simp only [List.length_cons, List.length_nil, Nat.reduceAdd, Nat.reduceSub, List.replicate_succ, List.replicate_zero, List.cons_append, List.nil_append]
    unfold F87_0 at H
    try dsimp only at H
    refine sq ctNo_ok ?_
    simp only [go_sem, Nat.reduceLeDiff, Nat.reduceLT, Nat.reduceAdd, Nat.reduceMul, Nat.reduceSub, Nat.reduceEqDiff, Nat.reduceBEq, Int.reduceToNat, reduceCtorEq]
    refine sq ctNo_ok ?_
    simp only [go_sem, Nat.reduceLeDiff, Nat.reduceLT, Nat.reduceAdd, Nat.reduceMul, Nat.reduceSub, Nat.reduceEqDiff, Nat.reduceBEq, Int.reduceToNat, reduceCtorEq]
    repeat ((with_reducible refine And.intro ?_ ?_); focus (first | (and_intros <;> first | (with_reducible trivial) | omega | assumption | exact nfc | first | exact rfl | exact trivial | exact fitI | exact .inr rfl | exact .inl rfl | exact fun x hx => absurd hx (by omega)) | grind))
    refine sq ctNo_ok ?_
    simp only [go_sem, Nat.reduceLeDiff, Nat.reduceLT, Nat.reduceAdd, Nat.reduceMul, Nat.reduceSub, Nat.reduceEqDiff, Nat.reduceBEq, Int.reduceToNat, reduceCtorEq]
    refine seqM ?_
    refine blkM ?_
    refine loop_den (fun s : Int × Int => (.ro 17 p0.length false (enR c_TTree p0) :: .top :: .fn 88 [] :: .top :: .ptr 0 0 0 0 :: .top :: .top :: .top :: .int .i64 (p0.length : Nat) :: .int .i64 s.1 :: .int .i64 s.2 :: tp 38 [])) (fun s => [.lit 23 [.int .u8 p1.x0, .int .u8 p1.x1, .int .u8 p1.x2, .int .u8 p1.x3, .int .u8 p1.x4, .int .u8 p1.x5]]) (fun e : Int => (.ro 17 p0.length false (enR c_TTree p0) :: .top :: .fn 88 [] :: .top :: .ptr 0 0 0 0 :: .top :: .top :: .top :: .int .i64 (p0.length : Nat) :: .int .i64 e :: tp 39 [])) (fun e => [.lit 23 [.int .u8 p1.x0, .int .u8 p1.x1, .int .u8 p1.x2, .int .u8 p1.x3, .int .u8 p1.x4, .int .u8 p1.x5]]) H ?_ (fun s o H hn1_1 hn2_1 => ?_) (fun w1_3 H => ?_)
    · refine SubF_of ⟨[some 0], ?_, ?_, by rfl, by rfl⟩
      · simp [CvL, Cv, getM, tp]
      · exact ⟨(by simp [CvB, CvL, Cv, blkAt, geth, getM]), trivial⟩
    · obtain ⟨v1_1, v1_2⟩ := s
      unfold F87_0_L1 at H
      try dsimp only at H ⊢
      try simp only [tp]
      refine seqM ?_
      refine sq ctNo_ok ?_
      simp only [go_sem, Nat.reduceLeDiff, Nat.reduceLT, Nat.reduceAdd, Nat.reduceMul, Nat.reduceSub, Nat.reduceEqDiff, Nat.reduceBEq, Int.reduceToNat, reduceCtorEq]
      refine condM' rfl trivial (fun hc => ?_) (fun hc => ?_)
      · replace H := cond_f hc H
        refine rg ctNo_ok ?_
        simp only [go_sem, Nat.reduceLeDiff, Nat.reduceLT, Nat.reduceAdd, Nat.reduceMul, Nat.reduceSub, Nat.reduceEqDiff, Nat.reduceBEq, Int.reduceToNat, reduceCtorEq]
        refine ⟨_, (Option.some.inj H).symm, ?_⟩
        refine SubF_of ⟨[some 0], ?_, ?_, by rfl, by rfl⟩
        · simp [CvL, Cv, getM, tp]
        · exact ⟨(by simp [CvB, CvL, Cv, blkAt, geth, getM]), trivial⟩
      replace H := cond_t hc H
      refine rg ctNo_ok ?_
      simp only [go_sem, Nat.reduceLeDiff, Nat.reduceLT, Nat.reduceAdd, Nat.reduceMul, Nat.reduceSub, Nat.reduceEqDiff, Nat.reduceBEq, Int.reduceToNat, reduceCtorEq]
      refine blkM ?_
      refine sq ctNo_ok ?_
      simp only [go_sem, Nat.reduceLeDiff, Nat.reduceLT, Nat.reduceAdd, Nat.reduceMul, Nat.reduceSub, Nat.reduceEqDiff, Nat.reduceBEq, Int.reduceToNat, reduceCtorEq]
      repeat ((with_reducible refine And.intro ?_ ?_); focus (first | (with_reducible trivial) | omega | grind))
      refine seqM ?_
      obtain ⟨f1, H⟩ := need_some.1 H
      replace f1 := inb_iff.1 f1
      obtain ⟨r2, e3, H⟩ := bsi H
      refine draw_quiet shT_ok ct87_0t0_ok (by kernel_rfl) (by kernel_rfl) ?_
      simp only [go_sem, Nat.reduceLeDiff, Nat.reduceLT, Nat.reduceAdd, Nat.reduceMul, Nat.reduceSub, Nat.reduceEqDiff, Nat.reduceBEq, Int.reduceToNat, reduceCtorEq, ct87_0t0_88, body88, f1, e3]
      repeat ((with_reducible refine And.intro ?_ ?_); focus (first | (and_intros <;> first | (with_reducible trivial) | omega | assumption | exact nfc | first | exact rfl | exact trivial | exact fitI | exact .inr rfl | exact .inl rfl | exact fun x hx => absurd hx (by omega)) | grind))
      refine condM rfl trivial (fun hc => ?_) (fun hc => ?_)
      · replace H := cond_t hc H
        refine rg ctNo_ok ?_
        simp only [go_sem, Nat.reduceLeDiff, Nat.reduceLT, Nat.reduceAdd, Nat.reduceMul, Nat.reduceSub, Nat.reduceEqDiff, Nat.reduceBEq, Int.reduceToNat, reduceCtorEq]
        refine ⟨_, (Option.some.inj H).symm, ?_⟩
        refine SubF_of ⟨[some 0], ?_, ?_, by rfl, by rfl⟩
        · simp [CvL, Cv, getM, tp]
        · exact ⟨(by simp [CvB, CvL, Cv, blkAt, geth, getM]), trivial⟩
      replace H := cond_f hc H
      refine rg ctNo_ok ?_
      simp only [go_sem, Nat.reduceLeDiff, Nat.reduceLT, Nat.reduceAdd, Nat.reduceMul, Nat.reduceSub, Nat.reduceEqDiff, Nat.reduceBEq, Int.reduceToNat, reduceCtorEq]
      refine ⟨_, (Option.some.inj H).symm, ?_⟩
      refine SubF_of ⟨[some 0], ?_, ?_, by rfl, by rfl⟩
      · simp [CvL, Cv, getM, tp]
      · exact ⟨(by simp [CvB, CvL, Cv, blkAt, geth, getM]), trivial⟩
    · try dsimp only at H ⊢
      try simp only [tp]
      try simp only [m_normal, k_normal, b_normal, kL_normal, r_normal]
      refine seqM ?_
      obtain ⟨f4, H⟩ := need_some.1 H
      replace f4 := g_iff.1 f4
      replace f4 := fun g => inb_iff.1 (f4 g)
      obtain ⟨f5, H⟩ := need_some.1 H
      replace f5 := g_iff.1 f5
      refine draw_quiet shT_ok ct87_0t0_ok (by kernel_rfl) (by kernel_rfl) ?_
      simp only [go_sem, Nat.reduceLeDiff, Nat.reduceLT, Nat.reduceAdd, Nat.reduceMul, Nat.reduceSub, Nat.reduceEqDiff, Nat.reduceBEq, Int.reduceToNat, reduceCtorEq, ct87_0t0_88, body88]
      repeat ((with_reducible refine And.intro ?_ ?_); focus (first | (with_reducible trivial) | omega | exact f4 | exact f5 | (intro g; have q := f4 (by first | exact g | (rw [g]; rfl) | simpa using g); first | exact q | exact ⟨q.1, q.2.1⟩ | exact q.2.2 | omega | exact ⟨g, q⟩ | exact ⟨trivial, q⟩ | exact ⟨g, q.1, q.2.1⟩ | exact ⟨g, q.2.2⟩) | (intro g; have q := f5 (by first | exact g | (rw [g]; rfl) | simpa using g); first | exact q | exact ⟨q.1, q.2.1⟩ | exact q.2.2 | omega | exact ⟨g, q⟩ | exact ⟨trivial, q⟩ | exact ⟨g, q.1, q.2.1⟩ | exact ⟨g, q.2.2⟩) | (intro g; (try have q0 := f4 (by first | exact g | (rw [g]; rfl) | simpa using g)); (try have q1 := f5 (by first | exact g | (rw [g]; rfl) | simpa using g)); and_intros <;> first | (with_reducible trivial) | assumption | exact nfc | (intro g2; rw [g, g2]; rfl) | (intro g2; assumption) | (simp only [g, Bool.true_and, Bool.and_true, Bool.not_false, Bool.not_true]; assumption) | grind) | (and_intros <;> first | (with_reducible trivial) | omega | assumption | exact nfc | first | exact rfl | exact trivial | exact fitI | exact .inr rfl | exact .inl rfl | exact fun x hx => absurd hx (by omega)) | grind))
      refine rg ctNo_ok ?_
      simp only [go_sem, Nat.reduceLeDiff, Nat.reduceLT, Nat.reduceAdd, Nat.reduceMul, Nat.reduceSub, Nat.reduceEqDiff, Nat.reduceBEq, Int.reduceToNat, reduceCtorEq]
      obtain rfl := Option.some.inj H
      first | rfl | simp only [Bool.and_false, Bool.false_and, Bool.and_true, Bool.true_and]
  · cases hb
/-! hotspot/root.tree -/
noncomputable def ct58t0 : Ct := tab [(87, pureC body87_0)]
theorem ct58t0_ok : CtOk Try.prog ct58t0 := tab_cons ok87_0 <| tab_nil
theorem ct58t0_87 (l : List AV) (h : List ABlk) : ct58t0 87 l h = pureC body87_0 l h := rfl
noncomputable def F58 (p0 : TRoots) (p1 : A6u8) : Option (Int × Bool) :=
  (F87_0 p0.Trees p1).bind fun r1 => some (r1.1, r1.2)
noncomputable def body58 : List AV -> AR
  | [v0, v1] => .pure (aK 11 k_TRoots v0 /\ aK 6 k_A6u8 v1 /\ (F58 (g_TRoots (aL v0)) (g_A6u8 (aL v1))).isSome = true) (.tup [.int .i64 ((gt (F58 (g_TRoots (aL v0)) (g_A6u8 (aL v1)))).1), .bool ((gt (F58 (g_TRoots (aL v0)) (g_A6u8 (aL v1)))).2)])
  | _ => .fail
set_option maxHeartbeats 4000000 in
set_option maxRecDepth 20000 in
theorem ok58 : FnOk Try.prog 58 (pureC body58) := by
  refine pure_fnM body58 (rs := [.tmp 4, .tmp 5]) Try.func58 (by kernel_rfl) rfl rfl ?_
  intro l ob v hb hob
  unfold body58 at hb
  split at hb
  · rename_i v0 v1
    injection hb with q1 q2; subst q1 q2
    obtain ⟨hk0_0, hk1_0, hob⟩ := hob
    obtain ⟨r, H⟩ := Option.isSome_iff_exists.1 hob
    rw [H, gt_some]
    have hw0 := wA_TRoots hk0_0
    have hw1 := wA_A6u8 hk1_0
    generalize g_TRoots (aL v0) = p0 at H hw0
    generalize g_A6u8 (aL v1) = p1 at H hw1
    refine ⟨[.agg [.int .u8 p0.Own.x0, .int .u8 p0.Own.x1, .int .u8 p0.Own.x2, .int .u8 p0.Own.x3, .int .u8 p0.Own.x4, .int .u8 p0.Own.x5, .bool p0.Root, .bool p0.Gate, .int .i64 p0.Seq, .ro 17 p0.Trees.length false (enR c_TTree p0.Trees), .ro 13 p0.Proxies.length false (enR c_TProxied p0.Proxies)], .agg [.int .u8 p1.x0, .int .u8 p1.x1, .int .u8 p1.x2, .int .u8 p1.x3, .int .u8 p1.x4, .int .u8 p1.x5]], _, (fun E vs F => FR_wk1 hw0.1 F (fun vs F => FR_wk1 hw1.1 F (fun vs F => F))), rfl, rfl, ?_⟩
    rw [Try.ntmps58]
    simp only [List.length_cons, List.length_nil, Nat.reduceAdd, Nat.reduceSub, List.replicate_succ, List.replicate_zero, List.cons_append, List.nil_append]
    unfold F58 at H
    try dsimp only at H
    refine sq ctNo_ok ?_
    simp only [go_sem, Nat.reduceLeDiff, Nat.reduceLT, Nat.reduceAdd, Nat.reduceMul, Nat.reduceSub, Nat.reduceEqDiff, Nat.reduceBEq, Int.reduceToNat, reduceCtorEq]
    refine seqM ?_
    obtain ⟨r1, e2, H⟩ := bsi H
    refine rg ct58t0_ok ?_
    simp only [go_sem, Nat.reduceLeDiff, Nat.reduceLT, Nat.reduceAdd, Nat.reduceMul, Nat.reduceSub, Nat.reduceEqDiff, Nat.reduceBEq, Int.reduceToNat, reduceCtorEq, ct58t0_87, body87_0, e2]
    repeat ((with_reducible refine And.intro ?_ ?_); focus (first | (and_intros <;> first | (with_reducible trivial) | omega | assumption | exact nfc | first | exact rfl | exact trivial | exact fitI | exact .inr rfl | exact .inl rfl | exact fun x hx => absurd hx (by omega)) | grind))
    refine rg ctNo_ok ?_
    simp only [go_sem, Nat.reduceLeDiff, Nat.reduceLT, Nat.reduceAdd, Nat.reduceMul, Nat.reduceSub, Nat.reduceEqDiff, Nat.reduceBEq, Int.reduceToNat, reduceCtorEq]
    obtain rfl := Option.some.inj H
    first | rfl | simp only [Bool.and_false, Bool.false_and, Bool.and_true, Bool.true_and]
  · cases hb
/-! slices.Insert[[]hotspot/api.Tree,hotspot/api.Tree] -/
theorem ext59 : ExtOk Try.prog 89 ovC2 := ov_ext2 (t := 38) (tr := 4) (e := 62) (z := 17) Try.func89 (by kernel_rfl) (by kernel_rfl) (by kernel_rfl) (by kernel_rfl) (by kernel_rfl) (by kernel_rfl)
def ctI59 : Ct := tab [(89, ovC2)]
theorem ctI59_ok : CtOk Try.prog ctI59 := tab_ext ext59 tab_nil
theorem ctI59_eq (l : List AV) (h : List ABlk) : ctI59 89 l h = ovC2 l h := rfl
theorem tik59_0 : tintk Try.prog 2 = true := by kernel_rfl
theorem tik59_1 : tintk Try.prog 38 = false := by kernel_rfl
set_option maxHeartbeats 8000000 in
set_option maxRecDepth 20000 in
theorem okF59 : FnOk Try.prog 59 (insF 62 17) := by
  refine edit1_fn (sh := fun _ => none) (fun _ _ h => by cases h) ctI59_ok (insF 62 17) (rs := [.tmp 6]) Try.func59 (by kernel_rfl) rfl rfl insF_np ?_
  intro E h l vs ob v h' H F hc hob
  unfold insF at hc
  split at hc
  · rename_i b es' i n nl p b2 es3 i2 m nl2
    split at hc
    · rename_i e' es2 NN c hb
      split at hc
      · rename_i e4 es4 N2 d hb2
        injection hc with q1 q2 q3
        subst q1 q2 q3
        obtain ⟨rfl, rfl, rfl, rfl, rfl, hbb, hN, hN2, hpn, hmm, hbig, hfl, hfl2⟩ := hob
        obtain ⟨vs⟩ := vs
        match vs, F.1 with
        | [u1, u2, u3], _ =>
          have hne : geth h b ≠ .dead := by rw [hb]; exact fun e => by cases e
          obtain ⟨cap, hcap, hV⟩ := csl_of_sl (only_sl (F.2 0 _ u1 rfl rfl))
          have g2 := F.2 1 _ u2 rfl rfl
          have g3 := only_ro (b := b) H (F.2 2 _ u3 rfl rfl) hb2 hne hbb hN2 fun x y hx hy => (hfl2 x y hx hy).1
          obtain rfl := VR_int g2
          refine ⟨b, 62, 17, NN, c, n + m, insA i p m c (subC i2 d), [.csl 0 17 i n cap, .int .i64 p, .ro 17 m nl2 (subC i2 d)], hb, fun x y hx hy => (hfl x y hx hy).1, fun x y hx hy => ?_, rfl, rfl, ?_, ?_⟩
          · unfold insA subC
            split
            · exact hfl _ _ (by omega) hy
            · split
              · exact hfl2 _ _ (by omega) hy
              · exact hfl _ _ (by omega) hy
          · refine ⟨rfl, fun j a w ha hw => ?_⟩
            match j with
            | 0 => simp at ha hw; subst ha hw; exact hV
            | 1 => simp at ha hw; subst ha hw; exact .int _ _
            | 2 => simp at ha hw; subst ha hw; exact g3
            | j + 3 => simp at ha
          · rw [Try.ntmps59]
            show wpC _ _ _ _ _ (.csl 0 17 i n cap :: .int .i64 p :: .ro 17 m nl2 (subC i2 d) :: .top :: .top :: .top :: .top :: .top :: .top :: .top :: .top :: .top :: .top :: .top :: .top :: .top :: .top :: .top :: .top :: .top :: .top :: .top :: .top :: .top :: .top :: .top :: .top :: .top :: .top :: .top :: .top :: .top :: .top :: .top :: .top :: .top :: .top :: .top :: .top :: .top :: .top :: .top :: .top :: .top :: .top :: .top :: .top :: .top :: .top :: .top :: .top :: .top :: .top :: .top :: .top :: .top :: .top :: .top :: .top :: .top :: .top :: .top :: .top :: .top :: .top :: .top :: .top :: .top :: .top :: .top :: .top :: .top :: .top :: .top :: .top :: .top :: .top :: .top :: .top :: .top :: .top :: .top :: .top :: .top :: .top :: .top :: .top :: .top :: .top :: .top :: .top :: .top :: .top :: .top :: .top :: []) _
            have hm0 : 0 < m := by omega
            have hm1 : ((m : Int) == 0) = false := by simp; omega
            rcases Nat.lt_or_ge p n with hp | hp
            · have hpq : ((p : Int) == (n : Int)) = false := by simp; omega
              have w1 : wr .i64 ((n : Int) + (m : Int)) = ((n + m : Nat) : Int) := by unfold wr; rw [IntWalk.i64_in _ (by omega)]; omega
              have w2 : wr .i64 (((n + m : Nat) : Int) - (p : Int)) = ((n + m - p : Nat) : Int) := by unfold wr; rw [IntWalk.i64_in _ (by omega)]; omega
              have w3 : wr .i64 ((p : Int) + (m : Int)) = ((p + m : Nat) : Int) := by unfold wr; rw [IntWalk.i64_in _ (by omega)]; omega
              have hpm : p + (n + m - p) = n + m := by omega
              have mn1 : min m (n + m - p) = m := by omega
              have mn2 : min (n - p) (n + m - (p + m)) = n - p := by omega
              have mn3 : min (n + m - p) (n + m - (p + m)) = n - p := by omega
              have fin : ∀ x y, x < n + m -> insA i p m c (subC i2 d) x y = insA i p m c (subC i2 d) x y := fun _ _ _ => rfl
              by_cases hroom : n + m <= cap
              · have hg : decide ((cap : Int) < ((n + m : Nat) : Int)) = false := by simp; omega
                simp only [go_sem, Nat.reduceLeDiff, Nat.reduceLT, Nat.reduceAdd, Nat.reduceMul, Nat.reduceSub, Nat.reduceEqDiff, Nat.reduceBEq, Int.reduceToNat, reduceCtorEq, evCopy, evCopyR, lenS, cutS, evClear, evClearR, evCap, evAppZ, tik59_0, tik59_1, bEq, Option.isSome_some, Option.isNone_some, Option.isSome_none, Option.isNone_none, Int.ofNat_eq_natCast, Int.toNat_natCast, hm1, hpq, hg, Nat.sub_zero, bLt, bLe, w1, w2, w3, hpm, mn1, mn2, mn3, ctI59_eq, ovC2, slB, Nat.add_zero, Nat.zero_add]
                refine ⟨by omega, by omega, by omega, by omega, ?_⟩
                refine draw_rule (sh := fun _ => none) (fun _ _ h => by cases h) ctI59_ok 0 (by kernel_rfl) (by kernel_rfl) ?_
                intro an han
                simp only [go_sem, Nat.reduceLeDiff, Nat.reduceLT, Nat.reduceAdd, Nat.reduceMul, Nat.reduceSub, Nat.reduceEqDiff, Nat.reduceBEq, Int.reduceToNat, reduceCtorEq, evCopy, evCopyR, lenS, cutS, evClear, evClearR, evCap, evAppZ, tik59_0, tik59_1, bEq, Option.isSome_some, Option.isNone_some, Option.isSome_none, Option.isNone_none, Int.ofNat_eq_natCast, Int.toNat_natCast, hm1, hpq, hg, Nat.sub_zero, bLt, bLe, w1, w2, w3, hpm, mn1, mn2, mn3, ctI59_eq, ovC2, slB, Nat.add_zero, Nat.zero_add, d_nil, d_cons, nxtD, refsOp, refs, refsL, mask, maskF, place, placeF, okLog, pairOk, hit, inL, slotsF, ren, renL, rnN, nrH, nrB, nrL, nr, dead0, deadS, List.replicate_zero, List.replicate_succ, Bool.or_false, Bool.false_or, Bool.or_true, Bool.true_or, Bool.and_false, Bool.false_and, Nat.sub_self, Nat.add_zero, Nat.zero_add, Nat.reduceSub, Nat.not_lt_zero, Nat.zero_le, Nat.lt_add_one]
                refine ⟨by omega, by omega, by omega, by omega, by omega, ?_⟩
                refine conv_move (b := 0) rfl (by omega) (by omega) fun x y hx hy => ?_
                unfold ovwC insA subC
                by_cases hxp : x < p
                · rw [if_neg (by omega), if_neg (by omega), if_pos hxp]
                · rw [if_neg hxp]
                  by_cases hxm : x < p + m
                  · rw [if_pos (by omega), if_pos hxm]
                    congr 1
                    omega
                  · rw [if_neg (by omega), if_pos (by omega), if_neg hxm]
                    congr 1
                    omega
              · have hg : decide ((cap : Int) < ((n + m : Nat) : Int)) = true := by simp; omega
                have hd : decide (cap < n + m) = true := by simp; omega
                simp only [go_sem, Nat.reduceLeDiff, Nat.reduceLT, Nat.reduceAdd, Nat.reduceMul, Nat.reduceSub, Nat.reduceEqDiff, Nat.reduceBEq, Int.reduceToNat, reduceCtorEq, evCopy, evCopyR, lenS, cutS, evClear, evClearR, evCap, evAppZ, tik59_0, tik59_1, bEq, Option.isSome_some, Option.isNone_some, Option.isSome_none, Option.isNone_none, Int.ofNat_eq_natCast, Int.toNat_natCast, hm1, hpq, hg, hd, Nat.sub_zero, bLt, bLe, w1, w2, w3, hpm, mn1, mn2, mn3, ctI59_eq, ovC2, slB, Nat.add_zero, Nat.zero_add]
                refine ⟨by omega, by omega, by omega, by omega, by omega, ?_⟩
                refine draw_rule (sh := fun _ => none) (fun _ _ h => by cases h) ctI59_ok 0 (by kernel_rfl) (by kernel_rfl) ?_
                intro an han
                simp only [go_sem, Nat.reduceLeDiff, Nat.reduceLT, Nat.reduceAdd, Nat.reduceMul, Nat.reduceSub, Nat.reduceEqDiff, Nat.reduceBEq, Int.reduceToNat, reduceCtorEq, evCopy, evCopyR, lenS, cutS, evClear, evClearR, evCap, evAppZ, tik59_0, tik59_1, bEq, Option.isSome_some, Option.isNone_some, Option.isSome_none, Option.isNone_none, Int.ofNat_eq_natCast, Int.toNat_natCast, hm1, hpq, hg, hd, Nat.sub_zero, bLt, bLe, w1, w2, w3, hpm, mn1, mn2, mn3, ctI59_eq, ovC2, slB, Nat.add_zero, Nat.zero_add, d_nil, d_cons, nxtD, refsOp, refs, refsL, mask, maskF, place, placeF, okLog, pairOk, hit, inL, slotsF, ren, renL, rnN, nrH, nrB, nrL, nr, dead0, deadS, List.replicate_zero, List.replicate_succ, Bool.or_false, Bool.false_or, Bool.or_true, Bool.true_or, Bool.and_false, Bool.false_and, Nat.sub_self, Nat.add_zero, Nat.zero_add, Nat.reduceSub, Nat.not_lt_zero, Nat.zero_le, Nat.lt_add_one]
                refine ⟨by omega, by omega, by omega, ?_⟩
                refine conv_two (by omega) fun x y hx hy => ?_
                unfold ovwC appC insA subC
                by_cases hxp : x < p
                · rw [if_neg (by omega), if_neg (by omega), if_pos hxp, if_pos hxp]
                · by_cases hxm : x < p + m
                  · rw [if_neg (by omega), if_pos (by omega), if_neg hxp, if_pos hxm]
                  · rw [if_pos (by omega), if_neg hxp, if_neg hxm]
                    congr 1
                    omega
            · obtain rfl : p = n := by omega
              have hpq : ((p : Int) == (p : Int)) = true := by simp
              by_cases hroom : p + m <= cap
              · have hd1 : decide (p + m <= cap) = true := by simpa using hroom
                simp only [go_sem, Nat.reduceLeDiff, Nat.reduceLT, Nat.reduceAdd, Nat.reduceMul, Nat.reduceSub, Nat.reduceEqDiff, Nat.reduceBEq, Int.reduceToNat, reduceCtorEq, evCopy, evCopyR, lenS, cutS, evClear, evClearR, evCap, evAppZ, tik59_0, tik59_1, bEq, Option.isSome_some, Option.isNone_some, Option.isSome_none, Option.isNone_none, Int.ofNat_eq_natCast, Int.toNat_natCast, hm1, hpq, hd1, Nat.sub_zero]
                refine ⟨by omega, by omega, ?_⟩
                refine conv_move (b := 0) rfl (by omega) (by omega) fun x y hx hy => ?_
                unfold ovwC insA
                by_cases hxp : x < p
                · rw [if_neg (by omega), if_pos hxp]
                · rw [if_pos (by omega), if_neg hxp, if_pos (by omega)]
                  congr 1
                  omega
              · have hd1 : decide (p + m <= cap) = false := by simpa using hroom
                simp only [go_sem, Nat.reduceLeDiff, Nat.reduceLT, Nat.reduceAdd, Nat.reduceMul, Nat.reduceSub, Nat.reduceEqDiff, Nat.reduceBEq, Int.reduceToNat, reduceCtorEq, evCopy, evCopyR, lenS, cutS, evClear, evClearR, evCap, evAppZ, tik59_0, tik59_1, bEq, Option.isSome_some, Option.isNone_some, Option.isSome_none, Option.isNone_none, Int.ofNat_eq_natCast, Int.toNat_natCast, hm1, hpq, hd1, Nat.sub_zero]
                refine ⟨by omega, by omega, ?_⟩
                refine conv_two (Nat.le_refl _) fun x y hx hy => ?_
                unfold appC insA subC
                by_cases hxp : x < p
                · rw [if_pos hxp, if_pos hxp]
                · rw [if_neg hxp, if_neg hxp, if_pos (by omega)]
      · cases hc
    · cases hc
  · cases hc
theorem ok59 : FnOk Try.prog 59 (insN 62 17) := insN_ok okF59
/-! hotspot/root.Handle -/
noncomputable def ct20t0 : Ct := tab [(34, pureC body34)]
theorem ct20t0_ok : CtOk Try.prog ct20t0 := tab_cons ok34 <| tab_nil
theorem ct20t0_34 (l : List AV) (h : List ABlk) : ct20t0 34 l h = pureC body34 l h := rfl
noncomputable def ct20t1 : Ct := tab [(43, pureC body43), (57, pureC body57)]
theorem ct20t1_ok : CtOk Try.prog ct20t1 := tab_cons ok43 <| tab_cons ok57 <| tab_nil
theorem ct20t1_43 (l : List AV) (h : List ABlk) : ct20t1 43 l h = pureC body43 l h := rfl
theorem ct20t1_57 (l : List AV) (h : List ABlk) : ct20t1 57 l h = pureC body57 l h := rfl
noncomputable def ct20t2 : Ct := tab [(58, pureC body58)]
theorem ct20t2_ok : CtOk Try.prog ct20t2 := tab_cons ok58 <| tab_nil
theorem ct20t2_58 (l : List AV) (h : List ABlk) : ct20t2 58 l h = pureC body58 l h := rfl
noncomputable def ct20t3 : Ct := tab [(56, edC body56)]
theorem ct20t3_ok : CtOk Try.prog ct20t3 := tab_cons ok56 <| tab_nil
theorem ct20t3_56 (l : List AV) (h : List ABlk) : ct20t3 56 l h = edC body56 l h := rfl
noncomputable def ct20t4 : Ct := tab [(59, insN 62 17)]
theorem ct20t4_ok : CtOk Try.prog ct20t4 := tab_cons ok59 <| tab_nil
theorem ct20t4_59 (l : List AV) (h : List ABlk) : ct20t4 59 l h = insN 62 17 l h := rfl
noncomputable def F20 (p0 : TRoots) (p1 : TRootWord) (p2 : A6u8) (p3 : Int) (p4 : Int) : Option (TRoots × (List TRootWord) × Int) :=
  (F34 p0).bind fun r1 => bif (!bEq r1 0) then (some ((TRoots.mk (A6u8.mk 0 0 0 0 0 0) false false 0 [] []), [], r1)) else ((F43 p1).bind fun r3 => need (bif (!((!r3) || (bEq p2.x0 p0.Own.x0 && (bEq p2.x1 p0.Own.x1 && (bEq p2.x2 p0.Own.x2 && (bEq p2.x3 p0.Own.x3 && (bEq p2.x4 p0.Own.x4 && (bEq p2.x5 p0.Own.x5)))))))) then ((F57 p3 1 1099511627776).isSome) else true) <| need (bif (!(((!r3) || (bEq p2.x0 p0.Own.x0 && (bEq p2.x1 p0.Own.x1 && (bEq p2.x2 p0.Own.x2 && (bEq p2.x3 p0.Own.x3 && (bEq p2.x4 p0.Own.x4 && (bEq p2.x5 p0.Own.x5))))))) || (!(gt (F57 p3 1 1099511627776))))) then ((F57 p4 0 1099511627776).isSome) else true) <| bif ((((!r3) || (bEq p2.x0 p0.Own.x0 && (bEq p2.x1 p0.Own.x1 && (bEq p2.x2 p0.Own.x2 && (bEq p2.x3 p0.Own.x3 && (bEq p2.x4 p0.Own.x4 && (bEq p2.x5 p0.Own.x5))))))) || (!(gt (F57 p3 1 1099511627776)))) || (!(gt (F57 p4 0 1099511627776)))) then (some ((TRoots.mk (A6u8.mk 0 0 0 0 0 0) false false 0 [] []), [], 2)) else ((F58 p0 p1.Root).bind fun r7 => bif (bEq p1.Root.x0 p0.Own.x0 && (bEq p1.Root.x1 p0.Own.x1 && (bEq p1.Root.x2 p0.Own.x2 && (bEq p1.Root.x3 p0.Own.x3 && (bEq p1.Root.x4 p0.Own.x4 && (bEq p1.Root.x5 p0.Own.x5)))))) then (some ((TRoots.mk (A6u8.mk 0 0 0 0 0 0) false false 0 [] []), [], 21)) else (need (bif r7.2 then inb r7.1 p0.Trees.length else true) <| need (bif (r7.2 && (!(bLt p1.Seq ((gd p0.Trees r7.1.toNat).Seq)))) then inb r7.1 p0.Trees.length else true) <| need (bif ((r7.2 && (!(bLt p1.Seq ((gd p0.Trees r7.1.toNat).Seq)))) && (bEq p1.Seq ((gd p0.Trees r7.1.toNat).Seq))) then inb r7.1 p0.Trees.length else true) <| bif (r7.2 && ((bLt p1.Seq ((gd p0.Trees r7.1.toNat).Seq)) || ((bEq p1.Seq ((gd p0.Trees r7.1.toNat).Seq)) && (bLe ((gd p0.Trees r7.1.toNat).Cost) (wr .i64 (p1.Cost + p3)))))) then (some ((TRoots.mk (A6u8.mk 0 0 0 0 0 0) false false 0 [] []), [], 21)) else (bif (bLt 1099511627776 (wr .i64 (p1.Cost + p3))) then (some ((TRoots.mk (A6u8.mk 0 0 0 0 0 0) false false 0 [] []), [], 41)) else (bif ((!r7.2) && (bEq (p0.Trees.length : Nat) 8)) then (some ((TRoots.mk (A6u8.mk 0 0 0 0 0 0) false false 0 [] []), [], 22)) else ((F56 p0).bind fun r12 => bif r7.2 then (need (inb r7.1 r12.Trees.length) <| bif (bLt (wr .i64 (p1.Hops + 1)) 16) then (some ((TRoots.mk (A6u8.mk r12.Own.x0 r12.Own.x1 r12.Own.x2 r12.Own.x3 r12.Own.x4 r12.Own.x5) r12.Root r12.Gate r12.Seq (r12.Trees.set r7.1.toNat (TTree.mk (A6u8.mk p1.Root.x0 p1.Root.x1 p1.Root.x2 p1.Root.x3 p1.Root.x4 p1.Root.x5) (A6u8.mk p2.x0 p2.x1 p2.x2 p2.x3 p2.x4 p2.x5) p1.Seq (wr .i64 (p1.Hops + 1)) (wr .i64 (p1.Cost + p3)) p1.Gate (wr .i64 (p4 + 5000000)))) r12.Proxies), [(TRootWord.mk (A6u8.mk p1.Root.x0 p1.Root.x1 p1.Root.x2 p1.Root.x3 p1.Root.x4 p1.Root.x5) p1.Seq (wr .i64 (p1.Hops + 1)) (wr .i64 (p1.Cost + p3)) p1.Gate)], 0)) else (some ((TRoots.mk (A6u8.mk r12.Own.x0 r12.Own.x1 r12.Own.x2 r12.Own.x3 r12.Own.x4 r12.Own.x5) r12.Root r12.Gate r12.Seq (r12.Trees.set r7.1.toNat (TTree.mk (A6u8.mk p1.Root.x0 p1.Root.x1 p1.Root.x2 p1.Root.x3 p1.Root.x4 p1.Root.x5) (A6u8.mk p2.x0 p2.x1 p2.x2 p2.x3 p2.x4 p2.x5) p1.Seq (wr .i64 (p1.Hops + 1)) (wr .i64 (p1.Cost + p3)) p1.Gate (wr .i64 (p4 + 5000000)))) r12.Proxies), [], 0))) else (need (insb r7.1 r12.Trees.length) <| (some [(TTree.mk (A6u8.mk p1.Root.x0 p1.Root.x1 p1.Root.x2 p1.Root.x3 p1.Root.x4 p1.Root.x5) (A6u8.mk p2.x0 p2.x1 p2.x2 p2.x3 p2.x4 p2.x5) p1.Seq (wr .i64 (p1.Hops + 1)) (wr .i64 (p1.Cost + p3)) p1.Gate (wr .i64 (p4 + 5000000)))]).bind fun w16 => (some (insL r12.Trees r7.1 [(TTree.mk (A6u8.mk p1.Root.x0 p1.Root.x1 p1.Root.x2 p1.Root.x3 p1.Root.x4 p1.Root.x5) (A6u8.mk p2.x0 p2.x1 p2.x2 p2.x3 p2.x4 p2.x5) p1.Seq (wr .i64 (p1.Hops + 1)) (wr .i64 (p1.Cost + p3)) p1.Gate (wr .i64 (p4 + 5000000)))])).bind fun w18 => bif (bLt (wr .i64 (p1.Hops + 1)) 16) then (some ((TRoots.mk (A6u8.mk r12.Own.x0 r12.Own.x1 r12.Own.x2 r12.Own.x3 r12.Own.x4 r12.Own.x5) r12.Root r12.Gate r12.Seq w18 r12.Proxies), [(TRootWord.mk (A6u8.mk p1.Root.x0 p1.Root.x1 p1.Root.x2 p1.Root.x3 p1.Root.x4 p1.Root.x5) p1.Seq (wr .i64 (p1.Hops + 1)) (wr .i64 (p1.Cost + p3)) p1.Gate)], 0)) else (some ((TRoots.mk (A6u8.mk r12.Own.x0 r12.Own.x1 r12.Own.x2 r12.Own.x3 r12.Own.x4 r12.Own.x5) r12.Root r12.Gate r12.Seq w18 r12.Proxies), [], 0)))))))))
noncomputable def body20 : List AV -> List ABlk -> ED
  | [v0, v1, v2, v3, v4], h => .ed [] (aK 11 k_TRoots (roD (deadL h []) v0) /\ roDOb (deadL h []) v0 /\ aK 10 k_TRootWord (roD (deadL h []) v1) /\ roDOb (deadL h []) v1 /\ aK 6 k_A6u8 (roD (deadL h []) v2) /\ roDOb (deadL h []) v2 /\ iK .i64 (roD (deadL h []) v3) /\ roDOb (deadL h []) v3 /\ iK .i64 (roD (deadL h []) v4) /\ roDOb (deadL h []) v4 /\ (F20 (g_TRoots (aL (roD (deadL h []) v0))) (g_TRootWord (aL (roD (deadL h []) v1))) (g_A6u8 (aL (roD (deadL h []) v2))) (iA (roD (deadL h []) v3)) (iA (roD (deadL h []) v4))).isSome = true) (.tup [.agg [.int .u8 ((((gt (F20 (g_TRoots (aL (roD (deadL h []) v0))) (g_TRootWord (aL (roD (deadL h []) v1))) (g_A6u8 (aL (roD (deadL h []) v2))) (iA (roD (deadL h []) v3)) (iA (roD (deadL h []) v4)))).1).Own).x0), .int .u8 ((((gt (F20 (g_TRoots (aL (roD (deadL h []) v0))) (g_TRootWord (aL (roD (deadL h []) v1))) (g_A6u8 (aL (roD (deadL h []) v2))) (iA (roD (deadL h []) v3)) (iA (roD (deadL h []) v4)))).1).Own).x1), .int .u8 ((((gt (F20 (g_TRoots (aL (roD (deadL h []) v0))) (g_TRootWord (aL (roD (deadL h []) v1))) (g_A6u8 (aL (roD (deadL h []) v2))) (iA (roD (deadL h []) v3)) (iA (roD (deadL h []) v4)))).1).Own).x2), .int .u8 ((((gt (F20 (g_TRoots (aL (roD (deadL h []) v0))) (g_TRootWord (aL (roD (deadL h []) v1))) (g_A6u8 (aL (roD (deadL h []) v2))) (iA (roD (deadL h []) v3)) (iA (roD (deadL h []) v4)))).1).Own).x3), .int .u8 ((((gt (F20 (g_TRoots (aL (roD (deadL h []) v0))) (g_TRootWord (aL (roD (deadL h []) v1))) (g_A6u8 (aL (roD (deadL h []) v2))) (iA (roD (deadL h []) v3)) (iA (roD (deadL h []) v4)))).1).Own).x4), .int .u8 ((((gt (F20 (g_TRoots (aL (roD (deadL h []) v0))) (g_TRootWord (aL (roD (deadL h []) v1))) (g_A6u8 (aL (roD (deadL h []) v2))) (iA (roD (deadL h []) v3)) (iA (roD (deadL h []) v4)))).1).Own).x5), .bool (((gt (F20 (g_TRoots (aL (roD (deadL h []) v0))) (g_TRootWord (aL (roD (deadL h []) v1))) (g_A6u8 (aL (roD (deadL h []) v2))) (iA (roD (deadL h []) v3)) (iA (roD (deadL h []) v4)))).1).Root), .bool (((gt (F20 (g_TRoots (aL (roD (deadL h []) v0))) (g_TRootWord (aL (roD (deadL h []) v1))) (g_A6u8 (aL (roD (deadL h []) v2))) (iA (roD (deadL h []) v3)) (iA (roD (deadL h []) v4)))).1).Gate), .int .i64 (((gt (F20 (g_TRoots (aL (roD (deadL h []) v0))) (g_TRootWord (aL (roD (deadL h []) v1))) (g_A6u8 (aL (roD (deadL h []) v2))) (iA (roD (deadL h []) v3)) (iA (roD (deadL h []) v4)))).1).Seq), .sl 0 17 0 ((((gt (F20 (g_TRoots (aL (roD (deadL h []) v0))) (g_TRootWord (aL (roD (deadL h []) v1))) (g_A6u8 (aL (roD (deadL h []) v2))) (iA (roD (deadL h []) v3)) (iA (roD (deadL h []) v4)))).1).Trees).length) false, .sl 1 13 0 ((((gt (F20 (g_TRoots (aL (roD (deadL h []) v0))) (g_TRootWord (aL (roD (deadL h []) v1))) (g_A6u8 (aL (roD (deadL h []) v2))) (iA (roD (deadL h []) v3)) (iA (roD (deadL h []) v4)))).1).Proxies).length) false], .sl 2 10 0 (((gt (F20 (g_TRoots (aL (roD (deadL h []) v0))) (g_TRootWord (aL (roD (deadL h []) v1))) (g_A6u8 (aL (roD (deadL h []) v2))) (iA (roD (deadL h []) v3)) (iA (roD (deadL h []) v4)))).2.1).length) false, .int .i64 ((gt (F20 (g_TRoots (aL (roD (deadL h []) v0))) (g_TRootWord (aL (roD (deadL h []) v1))) (g_A6u8 (aL (roD (deadL h []) v2))) (iA (roD (deadL h []) v3)) (iA (roD (deadL h []) v4)))).2.2)]) [.row 62 17 ((((gt (F20 (g_TRoots (aL (roD (deadL h []) v0))) (g_TRootWord (aL (roD (deadL h []) v1))) (g_A6u8 (aL (roD (deadL h []) v2))) (iA (roD (deadL h []) v3)) (iA (roD (deadL h []) v4)))).1).Trees).length) (enR c_TTree (((gt (F20 (g_TRoots (aL (roD (deadL h []) v0))) (g_TRootWord (aL (roD (deadL h []) v1))) (g_A6u8 (aL (roD (deadL h []) v2))) (iA (roD (deadL h []) v3)) (iA (roD (deadL h []) v4)))).1).Trees)), .row 64 13 ((((gt (F20 (g_TRoots (aL (roD (deadL h []) v0))) (g_TRootWord (aL (roD (deadL h []) v1))) (g_A6u8 (aL (roD (deadL h []) v2))) (iA (roD (deadL h []) v3)) (iA (roD (deadL h []) v4)))).1).Proxies).length) (enR c_TProxied (((gt (F20 (g_TRoots (aL (roD (deadL h []) v0))) (g_TRootWord (aL (roD (deadL h []) v1))) (g_A6u8 (aL (roD (deadL h []) v2))) (iA (roD (deadL h []) v3)) (iA (roD (deadL h []) v4)))).1).Proxies)), .row 25 10 (((gt (F20 (g_TRoots (aL (roD (deadL h []) v0))) (g_TRootWord (aL (roD (deadL h []) v1))) (g_A6u8 (aL (roD (deadL h []) v2))) (iA (roD (deadL h []) v3)) (iA (roD (deadL h []) v4)))).2.1).length) (enR c_TRootWord ((gt (F20 (g_TRoots (aL (roD (deadL h []) v0))) (g_TRootWord (aL (roD (deadL h []) v1))) (g_A6u8 (aL (roD (deadL h []) v2))) (iA (roD (deadL h []) v3)) (iA (roD (deadL h []) v4)))).2.1))]
  | _, _ => .fail
set_option maxHeartbeats 4000000 in
set_option maxRecDepth 20000 in
theorem ok20 : FnOk Try.prog 20 (edC body20) := by
  refine edit_fnV body20 (rs := [.cell 10 41, .tmp 11, .tmp 12]) Try.func20 (by kernel_rfl) rfl rfl ?_
  intro l h bs ob q0 g0 hb hob
  unfold body20 at hb
  split at hb
  · rename_i v0 v1 v2 v3 v4
    injection hb with q1 q2 q3 q4; subst q1 q2 q3 q4
    obtain ⟨hk0_0, hk0_1, hk1_0, hk1_1, hk2_0, hk2_1, hk3_0, hk3_1, hk4_0, hk4_1, hob⟩ := hob
    obtain ⟨r, H⟩ := Option.isSome_iff_exists.1 hob
    rw [H, gt_some]
    have hw0 := wA_TRoots hk0_0
    obtain ⟨p0, hp_p0⟩ : ∃ p0, p0 = g_TRoots (aL (roD (deadL h []) v0)) := ⟨_, rfl⟩
    rw [← hp_p0] at H hw0
    have hw1 := wA_TRootWord hk1_0
    obtain ⟨p1, hp_p1⟩ : ∃ p1, p1 = g_TRootWord (aL (roD (deadL h []) v1)) := ⟨_, rfl⟩
    rw [← hp_p1] at H hw1
    have hw2 := wA_A6u8 hk2_0
    obtain ⟨p2, hp_p2⟩ : ∃ p2, p2 = g_A6u8 (aL (roD (deadL h []) v2)) := ⟨_, rfl⟩
    rw [← hp_p2] at H hw2
    have hw3 := iK_wk hk3_0
    obtain ⟨p3, hp_p3⟩ : ∃ p3, p3 = iA (roD (deadL h []) v3) := ⟨_, rfl⟩
    rw [← hp_p3] at H hw3
    have hw4 := iK_wk hk4_0
    obtain ⟨p4, hp_p4⟩ : ∃ p4, p4 = iA (roD (deadL h []) v4) := ⟨_, rfl⟩
    rw [← hp_p4] at H hw4
    refine ⟨[.agg [.int .u8 p0.Own.x0, .int .u8 p0.Own.x1, .int .u8 p0.Own.x2, .int .u8 p0.Own.x3, .int .u8 p0.Own.x4, .int .u8 p0.Own.x5, .bool p0.Root, .bool p0.Gate, .int .i64 p0.Seq, .ro 17 p0.Trees.length false (enR c_TTree p0.Trees), .ro 13 p0.Proxies.length false (enR c_TProxied p0.Proxies)], .agg [.int .u8 p1.Root.x0, .int .u8 p1.Root.x1, .int .u8 p1.Root.x2, .int .u8 p1.Root.x3, .int .u8 p1.Root.x4, .int .u8 p1.Root.x5, .int .i64 p1.Seq, .int .i64 p1.Hops, .int .i64 p1.Cost, .bool p1.Gate], .agg [.int .u8 p2.x0, .int .u8 p2.x1, .int .u8 p2.x2, .int .u8 p2.x3, .int .u8 p2.x4, .int .u8 p2.x5], .int .i64 p3, .int .i64 p4], [], rfl, ⟨(EW_view hk0_1 hw0), ⟨(EW_view hk1_1 hw1), ⟨(EW_view hk2_1 hw2), ⟨(EW_view hk3_1 hw3), ⟨(EW_view hk4_1 hw4), trivial⟩⟩⟩⟩⟩, trivial, trivial, ⟨(nfB_en nr_TTree), ⟨(nfB_en nr_TProxied), ⟨(nfB_en nr_TRootWord), trivial⟩⟩⟩, ⟨noroB_en, ⟨noroB_en, ⟨noroB_en, trivial⟩⟩⟩, (by first | (simp only [noro, noroL, and_self]; done) | (simp only [noro, noroL]; and_intros <;> first | trivial | exact noro_bif (by simp only [noro]) (by simp only [noro]) | (simp only [noro, noroL, and_self]))), ?_⟩
    rw [Try.ntmps20]
    simp only [List.length_cons, List.length_nil, Nat.reduceAdd, Nat.reduceSub, List.replicate_succ, List.replicate_zero, List.cons_append, List.nil_append]
    unfold F20 at H
    try dsimp only at H
    refine sq ctNo_ok ?_
    simp only [go_sem, Nat.reduceLeDiff, Nat.reduceLT, Nat.reduceAdd, Nat.reduceMul, Nat.reduceSub, Nat.reduceEqDiff, Nat.reduceBEq, Int.reduceToNat, reduceCtorEq]
    refine seqM ?_
    refine seqM ?_
    obtain ⟨r1, e2, H⟩ := bsi H
    refine rg ct20t0_ok ?_
    simp only [go_sem, Nat.reduceLeDiff, Nat.reduceLT, Nat.reduceAdd, Nat.reduceMul, Nat.reduceSub, Nat.reduceEqDiff, Nat.reduceBEq, Int.reduceToNat, reduceCtorEq, ct20t0_34, body34, e2]
    repeat ((with_reducible refine And.intro ?_ ?_); focus (first | (and_intros <;> first | (with_reducible trivial) | omega | assumption | exact nfc | first | exact rfl | exact trivial | exact fitI | exact .inr rfl | exact .inl rfl | exact fun x hx => absurd hx (by omega)) | grind))
    refine sq ctNo_ok ?_
    simp only [go_sem, Nat.reduceLeDiff, Nat.reduceLT, Nat.reduceAdd, Nat.reduceMul, Nat.reduceSub, Nat.reduceEqDiff, Nat.reduceBEq, Int.reduceToNat, reduceCtorEq]
    refine condM rfl trivial (fun hc => ?_) (fun hc => ?_)
    · replace H := cond_t hc H
      refine sq ctNo_ok ?_
      simp only [go_sem, Nat.reduceLeDiff, Nat.reduceLT, Nat.reduceAdd, Nat.reduceMul, Nat.reduceSub, Nat.reduceEqDiff, Nat.reduceBEq, Int.reduceToNat, reduceCtorEq]
      repeat ((with_reducible refine And.intro ?_ ?_); focus (first | (with_reducible trivial) | omega | grind))
      refine rg ctNo_ok ?_
      simp only [go_sem, Nat.reduceLeDiff, Nat.reduceLT, Nat.reduceAdd, Nat.reduceMul, Nat.reduceSub, Nat.reduceEqDiff, Nat.reduceBEq, Int.reduceToNat, reduceCtorEq]
      obtain rfl := Option.some.inj H
      refine RetE_mk [] [none, none, none] ?_ ?_ ?_ ?_ (by rfl) (by rfl)
      · simp only [go_sem, Nat.reduceEqDiff, Nat.reduceBEq, Nat.reduceAdd]
        try (and_intros <;> first | trivial | omega | exact nfc)
      · simp only [go_sem, Nat.reduceEqDiff, Nat.reduceBEq, Nat.reduceAdd]
        try (and_intros <;> first | trivial | omega | exact nfc)
      · simp only [go_sem, Nat.reduceEqDiff, Nat.reduceBEq, Nat.reduceAdd]
        exact Cv_tup (CvL_cons (by first | (simp [Cv, CvL, getM, gt_some]; done) | (simp [Cv, CvL, getM, gt_some]; omega)) (CvL_cons (by first | (simp [Cv, CvL, getM, gt_some]; done) | (simp [Cv, CvL, getM, gt_some]; omega)) (CvL_cons (by simp [Cv, CvL, getM, gt_some]) CvL_nil)))
      · simp only [go_sem, Nat.reduceEqDiff, Nat.reduceBEq, Nat.reduceAdd, CvH, gt_some, Option.isSome_some, Option.isSome_none]
        first | exact ⟨CvB_none, CvB_none, CvB_none⟩ | trivial
    replace H := cond_f hc H
    refine rg ctNo_ok ?_
    simp only [go_sem, Nat.reduceLeDiff, Nat.reduceLT, Nat.reduceAdd, Nat.reduceMul, Nat.reduceSub, Nat.reduceEqDiff, Nat.reduceBEq, Int.reduceToNat, reduceCtorEq]
    refine seqM ?_
    refine seqM ?_
    obtain ⟨r3, e4, H⟩ := bsi H
    obtain ⟨f5, H⟩ := need_some.1 H
    replace f5 := g_iff.1 f5
    obtain ⟨f6, H⟩ := need_some.1 H
    replace f6 := g_iff.1 f6
    refine rg ct20t1_ok ?_
    simp only [go_sem, Nat.reduceLeDiff, Nat.reduceLT, Nat.reduceAdd, Nat.reduceMul, Nat.reduceSub, Nat.reduceEqDiff, Nat.reduceBEq, Int.reduceToNat, reduceCtorEq, ct20t1_43, body43, ct20t1_57, body57, e4]
    repeat ((with_reducible refine And.intro ?_ ?_); focus (first | (with_reducible trivial) | omega | exact f5 | exact f6 | (intro g; have q := f5 (by first | exact g | (rw [g]; rfl) | simpa using g); first | exact q | exact ⟨q.1, q.2.1⟩ | exact q.2.2 | omega | exact ⟨g, q⟩ | exact ⟨trivial, q⟩ | exact ⟨g, q.1, q.2.1⟩ | exact ⟨g, q.2.2⟩) | (intro g; have q := f6 (by first | exact g | (rw [g]; rfl) | simpa using g); first | exact q | exact ⟨q.1, q.2.1⟩ | exact q.2.2 | omega | exact ⟨g, q⟩ | exact ⟨trivial, q⟩ | exact ⟨g, q.1, q.2.1⟩ | exact ⟨g, q.2.2⟩) | (intro g; (try have q0 := f5 (by first | exact g | (rw [g]; rfl) | simpa using g)); (try have q1 := f6 (by first | exact g | (rw [g]; rfl) | simpa using g)); and_intros <;> first | (with_reducible trivial) | assumption | exact nfc | (intro g2; rw [g, g2]; rfl) | (intro g2; assumption) | (simp only [g, Bool.true_and, Bool.and_true, Bool.not_false, Bool.not_true]; assumption) | grind) | (and_intros <;> first | (with_reducible trivial) | omega | assumption | exact nfc | first | exact rfl | exact trivial | exact fitI | exact .inr rfl | exact .inl rfl | exact fun x hx => absurd hx (by omega)) | grind))
    refine condM rfl trivial (fun hc => ?_) (fun hc => ?_)
    · replace H := cond_t hc H
      refine sq ctNo_ok ?_
      simp only [go_sem, Nat.reduceLeDiff, Nat.reduceLT, Nat.reduceAdd, Nat.reduceMul, Nat.reduceSub, Nat.reduceEqDiff, Nat.reduceBEq, Int.reduceToNat, reduceCtorEq]
      repeat ((with_reducible refine And.intro ?_ ?_); focus (first | (with_reducible trivial) | omega | grind))
      refine rg ctNo_ok ?_
      simp only [go_sem, Nat.reduceLeDiff, Nat.reduceLT, Nat.reduceAdd, Nat.reduceMul, Nat.reduceSub, Nat.reduceEqDiff, Nat.reduceBEq, Int.reduceToNat, reduceCtorEq]
      obtain rfl := Option.some.inj H
      refine RetE_mk [] [none, none, none] ?_ ?_ ?_ ?_ (by rfl) (by rfl)
      · simp only [go_sem, Nat.reduceEqDiff, Nat.reduceBEq, Nat.reduceAdd]
        try (and_intros <;> first | trivial | omega | exact nfc)
      · simp only [go_sem, Nat.reduceEqDiff, Nat.reduceBEq, Nat.reduceAdd]
        try (and_intros <;> first | trivial | omega | exact nfc)
      · simp only [go_sem, Nat.reduceEqDiff, Nat.reduceBEq, Nat.reduceAdd]
        exact Cv_tup (CvL_cons (by first | (simp [Cv, CvL, getM, gt_some]; done) | (simp [Cv, CvL, getM, gt_some]; omega)) (CvL_cons (by first | (simp [Cv, CvL, getM, gt_some]; done) | (simp [Cv, CvL, getM, gt_some]; omega)) (CvL_cons (by simp [Cv, CvL, getM, gt_some]) CvL_nil)))
      · simp only [go_sem, Nat.reduceEqDiff, Nat.reduceBEq, Nat.reduceAdd, CvH, gt_some, Option.isSome_some, Option.isSome_none]
        first | exact ⟨CvB_none, CvB_none, CvB_none⟩ | trivial
    replace H := cond_f hc H
    refine rg ctNo_ok ?_
    simp only [go_sem, Nat.reduceLeDiff, Nat.reduceLT, Nat.reduceAdd, Nat.reduceMul, Nat.reduceSub, Nat.reduceEqDiff, Nat.reduceBEq, Int.reduceToNat, reduceCtorEq]
    refine sq ctNo_ok ?_
    simp only [go_sem, Nat.reduceLeDiff, Nat.reduceLT, Nat.reduceAdd, Nat.reduceMul, Nat.reduceSub, Nat.reduceEqDiff, Nat.reduceBEq, Int.reduceToNat, reduceCtorEq]
    repeat ((with_reducible refine And.intro ?_ ?_); focus (first | (with_reducible trivial) | omega | grind))
    refine seqM ?_
    obtain ⟨r7, e8, H⟩ := bsi H
    refine rg ct20t2_ok ?_
    simp only [go_sem, Nat.reduceLeDiff, Nat.reduceLT, Nat.reduceAdd, Nat.reduceMul, Nat.reduceSub, Nat.reduceEqDiff, Nat.reduceBEq, Int.reduceToNat, reduceCtorEq, ct20t2_58, body58, e8]
    repeat ((with_reducible refine And.intro ?_ ?_); focus (first | (and_intros <;> first | (with_reducible trivial) | omega | assumption | exact nfc | first | exact rfl | exact trivial | exact fitI | exact .inr rfl | exact .inl rfl | exact fun x hx => absurd hx (by omega)) | grind))
    refine seqM ?_
    refine blkM ?_
    refine sq ctNo_ok ?_
    simp only [go_sem, Nat.reduceLeDiff, Nat.reduceLT, Nat.reduceAdd, Nat.reduceMul, Nat.reduceSub, Nat.reduceEqDiff, Nat.reduceBEq, Int.reduceToNat, reduceCtorEq]
    refine condM rfl trivial (fun hc => ?_) (fun hc => ?_)
    · replace H := cond_t hc H
      refine sq ctNo_ok ?_
      simp only [go_sem, Nat.reduceLeDiff, Nat.reduceLT, Nat.reduceAdd, Nat.reduceMul, Nat.reduceSub, Nat.reduceEqDiff, Nat.reduceBEq, Int.reduceToNat, reduceCtorEq]
      repeat ((with_reducible refine And.intro ?_ ?_); focus (first | (with_reducible trivial) | omega | grind))
      refine rg ctNo_ok ?_
      simp only [go_sem, Nat.reduceLeDiff, Nat.reduceLT, Nat.reduceAdd, Nat.reduceMul, Nat.reduceSub, Nat.reduceEqDiff, Nat.reduceBEq, Int.reduceToNat, reduceCtorEq]
      obtain rfl := Option.some.inj H
      refine RetE_mk [] [none, none, none] ?_ ?_ ?_ ?_ (by rfl) (by rfl)
      · simp only [go_sem, Nat.reduceEqDiff, Nat.reduceBEq, Nat.reduceAdd]
        try (and_intros <;> first | trivial | omega | exact nfc)
      · simp only [go_sem, Nat.reduceEqDiff, Nat.reduceBEq, Nat.reduceAdd]
        try (and_intros <;> first | trivial | omega | exact nfc)
      · simp only [go_sem, Nat.reduceEqDiff, Nat.reduceBEq, Nat.reduceAdd]
        exact Cv_tup (CvL_cons (by first | (simp [Cv, CvL, getM, gt_some]; done) | (simp [Cv, CvL, getM, gt_some]; omega)) (CvL_cons (by first | (simp [Cv, CvL, getM, gt_some]; done) | (simp [Cv, CvL, getM, gt_some]; omega)) (CvL_cons (by simp [Cv, CvL, getM, gt_some]) CvL_nil)))
      · simp only [go_sem, Nat.reduceEqDiff, Nat.reduceBEq, Nat.reduceAdd, CvH, gt_some, Option.isSome_some, Option.isSome_none]
        first | exact ⟨CvB_none, CvB_none, CvB_none⟩ | trivial
    replace H := cond_f hc H
    refine seqM ?_
    obtain ⟨f9, H⟩ := need_some.1 H
    replace f9 := g_iff.1 f9
    replace f9 := fun g => inb_iff.1 (f9 g)
    obtain ⟨f10, H⟩ := need_some.1 H
    replace f10 := g_iff.1 f10
    replace f10 := fun g => inb_iff.1 (f10 g)
    obtain ⟨f11, H⟩ := need_some.1 H
    replace f11 := g_iff.1 f11
    replace f11 := fun g => inb_iff.1 (f11 g)
    refine draw_quiet shT_ok ctNo_ok (by kernel_rfl) (by kernel_rfl) ?_
    simp only [go_sem, Nat.reduceLeDiff, Nat.reduceLT, Nat.reduceAdd, Nat.reduceMul, Nat.reduceSub, Nat.reduceEqDiff, Nat.reduceBEq, Int.reduceToNat, reduceCtorEq]
    repeat ((with_reducible refine And.intro ?_ ?_); focus (first | (with_reducible trivial) | omega | exact f9 | exact f10 | exact f11 | (intro g; have q := f9 (by first | exact g | (rw [g]; rfl) | simpa using g); first | exact q | exact ⟨q.1, q.2.1⟩ | exact q.2.2 | omega | exact ⟨g, q⟩ | exact ⟨trivial, q⟩ | exact ⟨g, q.1, q.2.1⟩ | exact ⟨g, q.2.2⟩) | (intro g; have q := f10 (by first | exact g | (rw [g]; rfl) | simpa using g); first | exact q | exact ⟨q.1, q.2.1⟩ | exact q.2.2 | omega | exact ⟨g, q⟩ | exact ⟨trivial, q⟩ | exact ⟨g, q.1, q.2.1⟩ | exact ⟨g, q.2.2⟩) | (intro g; have q := f11 (by first | exact g | (rw [g]; rfl) | simpa using g); first | exact q | exact ⟨q.1, q.2.1⟩ | exact q.2.2 | omega | exact ⟨g, q⟩ | exact ⟨trivial, q⟩ | exact ⟨g, q.1, q.2.1⟩ | exact ⟨g, q.2.2⟩) | grind))
    refine condM rfl trivial (fun hc => ?_) (fun hc => ?_)
    · replace H := cond_t hc H
      refine sq ctNo_ok ?_
      simp only [go_sem, Nat.reduceLeDiff, Nat.reduceLT, Nat.reduceAdd, Nat.reduceMul, Nat.reduceSub, Nat.reduceEqDiff, Nat.reduceBEq, Int.reduceToNat, reduceCtorEq]
      repeat ((with_reducible refine And.intro ?_ ?_); focus (first | (with_reducible trivial) | omega | grind))
      refine rg ctNo_ok ?_
      simp only [go_sem, Nat.reduceLeDiff, Nat.reduceLT, Nat.reduceAdd, Nat.reduceMul, Nat.reduceSub, Nat.reduceEqDiff, Nat.reduceBEq, Int.reduceToNat, reduceCtorEq]
      obtain rfl := Option.some.inj H
      refine RetE_mk [] [none, none, none] ?_ ?_ ?_ ?_ (by rfl) (by rfl)
      · simp only [go_sem, Nat.reduceEqDiff, Nat.reduceBEq, Nat.reduceAdd]
        try (and_intros <;> first | trivial | omega | exact nfc)
      · simp only [go_sem, Nat.reduceEqDiff, Nat.reduceBEq, Nat.reduceAdd]
        try (and_intros <;> first | trivial | omega | exact nfc)
      · simp only [go_sem, Nat.reduceEqDiff, Nat.reduceBEq, Nat.reduceAdd]
        exact Cv_tup (CvL_cons (by first | (simp [Cv, CvL, getM, gt_some]; done) | (simp [Cv, CvL, getM, gt_some]; omega)) (CvL_cons (by first | (simp [Cv, CvL, getM, gt_some]; done) | (simp [Cv, CvL, getM, gt_some]; omega)) (CvL_cons (by simp [Cv, CvL, getM, gt_some]) CvL_nil)))
      · simp only [go_sem, Nat.reduceEqDiff, Nat.reduceBEq, Nat.reduceAdd, CvH, gt_some, Option.isSome_some, Option.isSome_none]
        first | exact ⟨CvB_none, CvB_none, CvB_none⟩ | trivial
    replace H := cond_f hc H
    refine sq ctNo_ok ?_
    simp only [go_sem, Nat.reduceLeDiff, Nat.reduceLT, Nat.reduceAdd, Nat.reduceMul, Nat.reduceSub, Nat.reduceEqDiff, Nat.reduceBEq, Int.reduceToNat, reduceCtorEq]
    refine condM rfl trivial (fun hc => ?_) (fun hc => ?_)
    · replace H := cond_t hc H
      refine sq ctNo_ok ?_
      simp only [go_sem, Nat.reduceLeDiff, Nat.reduceLT, Nat.reduceAdd, Nat.reduceMul, Nat.reduceSub, Nat.reduceEqDiff, Nat.reduceBEq, Int.reduceToNat, reduceCtorEq]
      repeat ((with_reducible refine And.intro ?_ ?_); focus (first | (with_reducible trivial) | omega | grind))
      refine rg ctNo_ok ?_
      simp only [go_sem, Nat.reduceLeDiff, Nat.reduceLT, Nat.reduceAdd, Nat.reduceMul, Nat.reduceSub, Nat.reduceEqDiff, Nat.reduceBEq, Int.reduceToNat, reduceCtorEq]
      obtain rfl := Option.some.inj H
      refine RetE_mk [] [none, none, none] ?_ ?_ ?_ ?_ (by rfl) (by rfl)
      · simp only [go_sem, Nat.reduceEqDiff, Nat.reduceBEq, Nat.reduceAdd]
        try (and_intros <;> first | trivial | omega | exact nfc)
      · simp only [go_sem, Nat.reduceEqDiff, Nat.reduceBEq, Nat.reduceAdd]
        try (and_intros <;> first | trivial | omega | exact nfc)
      · simp only [go_sem, Nat.reduceEqDiff, Nat.reduceBEq, Nat.reduceAdd]
        exact Cv_tup (CvL_cons (by first | (simp [Cv, CvL, getM, gt_some]; done) | (simp [Cv, CvL, getM, gt_some]; omega)) (CvL_cons (by first | (simp [Cv, CvL, getM, gt_some]; done) | (simp [Cv, CvL, getM, gt_some]; omega)) (CvL_cons (by simp [Cv, CvL, getM, gt_some]) CvL_nil)))
      · simp only [go_sem, Nat.reduceEqDiff, Nat.reduceBEq, Nat.reduceAdd, CvH, gt_some, Option.isSome_some, Option.isSome_none]
        first | exact ⟨CvB_none, CvB_none, CvB_none⟩ | trivial
    replace H := cond_f hc H
    refine sq ctNo_ok ?_
    simp only [go_sem, Nat.reduceLeDiff, Nat.reduceLT, Nat.reduceAdd, Nat.reduceMul, Nat.reduceSub, Nat.reduceEqDiff, Nat.reduceBEq, Int.reduceToNat, reduceCtorEq]
    repeat ((with_reducible refine And.intro ?_ ?_); focus (first | (with_reducible trivial) | omega | (intro g; and_intros <;> first | (with_reducible trivial) | assumption | exact nfc | (intro g2; rw [g, g2]; rfl) | (intro g2; assumption) | (simp only [g, Bool.true_and, Bool.and_true, Bool.not_false, Bool.not_true]; assumption) | grind) | (and_intros <;> first | (with_reducible trivial) | omega | assumption | exact nfc | first | exact rfl | exact trivial | exact fitI | exact .inr rfl | exact .inl rfl | exact fun x hx => absurd hx (by omega)) | grind))
    refine condM rfl trivial (fun hc => ?_) (fun hc => ?_)
    · replace H := cond_t hc H
      refine sq ctNo_ok ?_
      simp only [go_sem, Nat.reduceLeDiff, Nat.reduceLT, Nat.reduceAdd, Nat.reduceMul, Nat.reduceSub, Nat.reduceEqDiff, Nat.reduceBEq, Int.reduceToNat, reduceCtorEq]
      repeat ((with_reducible refine And.intro ?_ ?_); focus (first | (with_reducible trivial) | omega | grind))
      refine rg ctNo_ok ?_
      simp only [go_sem, Nat.reduceLeDiff, Nat.reduceLT, Nat.reduceAdd, Nat.reduceMul, Nat.reduceSub, Nat.reduceEqDiff, Nat.reduceBEq, Int.reduceToNat, reduceCtorEq]
      obtain rfl := Option.some.inj H
      refine RetE_mk [] [none, none, none] ?_ ?_ ?_ ?_ (by rfl) (by rfl)
      · simp only [go_sem, Nat.reduceEqDiff, Nat.reduceBEq, Nat.reduceAdd]
        try (and_intros <;> first | trivial | omega | exact nfc)
      · simp only [go_sem, Nat.reduceEqDiff, Nat.reduceBEq, Nat.reduceAdd]
        try (and_intros <;> first | trivial | omega | exact nfc)
      · simp only [go_sem, Nat.reduceEqDiff, Nat.reduceBEq, Nat.reduceAdd]
        exact Cv_tup (CvL_cons (by first | (simp [Cv, CvL, getM, gt_some]; done) | (simp [Cv, CvL, getM, gt_some]; omega)) (CvL_cons (by first | (simp [Cv, CvL, getM, gt_some]; done) | (simp [Cv, CvL, getM, gt_some]; omega)) (CvL_cons (by simp [Cv, CvL, getM, gt_some]) CvL_nil)))
      · simp only [go_sem, Nat.reduceEqDiff, Nat.reduceBEq, Nat.reduceAdd, CvH, gt_some, Option.isSome_some, Option.isSome_none]
        first | exact ⟨CvB_none, CvB_none, CvB_none⟩ | trivial
    replace H := cond_f hc H
    refine rg ctNo_ok ?_
    simp only [go_sem, Nat.reduceLeDiff, Nat.reduceLT, Nat.reduceAdd, Nat.reduceMul, Nat.reduceSub, Nat.reduceEqDiff, Nat.reduceBEq, Int.reduceToNat, reduceCtorEq]
    refine seqM ?_
    obtain ⟨r12, e13, H⟩ := bsi H
    refine rg ct20t3_ok ?_
    simp only [go_sem, Nat.reduceLeDiff, Nat.reduceLT, Nat.reduceAdd, Nat.reduceMul, Nat.reduceSub, Nat.reduceEqDiff, Nat.reduceBEq, Int.reduceToNat, reduceCtorEq, ct20t3_56, body56, e13]
    repeat ((with_reducible refine And.intro ?_ ?_); focus (first | (and_intros <;> first | (with_reducible trivial) | omega | assumption | exact nfc | first | exact rfl | exact trivial | exact fitI | exact .inr rfl | exact .inl rfl | exact fun x hx => absurd hx (by omega)) | grind))
    refine seqM ?_
    refine sq ctNo_ok ?_
    simp only [go_sem, Nat.reduceLeDiff, Nat.reduceLT, Nat.reduceAdd, Nat.reduceMul, Nat.reduceSub, Nat.reduceEqDiff, Nat.reduceBEq, Int.reduceToNat, reduceCtorEq]
    refine condM rfl trivial (fun hc => ?_) (fun hc => ?_)
    · replace H := cond_t hc H
      obtain ⟨f14, H⟩ := need_some.1 H
      replace f14 := inb_iff.1 f14
      refine rg ctNo_ok ?_
      simp only [go_sem, Nat.reduceLeDiff, Nat.reduceLT, Nat.reduceAdd, Nat.reduceMul, Nat.reduceSub, Nat.reduceEqDiff, Nat.reduceBEq, Int.reduceToNat, reduceCtorEq, f14]
      repeat ((with_reducible refine And.intro ?_ ?_); focus (first | (with_reducible trivial) | omega | grind))
      refine seqM ?_
      refine sq ctNo_ok ?_
      simp only [go_sem, Nat.reduceLeDiff, Nat.reduceLT, Nat.reduceAdd, Nat.reduceMul, Nat.reduceSub, Nat.reduceEqDiff, Nat.reduceBEq, Int.reduceToNat, reduceCtorEq]
      refine condM rfl trivial (fun hc => ?_) (fun hc => ?_)
      · replace H := cond_t hc H
        refine rg ctNo_ok ?_
        simp only [go_sem, Nat.reduceLeDiff, Nat.reduceLT, Nat.reduceAdd, Nat.reduceMul, Nat.reduceSub, Nat.reduceEqDiff, Nat.reduceBEq, Int.reduceToNat, reduceCtorEq]
        refine sq ctNo_ok ?_
        simp only [go_sem, Nat.reduceLeDiff, Nat.reduceLT, Nat.reduceAdd, Nat.reduceMul, Nat.reduceSub, Nat.reduceEqDiff, Nat.reduceBEq, Int.reduceToNat, reduceCtorEq]
        repeat ((with_reducible refine And.intro ?_ ?_); focus (first | (with_reducible trivial) | omega | grind))
        refine rg ctNo_ok ?_
        simp only [go_sem, Nat.reduceLeDiff, Nat.reduceLT, Nat.reduceAdd, Nat.reduceMul, Nat.reduceSub, Nat.reduceEqDiff, Nat.reduceBEq, Int.reduceToNat, reduceCtorEq]
        obtain rfl := Option.some.inj H
        refine RetE_mk [] [some 5, some 6, some 7] ?_ ?_ ?_ ?_ (by rfl) (by rfl)
        · simp only [go_sem, Nat.reduceEqDiff, Nat.reduceBEq, Nat.reduceAdd]
          try (and_intros <;> first | trivial | omega | exact nfc)
        · simp only [go_sem, Nat.reduceEqDiff, Nat.reduceBEq, Nat.reduceAdd]
          try (and_intros <;> first | trivial | omega | exact nfc)
        · simp only [go_sem, Nat.reduceEqDiff, Nat.reduceBEq, Nat.reduceAdd]
          exact Cv_tup (CvL_cons (by first | (simp [Cv, CvL, getM, gt_some]; done) | (simp [Cv, CvL, getM, gt_some]; omega)) (CvL_cons (by first | (simp [Cv, CvL, getM, gt_some]; done) | (simp [Cv, CvL, getM, gt_some]; omega)) (CvL_cons (by simp [Cv, CvL, getM, gt_some]) CvL_nil)))
        · simp only [go_sem, Nat.reduceEqDiff, Nat.reduceBEq, Nat.reduceAdd, CvH, gt_some, Option.isSome_some, Option.isSome_none]
          first | exact ⟨CvB_row nr_TTree (by first | rfl | (simp; done) | (simp; omega)) (upc_row (f := c_TTree) r12.Trees r7.1.toNat 0 (TTree.mk (A6u8.mk p1.Root.x0 p1.Root.x1 p1.Root.x2 p1.Root.x3 p1.Root.x4 p1.Root.x5) (A6u8.mk p2.x0 p2.x1 p2.x2 p2.x3 p2.x4 p2.x5) p1.Seq (wr .i64 (p1.Hops + 1)) (wr .i64 (p1.Cost + p3)) p1.Gate (wr .i64 (p4 + 5000000))) (fun _ _ _ _ => rfl) (fun y hy => match y, hy with | 0, _ => rfl | 1, _ => rfl | 2, _ => rfl | 3, _ => rfl | 4, _ => rfl | 5, _ => rfl | 6, _ => rfl | 7, _ => rfl | 8, _ => rfl | 9, _ => rfl | 10, _ => rfl | 11, _ => rfl | 12, _ => rfl | 13, _ => rfl | 14, _ => rfl | 15, _ => rfl | 16, _ => rfl | (y+17), h => absurd h (by omega))), CvB_row nr_TProxied (by first | rfl | (simp; done) | (simp; omega)) (fun _ _ _ _ => rfl), CvB_row nr_TRootWord (by first | rfl | (simp; done) | (simp; omega)) (lit_row (f := c_TRootWord) [(TRootWord.mk (A6u8.mk p1.Root.x0 p1.Root.x1 p1.Root.x2 p1.Root.x3 p1.Root.x4 p1.Root.x5) p1.Seq (wr .i64 (p1.Hops + 1)) (wr .i64 (p1.Cost + p3)) p1.Gate)] (fun _ _ => rfl) rfl)⟩ | trivial
      replace H := cond_f hc H
      refine rg ctNo_ok ?_
      simp only [go_sem, Nat.reduceLeDiff, Nat.reduceLT, Nat.reduceAdd, Nat.reduceMul, Nat.reduceSub, Nat.reduceEqDiff, Nat.reduceBEq, Int.reduceToNat, reduceCtorEq]
      refine sq ctNo_ok ?_
      simp only [go_sem, Nat.reduceLeDiff, Nat.reduceLT, Nat.reduceAdd, Nat.reduceMul, Nat.reduceSub, Nat.reduceEqDiff, Nat.reduceBEq, Int.reduceToNat, reduceCtorEq]
      repeat ((with_reducible refine And.intro ?_ ?_); focus (first | (with_reducible trivial) | omega | grind))
      refine rg ctNo_ok ?_
      simp only [go_sem, Nat.reduceLeDiff, Nat.reduceLT, Nat.reduceAdd, Nat.reduceMul, Nat.reduceSub, Nat.reduceEqDiff, Nat.reduceBEq, Int.reduceToNat, reduceCtorEq]
      obtain rfl := Option.some.inj H
      refine RetE_mk [] [some 5, some 6, none] ?_ ?_ ?_ ?_ (by rfl) (by rfl)
      · simp only [go_sem, Nat.reduceEqDiff, Nat.reduceBEq, Nat.reduceAdd]
        try (and_intros <;> first | trivial | omega | exact nfc)
      · simp only [go_sem, Nat.reduceEqDiff, Nat.reduceBEq, Nat.reduceAdd]
        try (and_intros <;> first | trivial | omega | exact nfc)
      · simp only [go_sem, Nat.reduceEqDiff, Nat.reduceBEq, Nat.reduceAdd]
        exact Cv_tup (CvL_cons (by first | (simp [Cv, CvL, getM, gt_some]; done) | (simp [Cv, CvL, getM, gt_some]; omega)) (CvL_cons (by first | (simp [Cv, CvL, getM, gt_some]; done) | (simp [Cv, CvL, getM, gt_some]; omega)) (CvL_cons (by simp [Cv, CvL, getM, gt_some]) CvL_nil)))
      · simp only [go_sem, Nat.reduceEqDiff, Nat.reduceBEq, Nat.reduceAdd, CvH, gt_some, Option.isSome_some, Option.isSome_none]
        first | exact ⟨CvB_row nr_TTree (by first | rfl | (simp; done) | (simp; omega)) (upc_row (f := c_TTree) r12.Trees r7.1.toNat 0 (TTree.mk (A6u8.mk p1.Root.x0 p1.Root.x1 p1.Root.x2 p1.Root.x3 p1.Root.x4 p1.Root.x5) (A6u8.mk p2.x0 p2.x1 p2.x2 p2.x3 p2.x4 p2.x5) p1.Seq (wr .i64 (p1.Hops + 1)) (wr .i64 (p1.Cost + p3)) p1.Gate (wr .i64 (p4 + 5000000))) (fun _ _ _ _ => rfl) (fun y hy => match y, hy with | 0, _ => rfl | 1, _ => rfl | 2, _ => rfl | 3, _ => rfl | 4, _ => rfl | 5, _ => rfl | 6, _ => rfl | 7, _ => rfl | 8, _ => rfl | 9, _ => rfl | 10, _ => rfl | 11, _ => rfl | 12, _ => rfl | 13, _ => rfl | 14, _ => rfl | 15, _ => rfl | 16, _ => rfl | (y+17), h => absurd h (by omega))), CvB_row nr_TProxied (by first | rfl | (simp; done) | (simp; omega)) (fun _ _ _ _ => rfl), CvB_none⟩ | trivial
    replace H := cond_f hc H
    obtain ⟨f15, H⟩ := need_some.1 H
    replace f15 := insb_iff.1 f15
    refine rg ct20t4_ok ?_
    simp only [go_sem, Nat.reduceLeDiff, Nat.reduceLT, Nat.reduceAdd, Nat.reduceMul, Nat.reduceSub, Nat.reduceEqDiff, Nat.reduceBEq, Int.reduceToNat, reduceCtorEq, ct20t4_59, insN, f15]
    repeat ((with_reducible refine And.intro ?_ ?_); focus (first | (and_intros <;> first | (with_reducible trivial) | omega | assumption | exact nfc | first | exact rfl | exact trivial | exact fitI | exact .inr rfl | exact .inl rfl | exact fun x hx => absurd hx (by omega) | (intro x hx; (repeat (first | (and_intros <;> (first | exact rfl | exact trivial | exact fitI | exact .inr rfl | exact .inl rfl | exact fun x hx => absurd hx (by omega))) | (exfalso; omega) | (rcases x with _ | x))); done)) | grind))
    refine seqM ?_
    refine seqM ?_
    obtain ⟨w16, hw17, H⟩ := bsi H
    replace hw17 := Option.some.inj hw17
    have lhw17 : w16.length = 1 := by rw [← hw17]; exact (by first | rfl | (simp; done) | (simp; omega))
    obtain ⟨w18, hw19, H⟩ := bsi H
    replace hw19 := Option.some.inj hw19
    have lhw19 : w18.length = r12.Trees.length + 1 := by rw [← hw19]; exact (ins_len f15 (by first | rfl | (simp; done) | (simp; omega)))
    refine subF_mean (t2 := (.agg [.int .u8 p0.Own.x0, .int .u8 p0.Own.x1, .int .u8 p0.Own.x2, .int .u8 p0.Own.x3, .int .u8 p0.Own.x4, .int .u8 p0.Own.x5, .bool p0.Root, .bool p0.Gate, .int .i64 p0.Seq, .ro 17 p0.Trees.length false (enR c_TTree p0.Trees), .ro 13 p0.Proxies.length false (enR c_TProxied p0.Proxies)] :: .agg [.int .u8 p1.Root.x0, .int .u8 p1.Root.x1, .int .u8 p1.Root.x2, .int .u8 p1.Root.x3, .int .u8 p1.Root.x4, .int .u8 p1.Root.x5, .int .i64 p1.Seq, .int .i64 p1.Hops, .int .i64 p1.Cost, .bool p1.Gate] :: .agg [.int .u8 p2.x0, .int .u8 p2.x1, .int .u8 p2.x2, .int .u8 p2.x3, .int .u8 p2.x4, .int .u8 p2.x5] :: .int .i64 p3 :: .int .i64 p4 :: .ptr 0 0 0 0 :: .ptr 1 0 0 0 :: .ptr 2 0 0 0 :: .top :: .top :: .ptr 3 0 0 0 :: .ro 0 0 true (fun _ _ => .top) :: .int .i64 0 :: .int .i64 r1 :: .ptr 4 0 0 0 :: .int .i64 r7.1 :: .bool r7.2 :: .agg [.int .u8 p0.Own.x0, .int .u8 p0.Own.x1, .int .u8 p0.Own.x2, .int .u8 p0.Own.x3, .int .u8 p0.Own.x4, .int .u8 p0.Own.x5, .bool p0.Root, .bool p0.Gate, .int .i64 p0.Seq, .ro 17 p0.Trees.length false (enR c_TTree p0.Trees), .ro 13 p0.Proxies.length false (enR c_TProxied p0.Proxies)] :: .int .i64 r1 :: .int .i64 r1 :: .bool (!bEq r1 0) :: .top :: .top :: .agg [.int .u8 p1.Root.x0, .int .u8 p1.Root.x1, .int .u8 p1.Root.x2, .int .u8 p1.Root.x3, .int .u8 p1.Root.x4, .int .u8 p1.Root.x5, .int .i64 p1.Seq, .int .i64 p1.Hops, .int .i64 p1.Cost, .bool p1.Gate] :: .bool r3 :: .bool (!r3) :: .bool (!r3) :: .opt (!(!r3)) (.agg [.int .u8 p2.x0, .int .u8 p2.x1, .int .u8 p2.x2, .int .u8 p2.x3, .int .u8 p2.x4, .int .u8 p2.x5]) :: .opt (!(!r3)) (.ptr 0 0 0 0) :: .opt (!(!r3)) (.agg [.int .u8 p0.Own.x0, .int .u8 p0.Own.x1, .int .u8 p0.Own.x2, .int .u8 p0.Own.x3, .int .u8 p0.Own.x4, .int .u8 p0.Own.x5]) :: .opt (!(!r3)) (.bool (bEq p2.x0 p0.Own.x0 && (bEq p2.x1 p0.Own.x1 && (bEq p2.x2 p0.Own.x2 && (bEq p2.x3 p0.Own.x3 && (bEq p2.x4 p0.Own.x4 && (bEq p2.x5 p0.Own.x5))))))) :: .bool ((!r3) || (bEq p2.x0 p0.Own.x0 && (bEq p2.x1 p0.Own.x1 && (bEq p2.x2 p0.Own.x2 && (bEq p2.x3 p0.Own.x3 && (bEq p2.x4 p0.Own.x4 && (bEq p2.x5 p0.Own.x5))))))) :: .bool ((!r3) || (bEq p2.x0 p0.Own.x0 && (bEq p2.x1 p0.Own.x1 && (bEq p2.x2 p0.Own.x2 && (bEq p2.x3 p0.Own.x3 && (bEq p2.x4 p0.Own.x4 && (bEq p2.x5 p0.Own.x5))))))) :: .opt (!((!r3) || (bEq p2.x0 p0.Own.x0 && (bEq p2.x1 p0.Own.x1 && (bEq p2.x2 p0.Own.x2 && (bEq p2.x3 p0.Own.x3 && (bEq p2.x4 p0.Own.x4 && (bEq p2.x5 p0.Own.x5)))))))) (.int .i64 p3) :: .opt (!((!r3) || (bEq p2.x0 p0.Own.x0 && (bEq p2.x1 p0.Own.x1 && (bEq p2.x2 p0.Own.x2 && (bEq p2.x3 p0.Own.x3 && (bEq p2.x4 p0.Own.x4 && (bEq p2.x5 p0.Own.x5)))))))) (.bool (gt (F57 p3 1 1099511627776))) :: .opt (!((!r3) || (bEq p2.x0 p0.Own.x0 && (bEq p2.x1 p0.Own.x1 && (bEq p2.x2 p0.Own.x2 && (bEq p2.x3 p0.Own.x3 && (bEq p2.x4 p0.Own.x4 && (bEq p2.x5 p0.Own.x5)))))))) (.bool (!(gt (F57 p3 1 1099511627776)))) :: .bool (((!r3) || (bEq p2.x0 p0.Own.x0 && (bEq p2.x1 p0.Own.x1 && (bEq p2.x2 p0.Own.x2 && (bEq p2.x3 p0.Own.x3 && (bEq p2.x4 p0.Own.x4 && (bEq p2.x5 p0.Own.x5))))))) || (!(gt (F57 p3 1 1099511627776)))) :: .bool (((!r3) || (bEq p2.x0 p0.Own.x0 && (bEq p2.x1 p0.Own.x1 && (bEq p2.x2 p0.Own.x2 && (bEq p2.x3 p0.Own.x3 && (bEq p2.x4 p0.Own.x4 && (bEq p2.x5 p0.Own.x5))))))) || (!(gt (F57 p3 1 1099511627776)))) :: .opt (!(((!r3) || (bEq p2.x0 p0.Own.x0 && (bEq p2.x1 p0.Own.x1 && (bEq p2.x2 p0.Own.x2 && (bEq p2.x3 p0.Own.x3 && (bEq p2.x4 p0.Own.x4 && (bEq p2.x5 p0.Own.x5))))))) || (!(gt (F57 p3 1 1099511627776))))) (.int .i64 p4) :: .opt (!(((!r3) || (bEq p2.x0 p0.Own.x0 && (bEq p2.x1 p0.Own.x1 && (bEq p2.x2 p0.Own.x2 && (bEq p2.x3 p0.Own.x3 && (bEq p2.x4 p0.Own.x4 && (bEq p2.x5 p0.Own.x5))))))) || (!(gt (F57 p3 1 1099511627776))))) (.bool (gt (F57 p4 0 1099511627776))) :: .opt (!(((!r3) || (bEq p2.x0 p0.Own.x0 && (bEq p2.x1 p0.Own.x1 && (bEq p2.x2 p0.Own.x2 && (bEq p2.x3 p0.Own.x3 && (bEq p2.x4 p0.Own.x4 && (bEq p2.x5 p0.Own.x5))))))) || (!(gt (F57 p3 1 1099511627776))))) (.bool (!(gt (F57 p4 0 1099511627776)))) :: .bool ((((!r3) || (bEq p2.x0 p0.Own.x0 && (bEq p2.x1 p0.Own.x1 && (bEq p2.x2 p0.Own.x2 && (bEq p2.x3 p0.Own.x3 && (bEq p2.x4 p0.Own.x4 && (bEq p2.x5 p0.Own.x5))))))) || (!(gt (F57 p3 1 1099511627776)))) || (!(gt (F57 p4 0 1099511627776)))) :: .top :: .ptr 1 0 0 0 :: .agg [.int .u8 p1.Root.x0, .int .u8 p1.Root.x1, .int .u8 p1.Root.x2, .int .u8 p1.Root.x3, .int .u8 p1.Root.x4, .int .u8 p1.Root.x5] :: .agg [.int .u8 p2.x0, .int .u8 p2.x1, .int .u8 p2.x2, .int .u8 p2.x3, .int .u8 p2.x4, .int .u8 p2.x5] :: .ptr 1 0 0 6 :: .int .i64 p1.Seq :: .ptr 1 0 0 7 :: .int .i64 p1.Hops :: .int .i64 (wr .i64 (p1.Hops + 1)) :: .ptr 1 0 0 8 :: .int .i64 p1.Cost :: .int .i64 p3 :: .int .i64 (wr .i64 (p1.Cost + p3)) :: .ptr 1 0 0 9 :: .bool p1.Gate :: .int .i64 p4 :: .int .i64 (wr .i64 (p4 + 5000000)) :: .agg [.int .u8 p1.Root.x0, .int .u8 p1.Root.x1, .int .u8 p1.Root.x2, .int .u8 p1.Root.x3, .int .u8 p1.Root.x4, .int .u8 p1.Root.x5, .int .u8 p2.x0, .int .u8 p2.x1, .int .u8 p2.x2, .int .u8 p2.x3, .int .u8 p2.x4, .int .u8 p2.x5, .int .i64 p1.Seq, .int .i64 (wr .i64 (p1.Hops + 1)), .int .i64 (wr .i64 (p1.Cost + p3)), .bool p1.Gate, .int .i64 (wr .i64 (p4 + 5000000))] :: .tup [.int .i64 r7.1, .bool r7.2] :: .agg [.int .u8 p0.Own.x0, .int .u8 p0.Own.x1, .int .u8 p0.Own.x2, .int .u8 p0.Own.x3, .int .u8 p0.Own.x4, .int .u8 p0.Own.x5, .bool p0.Root, .bool p0.Gate, .int .i64 p0.Seq, .ro 17 p0.Trees.length false (enR c_TTree p0.Trees), .ro 13 p0.Proxies.length false (enR c_TProxied p0.Proxies)] :: .ptr 1 0 0 0 :: .agg [.int .u8 p1.Root.x0, .int .u8 p1.Root.x1, .int .u8 p1.Root.x2, .int .u8 p1.Root.x3, .int .u8 p1.Root.x4, .int .u8 p1.Root.x5] :: .tup [.int .i64 r7.1, .bool r7.2] :: .int .i64 r7.1 :: .bool r7.2 :: .bool (bEq p1.Root.x0 p0.Own.x0 && (bEq p1.Root.x1 p0.Own.x1 && (bEq p1.Root.x2 p0.Own.x2 && (bEq p1.Root.x3 p0.Own.x3 && (bEq p1.Root.x4 p0.Own.x4 && (bEq p1.Root.x5 p0.Own.x5)))))) :: .ptr 1 0 0 0 :: .agg [.int .u8 p1.Root.x0, .int .u8 p1.Root.x1, .int .u8 p1.Root.x2, .int .u8 p1.Root.x3, .int .u8 p1.Root.x4, .int .u8 p1.Root.x5] :: .ptr 0 0 0 0 :: .agg [.int .u8 p0.Own.x0, .int .u8 p0.Own.x1, .int .u8 p0.Own.x2, .int .u8 p0.Own.x3, .int .u8 p0.Own.x4, .int .u8 p0.Own.x5] :: .bool (bEq p1.Root.x0 p0.Own.x0 && (bEq p1.Root.x1 p0.Own.x1 && (bEq p1.Root.x2 p0.Own.x2 && (bEq p1.Root.x3 p0.Own.x3 && (bEq p1.Root.x4 p0.Own.x4 && (bEq p1.Root.x5 p0.Own.x5)))))) :: .top :: .bool (r7.2 && ((bLt p1.Seq ((gd p0.Trees r7.1.toNat).Seq)) || ((bEq p1.Seq ((gd p0.Trees r7.1.toNat).Seq)) && (bLe ((gd p0.Trees r7.1.toNat).Cost) (wr .i64 (p1.Cost + p3)))))) :: .bool r7.2 :: .bool r7.2 :: .opt r7.2 (.ptr 4 0 0 12) :: .opt r7.2 (.int .i64 p1.Seq) :: .opt r7.2 (.ptr 0 0 0 9) :: .opt r7.2 (.ro 17 p0.Trees.length false (enR c_TTree p0.Trees)) :: .opt r7.2 (.int .i64 r7.1) :: .opt r7.2 (.rptr 17 p0.Trees.length r7.1.toNat 0 (enR c_TTree p0.Trees)) :: .opt r7.2 (.rptr 17 p0.Trees.length r7.1.toNat 12 (enR c_TTree p0.Trees)) :: .opt r7.2 (.int .i64 ((gd p0.Trees r7.1.toNat).Seq)) :: .opt r7.2 (.bool (bLt p1.Seq ((gd p0.Trees r7.1.toNat).Seq))) :: .opt r7.2 (.bool (bLt p1.Seq ((gd p0.Trees r7.1.toNat).Seq))) :: .opt (r7.2 && (!(bLt p1.Seq ((gd p0.Trees r7.1.toNat).Seq)))) (.ptr 4 0 0 12) :: .opt (r7.2 && (!(bLt p1.Seq ((gd p0.Trees r7.1.toNat).Seq)))) (.int .i64 p1.Seq) :: .opt (r7.2 && (!(bLt p1.Seq ((gd p0.Trees r7.1.toNat).Seq)))) (.ptr 0 0 0 9) :: .opt (r7.2 && (!(bLt p1.Seq ((gd p0.Trees r7.1.toNat).Seq)))) (.ro 17 p0.Trees.length false (enR c_TTree p0.Trees)) :: .opt (r7.2 && (!(bLt p1.Seq ((gd p0.Trees r7.1.toNat).Seq)))) (.int .i64 r7.1) :: .opt (r7.2 && (!(bLt p1.Seq ((gd p0.Trees r7.1.toNat).Seq)))) (.rptr 17 p0.Trees.length r7.1.toNat 0 (enR c_TTree p0.Trees)) :: .opt (r7.2 && (!(bLt p1.Seq ((gd p0.Trees r7.1.toNat).Seq)))) (.rptr 17 p0.Trees.length r7.1.toNat 12 (enR c_TTree p0.Trees)) :: .opt (r7.2 && (!(bLt p1.Seq ((gd p0.Trees r7.1.toNat).Seq)))) (.int .i64 ((gd p0.Trees r7.1.toNat).Seq)) :: .opt (r7.2 && (!(bLt p1.Seq ((gd p0.Trees r7.1.toNat).Seq)))) (.bool (bEq p1.Seq ((gd p0.Trees r7.1.toNat).Seq))) :: .opt (r7.2 && (!(bLt p1.Seq ((gd p0.Trees r7.1.toNat).Seq)))) (.bool (bEq p1.Seq ((gd p0.Trees r7.1.toNat).Seq))) :: .opt ((r7.2 && (!(bLt p1.Seq ((gd p0.Trees r7.1.toNat).Seq)))) && (bEq p1.Seq ((gd p0.Trees r7.1.toNat).Seq))) (.ptr 4 0 0 14) :: .opt ((r7.2 && (!(bLt p1.Seq ((gd p0.Trees r7.1.toNat).Seq)))) && (bEq p1.Seq ((gd p0.Trees r7.1.toNat).Seq))) (.int .i64 (wr .i64 (p1.Cost + p3))) :: .opt ((r7.2 && (!(bLt p1.Seq ((gd p0.Trees r7.1.toNat).Seq)))) && (bEq p1.Seq ((gd p0.Trees r7.1.toNat).Seq))) (.ptr 0 0 0 9) :: .opt ((r7.2 && (!(bLt p1.Seq ((gd p0.Trees r7.1.toNat).Seq)))) && (bEq p1.Seq ((gd p0.Trees r7.1.toNat).Seq))) (.ro 17 p0.Trees.length false (enR c_TTree p0.Trees)) :: .opt ((r7.2 && (!(bLt p1.Seq ((gd p0.Trees r7.1.toNat).Seq)))) && (bEq p1.Seq ((gd p0.Trees r7.1.toNat).Seq))) (.int .i64 r7.1) :: .opt ((r7.2 && (!(bLt p1.Seq ((gd p0.Trees r7.1.toNat).Seq)))) && (bEq p1.Seq ((gd p0.Trees r7.1.toNat).Seq))) (.rptr 17 p0.Trees.length r7.1.toNat 0 (enR c_TTree p0.Trees)) :: .opt ((r7.2 && (!(bLt p1.Seq ((gd p0.Trees r7.1.toNat).Seq)))) && (bEq p1.Seq ((gd p0.Trees r7.1.toNat).Seq))) (.rptr 17 p0.Trees.length r7.1.toNat 14 (enR c_TTree p0.Trees)) :: .opt ((r7.2 && (!(bLt p1.Seq ((gd p0.Trees r7.1.toNat).Seq)))) && (bEq p1.Seq ((gd p0.Trees r7.1.toNat).Seq))) (.int .i64 ((gd p0.Trees r7.1.toNat).Cost)) :: .opt ((r7.2 && (!(bLt p1.Seq ((gd p0.Trees r7.1.toNat).Seq)))) && (bEq p1.Seq ((gd p0.Trees r7.1.toNat).Seq))) (.bool (bLe ((gd p0.Trees r7.1.toNat).Cost) (wr .i64 (p1.Cost + p3)))) :: .opt (r7.2 && (!(bLt p1.Seq ((gd p0.Trees r7.1.toNat).Seq)))) (.bool ((bEq p1.Seq ((gd p0.Trees r7.1.toNat).Seq)) && (bLe ((gd p0.Trees r7.1.toNat).Cost) (wr .i64 (p1.Cost + p3))))) :: .opt r7.2 (.bool ((bLt p1.Seq ((gd p0.Trees r7.1.toNat).Seq)) || ((bEq p1.Seq ((gd p0.Trees r7.1.toNat).Seq)) && (bLe ((gd p0.Trees r7.1.toNat).Cost) (wr .i64 (p1.Cost + p3)))))) :: .bool (r7.2 && ((bLt p1.Seq ((gd p0.Trees r7.1.toNat).Seq)) || ((bEq p1.Seq ((gd p0.Trees r7.1.toNat).Seq)) && (bLe ((gd p0.Trees r7.1.toNat).Cost) (wr .i64 (p1.Cost + p3)))))) :: .top :: .bool (bLt 1099511627776 (wr .i64 (p1.Cost + p3))) :: .ptr 4 0 0 14 :: .int .i64 (wr .i64 (p1.Cost + p3)) :: .bool (bLt 1099511627776 (wr .i64 (p1.Cost + p3))) :: .top :: .bool ((!r7.2) && (bEq (p0.Trees.length : Nat) 8)) :: .bool r7.2 :: .bool (!r7.2) :: .bool (!r7.2) :: .opt (!r7.2) (.ptr 0 0 0 9) :: .opt (!r7.2) (.ro 17 p0.Trees.length false (enR c_TTree p0.Trees)) :: .opt (!r7.2) (.int .i64 (p0.Trees.length : Nat)) :: .opt (!r7.2) (.bool (bEq (p0.Trees.length : Nat) 8)) :: .bool ((!r7.2) && (bEq (p0.Trees.length : Nat) 8)) :: .top :: .agg [.int .u8 p0.Own.x0, .int .u8 p0.Own.x1, .int .u8 p0.Own.x2, .int .u8 p0.Own.x3, .int .u8 p0.Own.x4, .int .u8 p0.Own.x5, .bool p0.Root, .bool p0.Gate, .int .i64 p0.Seq, .ro 17 p0.Trees.length false (enR c_TTree p0.Trees), .ro 13 p0.Proxies.length false (enR c_TProxied p0.Proxies)] :: .agg [.int .u8 r12.Own.x0, .int .u8 r12.Own.x1, .int .u8 r12.Own.x2, .int .u8 r12.Own.x3, .int .u8 r12.Own.x4, .int .u8 r12.Own.x5, .bool r12.Root, .bool r12.Gate, .int .i64 r12.Seq, .sl 5 17 0 r12.Trees.length false, .sl 6 13 0 r12.Proxies.length false] :: .bool r7.2 :: tp 5 (.ptr 0 0 0 9 :: .sl 5 17 0 r12.Trees.length false :: .int .i64 r7.1 :: .agg [.int .u8 p1.Root.x0, .int .u8 p1.Root.x1, .int .u8 p1.Root.x2, .int .u8 p1.Root.x3, .int .u8 p1.Root.x4, .int .u8 p1.Root.x5, .int .u8 p2.x0, .int .u8 p2.x1, .int .u8 p2.x2, .int .u8 p2.x3, .int .u8 p2.x4, .int .u8 p2.x5, .int .i64 p1.Seq, .int .i64 (wr .i64 (p1.Hops + 1)), .int .i64 (wr .i64 (p1.Cost + p3)), .bool p1.Gate, .int .i64 (wr .i64 (p4 + 5000000))] :: .sl 7 17 0 w16.length false :: .sl 8 17 0 w18.length false :: .ptr 0 0 0 9 :: tp 17 []))) (h2 := [.lit 41 [.int .u8 r12.Own.x0, .int .u8 r12.Own.x1, .int .u8 r12.Own.x2, .int .u8 r12.Own.x3, .int .u8 r12.Own.x4, .int .u8 r12.Own.x5, .bool r12.Root, .bool r12.Gate, .int .i64 r12.Seq, .sl 8 17 0 w18.length false, .sl 6 13 0 r12.Proxies.length false], .lit 25 [.int .u8 p1.Root.x0, .int .u8 p1.Root.x1, .int .u8 p1.Root.x2, .int .u8 p1.Root.x3, .int .u8 p1.Root.x4, .int .u8 p1.Root.x5, .int .i64 p1.Seq, .int .i64 p1.Hops, .int .i64 p1.Cost, .bool p1.Gate], .lit 23 [.int .u8 p2.x0, .int .u8 p2.x1, .int .u8 p2.x2, .int .u8 p2.x3, .int .u8 p2.x4, .int .u8 p2.x5], .lit 41 [.int .u8 0, .int .u8 0, .int .u8 0, .int .u8 0, .int .u8 0, .int .u8 0, .bool false, .bool false, .int .i64 0, .ro 0 0 true (fun _ _ => .top), .ro 0 0 true (fun _ _ => .top)], .lit 62 [.int .u8 p1.Root.x0, .int .u8 p1.Root.x1, .int .u8 p1.Root.x2, .int .u8 p1.Root.x3, .int .u8 p1.Root.x4, .int .u8 p1.Root.x5, .int .u8 p2.x0, .int .u8 p2.x1, .int .u8 p2.x2, .int .u8 p2.x3, .int .u8 p2.x4, .int .u8 p2.x5, .int .i64 p1.Seq, .int .i64 (wr .i64 (p1.Hops + 1)), .int .i64 (wr .i64 (p1.Cost + p3)), .bool p1.Gate, .int .i64 (wr .i64 (p4 + 5000000))], .dead, .row 64 13 r12.Proxies.length (enR c_TProxied r12.Proxies), .row 62 17 w16.length (enR c_TTree w16), .row 62 17 w18.length (enR c_TTree w18)]) ?_ ?_
    · refine SubF_of ⟨[some 0, some 1, some 2, some 3, some 4, some 5, some 6, some 7, some 8], ?_, ?_, by rfl, by rfl⟩
      · simp [CvL, Cv, getM, tp, lhw17, lhw19]
      · exact ⟨(by simp [CvB, CvL, Cv, blkAt, geth, getM, lhw17, lhw19]), (by simp [CvB, CvL, Cv, blkAt, geth, getM, lhw17, lhw19]), (by simp [CvB, CvL, Cv, blkAt, geth, getM, lhw17, lhw19]), (by simp [CvB, CvL, Cv, blkAt, geth, getM, lhw17, lhw19]), (by simp [CvB, CvL, Cv, blkAt, geth, getM, lhw17, lhw19]), CvB_dead, CvB_row nr_TProxied rfl (fun _ _ _ _ => rfl), CvB_row nr_TTree lhw17 (hw17 ▸ (lit_row (f := c_TTree) [(TTree.mk (A6u8.mk p1.Root.x0 p1.Root.x1 p1.Root.x2 p1.Root.x3 p1.Root.x4 p1.Root.x5) (A6u8.mk p2.x0 p2.x1 p2.x2 p2.x3 p2.x4 p2.x5) p1.Seq (wr .i64 (p1.Hops + 1)) (wr .i64 (p1.Cost + p3)) p1.Gate (wr .i64 (p4 + 5000000)))] (fun _ _ => rfl) rfl)), CvB_row nr_TTree lhw19 (hw19 ▸ (ins_row f15 (by first | rfl | (simp; done) | (simp; omega)) (fun _ _ _ _ => rfl) (lit_row (f := c_TTree) [(TTree.mk (A6u8.mk p1.Root.x0 p1.Root.x1 p1.Root.x2 p1.Root.x3 p1.Root.x4 p1.Root.x5) (A6u8.mk p2.x0 p2.x1 p2.x2 p2.x3 p2.x4 p2.x5) p1.Seq (wr .i64 (p1.Hops + 1)) (wr .i64 (p1.Cost + p3)) p1.Gate (wr .i64 (p4 + 5000000)))] (fun _ _ => rfl) rfl))), trivial⟩
    simp only [tp]
    refine rg ctNo_ok ?_
    simp only [go_sem, Nat.reduceLeDiff, Nat.reduceLT, Nat.reduceAdd, Nat.reduceMul, Nat.reduceSub, Nat.reduceEqDiff, Nat.reduceBEq, Int.reduceToNat, reduceCtorEq]
    refine condM rfl trivial (fun hc => ?_) (fun hc => ?_)
    · replace H := cond_t hc H
      refine rg ctNo_ok ?_
      simp only [go_sem, Nat.reduceLeDiff, Nat.reduceLT, Nat.reduceAdd, Nat.reduceMul, Nat.reduceSub, Nat.reduceEqDiff, Nat.reduceBEq, Int.reduceToNat, reduceCtorEq]
      refine sq ctNo_ok ?_
      simp only [go_sem, Nat.reduceLeDiff, Nat.reduceLT, Nat.reduceAdd, Nat.reduceMul, Nat.reduceSub, Nat.reduceEqDiff, Nat.reduceBEq, Int.reduceToNat, reduceCtorEq]
      repeat ((with_reducible refine And.intro ?_ ?_); focus (first | (with_reducible trivial) | omega | grind))
      refine rg ctNo_ok ?_
      simp only [go_sem, Nat.reduceLeDiff, Nat.reduceLT, Nat.reduceAdd, Nat.reduceMul, Nat.reduceSub, Nat.reduceEqDiff, Nat.reduceBEq, Int.reduceToNat, reduceCtorEq]
      obtain rfl := Option.some.inj H
      refine RetE_mk [] [some 8, some 6, some 9] ?_ ?_ ?_ ?_ (by rfl) (by rfl)
      · simp only [go_sem, Nat.reduceEqDiff, Nat.reduceBEq, Nat.reduceAdd]
        try (and_intros <;> first | trivial | omega | exact nfc)
      · simp only [go_sem, Nat.reduceEqDiff, Nat.reduceBEq, Nat.reduceAdd]
        try (and_intros <;> first | trivial | omega | exact nfc)
      · simp only [go_sem, Nat.reduceEqDiff, Nat.reduceBEq, Nat.reduceAdd]
        exact Cv_tup (CvL_cons (by first | (simp [Cv, CvL, getM, gt_some]; done) | (simp [Cv, CvL, getM, gt_some]; omega)) (CvL_cons (by first | (simp [Cv, CvL, getM, gt_some]; done) | (simp [Cv, CvL, getM, gt_some]; omega)) (CvL_cons (by simp [Cv, CvL, getM, gt_some]) CvL_nil)))
      · simp only [go_sem, Nat.reduceEqDiff, Nat.reduceBEq, Nat.reduceAdd, CvH, gt_some, Option.isSome_some, Option.isSome_none]
        first | exact ⟨CvB_row nr_TTree (by first | rfl | (simp; done) | (simp; omega)) (fun _ _ _ _ => rfl), CvB_row nr_TProxied (by first | rfl | (simp; done) | (simp; omega)) (fun _ _ _ _ => rfl), CvB_row nr_TRootWord (by first | rfl | (simp; done) | (simp; omega)) (lit_row (f := c_TRootWord) [(TRootWord.mk (A6u8.mk p1.Root.x0 p1.Root.x1 p1.Root.x2 p1.Root.x3 p1.Root.x4 p1.Root.x5) p1.Seq (wr .i64 (p1.Hops + 1)) (wr .i64 (p1.Cost + p3)) p1.Gate)] (fun _ _ => rfl) rfl)⟩ | trivial
    replace H := cond_f hc H
    refine rg ctNo_ok ?_
    simp only [go_sem, Nat.reduceLeDiff, Nat.reduceLT, Nat.reduceAdd, Nat.reduceMul, Nat.reduceSub, Nat.reduceEqDiff, Nat.reduceBEq, Int.reduceToNat, reduceCtorEq]
    refine sq ctNo_ok ?_
    simp only [go_sem, Nat.reduceLeDiff, Nat.reduceLT, Nat.reduceAdd, Nat.reduceMul, Nat.reduceSub, Nat.reduceEqDiff, Nat.reduceBEq, Int.reduceToNat, reduceCtorEq]
    repeat ((with_reducible refine And.intro ?_ ?_); focus (first | (with_reducible trivial) | omega | grind))
    refine rg ctNo_ok ?_
    simp only [go_sem, Nat.reduceLeDiff, Nat.reduceLT, Nat.reduceAdd, Nat.reduceMul, Nat.reduceSub, Nat.reduceEqDiff, Nat.reduceBEq, Int.reduceToNat, reduceCtorEq]
    obtain rfl := Option.some.inj H
    refine RetE_mk [] [some 8, some 6, none] ?_ ?_ ?_ ?_ (by rfl) (by rfl)
    · simp only [go_sem, Nat.reduceEqDiff, Nat.reduceBEq, Nat.reduceAdd]
      try (and_intros <;> first | trivial | omega | exact nfc)
    · simp only [go_sem, Nat.reduceEqDiff, Nat.reduceBEq, Nat.reduceAdd]
      try (and_intros <;> first | trivial | omega | exact nfc)
    · simp only [go_sem, Nat.reduceEqDiff, Nat.reduceBEq, Nat.reduceAdd]
      exact Cv_tup (CvL_cons (by first | (simp [Cv, CvL, getM, gt_some]; done) | (simp [Cv, CvL, getM, gt_some]; omega)) (CvL_cons (by first | (simp [Cv, CvL, getM, gt_some]; done) | (simp [Cv, CvL, getM, gt_some]; omega)) (CvL_cons (by simp [Cv, CvL, getM, gt_some]) CvL_nil)))
    · simp only [go_sem, Nat.reduceEqDiff, Nat.reduceBEq, Nat.reduceAdd, CvH, gt_some, Option.isSome_some, Option.isSome_none]
      first | exact ⟨CvB_row nr_TTree (by first | rfl | (simp; done) | (simp; omega)) (fun _ _ _ _ => rfl), CvB_row nr_TProxied (by first | rfl | (simp; done) | (simp; omega)) (fun _ _ _ _ => rfl), CvB_none⟩ | trivial
  · cases hb
/-! hotspot/root.Tick$1 -/
noncomputable def F63_0 (p0 : TTree) (p1 : Int) : Option (Bool) :=
  some (bLe p0.Until p1)
noncomputable def body63_0 : List AV -> AR
  | [v0, v1] => .pure (aK 17 k_TTree v0 /\ rK 1 k_i64 v1 /\ (F63_0 (g_TTree (aL v0)) (g_i64 (rG v1))).isSome = true) (.bool (gt (F63_0 (g_TTree (aL v0)) (g_i64 (rG v1)))))
  | _ => .fail
set_option maxHeartbeats 4000000 in
set_option maxRecDepth 20000 in
theorem ok63_0 : FnOk Try.prog 63 (pureC body63_0) := by
  refine pure_fnM body63_0 (rs := [.tmp 3]) Try.func63 (by kernel_rfl) rfl rfl ?_
  intro l ob v hb hob
  unfold body63_0 at hb
  split at hb
  · rename_i v0 v1
    injection hb with q1 q2; subst q1 q2
    obtain ⟨hk0_0, hk1_0, hob⟩ := hob
    obtain ⟨r, H⟩ := Option.isSome_iff_exists.1 hob
    rw [H, gt_some]
    have hw0 := wA_TTree hk0_0
    have hw1 := rK_wk (f := c_i64) (g := g_i64) (fun r h => w_i64 h) hk1_0
    generalize g_TTree (aL v0) = p0 at H hw0
    generalize g_i64 (rG v1) = p1 at H hw1
    refine ⟨[.agg [.int .u8 p0.Root.x0, .int .u8 p0.Root.x1, .int .u8 p0.Root.x2, .int .u8 p0.Root.x3, .int .u8 p0.Root.x4, .int .u8 p0.Root.x5, .int .u8 p0.Parent.x0, .int .u8 p0.Parent.x1, .int .u8 p0.Parent.x2, .int .u8 p0.Parent.x3, .int .u8 p0.Parent.x4, .int .u8 p0.Parent.x5, .int .i64 p0.Seq, .int .i64 p0.Hops, .int .i64 p0.Cost, .bool p0.Gate, .int .i64 p0.Until], .rptr 1 1 0 0 (enR c_i64 [p1])], _, (fun E vs F => FR_wk1 hw0.1 F (fun vs F => FR_wk1 hw1.1 F (fun vs F => F))), rfl, rfl, ?_⟩
    rw [Try.ntmps63]
    simp only [List.length_cons, List.length_nil, Nat.reduceAdd, Nat.reduceSub, List.replicate_succ, List.replicate_zero, List.cons_append, List.nil_append]
    unfold F63_0 at H
    try dsimp only at H
    refine sq ctNo_ok ?_
    simp only [go_sem, Nat.reduceLeDiff, Nat.reduceLT, Nat.reduceAdd, Nat.reduceMul, Nat.reduceSub, Nat.reduceEqDiff, Nat.reduceBEq, Int.reduceToNat, reduceCtorEq]
    refine sq ctNo_ok ?_
    simp only [go_sem, Nat.reduceLeDiff, Nat.reduceLT, Nat.reduceAdd, Nat.reduceMul, Nat.reduceSub, Nat.reduceEqDiff, Nat.reduceBEq, Int.reduceToNat, reduceCtorEq]
    refine rg ctNo_ok ?_
    simp only [go_sem, Nat.reduceLeDiff, Nat.reduceLT, Nat.reduceAdd, Nat.reduceMul, Nat.reduceSub, Nat.reduceEqDiff, Nat.reduceBEq, Int.reduceToNat, reduceCtorEq]
    obtain rfl := Option.some.inj H
    first | rfl | simp only [Bool.and_false, Bool.false_and, Bool.and_true, Bool.true_and]
  · cases hb
/-! slices.IndexFunc[[]hotspot/api.Tree,hotspot/api.Tree] -/
noncomputable def ct91_0t0 : Ct := tab [(63, pureC body63_0)]
theorem ct91_0t0_ok : CtOk Try.prog ct91_0t0 := tab_cons ok63_0 <| tab_nil
theorem ct91_0t0_63 (l : List AV) (h : List ABlk) : ct91_0t0 63 l h = pureC body63_0 l h := rfl
noncomputable def F91_0_L1 (p0 : List TTree) (p1 : Int) (v1_1 : Int) : Option (Lp (Int) ((Unit) ⊕ (Int))) :=
  bif (bLt v1_1 (p0.length : Nat)) then (need (inb v1_1 p0.length) <| (F63_0 (TTree.mk (A6u8.mk (((gd p0 v1_1.toNat).Root).x0) (((gd p0 v1_1.toNat).Root).x1) (((gd p0 v1_1.toNat).Root).x2) (((gd p0 v1_1.toNat).Root).x3) (((gd p0 v1_1.toNat).Root).x4) (((gd p0 v1_1.toNat).Root).x5)) (A6u8.mk (((gd p0 v1_1.toNat).Parent).x0) (((gd p0 v1_1.toNat).Parent).x1) (((gd p0 v1_1.toNat).Parent).x2) (((gd p0 v1_1.toNat).Parent).x3) (((gd p0 v1_1.toNat).Parent).x4) (((gd p0 v1_1.toNat).Parent).x5)) ((gd p0 v1_1.toNat).Seq) ((gd p0 v1_1.toNat).Hops) ((gd p0 v1_1.toNat).Cost) ((gd p0 v1_1.toNat).Gate) ((gd p0 v1_1.toNat).Until)) p1).bind fun r2 => bif r2 then (some (.done (.inr v1_1))) else (some (.next (wr .i64 (v1_1 + 1))))) else (some (.done (.inl ())))
noncomputable def F91_0 (p0 : List TTree) (p1 : Int) : Option (Int) :=
  lp (loopD (fun s => F91_0_L1 p0 p1 s) 0) (fun e => some (-1)) some
noncomputable def body91_0 : List AV -> AR
  | [v0, .fn 63 [v1]] => .pure (lK k_TTree 17 v0 /\ rK 1 k_i64 v1 /\ (F91_0 (lA g_TTree v0) (g_i64 (rG v1))).isSome = true) (.int .i64 (gt (F91_0 (lA g_TTree v0) (g_i64 (rG v1)))))
  | _ => .fail
set_option maxHeartbeats 4000000 in
set_option maxRecDepth 20000 in
theorem ok91_0 : FnOk Try.prog 91 (pureC body91_0) := by
  refine pure_fnM body91_0 (rs := [.tmp 4]) Try.func91 (by kernel_rfl) rfl rfl ?_
  intro l ob v hb hob
  unfold body91_0 at hb
  split at hb
  · rename_i v0 v1
    injection hb with q1 q2; subst q1 q2
    obtain ⟨hk0_0, hk1_0, hob⟩ := hob
    obtain ⟨r, H⟩ := Option.isSome_iff_exists.1 hob
    rw [H, gt_some]
    have hw0 := lK_wk (fun r h => w_TTree h) hk0_0
    have hw1 := rK_wk (f := c_i64) (g := g_i64) (fun r h => w_i64 h) hk1_0
    generalize lA g_TTree v0 = p0 at H hw0
    generalize g_i64 (rG v1) = p1 at H hw1
    refine ⟨[.ro 17 p0.length false (enR c_TTree p0), .fn 63 [.rptr 1 1 0 0 (enR c_i64 [p1])]], _, (fun E vs F => FR_wk1 hw0.1 F (fun vs F => FR_wk1 (fn_wk (LW_cons hw1.1 LW_nil)) F (fun vs F => F))), rfl, rfl, ?_⟩
    rw [Try.ntmps91]
    simp only [List.length_cons, List.length_nil, Nat.reduceAdd, Nat.reduceSub, List.replicate_succ, List.replicate_zero, List.cons_append, List.nil_append]
    unfold F91_0 at H
    try dsimp only at H
    refine sq ctNo_ok ?_
    simp only [go_sem, Nat.reduceLeDiff, Nat.reduceLT, Nat.reduceAdd, Nat.reduceMul, Nat.reduceSub, Nat.reduceEqDiff, Nat.reduceBEq, Int.reduceToNat, reduceCtorEq]
    refine seqM ?_
    refine sq ctNo_ok ?_
    simp only [go_sem, Nat.reduceLeDiff, Nat.reduceLT, Nat.reduceAdd, Nat.reduceMul, Nat.reduceSub, Nat.reduceEqDiff, Nat.reduceBEq, Int.reduceToNat, reduceCtorEq]
    repeat ((with_reducible refine And.intro ?_ ?_); focus (first | (and_intros <;> first | (with_reducible trivial) | omega | assumption | exact nfc | first | exact rfl | exact trivial | exact fitI | exact .inr rfl | exact .inl rfl | exact fun x hx => absurd hx (by omega)) | grind))
    refine blkM ?_
    refine loop_den (fun s : Int => (.ro 17 p0.length false (enR c_TTree p0) :: .fn 63 [.rptr 1 1 0 0 (enR c_i64 [p1])] :: tp 5 (.int .i64 (p0.length : Nat) :: .int .i64 s :: tp 10 []))) (fun s => []) (fun e : Unit => (tp 19 [])) (fun e => []) H ?_ (fun v1_1 o H hn1_1 hn2_1 => ?_) (fun e H => ?_)
    · refine SubF_of ⟨[], ?_, ?_, by rfl, by rfl⟩
      · simp [CvL, Cv, getM, tp]
      · trivial
    · unfold F91_0_L1 at H
      try dsimp only at H ⊢
      try simp only [tp]
      refine sq ctNo_ok ?_
      simp only [go_sem, Nat.reduceLeDiff, Nat.reduceLT, Nat.reduceAdd, Nat.reduceMul, Nat.reduceSub, Nat.reduceEqDiff, Nat.reduceBEq, Int.reduceToNat, reduceCtorEq]
      refine seqM ?_
      refine condM' rfl trivial (fun hc => ?_) (fun hc => ?_)
      · replace H := cond_f hc H
        refine rg ctNo_ok ?_
        simp only [go_sem, Nat.reduceLeDiff, Nat.reduceLT, Nat.reduceAdd, Nat.reduceMul, Nat.reduceSub, Nat.reduceEqDiff, Nat.reduceBEq, Int.reduceToNat, reduceCtorEq]
        refine ⟨_, (Option.some.inj H).symm, ?_⟩
        refine SubF_of ⟨[], ?_, ?_, by rfl, by rfl⟩
        · simp [CvL, Cv, getM, tp]
        · trivial
      replace H := cond_t hc H
      refine rg ctNo_ok ?_
      simp only [go_sem, Nat.reduceLeDiff, Nat.reduceLT, Nat.reduceAdd, Nat.reduceMul, Nat.reduceSub, Nat.reduceEqDiff, Nat.reduceBEq, Int.reduceToNat, reduceCtorEq]
      refine seqM ?_
      refine blkM ?_
      refine sq ctNo_ok ?_
      simp only [go_sem, Nat.reduceLeDiff, Nat.reduceLT, Nat.reduceAdd, Nat.reduceMul, Nat.reduceSub, Nat.reduceEqDiff, Nat.reduceBEq, Int.reduceToNat, reduceCtorEq]
      refine seqM ?_
      obtain ⟨f1, H⟩ := need_some.1 H
      replace f1 := inb_iff.1 f1
      obtain ⟨r2, e3, H⟩ := bsi H
      refine rg ct91_0t0_ok ?_
      simp only [go_sem, Nat.reduceLeDiff, Nat.reduceLT, Nat.reduceAdd, Nat.reduceMul, Nat.reduceSub, Nat.reduceEqDiff, Nat.reduceBEq, Int.reduceToNat, reduceCtorEq, ct91_0t0_63, body63_0, f1, e3]
      repeat ((with_reducible refine And.intro ?_ ?_); focus (first | (and_intros <;> first | (with_reducible trivial) | omega | assumption | exact nfc | first | exact rfl | exact trivial | exact fitI | exact .inr rfl | exact .inl rfl | exact fun x hx => absurd hx (by omega)) | grind))
      refine condM rfl trivial (fun hc => ?_) (fun hc => ?_)
      · replace H := cond_t hc H
        refine sq ctNo_ok ?_
        simp only [go_sem, Nat.reduceLeDiff, Nat.reduceLT, Nat.reduceAdd, Nat.reduceMul, Nat.reduceSub, Nat.reduceEqDiff, Nat.reduceBEq, Int.reduceToNat, reduceCtorEq]
        refine rg ctNo_ok ?_
        simp only [go_sem, Nat.reduceLeDiff, Nat.reduceLT, Nat.reduceAdd, Nat.reduceMul, Nat.reduceSub, Nat.reduceEqDiff, Nat.reduceBEq, Int.reduceToNat, reduceCtorEq]
        have H := hn2_1 _ (Option.some.inj H).symm
        obtain rfl := Option.some.inj H
        first | rfl | simp only [Bool.and_false, Bool.false_and, Bool.and_true, Bool.true_and]
      replace H := cond_f hc H
      refine rg ctNo_ok ?_
      simp only [go_sem, Nat.reduceLeDiff, Nat.reduceLT, Nat.reduceAdd, Nat.reduceMul, Nat.reduceSub, Nat.reduceEqDiff, Nat.reduceBEq, Int.reduceToNat, reduceCtorEq]
      refine rg ctNo_ok ?_
      simp only [go_sem, Nat.reduceLeDiff, Nat.reduceLT, Nat.reduceAdd, Nat.reduceMul, Nat.reduceSub, Nat.reduceEqDiff, Nat.reduceBEq, Int.reduceToNat, reduceCtorEq]
      refine ⟨_, (Option.some.inj H).symm, ?_⟩
      refine SubF_of ⟨[], ?_, ?_, by rfl, by rfl⟩
      · simp [CvL, Cv, getM, tp]
      · trivial
    · try dsimp only at H ⊢
      try simp only [tp]
      try simp only [m_normal, k_normal, b_normal, kL_normal, r_normal]
      refine sq ctNo_ok ?_
      simp only [go_sem, Nat.reduceLeDiff, Nat.reduceLT, Nat.reduceAdd, Nat.reduceMul, Nat.reduceSub, Nat.reduceEqDiff, Nat.reduceBEq, Int.reduceToNat, reduceCtorEq]
      refine rg ctNo_ok ?_
      simp only [go_sem, Nat.reduceLeDiff, Nat.reduceLT, Nat.reduceAdd, Nat.reduceMul, Nat.reduceSub, Nat.reduceEqDiff, Nat.reduceBEq, Int.reduceToNat, reduceCtorEq]
      obtain rfl := Option.some.inj H
      first | rfl | simp only [Bool.and_false, Bool.false_and, Bool.and_true, Bool.true_and]
  · cases hb
/-! slices.DeleteFunc[[]hotspot/api.Tree,hotspot/api.Tree] -/
noncomputable def ct62_0t0 : Ct := tab [(91, pureC body91_0)]
theorem ct62_0t0_ok : CtOk Try.prog ct62_0t0 := tab_cons ok91_0 <| tab_nil
theorem ct62_0t0_91 (l : List AV) (h : List ABlk) : ct62_0t0 91 l h = pureC body91_0 l h := rfl
noncomputable def ct62_0t1 : Ct := tab [(63, pureC body63_0)]
theorem ct62_0t1_ok : CtOk Try.prog ct62_0t1 := tab_cons ok63_0 <| tab_nil
theorem ct62_0t1_63 (l : List AV) (h : List ABlk) : ct62_0t1 63 l h = pureC body63_0 l h := rfl
noncomputable def F62_0_L1 (p1 : Int) (v1_1 : List TTree) (v1_2 : Int) (v1_3 : Int) : Option (Lp ((List TTree) × Int × Int) (((List TTree) × Int) ⊕ (List TTree))) :=
  bif (bLt v1_3 (v1_1.length : Nat)) then (need (inb v1_3 v1_1.length) <| (F63_0 (TTree.mk (A6u8.mk (((gd v1_1 v1_3.toNat).Root).x0) (((gd v1_1 v1_3.toNat).Root).x1) (((gd v1_1 v1_3.toNat).Root).x2) (((gd v1_1 v1_3.toNat).Root).x3) (((gd v1_1 v1_3.toNat).Root).x4) (((gd v1_1 v1_3.toNat).Root).x5)) (A6u8.mk (((gd v1_1 v1_3.toNat).Parent).x0) (((gd v1_1 v1_3.toNat).Parent).x1) (((gd v1_1 v1_3.toNat).Parent).x2) (((gd v1_1 v1_3.toNat).Parent).x3) (((gd v1_1 v1_3.toNat).Parent).x4) (((gd v1_1 v1_3.toNat).Parent).x5)) ((gd v1_1 v1_3.toNat).Seq) ((gd v1_1 v1_3.toNat).Hops) ((gd v1_1 v1_3.toNat).Cost) ((gd v1_1 v1_3.toNat).Gate) ((gd v1_1 v1_3.toNat).Until)) p1).bind fun r4 => bif (!r4) then (need (inb v1_2 v1_1.length) <| some (.next ((v1_1.set v1_2.toNat (TTree.mk (A6u8.mk (((gd v1_1 v1_3.toNat).Root).x0) (((gd v1_1 v1_3.toNat).Root).x1) (((gd v1_1 v1_3.toNat).Root).x2) (((gd v1_1 v1_3.toNat).Root).x3) (((gd v1_1 v1_3.toNat).Root).x4) (((gd v1_1 v1_3.toNat).Root).x5)) (A6u8.mk (((gd v1_1 v1_3.toNat).Parent).x0) (((gd v1_1 v1_3.toNat).Parent).x1) (((gd v1_1 v1_3.toNat).Parent).x2) (((gd v1_1 v1_3.toNat).Parent).x3) (((gd v1_1 v1_3.toNat).Parent).x4) (((gd v1_1 v1_3.toNat).Parent).x5)) ((gd v1_1 v1_3.toNat).Seq) ((gd v1_1 v1_3.toNat).Hops) ((gd v1_1 v1_3.toNat).Cost) ((gd v1_1 v1_3.toNat).Gate) ((gd v1_1 v1_3.toNat).Until))), wr .i64 (v1_2 + 1), wr .i64 (v1_3 + 1)))) else (some (.next (v1_1, v1_2, wr .i64 (v1_3 + 1))))) else (some (.done (.inl (v1_1, v1_2))))
noncomputable def F62_0 (p0 : List TTree) (p1 : Int) : Option (List TTree) :=
  (F91_0 p0 p1).bind fun r1 => bif (bEq r1 (-1)) then (some p0) else (lp (loopD (fun s => F62_0_L1 p1 s.1 s.2.1 s.2.2) (p0, r1, wr .i64 (r1 + 1))) (fun e => need (slb e.2 (e.1.length : Nat) e.1.length) <| need (slb 0 e.2 e.1.length) <| some (List.take e.2.toNat e.1)) some)
noncomputable def body62_0 : List AV -> List ABlk -> ED
  | [v0, .fn 63 [v1]], h => .ed [slN v0] (oS 62 17 h v0 /\ lK k_TTree 17 (roW h v0) /\ rK 1 k_i64 (roD (deadL h [slN v0]) v1) /\ roDOb (deadL h [slN v0]) v1 /\ (F62_0 (lA g_TTree (roW h v0)) (g_i64 (rG (roD (deadL h [slN v0]) v1)))).isSome = true) (.sl 1 17 0 ((gt (F62_0 (lA g_TTree (roW h v0)) (g_i64 (rG (roD (deadL h [slN v0]) v1))))).length) false) [.dead, .row 62 17 ((gt (F62_0 (lA g_TTree (roW h v0)) (g_i64 (rG (roD (deadL h [slN v0]) v1))))).length) (enR c_TTree (gt (F62_0 (lA g_TTree (roW h v0)) (g_i64 (rG (roD (deadL h [slN v0]) v1))))))]
  | _, _ => .fail
set_option maxHeartbeats 4000000 in
set_option maxRecDepth 20000 in
theorem ok62_0 : FnOk Try.prog 62 (edC body62_0) := by
  refine edit_fnV body62_0 (rs := [.tmp 4]) Try.func62 (by kernel_rfl) rfl rfl ?_
  intro l h bs ob q0 g0 hb hob
  unfold body62_0 at hb
  split at hb
  · rename_i v0 v1
    injection hb with q1 q2 q3 q4; subst q1 q2 q3 q4
    obtain ⟨hk0_0, hk0_1, hk1_0, hk1_1, hob⟩ := hob
    obtain ⟨r, H⟩ := Option.isSome_iff_exists.1 hob
    rw [H, gt_some]
    obtain ⟨p0, hp0⟩ : ∃ p0, p0 = lA g_TTree (roW h v0) := ⟨_, rfl⟩
    rw [← hp0] at H
    obtain ⟨ev0, eb0⟩ := own_row2 (f := c_TTree) (g := g_TTree) (bs := [slN v0]) (i := 0) (fun hr => w_TTree hr) hk0_0 hk0_1 (L := p0) (by rw [hp0]) rfl
    have hw1 := rK_wk (f := c_i64) (g := g_i64) (fun r h => w_i64 h) hk1_0
    obtain ⟨p1, hp_p1⟩ : ∃ p1, p1 = g_i64 (rG (roD (deadL h [slN v0]) v1)) := ⟨_, rfl⟩
    rw [← hp_p1] at H hw1
    refine ⟨[.sl 0 17 0 p0.length false, .fn 63 [.rptr 1 1 0 0 (enR c_i64 [p1])]], [.row 62 17 p0.length (enR c_TTree p0)], rfl, ⟨(EW_own ev0 (by simp only [noro])), ⟨(EW_fn ⟨(EW_view hk1_1 hw1), trivial⟩), trivial⟩⟩, ⟨eb0, trivial⟩, ⟨noroB_en, trivial⟩, ⟨trivial, ⟨(nfB_en nr_TTree), trivial⟩⟩, ⟨trivial, ⟨noroB_en, trivial⟩⟩, (by first | (simp only [noro, noroL, and_self]; done) | (simp only [noro, noroL]; and_intros <;> first | trivial | exact noro_bif (by simp only [noro]) (by simp only [noro]) | (simp only [noro, noroL, and_self]))), ?_⟩
    rw [Try.ntmps62]
    simp only [List.length_cons, List.length_nil, Nat.reduceAdd, Nat.reduceSub, List.replicate_succ, List.replicate_zero, List.cons_append, List.nil_append]
    unfold F62_0 at H
    try dsimp only at H
    refine sq ctNo_ok ?_
    simp only [go_sem, Nat.reduceLeDiff, Nat.reduceLT, Nat.reduceAdd, Nat.reduceMul, Nat.reduceSub, Nat.reduceEqDiff, Nat.reduceBEq, Int.reduceToNat, reduceCtorEq]
    refine seqM ?_
    obtain ⟨r1, e2, H⟩ := bsi H
    refine rg ct62_0t0_ok ?_
    simp only [go_sem, Nat.reduceLeDiff, Nat.reduceLT, Nat.reduceAdd, Nat.reduceMul, Nat.reduceSub, Nat.reduceEqDiff, Nat.reduceBEq, Int.reduceToNat, reduceCtorEq, ct62_0t0_91, body91_0, e2]
    repeat ((with_reducible refine And.intro ?_ ?_); focus (first | (and_intros <;> first | (with_reducible trivial) | omega | assumption | exact nfc | first | exact rfl | exact trivial | exact fitI | exact .inr rfl | exact .inl rfl | exact fun x hx => absurd hx (by omega)) | grind))
    refine seqM ?_
    refine sq ctNo_ok ?_
    simp only [go_sem, Nat.reduceLeDiff, Nat.reduceLT, Nat.reduceAdd, Nat.reduceMul, Nat.reduceSub, Nat.reduceEqDiff, Nat.reduceBEq, Int.reduceToNat, reduceCtorEq]
    refine condM rfl trivial (fun hc => ?_) (fun hc => ?_)
    · replace H := cond_t hc H
      refine sq ctNo_ok ?_
      simp only [go_sem, Nat.reduceLeDiff, Nat.reduceLT, Nat.reduceAdd, Nat.reduceMul, Nat.reduceSub, Nat.reduceEqDiff, Nat.reduceBEq, Int.reduceToNat, reduceCtorEq]
      refine rg ctNo_ok ?_
      simp only [go_sem, Nat.reduceLeDiff, Nat.reduceLT, Nat.reduceAdd, Nat.reduceMul, Nat.reduceSub, Nat.reduceEqDiff, Nat.reduceBEq, Int.reduceToNat, reduceCtorEq]
      obtain rfl := Option.some.inj H
      refine RetE_mk [] [some 0, some 0] ?_ ?_ ?_ ?_ (by rfl) (by rfl)
      · simp only [go_sem, Nat.reduceEqDiff, Nat.reduceBEq, Nat.reduceAdd]
        try (and_intros <;> first | trivial | omega | exact nfc)
      · simp only [go_sem, Nat.reduceEqDiff, Nat.reduceBEq, Nat.reduceAdd]
        try (and_intros <;> first | trivial | omega | exact nfc)
      · simp only [go_sem, Nat.reduceEqDiff, Nat.reduceBEq, Nat.reduceAdd]
        exact (by first | (simp [Cv, CvL, getM, gt_some]; done) | (simp [Cv, CvL, getM, gt_some]; omega))
      · simp only [go_sem, Nat.reduceEqDiff, Nat.reduceBEq, Nat.reduceAdd, CvH, gt_some, Option.isSome_some, Option.isSome_none]
        first | exact ⟨CvB_dead, CvB_row nr_TTree (by first | rfl | (simp; done) | (simp; omega)) (fun _ _ _ _ => rfl)⟩ | trivial
    replace H := cond_f hc H
    refine rg ctNo_ok ?_
    simp only [go_sem, Nat.reduceLeDiff, Nat.reduceLT, Nat.reduceAdd, Nat.reduceMul, Nat.reduceSub, Nat.reduceEqDiff, Nat.reduceBEq, Int.reduceToNat, reduceCtorEq]
    refine seqM ?_
    refine sq ctNo_ok ?_
    simp only [go_sem, Nat.reduceLeDiff, Nat.reduceLT, Nat.reduceAdd, Nat.reduceMul, Nat.reduceSub, Nat.reduceEqDiff, Nat.reduceBEq, Int.reduceToNat, reduceCtorEq]
    refine blkM ?_
    refine loop_den (fun s : (List TTree) × Int × Int => (.sl 1 17 0 s.1.length false :: .fn 63 [.rptr 1 1 0 0 (enR c_i64 [p1])] :: .top :: .top :: .top :: .int .i64 s.2.1 :: .int .i64 s.2.2 :: tp 35 [])) (fun s => [.dead, .row 62 17 s.1.length (enR c_TTree s.1)]) (fun e : (List TTree) × Int => (.sl 1 17 0 e.1.length false :: tp 4 (.int .i64 e.2 :: tp 36 []))) (fun e => [.dead, .row 62 17 e.1.length (enR c_TTree e.1)]) H ?_ (fun s o H hn1_1 hn2_1 => ?_) (fun e H => ?_)
    · refine SubF_of ⟨[some 0, some 0], ?_, ?_, by rfl, by rfl⟩
      · simp [CvL, Cv, getM, tp]
      · exact ⟨CvB_dead, CvB_row nr_TTree (by first | rfl | (simp; done) | (simp; omega)) (fun _ _ _ _ => rfl), trivial⟩
    · obtain ⟨v1_1, v1_2, v1_3⟩ := s
      unfold F62_0_L1 at H
      try dsimp only at H ⊢
      try simp only [tp]
      refine seqM ?_
      refine sq ctNo_ok ?_
      simp only [go_sem, Nat.reduceLeDiff, Nat.reduceLT, Nat.reduceAdd, Nat.reduceMul, Nat.reduceSub, Nat.reduceEqDiff, Nat.reduceBEq, Int.reduceToNat, reduceCtorEq]
      repeat ((with_reducible refine And.intro ?_ ?_); focus (first | (and_intros <;> first | (with_reducible trivial) | omega | assumption | exact nfc | first | exact rfl | exact trivial | exact fitI | exact .inr rfl | exact .inl rfl | exact fun x hx => absurd hx (by omega)) | grind))
      refine condM' rfl trivial (fun hc => ?_) (fun hc => ?_)
      · replace H := cond_f hc H
        refine rg ctNo_ok ?_
        simp only [go_sem, Nat.reduceLeDiff, Nat.reduceLT, Nat.reduceAdd, Nat.reduceMul, Nat.reduceSub, Nat.reduceEqDiff, Nat.reduceBEq, Int.reduceToNat, reduceCtorEq]
        refine ⟨_, (Option.some.inj H).symm, ?_⟩
        refine SubF_of ⟨[some 0, some 1], ?_, ?_, by rfl, by rfl⟩
        · simp [CvL, Cv, getM, tp]
        · exact ⟨CvB_dead, CvB_row nr_TTree (by first | rfl | (simp; done) | (simp; omega)) (fun _ _ _ _ => rfl), trivial⟩
      replace H := cond_t hc H
      refine rg ctNo_ok ?_
      simp only [go_sem, Nat.reduceLeDiff, Nat.reduceLT, Nat.reduceAdd, Nat.reduceMul, Nat.reduceSub, Nat.reduceEqDiff, Nat.reduceBEq, Int.reduceToNat, reduceCtorEq]
      refine seqM ?_
      refine blkM ?_
      refine seqM ?_
      obtain ⟨f3, H⟩ := need_some.1 H
      replace f3 := inb_iff.1 f3
      refine rg ctNo_ok ?_
      simp only [go_sem, Nat.reduceLeDiff, Nat.reduceLT, Nat.reduceAdd, Nat.reduceMul, Nat.reduceSub, Nat.reduceEqDiff, Nat.reduceBEq, Int.reduceToNat, reduceCtorEq, f3]
      repeat ((with_reducible refine And.intro ?_ ?_); focus (first | (with_reducible trivial) | omega | grind))
      refine seqM ?_
      obtain ⟨r4, e5, H⟩ := bsi H
      refine rg ct62_0t1_ok ?_
      simp only [go_sem, Nat.reduceLeDiff, Nat.reduceLT, Nat.reduceAdd, Nat.reduceMul, Nat.reduceSub, Nat.reduceEqDiff, Nat.reduceBEq, Int.reduceToNat, reduceCtorEq, ct62_0t1_63, body63_0, e5]
      repeat ((with_reducible refine And.intro ?_ ?_); focus (first | (and_intros <;> first | (with_reducible trivial) | omega | assumption | exact nfc | first | exact rfl | exact trivial | exact fitI | exact .inr rfl | exact .inl rfl | exact fun x hx => absurd hx (by omega)) | grind))
      refine condM' rfl trivial (fun hc => ?_) (fun hc => ?_)
      · replace H := cond_f hc H
        refine rg ctNo_ok ?_
        simp only [go_sem, Nat.reduceLeDiff, Nat.reduceLT, Nat.reduceAdd, Nat.reduceMul, Nat.reduceSub, Nat.reduceEqDiff, Nat.reduceBEq, Int.reduceToNat, reduceCtorEq]
        refine rg ctNo_ok ?_
        simp only [go_sem, Nat.reduceLeDiff, Nat.reduceLT, Nat.reduceAdd, Nat.reduceMul, Nat.reduceSub, Nat.reduceEqDiff, Nat.reduceBEq, Int.reduceToNat, reduceCtorEq]
        refine ⟨_, (Option.some.inj H).symm, ?_⟩
        refine SubF_of ⟨[some 0, some 1], ?_, ?_, by rfl, by rfl⟩
        · simp [CvL, Cv, getM, tp]
        · exact ⟨CvB_dead, CvB_row nr_TTree (by first | rfl | (simp; done) | (simp; omega)) (fun _ _ _ _ => rfl), trivial⟩
      replace H := cond_t hc H
      refine seqM ?_
      obtain ⟨f6, H⟩ := need_some.1 H
      replace f6 := inb_iff.1 f6
      refine rg ctNo_ok ?_
      simp only [go_sem, Nat.reduceLeDiff, Nat.reduceLT, Nat.reduceAdd, Nat.reduceMul, Nat.reduceSub, Nat.reduceEqDiff, Nat.reduceBEq, Int.reduceToNat, reduceCtorEq, f6]
      repeat ((with_reducible refine And.intro ?_ ?_); focus (first | (with_reducible trivial) | omega | grind))
      refine rg ctNo_ok ?_
      simp only [go_sem, Nat.reduceLeDiff, Nat.reduceLT, Nat.reduceAdd, Nat.reduceMul, Nat.reduceSub, Nat.reduceEqDiff, Nat.reduceBEq, Int.reduceToNat, reduceCtorEq]
      refine rg ctNo_ok ?_
      simp only [go_sem, Nat.reduceLeDiff, Nat.reduceLT, Nat.reduceAdd, Nat.reduceMul, Nat.reduceSub, Nat.reduceEqDiff, Nat.reduceBEq, Int.reduceToNat, reduceCtorEq]
      refine ⟨_, (Option.some.inj H).symm, ?_⟩
      refine SubF_of ⟨[some 0, some 1], ?_, ?_, by rfl, by rfl⟩
      · simp [CvL, Cv, getM, tp]
      · exact ⟨CvB_dead, CvB_row nr_TTree (by first | rfl | (simp; done) | (simp; omega)) (upc_row (f := c_TTree) v1_1 v1_2.toNat 0 (TTree.mk (A6u8.mk (((gd v1_1 v1_3.toNat).Root).x0) (((gd v1_1 v1_3.toNat).Root).x1) (((gd v1_1 v1_3.toNat).Root).x2) (((gd v1_1 v1_3.toNat).Root).x3) (((gd v1_1 v1_3.toNat).Root).x4) (((gd v1_1 v1_3.toNat).Root).x5)) (A6u8.mk (((gd v1_1 v1_3.toNat).Parent).x0) (((gd v1_1 v1_3.toNat).Parent).x1) (((gd v1_1 v1_3.toNat).Parent).x2) (((gd v1_1 v1_3.toNat).Parent).x3) (((gd v1_1 v1_3.toNat).Parent).x4) (((gd v1_1 v1_3.toNat).Parent).x5)) ((gd v1_1 v1_3.toNat).Seq) ((gd v1_1 v1_3.toNat).Hops) ((gd v1_1 v1_3.toNat).Cost) ((gd v1_1 v1_3.toNat).Gate) ((gd v1_1 v1_3.toNat).Until)) (fun _ _ _ _ => rfl) (fun y hy => match y, hy with | 0, _ => rfl | 1, _ => rfl | 2, _ => rfl | 3, _ => rfl | 4, _ => rfl | 5, _ => rfl | 6, _ => rfl | 7, _ => rfl | 8, _ => rfl | 9, _ => rfl | 10, _ => rfl | 11, _ => rfl | 12, _ => rfl | 13, _ => rfl | 14, _ => rfl | 15, _ => rfl | 16, _ => rfl | (y+17), h => absurd h (by omega))), trivial⟩
    · obtain ⟨w1_4, w1_5⟩ := e
      try dsimp only at H ⊢
      try simp only [tp]
      try simp only [m_normal, k_normal, b_normal, kL_normal, r_normal]
      refine seqM ?_
      obtain ⟨f7, H⟩ := need_some.1 H
      replace f7 := slb_iff.1 f7
      refine rg ctNo_ok ?_
      simp only [go_sem, Nat.reduceLeDiff, Nat.reduceLT, Nat.reduceAdd, Nat.reduceMul, Nat.reduceSub, Nat.reduceEqDiff, Nat.reduceBEq, Int.reduceToNat, reduceCtorEq, f7]
      repeat ((with_reducible refine And.intro ?_ ?_); focus (first | (and_intros <;> first | (with_reducible trivial) | omega | assumption | exact nfc | first | exact rfl | exact trivial | exact fitI | exact .inr rfl | exact .inl rfl | exact fun x hx => absurd hx (by omega) | (intro x hx; (repeat (first | (and_intros <;> (first | exact rfl | exact trivial | exact fitI | exact .inr rfl | exact .inl rfl | exact fun x hx => absurd hx (by omega))) | (exfalso; omega) | (rcases x with _ | x))); done)) | grind))
      refine seqM ?_
      obtain ⟨f8, H⟩ := need_some.1 H
      replace f8 := slb_iff.1 f8
      refine rg ctNo_ok ?_
      simp only [go_sem, Nat.reduceLeDiff, Nat.reduceLT, Nat.reduceAdd, Nat.reduceMul, Nat.reduceSub, Nat.reduceEqDiff, Nat.reduceBEq, Int.reduceToNat, reduceCtorEq, f8]
      repeat ((with_reducible refine And.intro ?_ ?_); focus (first | (with_reducible trivial) | omega | grind))
      refine rg ctNo_ok ?_
      simp only [go_sem, Nat.reduceLeDiff, Nat.reduceLT, Nat.reduceAdd, Nat.reduceMul, Nat.reduceSub, Nat.reduceEqDiff, Nat.reduceBEq, Int.reduceToNat, reduceCtorEq]
      obtain rfl := Option.some.inj H
      refine RetE_mk [] [some 0, some 1] ?_ ?_ ?_ ?_ (by rfl) (by rfl)
      · simp only [go_sem, Nat.reduceEqDiff, Nat.reduceBEq, Nat.reduceAdd]
        try (and_intros <;> first | trivial | omega | exact nfc)
      · simp only [go_sem, Nat.reduceEqDiff, Nat.reduceBEq, Nat.reduceAdd]
        try (and_intros <;> first | trivial | omega | exact nfc)
      · simp only [go_sem, Nat.reduceEqDiff, Nat.reduceBEq, Nat.reduceAdd]
        exact (by first | (simp [Cv, CvL, getM, gt_some, (show (List.take w1_5.toNat w1_4).length = w1_5.toNat from take_len (n := w1_4.length) (by first | rfl | (simp; done) | (simp; omega)) (by omega))]; done) | (simp [Cv, CvL, getM, gt_some, (show (List.take w1_5.toNat w1_4).length = w1_5.toNat from take_len (n := w1_4.length) (by first | rfl | (simp; done) | (simp; omega)) (by omega))]; omega))
      · simp only [go_sem, Nat.reduceEqDiff, Nat.reduceBEq, Nat.reduceAdd, CvH, gt_some, Option.isSome_some, Option.isSome_none]
        first | exact ⟨CvB_dead, (CvB_pre nr_TTree (by rw [show (List.take w1_5.toNat w1_4).length = w1_5.toNat from take_len (n := w1_4.length) (by first | rfl | (simp; done) | (simp; omega)) (by omega)]; omega) (clr_row (fun _ _ _ _ => rfl)))⟩ | trivial
  · cases hb
/-! hotspot/root.Tick$2 -/
noncomputable def F65_0 (p0 : TProxied) (p1 : Int) : Option (Bool) :=
  some (bLe p0.Until p1)
noncomputable def body65_0 : List AV -> AR
  | [v0, v1] => .pure (aK 13 k_TProxied v0 /\ rK 1 k_i64 v1 /\ (F65_0 (g_TProxied (aL v0)) (g_i64 (rG v1))).isSome = true) (.bool (gt (F65_0 (g_TProxied (aL v0)) (g_i64 (rG v1)))))
  | _ => .fail
set_option maxHeartbeats 4000000 in
set_option maxRecDepth 20000 in
theorem ok65_0 : FnOk Try.prog 65 (pureC body65_0) := by
  refine pure_fnM body65_0 (rs := [.tmp 3]) Try.func65 (by kernel_rfl) rfl rfl ?_
  intro l ob v hb hob
  unfold body65_0 at hb
  split at hb
  · rename_i v0 v1
    injection hb with q1 q2; subst q1 q2
    obtain ⟨hk0_0, hk1_0, hob⟩ := hob
    obtain ⟨r, H⟩ := Option.isSome_iff_exists.1 hob
    rw [H, gt_some]
    have hw0 := wA_TProxied hk0_0
    have hw1 := rK_wk (f := c_i64) (g := g_i64) (fun r h => w_i64 h) hk1_0
    generalize g_TProxied (aL v0) = p0 at H hw0
    generalize g_i64 (rG v1) = p1 at H hw1
    refine ⟨[.agg [.int .u8 p0.Out.x0, .int .u8 p0.Out.x1, .int .u8 p0.Out.x2, .int .u8 p0.Out.x3, .int .u8 p0.Out.x4, .int .u8 p0.Out.x5, .int .u8 p0.Via.x0, .int .u8 p0.Via.x1, .int .u8 p0.Via.x2, .int .u8 p0.Via.x3, .int .u8 p0.Via.x4, .int .u8 p0.Via.x5, .int .i64 p0.Until], .rptr 1 1 0 0 (enR c_i64 [p1])], _, (fun E vs F => FR_wk1 hw0.1 F (fun vs F => FR_wk1 hw1.1 F (fun vs F => F))), rfl, rfl, ?_⟩
    rw [Try.ntmps65]
    simp only [List.length_cons, List.length_nil, Nat.reduceAdd, Nat.reduceSub, List.replicate_succ, List.replicate_zero, List.cons_append, List.nil_append]
    unfold F65_0 at H
    try dsimp only at H
    refine sq ctNo_ok ?_
    simp only [go_sem, Nat.reduceLeDiff, Nat.reduceLT, Nat.reduceAdd, Nat.reduceMul, Nat.reduceSub, Nat.reduceEqDiff, Nat.reduceBEq, Int.reduceToNat, reduceCtorEq]
    refine sq ctNo_ok ?_
    simp only [go_sem, Nat.reduceLeDiff, Nat.reduceLT, Nat.reduceAdd, Nat.reduceMul, Nat.reduceSub, Nat.reduceEqDiff, Nat.reduceBEq, Int.reduceToNat, reduceCtorEq]
    refine rg ctNo_ok ?_
    simp only [go_sem, Nat.reduceLeDiff, Nat.reduceLT, Nat.reduceAdd, Nat.reduceMul, Nat.reduceSub, Nat.reduceEqDiff, Nat.reduceBEq, Int.reduceToNat, reduceCtorEq]
    obtain rfl := Option.some.inj H
    first | rfl | simp only [Bool.and_false, Bool.false_and, Bool.and_true, Bool.true_and]
  · cases hb
/-! slices.IndexFunc[[]hotspot/api.Proxied,hotspot/api.Proxied] -/
noncomputable def ct92_0t0 : Ct := tab [(65, pureC body65_0)]
theorem ct92_0t0_ok : CtOk Try.prog ct92_0t0 := tab_cons ok65_0 <| tab_nil
theorem ct92_0t0_65 (l : List AV) (h : List ABlk) : ct92_0t0 65 l h = pureC body65_0 l h := rfl
noncomputable def F92_0_L1 (p0 : List TProxied) (p1 : Int) (v1_1 : Int) : Option (Lp (Int) ((Unit) ⊕ (Int))) :=
  bif (bLt v1_1 (p0.length : Nat)) then (need (inb v1_1 p0.length) <| (F65_0 (TProxied.mk (A6u8.mk (((gd p0 v1_1.toNat).Out).x0) (((gd p0 v1_1.toNat).Out).x1) (((gd p0 v1_1.toNat).Out).x2) (((gd p0 v1_1.toNat).Out).x3) (((gd p0 v1_1.toNat).Out).x4) (((gd p0 v1_1.toNat).Out).x5)) (A6u8.mk (((gd p0 v1_1.toNat).Via).x0) (((gd p0 v1_1.toNat).Via).x1) (((gd p0 v1_1.toNat).Via).x2) (((gd p0 v1_1.toNat).Via).x3) (((gd p0 v1_1.toNat).Via).x4) (((gd p0 v1_1.toNat).Via).x5)) ((gd p0 v1_1.toNat).Until)) p1).bind fun r2 => bif r2 then (some (.done (.inr v1_1))) else (some (.next (wr .i64 (v1_1 + 1))))) else (some (.done (.inl ())))
noncomputable def F92_0 (p0 : List TProxied) (p1 : Int) : Option (Int) :=
  lp (loopD (fun s => F92_0_L1 p0 p1 s) 0) (fun e => some (-1)) some
noncomputable def body92_0 : List AV -> AR
  | [v0, .fn 65 [v1]] => .pure (lK k_TProxied 13 v0 /\ rK 1 k_i64 v1 /\ (F92_0 (lA g_TProxied v0) (g_i64 (rG v1))).isSome = true) (.int .i64 (gt (F92_0 (lA g_TProxied v0) (g_i64 (rG v1)))))
  | _ => .fail
set_option maxHeartbeats 4000000 in
set_option maxRecDepth 20000 in
theorem ok92_0 : FnOk Try.prog 92 (pureC body92_0) := by
  refine pure_fnM body92_0 (rs := [.tmp 4]) Try.func92 (by kernel_rfl) rfl rfl ?_
  intro l ob v hb hob
  unfold body92_0 at hb
  split at hb
  · rename_i v0 v1
    injection hb with q1 q2; subst q1 q2
    obtain ⟨hk0_0, hk1_0, hob⟩ := hob
    obtain ⟨r, H⟩ := Option.isSome_iff_exists.1 hob
    rw [H, gt_some]
    have hw0 := lK_wk (fun r h => w_TProxied h) hk0_0
    have hw1 := rK_wk (f := c_i64) (g := g_i64) (fun r h => w_i64 h) hk1_0
    generalize lA g_TProxied v0 = p0 at H hw0
    generalize g_i64 (rG v1) = p1 at H hw1
    refine ⟨[.ro 13 p0.length false (enR c_TProxied p0), .fn 65 [.rptr 1 1 0 0 (enR c_i64 [p1])]], _, (fun E vs F => FR_wk1 hw0.1 F (fun vs F => FR_wk1 (fn_wk (LW_cons hw1.1 LW_nil)) F (fun vs F => F))), rfl, rfl, ?_⟩
    rw [Try.ntmps92]
    simp only [List.length_cons, List.length_nil, Nat.reduceAdd, Nat.reduceSub, List.replicate_succ, List.replicate_zero, List.cons_append, List.nil_append]
    unfold F92_0 at H
    try dsimp only at H
    refine sq ctNo_ok ?_
    simp only [go_sem, Nat.reduceLeDiff, Nat.reduceLT, Nat.reduceAdd, Nat.reduceMul, Nat.reduceSub, Nat.reduceEqDiff, Nat.reduceBEq, Int.reduceToNat, reduceCtorEq]
    refine seqM ?_
    refine sq ctNo_ok ?_
    simp only [go_sem, Nat.reduceLeDiff, Nat.reduceLT, Nat.reduceAdd, Nat.reduceMul, Nat.reduceSub, Nat.reduceEqDiff, Nat.reduceBEq, Int.reduceToNat, reduceCtorEq]
    repeat ((with_reducible refine And.intro ?_ ?_); focus (first | (and_intros <;> first | (with_reducible trivial) | omega | assumption | exact nfc | first | exact rfl | exact trivial | exact fitI | exact .inr rfl | exact .inl rfl | exact fun x hx => absurd hx (by omega)) | grind))
    refine blkM ?_
    refine loop_den (fun s : Int => (.ro 13 p0.length false (enR c_TProxied p0) :: .fn 65 [.rptr 1 1 0 0 (enR c_i64 [p1])] :: tp 5 (.int .i64 (p0.length : Nat) :: .int .i64 s :: tp 10 []))) (fun s => []) (fun e : Unit => (tp 19 [])) (fun e => []) H ?_ (fun v1_1 o H hn1_1 hn2_1 => ?_) (fun e H => ?_)
    · refine SubF_of ⟨[], ?_, ?_, by rfl, by rfl⟩
      · simp [CvL, Cv, getM, tp]
      · trivial
    · unfold F92_0_L1 at H
      try dsimp only at H ⊢
      try simp only [tp]
      refine sq ctNo_ok ?_
      simp only [go_sem, Nat.reduceLeDiff, Nat.reduceLT, Nat.reduceAdd, Nat.reduceMul, Nat.reduceSub, Nat.reduceEqDiff, Nat.reduceBEq, Int.reduceToNat, reduceCtorEq]
      refine seqM ?_
      refine condM' rfl trivial (fun hc => ?_) (fun hc => ?_)
      · replace H := cond_f hc H
        refine rg ctNo_ok ?_
        simp only [go_sem, Nat.reduceLeDiff, Nat.reduceLT, Nat.reduceAdd, Nat.reduceMul, Nat.reduceSub, Nat.reduceEqDiff, Nat.reduceBEq, Int.reduceToNat, reduceCtorEq]
        refine ⟨_, (Option.some.inj H).symm, ?_⟩
        refine SubF_of ⟨[], ?_, ?_, by rfl, by rfl⟩
        · simp [CvL, Cv, getM, tp]
        · trivial
      replace H := cond_t hc H
      refine rg ctNo_ok ?_
      simp only [go_sem, Nat.reduceLeDiff, Nat.reduceLT, Nat.reduceAdd, Nat.reduceMul, Nat.reduceSub, Nat.reduceEqDiff, Nat.reduceBEq, Int.reduceToNat, reduceCtorEq]
      refine seqM ?_
      refine blkM ?_
      refine sq ctNo_ok ?_
      simp only [go_sem, Nat.reduceLeDiff, Nat.reduceLT, Nat.reduceAdd, Nat.reduceMul, Nat.reduceSub, Nat.reduceEqDiff, Nat.reduceBEq, Int.reduceToNat, reduceCtorEq]
      refine seqM ?_
      obtain ⟨f1, H⟩ := need_some.1 H
      replace f1 := inb_iff.1 f1
      obtain ⟨r2, e3, H⟩ := bsi H
      refine rg ct92_0t0_ok ?_
      simp only [go_sem, Nat.reduceLeDiff, Nat.reduceLT, Nat.reduceAdd, Nat.reduceMul, Nat.reduceSub, Nat.reduceEqDiff, Nat.reduceBEq, Int.reduceToNat, reduceCtorEq, ct92_0t0_65, body65_0, f1, e3]
      repeat ((with_reducible refine And.intro ?_ ?_); focus (first | (and_intros <;> first | (with_reducible trivial) | omega | assumption | exact nfc | first | exact rfl | exact trivial | exact fitI | exact .inr rfl | exact .inl rfl | exact fun x hx => absurd hx (by omega)) | grind))
      refine condM rfl trivial (fun hc => ?_) (fun hc => ?_)
      · replace H := cond_t hc H
        refine sq ctNo_ok ?_
        simp only [go_sem, Nat.reduceLeDiff, Nat.reduceLT, Nat.reduceAdd, Nat.reduceMul, Nat.reduceSub, Nat.reduceEqDiff, Nat.reduceBEq, Int.reduceToNat, reduceCtorEq]
        refine rg ctNo_ok ?_
        simp only [go_sem, Nat.reduceLeDiff, Nat.reduceLT, Nat.reduceAdd, Nat.reduceMul, Nat.reduceSub, Nat.reduceEqDiff, Nat.reduceBEq, Int.reduceToNat, reduceCtorEq]
        have H := hn2_1 _ (Option.some.inj H).symm
        obtain rfl := Option.some.inj H
        first | rfl | simp only [Bool.and_false, Bool.false_and, Bool.and_true, Bool.true_and]
      replace H := cond_f hc H
      refine rg ctNo_ok ?_
      simp only [go_sem, Nat.reduceLeDiff, Nat.reduceLT, Nat.reduceAdd, Nat.reduceMul, Nat.reduceSub, Nat.reduceEqDiff, Nat.reduceBEq, Int.reduceToNat, reduceCtorEq]
      refine rg ctNo_ok ?_
      simp only [go_sem, Nat.reduceLeDiff, Nat.reduceLT, Nat.reduceAdd, Nat.reduceMul, Nat.reduceSub, Nat.reduceEqDiff, Nat.reduceBEq, Int.reduceToNat, reduceCtorEq]
      refine ⟨_, (Option.some.inj H).symm, ?_⟩
      refine SubF_of ⟨[], ?_, ?_, by rfl, by rfl⟩
      · simp [CvL, Cv, getM, tp]
      · trivial
    · try dsimp only at H ⊢
      try simp only [tp]
      try simp only [m_normal, k_normal, b_normal, kL_normal, r_normal]
      refine sq ctNo_ok ?_
      simp only [go_sem, Nat.reduceLeDiff, Nat.reduceLT, Nat.reduceAdd, Nat.reduceMul, Nat.reduceSub, Nat.reduceEqDiff, Nat.reduceBEq, Int.reduceToNat, reduceCtorEq]
      refine rg ctNo_ok ?_
      simp only [go_sem, Nat.reduceLeDiff, Nat.reduceLT, Nat.reduceAdd, Nat.reduceMul, Nat.reduceSub, Nat.reduceEqDiff, Nat.reduceBEq, Int.reduceToNat, reduceCtorEq]
      obtain rfl := Option.some.inj H
      first | rfl | simp only [Bool.and_false, Bool.false_and, Bool.and_true, Bool.true_and]
  · cases hb
/-! slices.DeleteFunc[[]hotspot/api.Proxied,hotspot/api.Proxied] -/
noncomputable def ct64_0t0 : Ct := tab [(92, pureC body92_0)]
theorem ct64_0t0_ok : CtOk Try.prog ct64_0t0 := tab_cons ok92_0 <| tab_nil
theorem ct64_0t0_92 (l : List AV) (h : List ABlk) : ct64_0t0 92 l h = pureC body92_0 l h := rfl
noncomputable def ct64_0t1 : Ct := tab [(65, pureC body65_0)]
theorem ct64_0t1_ok : CtOk Try.prog ct64_0t1 := tab_cons ok65_0 <| tab_nil
theorem ct64_0t1_65 (l : List AV) (h : List ABlk) : ct64_0t1 65 l h = pureC body65_0 l h := rfl
noncomputable def F64_0_L1 (p1 : Int) (v1_1 : List TProxied) (v1_2 : Int) (v1_3 : Int) : Option (Lp ((List TProxied) × Int × Int) (((List TProxied) × Int) ⊕ (List TProxied))) :=
  bif (bLt v1_3 (v1_1.length : Nat)) then (need (inb v1_3 v1_1.length) <| (F65_0 (TProxied.mk (A6u8.mk (((gd v1_1 v1_3.toNat).Out).x0) (((gd v1_1 v1_3.toNat).Out).x1) (((gd v1_1 v1_3.toNat).Out).x2) (((gd v1_1 v1_3.toNat).Out).x3) (((gd v1_1 v1_3.toNat).Out).x4) (((gd v1_1 v1_3.toNat).Out).x5)) (A6u8.mk (((gd v1_1 v1_3.toNat).Via).x0) (((gd v1_1 v1_3.toNat).Via).x1) (((gd v1_1 v1_3.toNat).Via).x2) (((gd v1_1 v1_3.toNat).Via).x3) (((gd v1_1 v1_3.toNat).Via).x4) (((gd v1_1 v1_3.toNat).Via).x5)) ((gd v1_1 v1_3.toNat).Until)) p1).bind fun r4 => bif (!r4) then (need (inb v1_2 v1_1.length) <| some (.next ((v1_1.set v1_2.toNat (TProxied.mk (A6u8.mk (((gd v1_1 v1_3.toNat).Out).x0) (((gd v1_1 v1_3.toNat).Out).x1) (((gd v1_1 v1_3.toNat).Out).x2) (((gd v1_1 v1_3.toNat).Out).x3) (((gd v1_1 v1_3.toNat).Out).x4) (((gd v1_1 v1_3.toNat).Out).x5)) (A6u8.mk (((gd v1_1 v1_3.toNat).Via).x0) (((gd v1_1 v1_3.toNat).Via).x1) (((gd v1_1 v1_3.toNat).Via).x2) (((gd v1_1 v1_3.toNat).Via).x3) (((gd v1_1 v1_3.toNat).Via).x4) (((gd v1_1 v1_3.toNat).Via).x5)) ((gd v1_1 v1_3.toNat).Until))), wr .i64 (v1_2 + 1), wr .i64 (v1_3 + 1)))) else (some (.next (v1_1, v1_2, wr .i64 (v1_3 + 1))))) else (some (.done (.inl (v1_1, v1_2))))
noncomputable def F64_0 (p0 : List TProxied) (p1 : Int) : Option (List TProxied) :=
  (F92_0 p0 p1).bind fun r1 => bif (bEq r1 (-1)) then (some p0) else (lp (loopD (fun s => F64_0_L1 p1 s.1 s.2.1 s.2.2) (p0, r1, wr .i64 (r1 + 1))) (fun e => need (slb e.2 (e.1.length : Nat) e.1.length) <| need (slb 0 e.2 e.1.length) <| some (List.take e.2.toNat e.1)) some)
noncomputable def body64_0 : List AV -> List ABlk -> ED
  | [v0, .fn 65 [v1]], h => .ed [slN v0] (oS 64 13 h v0 /\ lK k_TProxied 13 (roW h v0) /\ rK 1 k_i64 (roD (deadL h [slN v0]) v1) /\ roDOb (deadL h [slN v0]) v1 /\ (F64_0 (lA g_TProxied (roW h v0)) (g_i64 (rG (roD (deadL h [slN v0]) v1)))).isSome = true) (.sl 1 13 0 ((gt (F64_0 (lA g_TProxied (roW h v0)) (g_i64 (rG (roD (deadL h [slN v0]) v1))))).length) false) [.dead, .row 64 13 ((gt (F64_0 (lA g_TProxied (roW h v0)) (g_i64 (rG (roD (deadL h [slN v0]) v1))))).length) (enR c_TProxied (gt (F64_0 (lA g_TProxied (roW h v0)) (g_i64 (rG (roD (deadL h [slN v0]) v1))))))]
  | _, _ => .fail
set_option maxHeartbeats 4000000 in
set_option maxRecDepth 20000 in
theorem ok64_0 : FnOk Try.prog 64 (edC body64_0) := by
  refine edit_fnV body64_0 (rs := [.tmp 4]) Try.func64 (by kernel_rfl) rfl rfl ?_
  intro l h bs ob q0 g0 hb hob
  unfold body64_0 at hb
  split at hb
  · rename_i v0 v1
    injection hb with q1 q2 q3 q4; subst q1 q2 q3 q4
    obtain ⟨hk0_0, hk0_1, hk1_0, hk1_1, hob⟩ := hob
    obtain ⟨r, H⟩ := Option.isSome_iff_exists.1 hob
    rw [H, gt_some]
    obtain ⟨p0, hp0⟩ : ∃ p0, p0 = lA g_TProxied (roW h v0) := ⟨_, rfl⟩
    rw [← hp0] at H
    obtain ⟨ev0, eb0⟩ := own_row2 (f := c_TProxied) (g := g_TProxied) (bs := [slN v0]) (i := 0) (fun hr => w_TProxied hr) hk0_0 hk0_1 (L := p0) (by rw [hp0]) rfl
    have hw1 := rK_wk (f := c_i64) (g := g_i64) (fun r h => w_i64 h) hk1_0
    obtain ⟨p1, hp_p1⟩ : ∃ p1, p1 = g_i64 (rG (roD (deadL h [slN v0]) v1)) := ⟨_, rfl⟩
    rw [← hp_p1] at H hw1
    refine ⟨[.sl 0 13 0 p0.length false, .fn 65 [.rptr 1 1 0 0 (enR c_i64 [p1])]], [.row 64 13 p0.length (enR c_TProxied p0)], rfl, ⟨(EW_own ev0 (by simp only [noro])), ⟨(EW_fn ⟨(EW_view hk1_1 hw1), trivial⟩), trivial⟩⟩, ⟨eb0, trivial⟩, ⟨noroB_en, trivial⟩, ⟨trivial, ⟨(nfB_en nr_TProxied), trivial⟩⟩, ⟨trivial, ⟨noroB_en, trivial⟩⟩, (by first | (simp only [noro, noroL, and_self]; done) | (simp only [noro, noroL]; and_intros <;> first | trivial | exact noro_bif (by simp only [noro]) (by simp only [noro]) | (simp only [noro, noroL, and_self]))), ?_⟩
    rw [Try.ntmps64]
    simp only [List.length_cons, List.length_nil, Nat.reduceAdd, Nat.reduceSub, List.replicate_succ, List.replicate_zero, List.cons_append, List.nil_append]
    unfold F64_0 at H
    try dsimp only at H
    refine sq ctNo_ok ?_
    simp only [go_sem, Nat.reduceLeDiff, Nat.reduceLT, Nat.reduceAdd, Nat.reduceMul, Nat.reduceSub, Nat.reduceEqDiff, Nat.reduceBEq, Int.reduceToNat, reduceCtorEq]
    refine seqM ?_
    obtain ⟨r1, e2, H⟩ := bsi H
    refine rg ct64_0t0_ok ?_
    simp only [go_sem, Nat.reduceLeDiff, Nat.reduceLT, Nat.reduceAdd, Nat.reduceMul, Nat.reduceSub, Nat.reduceEqDiff, Nat.reduceBEq, Int.reduceToNat, reduceCtorEq, ct64_0t0_92, body92_0, e2]
    repeat ((with_reducible refine And.intro ?_ ?_); focus (first | (and_intros <;> first | (with_reducible trivial) | omega | assumption | exact nfc | first | exact rfl | exact trivial | exact fitI | exact .inr rfl | exact .inl rfl | exact fun x hx => absurd hx (by omega)) | grind))
    refine seqM ?_
    refine sq ctNo_ok ?_
    simp only [go_sem, Nat.reduceLeDiff, Nat.reduceLT, Nat.reduceAdd, Nat.reduceMul, Nat.reduceSub, Nat.reduceEqDiff, Nat.reduceBEq, Int.reduceToNat, reduceCtorEq]
    refine condM rfl trivial (fun hc => ?_) (fun hc => ?_)
    · replace H := cond_t hc H
      refine sq ctNo_ok ?_
      simp only [go_sem, Nat.reduceLeDiff, Nat.reduceLT, Nat.reduceAdd, Nat.reduceMul, Nat.reduceSub, Nat.reduceEqDiff, Nat.reduceBEq, Int.reduceToNat, reduceCtorEq]
      refine rg ctNo_ok ?_
      simp only [go_sem, Nat.reduceLeDiff, Nat.reduceLT, Nat.reduceAdd, Nat.reduceMul, Nat.reduceSub, Nat.reduceEqDiff, Nat.reduceBEq, Int.reduceToNat, reduceCtorEq]
      obtain rfl := Option.some.inj H
      refine RetE_mk [] [some 0, some 0] ?_ ?_ ?_ ?_ (by rfl) (by rfl)
      · simp only [go_sem, Nat.reduceEqDiff, Nat.reduceBEq, Nat.reduceAdd]
        try (and_intros <;> first | trivial | omega | exact nfc)
      · simp only [go_sem, Nat.reduceEqDiff, Nat.reduceBEq, Nat.reduceAdd]
        try (and_intros <;> first | trivial | omega | exact nfc)
      · simp only [go_sem, Nat.reduceEqDiff, Nat.reduceBEq, Nat.reduceAdd]
        exact (by first | (simp [Cv, CvL, getM, gt_some]; done) | (simp [Cv, CvL, getM, gt_some]; omega))
      · simp only [go_sem, Nat.reduceEqDiff, Nat.reduceBEq, Nat.reduceAdd, CvH, gt_some, Option.isSome_some, Option.isSome_none]
        first | exact ⟨CvB_dead, CvB_row nr_TProxied (by first | rfl | (simp; done) | (simp; omega)) (fun _ _ _ _ => rfl)⟩ | trivial
    replace H := cond_f hc H
    refine rg ctNo_ok ?_
    simp only [go_sem, Nat.reduceLeDiff, Nat.reduceLT, Nat.reduceAdd, Nat.reduceMul, Nat.reduceSub, Nat.reduceEqDiff, Nat.reduceBEq, Int.reduceToNat, reduceCtorEq]
    refine seqM ?_
    refine sq ctNo_ok ?_
    simp only [go_sem, Nat.reduceLeDiff, Nat.reduceLT, Nat.reduceAdd, Nat.reduceMul, Nat.reduceSub, Nat.reduceEqDiff, Nat.reduceBEq, Int.reduceToNat, reduceCtorEq]
    refine blkM ?_
    refine loop_den (fun s : (List TProxied) × Int × Int => (.sl 1 13 0 s.1.length false :: .fn 65 [.rptr 1 1 0 0 (enR c_i64 [p1])] :: .top :: .top :: .top :: .int .i64 s.2.1 :: .int .i64 s.2.2 :: tp 35 [])) (fun s => [.dead, .row 64 13 s.1.length (enR c_TProxied s.1)]) (fun e : (List TProxied) × Int => (.sl 1 13 0 e.1.length false :: tp 4 (.int .i64 e.2 :: tp 36 []))) (fun e => [.dead, .row 64 13 e.1.length (enR c_TProxied e.1)]) H ?_ (fun s o H hn1_1 hn2_1 => ?_) (fun e H => ?_)
    · refine SubF_of ⟨[some 0, some 0], ?_, ?_, by rfl, by rfl⟩
      · simp [CvL, Cv, getM, tp]
      · exact ⟨CvB_dead, CvB_row nr_TProxied (by first | rfl | (simp; done) | (simp; omega)) (fun _ _ _ _ => rfl), trivial⟩
    · obtain ⟨v1_1, v1_2, v1_3⟩ := s
      unfold F64_0_L1 at H
      try dsimp only at H ⊢
      try simp only [tp]
      refine seqM ?_
      refine sq ctNo_ok ?_
      simp only [go_sem, Nat.reduceLeDiff, Nat.reduceLT, Nat.reduceAdd, Nat.reduceMul, Nat.reduceSub, Nat.reduceEqDiff, Nat.reduceBEq, Int.reduceToNat, reduceCtorEq]
      repeat ((with_reducible refine And.intro ?_ ?_); focus (first | (and_intros <;> first | (with_reducible trivial) | omega | assumption | exact nfc | first | exact rfl | exact trivial | exact fitI | exact .inr rfl | exact .inl rfl | exact fun x hx => absurd hx (by omega)) | grind))
      refine condM' rfl trivial (fun hc => ?_) (fun hc => ?_)
      · replace H := cond_f hc H
        refine rg ctNo_ok ?_
        simp only [go_sem, Nat.reduceLeDiff, Nat.reduceLT, Nat.reduceAdd, Nat.reduceMul, Nat.reduceSub, Nat.reduceEqDiff, Nat.reduceBEq, Int.reduceToNat, reduceCtorEq]
        refine ⟨_, (Option.some.inj H).symm, ?_⟩
        refine SubF_of ⟨[some 0, some 1], ?_, ?_, by rfl, by rfl⟩
        · simp [CvL, Cv, getM, tp]
        · exact ⟨CvB_dead, CvB_row nr_TProxied (by first | rfl | (simp; done) | (simp; omega)) (fun _ _ _ _ => rfl), trivial⟩
      replace H := cond_t hc H
      refine rg ctNo_ok ?_
      simp only [go_sem, Nat.reduceLeDiff, Nat.reduceLT, Nat.reduceAdd, Nat.reduceMul, Nat.reduceSub, Nat.reduceEqDiff, Nat.reduceBEq, Int.reduceToNat, reduceCtorEq]
      refine seqM ?_
      refine blkM ?_
      refine seqM ?_
      obtain ⟨f3, H⟩ := need_some.1 H
      replace f3 := inb_iff.1 f3
      refine rg ctNo_ok ?_
      simp only [go_sem, Nat.reduceLeDiff, Nat.reduceLT, Nat.reduceAdd, Nat.reduceMul, Nat.reduceSub, Nat.reduceEqDiff, Nat.reduceBEq, Int.reduceToNat, reduceCtorEq, f3]
      repeat ((with_reducible refine And.intro ?_ ?_); focus (first | (with_reducible trivial) | omega | grind))
      refine seqM ?_
      obtain ⟨r4, e5, H⟩ := bsi H
      refine rg ct64_0t1_ok ?_
      simp only [go_sem, Nat.reduceLeDiff, Nat.reduceLT, Nat.reduceAdd, Nat.reduceMul, Nat.reduceSub, Nat.reduceEqDiff, Nat.reduceBEq, Int.reduceToNat, reduceCtorEq, ct64_0t1_65, body65_0, e5]
      repeat ((with_reducible refine And.intro ?_ ?_); focus (first | (and_intros <;> first | (with_reducible trivial) | omega | assumption | exact nfc | first | exact rfl | exact trivial | exact fitI | exact .inr rfl | exact .inl rfl | exact fun x hx => absurd hx (by omega)) | grind))
      refine condM' rfl trivial (fun hc => ?_) (fun hc => ?_)
      · replace H := cond_f hc H
        refine rg ctNo_ok ?_
        simp only [go_sem, Nat.reduceLeDiff, Nat.reduceLT, Nat.reduceAdd, Nat.reduceMul, Nat.reduceSub, Nat.reduceEqDiff, Nat.reduceBEq, Int.reduceToNat, reduceCtorEq]
        refine rg ctNo_ok ?_
        simp only [go_sem, Nat.reduceLeDiff, Nat.reduceLT, Nat.reduceAdd, Nat.reduceMul, Nat.reduceSub, Nat.reduceEqDiff, Nat.reduceBEq, Int.reduceToNat, reduceCtorEq]
        refine ⟨_, (Option.some.inj H).symm, ?_⟩
        refine SubF_of ⟨[some 0, some 1], ?_, ?_, by rfl, by rfl⟩
        · simp [CvL, Cv, getM, tp]
        · exact ⟨CvB_dead, CvB_row nr_TProxied (by first | rfl | (simp; done) | (simp; omega)) (fun _ _ _ _ => rfl), trivial⟩
      replace H := cond_t hc H
      refine seqM ?_
      obtain ⟨f6, H⟩ := need_some.1 H
      replace f6 := inb_iff.1 f6
      refine rg ctNo_ok ?_
      simp only [go_sem, Nat.reduceLeDiff, Nat.reduceLT, Nat.reduceAdd, Nat.reduceMul, Nat.reduceSub, Nat.reduceEqDiff, Nat.reduceBEq, Int.reduceToNat, reduceCtorEq, f6]
      repeat ((with_reducible refine And.intro ?_ ?_); focus (first | (with_reducible trivial) | omega | grind))
      refine rg ctNo_ok ?_
      simp only [go_sem, Nat.reduceLeDiff, Nat.reduceLT, Nat.reduceAdd, Nat.reduceMul, Nat.reduceSub, Nat.reduceEqDiff, Nat.reduceBEq, Int.reduceToNat, reduceCtorEq]
      refine rg ctNo_ok ?_
      simp only [go_sem, Nat.reduceLeDiff, Nat.reduceLT, Nat.reduceAdd, Nat.reduceMul, Nat.reduceSub, Nat.reduceEqDiff, Nat.reduceBEq, Int.reduceToNat, reduceCtorEq]
      refine ⟨_, (Option.some.inj H).symm, ?_⟩
      refine SubF_of ⟨[some 0, some 1], ?_, ?_, by rfl, by rfl⟩
      · simp [CvL, Cv, getM, tp]
      · exact ⟨CvB_dead, CvB_row nr_TProxied (by first | rfl | (simp; done) | (simp; omega)) (upc_row (f := c_TProxied) v1_1 v1_2.toNat 0 (TProxied.mk (A6u8.mk (((gd v1_1 v1_3.toNat).Out).x0) (((gd v1_1 v1_3.toNat).Out).x1) (((gd v1_1 v1_3.toNat).Out).x2) (((gd v1_1 v1_3.toNat).Out).x3) (((gd v1_1 v1_3.toNat).Out).x4) (((gd v1_1 v1_3.toNat).Out).x5)) (A6u8.mk (((gd v1_1 v1_3.toNat).Via).x0) (((gd v1_1 v1_3.toNat).Via).x1) (((gd v1_1 v1_3.toNat).Via).x2) (((gd v1_1 v1_3.toNat).Via).x3) (((gd v1_1 v1_3.toNat).Via).x4) (((gd v1_1 v1_3.toNat).Via).x5)) ((gd v1_1 v1_3.toNat).Until)) (fun _ _ _ _ => rfl) (fun y hy => match y, hy with | 0, _ => rfl | 1, _ => rfl | 2, _ => rfl | 3, _ => rfl | 4, _ => rfl | 5, _ => rfl | 6, _ => rfl | 7, _ => rfl | 8, _ => rfl | 9, _ => rfl | 10, _ => rfl | 11, _ => rfl | 12, _ => rfl | (y+13), h => absurd h (by omega))), trivial⟩
    · obtain ⟨w1_4, w1_5⟩ := e
      try dsimp only at H ⊢
      try simp only [tp]
      try simp only [m_normal, k_normal, b_normal, kL_normal, r_normal]
      refine seqM ?_
      obtain ⟨f7, H⟩ := need_some.1 H
      replace f7 := slb_iff.1 f7
      refine rg ctNo_ok ?_
      simp only [go_sem, Nat.reduceLeDiff, Nat.reduceLT, Nat.reduceAdd, Nat.reduceMul, Nat.reduceSub, Nat.reduceEqDiff, Nat.reduceBEq, Int.reduceToNat, reduceCtorEq, f7]
      repeat ((with_reducible refine And.intro ?_ ?_); focus (first | (and_intros <;> first | (with_reducible trivial) | omega | assumption | exact nfc | first | exact rfl | exact trivial | exact fitI | exact .inr rfl | exact .inl rfl | exact fun x hx => absurd hx (by omega) | (intro x hx; (repeat (first | (and_intros <;> (first | exact rfl | exact trivial | exact fitI | exact .inr rfl | exact .inl rfl | exact fun x hx => absurd hx (by omega))) | (exfalso; omega) | (rcases x with _ | x))); done)) | grind))
      refine seqM ?_
      obtain ⟨f8, H⟩ := need_some.1 H
      replace f8 := slb_iff.1 f8
      refine rg ctNo_ok ?_
      simp only [go_sem, Nat.reduceLeDiff, Nat.reduceLT, Nat.reduceAdd, Nat.reduceMul, Nat.reduceSub, Nat.reduceEqDiff, Nat.reduceBEq, Int.reduceToNat, reduceCtorEq, f8]
      repeat ((with_reducible refine And.intro ?_ ?_); focus (first | (with_reducible trivial) | omega | grind))
      refine rg ctNo_ok ?_
      simp only [go_sem, Nat.reduceLeDiff, Nat.reduceLT, Nat.reduceAdd, Nat.reduceMul, Nat.reduceSub, Nat.reduceEqDiff, Nat.reduceBEq, Int.reduceToNat, reduceCtorEq]
      obtain rfl := Option.some.inj H
      refine RetE_mk [] [some 0, some 1] ?_ ?_ ?_ ?_ (by rfl) (by rfl)
      · simp only [go_sem, Nat.reduceEqDiff, Nat.reduceBEq, Nat.reduceAdd]
        try (and_intros <;> first | trivial | omega | exact nfc)
      · simp only [go_sem, Nat.reduceEqDiff, Nat.reduceBEq, Nat.reduceAdd]
        try (and_intros <;> first | trivial | omega | exact nfc)
      · simp only [go_sem, Nat.reduceEqDiff, Nat.reduceBEq, Nat.reduceAdd]
        exact (by first | (simp [Cv, CvL, getM, gt_some, (show (List.take w1_5.toNat w1_4).length = w1_5.toNat from take_len (n := w1_4.length) (by first | rfl | (simp; done) | (simp; omega)) (by omega))]; done) | (simp [Cv, CvL, getM, gt_some, (show (List.take w1_5.toNat w1_4).length = w1_5.toNat from take_len (n := w1_4.length) (by first | rfl | (simp; done) | (simp; omega)) (by omega))]; omega))
      · simp only [go_sem, Nat.reduceEqDiff, Nat.reduceBEq, Nat.reduceAdd, CvH, gt_some, Option.isSome_some, Option.isSome_none]
        first | exact ⟨CvB_dead, (CvB_pre nr_TProxied (by rw [show (List.take w1_5.toNat w1_4).length = w1_5.toNat from take_len (n := w1_4.length) (by first | rfl | (simp; done) | (simp; omega)) (by omega)]; omega) (clr_row (fun _ _ _ _ => rfl)))⟩ | trivial
  · cases hb
end Go.Proofs.Ytdcepineppafpaa
