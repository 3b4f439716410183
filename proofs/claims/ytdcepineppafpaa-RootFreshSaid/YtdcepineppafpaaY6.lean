/-
  What RootFresh reaches.
-/
import Derived.Test.YtdcepineppafpaaY6p1
namespace Go.Proofs.Ytdcepineppafpaa
open Go.Am
set_option linter.unusedVariables false
set_option linter.unusedSimpArgs false
attribute [local go_sem] w_skip w_label w_goto w_scope k_goto b_goto l_goto s_normal s_exit s_ret s_goto w_region w_draw w_seq w_cond w_block w_exit w_ret w_loop k_normal k_exit k_ret b_normal b_exit b_ret l_normal l_exit l_ret m_normal m_exit m_ret m_goto kL_normal kL_exit kL_ret kS_normal kS_exit kS_ret kS_goto r_normal r_ret o_nil o_cons q_nil q_cons nxt gval gvd gvl gvw dstOf evO ogOp ogC og ogL ogP ogO rho rhoO strip optOk getL setL setT absC absV absL pO hO evLoad ldB geth seth evStore stRes stB evBox evAlloc evFieldAddr evField evIndexAddr evBin2 binI binB binNR binU nilR_isEmpty nilR_t nilR_0 nilR_s evInt evStr evUn evConv cvO evPick mrg evExtract evNil evCall mapR evBuiltin evLen2 vcells vcOk atom tabF cnd retK resFin resL resA resC resCons evBuild evBuildP placeS placeA fillA fillOk putL getP nxtQ pureC_eq pureR genC_eq genR roV roL roOb roObL roW roWL roWOb roWObL nref nrefL binA binN eqSh eqRes evIndex evIndex2 evIndexS evSlice evSlice2 evSliceS evBound evConv2 cvS evAppend appRes srcOf evMake evBuildSlice repL evFn evMin evMax freshC freshR sub_enR0 evClear evClearR evCopy evCopyR lenS cutS Bool.or_false Bool.false_or Bool.or_true Bool.true_or Bool.and_false Bool.false_and Option.map_some Option.map_none Option.getD_some Option.getD_none Option.bind_some Option.bind_none Option.or_some Option.or_none Option.none_or Option.isSome_none Option.isNone_none Option.isNone_some List.nil_append List.cons_append List.append_nil cond_true cond_false List.length_cons List.length_nil beq_self_eq_true Bool.and_true Bool.true_and Bool.not_true Bool.not_false true_and and_true and_self true_implies implies_true ne_eq not_false_eq_true Bool.false_eq_true Bool.true_eq_false false_implies Nat.lt_irrefl Nat.le_refl Nat.succ_ne_self imp_self Bool.cond_false_right Bool.cond_true_left decide_true decide_false Bool.not_eq_true' Bool.not_eq_false' Bool.not_not Nat.zero_mul Nat.zero_add Nat.add_zero Nat.mul_one Nat.one_mul Bool.cond_self tsz3 tby3 tagg3 tslice3 tarr3 tzero3 tzn3 tplaces3 tint3 tstr3 tnoint3 tbool3 tany3 tintk3 tbytes3 tsz4 tby4 tagg4 tslice4 tarr4 tzero4 tzn4 tplaces4 tint4 tstr4 tnoint4 tbool4 tany4 tintk4 tbytes4 tsz5 tby5 tagg5 tslice5 tarr5 tzero5 tzn5 tplaces5 tint5 tstr5 tnoint5 tbool5 tany5 tintk5 tbytes5 tsz23 tby23 tagg23 tslice23 tarr23 tzero23 tzn23 tplaces23 tint23 tstr23 tnoint23 tbool23 tany23 tintk23 tbytes23 tsz25 tby25 tagg25 tslice25 tarr25 tzero25 tzn25 tplaces25 tint25 tstr25 tnoint25 tbool25 tany25 tintk25 tbytes25 tfld25_0 tfld25_1 tfld25_2 tfld25_3 tfld25_4 tsz26 tby26 tagg26 tslice26 tarr26 tzero26 tzn26 tplaces26 tint26 tstr26 tnoint26 tbool26 tany26 tintk26 tbytes26 tsz27 tby27 tagg27 tslice27 tarr27 tzero27 tzn27 tplaces27 tint27 tstr27 tnoint27 tbool27 tany27 tintk27 tbytes27 tsz38 tby38 tagg38 tslice38 tarr38 tzero38 tzn38 tplaces38 tint38 tstr38 tnoint38 tbool38 tany38 tintk38 tbytes38 tsz39 tby39 tagg39 tslice39 tarr39 tzero39 tzn39 tplaces39 tint39 tstr39 tnoint39 tbool39 tany39 tintk39 tbytes39 tsz41 tby41 tagg41 tslice41 tarr41 tzero41 tzn41 tplaces41 tint41 tstr41 tnoint41 tbool41 tany41 tintk41 tbytes41 tfld41_0 tfld41_1 tfld41_2 tfld41_3 tfld41_4 tfld41_5 tsz48 tby48 tagg48 tslice48 tarr48 tzero48 tzn48 tplaces48 tint48 tstr48 tnoint48 tbool48 tany48 tintk48 tbytes48 tsz53 tby53 tagg53 tslice53 tarr53 tzero53 tzn53 tplaces53 tint53 tstr53 tnoint53 tbool53 tany53 tintk53 tbytes53 tsz62 tby62 tagg62 tslice62 tarr62 tzero62 tzn62 tplaces62 tint62 tstr62 tnoint62 tbool62 tany62 tintk62 tbytes62 tfld62_0 tfld62_1 tfld62_2 tfld62_3 tfld62_4 tfld62_5 tfld62_6 tsz64 tby64 tagg64 tslice64 tarr64 tzero64 tzn64 tplaces64 tint64 tstr64 tnoint64 tbool64 tany64 tintk64 tbytes64 tfld64_0 tfld64_1 tfld64_2 tsz80 tby80 tagg80 tslice80 tarr80 tzero80 tzn80 tplaces80 tint80 tstr80 tnoint80 tbool80 tany80 tintk80 tbytes80 tsz81 tby81 tagg81 tslice81 tarr81 tzero81 tzn81 tplaces81 tint81 tstr81 tnoint81 tbool81 tany81 tintk81 tbytes81 tsz82 tby82 tagg82 tslice82 tarr82 tzero82 tzn82 tplaces82 tint82 tstr82 tnoint82 tbool82 tany82 tintk82 tbytes82 tsz84 tby84 tagg84 tslice84 tarr84 tzn84 tplaces84 tint84 tstr84 tnoint84 tbool84 tany84 tintk84 tbytes84 tsz94 tby94 tagg94 tslice94 tarr94 tzero94 tzn94 tplaces94 tint94 tstr94 tnoint94 tbool94 tany94 tintk94 tbytes94 tsz97 tby97 tagg97 tslice97 tarr97 tzero97 tzn97 tplaces97 tint97 tstr97 tnoint97 tbool97 tany97 tintk97 tbytes97 tsz100 tby100 tagg100 tslice100 tarr100 tzero100 tzn100 tplaces100 tint100 tstr100 tnoint100 tbool100 tany100 tintk100 tbytes100 tfld100_0 tfld100_1 tsz117 tby117 tagg117 tslice117 tarr117 tzero117 tzn117 tplaces117 tint117 tstr117 tnoint117 tbool117 tany117 tintk117 tbytes117 tsz119 tby119 tagg119 tslice119 tarr119 tzero119 tzn119 tplaces119 tint119 tstr119 tnoint119 tbool119 tany119 tintk119 tbytes119 tsz125 tby125 tagg125 tslice125 tarr125 tzero125 tzn125 tplaces125 tint125 tstr125 tnoint125 tbool125 tany125 tintk125 tbytes125 tsz127 tby127 tagg127 tslice127 tarr127 tzero127 tzn127 tplaces127 tint127 tstr127 tnoint127 tbool127 tany127 tintk127 tbytes127 tsz130 tby130 tagg130 tslice130 tarr130 tzero130 tzn130 tplaces130 tint130 tstr130 tnoint130 tbool130 tany130 tintk130 tbytes130 tfld130_0 tfld130_1 tfld130_2 tsz140 tby140 tagg140 tslice140 tarr140 tzero140 tzn140 tplaces140 tint140 tstr140 tnoint140 tbool140 tany140 tintk140 tbytes140 tsz148 tby148 tagg148 tslice148 tarr148 tzero148 tzn148 tplaces148 tint148 tstr148 tnoint148 tbool148 tany148 tintk148 tbytes148 tsz152 tby152 tagg152 tslice152 tarr152 tzero152 tzn152 tplaces152 tint152 tstr152 tnoint152 tbool152 tany152 tintk152 tbytes152 e_u8_0 fit_u8 de_u8 g_u8 k_u8 e_i64_0 fit_i64 de_i64 g_i64 k_i64 e_b_0 fit_b de_b g_b k_b e_A6u8_0 e_A6u8_1 e_A6u8_2 e_A6u8_3 e_A6u8_4 e_A6u8_5 fit_A6u8 de_A6u8 g_A6u8 k_A6u8 eta_A6u8 e_TRootWord_0 e_TRootWord_1 e_TRootWord_2 e_TRootWord_3 e_TRootWord_4 e_TRootWord_5 e_TRootWord_6 e_TRootWord_7 e_TRootWord_8 e_TRootWord_9 fit_TRootWord de_TRootWord g_TRootWord k_TRootWord eta_TRootWord e_lu8_0 fit_lu8 de_lu8 g_lu8 k_lu8 e_TTree_0 e_TTree_1 e_TTree_2 e_TTree_3 e_TTree_4 e_TTree_5 e_TTree_6 e_TTree_7 e_TTree_8 e_TTree_9 e_TTree_10 e_TTree_11 e_TTree_12 e_TTree_13 e_TTree_14 e_TTree_15 e_TTree_16 fit_TTree de_TTree g_TTree k_TTree eta_TTree e_lTTree_0 fit_lTTree de_lTTree g_lTTree k_lTTree e_TProxied_0 e_TProxied_1 e_TProxied_2 e_TProxied_3 e_TProxied_4 e_TProxied_5 e_TProxied_6 e_TProxied_7 e_TProxied_8 e_TProxied_9 e_TProxied_10 e_TProxied_11 e_TProxied_12 fit_TProxied de_TProxied g_TProxied k_TProxied eta_TProxied e_lTProxied_0 fit_lTProxied de_lTProxied g_lTProxied k_lTProxied e_TRoots_0 e_TRoots_1 e_TRoots_2 e_TRoots_3 e_TRoots_4 e_TRoots_5 e_TRoots_6 e_TRoots_7 e_TRoots_8 e_TRoots_9 e_TRoots_10 fit_TRoots de_TRoots g_TRoots k_TRoots eta_TRoots e_lTRootWord_0 fit_lTRootWord de_lTRootWord g_lTRootWord k_lTRootWord e_lA6u8_0 fit_lA6u8 de_lA6u8 g_lA6u8 k_lA6u8 e_A8i64_0 e_A8i64_1 e_A8i64_2 e_A8i64_3 e_A8i64_4 e_A8i64_5 e_A8i64_6 e_A8i64_7 fit_A8i64 de_A8i64 g_A8i64 k_A8i64 eta_A8i64 e_A8A8i64_0 e_A8A8i64_1 e_A8A8i64_2 e_A8A8i64_3 e_A8A8i64_4 e_A8A8i64_5 e_A8A8i64_6 e_A8A8i64_7 e_A8A8i64_8 e_A8A8i64_9 e_A8A8i64_10 e_A8A8i64_11 e_A8A8i64_12 e_A8A8i64_13 e_A8A8i64_14 e_A8A8i64_15 e_A8A8i64_16 e_A8A8i64_17 e_A8A8i64_18 e_A8A8i64_19 e_A8A8i64_20 e_A8A8i64_21 e_A8A8i64_22 e_A8A8i64_23 e_A8A8i64_24 e_A8A8i64_25 e_A8A8i64_26 e_A8A8i64_27 e_A8A8i64_28 e_A8A8i64_29 e_A8A8i64_30 e_A8A8i64_31 e_A8A8i64_32 e_A8A8i64_33 e_A8A8i64_34 e_A8A8i64_35 e_A8A8i64_36 e_A8A8i64_37 e_A8A8i64_38 e_A8A8i64_39 e_A8A8i64_40 e_A8A8i64_41 e_A8A8i64_42 e_A8A8i64_43 e_A8A8i64_44 e_A8A8i64_45 e_A8A8i64_46 e_A8A8i64_47 e_A8A8i64_48 e_A8A8i64_49 e_A8A8i64_50 e_A8A8i64_51 e_A8A8i64_52 e_A8A8i64_53 e_A8A8i64_54 e_A8A8i64_55 e_A8A8i64_56 e_A8A8i64_57 e_A8A8i64_58 e_A8A8i64_59 e_A8A8i64_60 e_A8A8i64_61 e_A8A8i64_62 e_A8A8i64_63 fit_A8A8i64 de_A8A8i64 g_A8A8i64 k_A8A8i64 eta_A8A8i64 e_li64_0 fit_li64 de_li64 g_li64 k_li64 e_u32_0 fit_u32 de_u32 g_u32 k_u32 e_u64_0 fit_u64 de_u64 g_u64 k_u64 e_TReader_0 e_TReader_1 fit_TReader de_TReader g_TReader k_TReader eta_TReader e_Tmessage_0 e_Tmessage_1 e_Tmessage_2 e_Tmessage_3 e_Tmessage_4 e_Tmessage_5 e_Tmessage_6 e_Tmessage_7 e_Tmessage_8 e_Tmessage_9 e_Tmessage_10 e_Tmessage_11 fit_Tmessage de_Tmessage g_Tmessage k_Tmessage eta_Tmessage e_lTmessage_0 fit_lTmessage de_lTmessage g_lTmessage k_lTmessage deR_0 deR_1 deR_2 deR_3 deR_4 deR_5 deR_6 deR_7 deR_8 deR_9 deR_10 deR_11 deR_12 litC_x0 litC_x1 litC_x2 litC_x3 litC_x4 litC_x5 litC_x6 litC_x7 litC_x8 litC_x9 litC_x10 litC_x11 strE_u8 Fit_0 Option.isSome_some gt_some gd_one evCopyL tabR sub_enR List.drop_zero xrD xoD roEq minL rK rM rG aL aK iK bK sK lK iA bA sA lA or_true true_or Int.toNat_natCast shT_23 shT_25 shT_62 shT_64 shT_80 shT_130 Int.toNat_zero Int.cast_ofNat_Int
/-! slices.MinFunc[[]hotspot/api.Tree,hotspot/api.Tree] -/
noncomputable def ct68_0t0 : Ct := tab [(69, pureC body69)]
theorem ct68_0t0_ok : CtOk Try.prog ct68_0t0 := tab_cons ok69 <| tab_nil
theorem ct68_0t0_69 (l : List AV) (h : List ABlk) : ct68_0t0 69 l h = pureC body69 l h := rfl
noncomputable def F68_0_L1 (p0 : List TTree) (v1_1 : Int) (v1_2 : TTree) : Option (Lp (Int × TTree) ((TTree) ⊕ (TTree))) :=
  bif (bLt v1_1 (p0.length : Nat)) then (need (inb v1_1 p0.length) <| (F69 (TTree.mk (A6u8.mk (((gd p0 v1_1.toNat).Root).x0) (((gd p0 v1_1.toNat).Root).x1) (((gd p0 v1_1.toNat).Root).x2) (((gd p0 v1_1.toNat).Root).x3) (((gd p0 v1_1.toNat).Root).x4) (((gd p0 v1_1.toNat).Root).x5)) (A6u8.mk (((gd p0 v1_1.toNat).Parent).x0) (((gd p0 v1_1.toNat).Parent).x1) (((gd p0 v1_1.toNat).Parent).x2) (((gd p0 v1_1.toNat).Parent).x3) (((gd p0 v1_1.toNat).Parent).x4) (((gd p0 v1_1.toNat).Parent).x5)) ((gd p0 v1_1.toNat).Seq) ((gd p0 v1_1.toNat).Hops) ((gd p0 v1_1.toNat).Cost) ((gd p0 v1_1.toNat).Gate) ((gd p0 v1_1.toNat).Until)) v1_2).bind fun r3 => bif (bLt r3 0) then (need (inb v1_1 p0.length) <| some (.next (wr .i64 (v1_1 + 1), (TTree.mk (A6u8.mk (((gd p0 v1_1.toNat).Root).x0) (((gd p0 v1_1.toNat).Root).x1) (((gd p0 v1_1.toNat).Root).x2) (((gd p0 v1_1.toNat).Root).x3) (((gd p0 v1_1.toNat).Root).x4) (((gd p0 v1_1.toNat).Root).x5)) (A6u8.mk (((gd p0 v1_1.toNat).Parent).x0) (((gd p0 v1_1.toNat).Parent).x1) (((gd p0 v1_1.toNat).Parent).x2) (((gd p0 v1_1.toNat).Parent).x3) (((gd p0 v1_1.toNat).Parent).x4) (((gd p0 v1_1.toNat).Parent).x5)) ((gd p0 v1_1.toNat).Seq) ((gd p0 v1_1.toNat).Hops) ((gd p0 v1_1.toNat).Cost) ((gd p0 v1_1.toNat).Gate) ((gd p0 v1_1.toNat).Until))))) else (some (.next (wr .i64 (v1_1 + 1), v1_2)))) else (some (.done (.inl v1_2)))
noncomputable def F68_0 (p0 : List TTree) : Option (TTree) :=
  bif (bLt (p0.length : Nat) 1) then (none) else (need (inb 0 p0.length) <| lp (loopD (fun s => F68_0_L1 p0 s.1 s.2) (1, (TTree.mk (A6u8.mk (((gd p0 0).Root).x0) (((gd p0 0).Root).x1) (((gd p0 0).Root).x2) (((gd p0 0).Root).x3) (((gd p0 0).Root).x4) (((gd p0 0).Root).x5)) (A6u8.mk (((gd p0 0).Parent).x0) (((gd p0 0).Parent).x1) (((gd p0 0).Parent).x2) (((gd p0 0).Parent).x3) (((gd p0 0).Parent).x4) (((gd p0 0).Parent).x5)) ((gd p0 0).Seq) ((gd p0 0).Hops) ((gd p0 0).Cost) ((gd p0 0).Gate) ((gd p0 0).Until)))) (fun w1_3 => some w1_3) some)
noncomputable def body68_0 : List AV → AR
  | [v0, .fn 69 []] => .pure (lK k_TTree 17 v0 ∧ (F68_0 (lA g_TTree v0)).isSome = true) (.agg [.int .u8 (((gt (F68_0 (lA g_TTree v0))).Root).x0), .int .u8 (((gt (F68_0 (lA g_TTree v0))).Root).x1), .int .u8 (((gt (F68_0 (lA g_TTree v0))).Root).x2), .int .u8 (((gt (F68_0 (lA g_TTree v0))).Root).x3), .int .u8 (((gt (F68_0 (lA g_TTree v0))).Root).x4), .int .u8 (((gt (F68_0 (lA g_TTree v0))).Root).x5), .int .u8 (((gt (F68_0 (lA g_TTree v0))).Parent).x0), .int .u8 (((gt (F68_0 (lA g_TTree v0))).Parent).x1), .int .u8 (((gt (F68_0 (lA g_TTree v0))).Parent).x2), .int .u8 (((gt (F68_0 (lA g_TTree v0))).Parent).x3), .int .u8 (((gt (F68_0 (lA g_TTree v0))).Parent).x4), .int .u8 (((gt (F68_0 (lA g_TTree v0))).Parent).x5), .int .i64 ((gt (F68_0 (lA g_TTree v0))).Seq), .int .i64 ((gt (F68_0 (lA g_TTree v0))).Hops), .int .i64 ((gt (F68_0 (lA g_TTree v0))).Cost), .bool ((gt (F68_0 (lA g_TTree v0))).Gate), .int .i64 ((gt (F68_0 (lA g_TTree v0))).Until)])
  | _ => .fail
set_option maxHeartbeats 4000000 in
set_option maxRecDepth 20000 in
theorem ok68_0 : FnOk Try.prog 68 (pureC body68_0) := by
  refine pure_fnM body68_0 (rs := [.cell 4 62]) Try.func68 (by kernel_rfl) rfl rfl ?_
  intro l ob v hb hob
  unfold body68_0 at hb
  split at hb
  · rename_i v0
    injection hb with q1 q2; subst q1 q2
    obtain ⟨hk0_0, hob⟩ := hob
    obtain ⟨r, H⟩ := Option.isSome_iff_exists.1 hob
    rw [H, gt_some]
    have hw0 := lK_wk (fun r h => w_TTree h) hk0_0
    generalize lA g_TTree v0 = p0 at H hw0
    refine ⟨[.ro 17 p0.length false (enR c_TTree p0), .fn 69 []], _, (fun E vs F => FR_wk1 hw0.1 F (fun vs F => FR_wk1 (fn_wk LW_nil) F (fun vs F => F))), rfl, rfl, ?_⟩
    rw [Try.ntmps68]
    simp only [List.length_cons, List.length_nil, Nat.reduceAdd, Nat.reduceSub, List.replicate_succ, List.replicate_zero, List.cons_append, List.nil_append]
    unfold F68_0 at H
    try dsimp only at H
    refine sq ctNo_ok ?_
    simp only [go_sem, Nat.reduceLeDiff, Nat.reduceLT, Nat.reduceAdd, Nat.reduceMul, Nat.reduceSub, Nat.reduceEqDiff, Nat.reduceBEq, Int.reduceToNat, reduceCtorEq]
    refine seqM ?_
    refine sq ctNo_ok ?_
    simp only [go_sem, Nat.reduceLeDiff, Nat.reduceLT, Nat.reduceAdd, Nat.reduceMul, Nat.reduceSub, Nat.reduceEqDiff, Nat.reduceBEq, Int.reduceToNat, reduceCtorEq]
    repeat ((with_reducible refine And.intro ?_ ?_); focus (first | (with_reducible trivial) | omega | (and_intros <;> first | (with_reducible trivial) | omega | assumption | exact nfc | first | exact rfl | exact trivial | exact fitI | exact Or.inr rfl | exact Or.inl rfl | exact fun x hx => absurd hx (by omega) | (intro x hx; (repeat (first | (and_intros <;> (first | exact rfl | exact trivial | exact fitI | exact Or.inr rfl | exact Or.inl rfl | exact fun x hx => absurd hx (by omega))) | (exfalso; omega) | (rcases x with _ | x))); done)) | grind))
    refine condM rfl trivial (fun hc => ?_) (fun hc => ?_)
    · replace H := cond_t hc H
      cases H
    replace H := cond_f hc H
    refine rg ctNo_ok ?_
    simp only [go_sem, Nat.reduceLeDiff, Nat.reduceLT, Nat.reduceAdd, Nat.reduceMul, Nat.reduceSub, Nat.reduceEqDiff, Nat.reduceBEq, Int.reduceToNat, reduceCtorEq]
    refine seqM ?_
    obtain ⟨f1, H⟩ := need_some.1 H
    replace f1 := inb_iff.1 f1
    refine rg ctNo_ok ?_
    simp only [go_sem, Nat.reduceLeDiff, Nat.reduceLT, Nat.reduceAdd, Nat.reduceMul, Nat.reduceSub, Nat.reduceEqDiff, Nat.reduceBEq, Int.reduceToNat, reduceCtorEq, f1]
    repeat ((with_reducible refine And.intro ?_ ?_); focus (first | (with_reducible trivial) | omega | grind))
    refine seqM ?_
    refine sq ctNo_ok ?_
    simp only [go_sem, Nat.reduceLeDiff, Nat.reduceLT, Nat.reduceAdd, Nat.reduceMul, Nat.reduceSub, Nat.reduceEqDiff, Nat.reduceBEq, Int.reduceToNat, reduceCtorEq]
    refine blkM ?_
    refine loop_den (fun s : Int × TTree => (.ro 17 p0.length false (enR c_TTree p0) :: .fn 69 [] :: .top :: .top :: .ptr 0 0 0 0 :: .ptr 1 0 0 0 :: .int .i64 s.1 :: .top :: .top :: .top :: .top :: .top :: .top :: .top :: .top :: .top :: .top :: .top :: .top :: .top :: .top :: .top :: .top :: .top :: .top :: .top :: .top :: .top :: .top :: .top :: .top :: .top :: .top :: [])) (fun s => [.lit 62 [.int .u8 0, .int .u8 0, .int .u8 0, .int .u8 0, .int .u8 0, .int .u8 0, .int .u8 0, .int .u8 0, .int .u8 0, .int .u8 0, .int .u8 0, .int .u8 0, .int .i64 0, .int .i64 0, .int .i64 0, .bool false, .int .i64 0], .lit 62 [.int .u8 s.2.Root.x0, .int .u8 s.2.Root.x1, .int .u8 s.2.Root.x2, .int .u8 s.2.Root.x3, .int .u8 s.2.Root.x4, .int .u8 s.2.Root.x5, .int .u8 s.2.Parent.x0, .int .u8 s.2.Parent.x1, .int .u8 s.2.Parent.x2, .int .u8 s.2.Parent.x3, .int .u8 s.2.Parent.x4, .int .u8 s.2.Parent.x5, .int .i64 s.2.Seq, .int .i64 s.2.Hops, .int .i64 s.2.Cost, .bool s.2.Gate, .int .i64 s.2.Until]]) (fun e : TTree => (.top :: .top :: .top :: .top :: .ptr 0 0 0 0 :: .ptr 1 0 0 0 :: .top :: .top :: .top :: .top :: .top :: .top :: .top :: .top :: .top :: .top :: .top :: .top :: .top :: .top :: .top :: .top :: .top :: .top :: .top :: .top :: .top :: .top :: .top :: .top :: .top :: .top :: .top :: [])) (fun e => [.lit 62 [.int .u8 0, .int .u8 0, .int .u8 0, .int .u8 0, .int .u8 0, .int .u8 0, .int .u8 0, .int .u8 0, .int .u8 0, .int .u8 0, .int .u8 0, .int .u8 0, .int .i64 0, .int .i64 0, .int .i64 0, .bool false, .int .i64 0], .lit 62 [.int .u8 e.Root.x0, .int .u8 e.Root.x1, .int .u8 e.Root.x2, .int .u8 e.Root.x3, .int .u8 e.Root.x4, .int .u8 e.Root.x5, .int .u8 e.Parent.x0, .int .u8 e.Parent.x1, .int .u8 e.Parent.x2, .int .u8 e.Parent.x3, .int .u8 e.Parent.x4, .int .u8 e.Parent.x5, .int .i64 e.Seq, .int .i64 e.Hops, .int .i64 e.Cost, .bool e.Gate, .int .i64 e.Until]]) H ?_ (fun s o H hn1_1 hn2_1 => ?_) (fun w1_3 H => ?_)
    · refine SubF_of ⟨[some 0, some 1], ?_, ?_, by rfl, by rfl⟩
      · simp [CvL, Cv, getM]
      · exact ⟨(by simp [CvB, CvL, Cv, blkAt, geth, getM]), (by simp [CvB, CvL, Cv, blkAt, geth, getM]), trivial⟩
    · obtain ⟨v1_1, v1_2⟩ := s
      unfold F68_0_L1 at H
      try dsimp only at H ⊢
      refine seqM ?_
      refine sq ctNo_ok ?_
      simp only [go_sem, Nat.reduceLeDiff, Nat.reduceLT, Nat.reduceAdd, Nat.reduceMul, Nat.reduceSub, Nat.reduceEqDiff, Nat.reduceBEq, Int.reduceToNat, reduceCtorEq]
      repeat ((with_reducible refine And.intro ?_ ?_); focus (first | (with_reducible trivial) | omega | (and_intros <;> first | (with_reducible trivial) | omega | assumption | exact nfc | first | exact rfl | exact trivial | exact fitI | exact Or.inr rfl | exact Or.inl rfl | exact fun x hx => absurd hx (by omega) | (intro x hx; (repeat (first | (and_intros <;> (first | exact rfl | exact trivial | exact fitI | exact Or.inr rfl | exact Or.inl rfl | exact fun x hx => absurd hx (by omega))) | (exfalso; omega) | (rcases x with _ | x))); done)) | grind))
      refine condM' rfl trivial (fun hc => ?_) (fun hc => ?_)
      · replace H := cond_f hc H
        refine rg ctNo_ok ?_
        simp only [go_sem, Nat.reduceLeDiff, Nat.reduceLT, Nat.reduceAdd, Nat.reduceMul, Nat.reduceSub, Nat.reduceEqDiff, Nat.reduceBEq, Int.reduceToNat, reduceCtorEq]
        refine ⟨_, (Option.some.inj H).symm, ?_⟩
        refine SubF_of ⟨[some 0, some 1], ?_, ?_, by rfl, by rfl⟩
        · simp [CvL, Cv, getM]
        · exact ⟨(by simp [CvB, CvL, Cv, blkAt, geth, getM]), (by simp [CvB, CvL, Cv, blkAt, geth, getM]), trivial⟩
      replace H := cond_t hc H
      refine rg ctNo_ok ?_
      simp only [go_sem, Nat.reduceLeDiff, Nat.reduceLT, Nat.reduceAdd, Nat.reduceMul, Nat.reduceSub, Nat.reduceEqDiff, Nat.reduceBEq, Int.reduceToNat, reduceCtorEq]
      refine seqM ?_
      refine blkM ?_
      refine seqM ?_
      obtain ⟨f2, H⟩ := need_some.1 H
      replace f2 := inb_iff.1 f2
      obtain ⟨r3, e4, H⟩ := Option.bind_eq_some_iff.1 H
      refine draw_quiet shT_ok ct68_0t0_ok (by kernel_rfl) (by kernel_rfl) ?_
      simp only [go_sem, Nat.reduceLeDiff, Nat.reduceLT, Nat.reduceAdd, Nat.reduceMul, Nat.reduceSub, Nat.reduceEqDiff, Nat.reduceBEq, Int.reduceToNat, reduceCtorEq, ct68_0t0_69, body69, f2, e4]
      repeat ((with_reducible refine And.intro ?_ ?_); focus (first | (with_reducible trivial) | omega | (and_intros <;> first | (with_reducible trivial) | omega | assumption | exact nfc | first | exact rfl | exact trivial | exact fitI | exact Or.inr rfl | exact Or.inl rfl | exact fun x hx => absurd hx (by omega) | (intro x hx; (repeat (first | (and_intros <;> (first | exact rfl | exact trivial | exact fitI | exact Or.inr rfl | exact Or.inl rfl | exact fun x hx => absurd hx (by omega))) | (exfalso; omega) | (rcases x with _ | x))); done)) | grind))
      refine condM' rfl trivial (fun hc => ?_) (fun hc => ?_)
      · replace H := cond_f hc H
        refine rg ctNo_ok ?_
        simp only [go_sem, Nat.reduceLeDiff, Nat.reduceLT, Nat.reduceAdd, Nat.reduceMul, Nat.reduceSub, Nat.reduceEqDiff, Nat.reduceBEq, Int.reduceToNat, reduceCtorEq]
        refine rg ctNo_ok ?_
        simp only [go_sem, Nat.reduceLeDiff, Nat.reduceLT, Nat.reduceAdd, Nat.reduceMul, Nat.reduceSub, Nat.reduceEqDiff, Nat.reduceBEq, Int.reduceToNat, reduceCtorEq]
        refine ⟨_, (Option.some.inj H).symm, ?_⟩
        refine SubF_of ⟨[some 0, some 1], ?_, ?_, by rfl, by rfl⟩
        · simp [CvL, Cv, getM]
        · exact ⟨(by simp [CvB, CvL, Cv, blkAt, geth, getM]), (by simp [CvB, CvL, Cv, blkAt, geth, getM]), trivial⟩
      replace H := cond_t hc H
      obtain ⟨f5, H⟩ := need_some.1 H
      replace f5 := inb_iff.1 f5
      refine rg ctNo_ok ?_
      simp only [go_sem, Nat.reduceLeDiff, Nat.reduceLT, Nat.reduceAdd, Nat.reduceMul, Nat.reduceSub, Nat.reduceEqDiff, Nat.reduceBEq, Int.reduceToNat, reduceCtorEq, f5]
      repeat ((with_reducible refine And.intro ?_ ?_); focus (first | (with_reducible trivial) | omega | grind))
      refine rg ctNo_ok ?_
      simp only [go_sem, Nat.reduceLeDiff, Nat.reduceLT, Nat.reduceAdd, Nat.reduceMul, Nat.reduceSub, Nat.reduceEqDiff, Nat.reduceBEq, Int.reduceToNat, reduceCtorEq]
      refine ⟨_, (Option.some.inj H).symm, ?_⟩
      refine SubF_of ⟨[some 0, some 1], ?_, ?_, by rfl, by rfl⟩
      · simp [CvL, Cv, getM]
      · exact ⟨(by simp [CvB, CvL, Cv, blkAt, geth, getM]), (by simp [CvB, CvL, Cv, blkAt, geth, getM]), trivial⟩
    · try dsimp only at H ⊢
      try simp only [m_normal, k_normal, b_normal, kL_normal, r_normal]
      refine sq ctNo_ok ?_
      simp only [go_sem, Nat.reduceLeDiff, Nat.reduceLT, Nat.reduceAdd, Nat.reduceMul, Nat.reduceSub, Nat.reduceEqDiff, Nat.reduceBEq, Int.reduceToNat, reduceCtorEq]
      repeat ((with_reducible refine And.intro ?_ ?_); focus (first | (with_reducible trivial) | omega | grind))
      refine rg ctNo_ok ?_
      simp only [go_sem, Nat.reduceLeDiff, Nat.reduceLT, Nat.reduceAdd, Nat.reduceMul, Nat.reduceSub, Nat.reduceEqDiff, Nat.reduceBEq, Int.reduceToNat, reduceCtorEq]
      obtain rfl := Option.some.inj H
      first | rfl | simp only [Bool.and_false, Bool.false_and, Bool.and_true, Bool.true_and]
  · cases hb
/-! hotspot/root.Best -/
noncomputable def ct27t0 : Ct := tab [(34, pureC body34)]
theorem ct27t0_ok : CtOk Try.prog ct27t0 := tab_cons ok34 <| tab_nil
theorem ct27t0_34 (l : List AV) (h : List ABlk) : ct27t0 34 l h = pureC body34 l h := rfl
noncomputable def ct27t1 : Ct := tab [(62, edC body62_0), (66, edC body66)]
theorem ct27t1_ok : CtOk Try.prog ct27t1 := tab_cons ok62_0 <| tab_cons ok66 <| tab_nil
theorem ct27t1_62 (l : List AV) (h : List ABlk) : ct27t1 62 l h = edC body62_0 l h := rfl
theorem ct27t1_66 (l : List AV) (h : List ABlk) : ct27t1 66 l h = edC body66 l h := rfl
noncomputable def ct27t2 : Ct := tab [(68, pureC body68_0)]
theorem ct27t2_ok : CtOk Try.prog ct27t2 := tab_cons ok68_0 <| tab_nil
theorem ct27t2_68 (l : List AV) (h : List ABlk) : ct27t2 68 l h = pureC body68_0 l h := rfl
noncomputable def F27 (p0 : TRoots) (p1 : Bool) : Option (TTree × Bool) :=
  (F34 p0).bind fun r1 => bif (!bEq r1 0) then (some ((TTree.mk (A6u8.mk 0 0 0 0 0 0) (A6u8.mk 0 0 0 0 0 0) 0 0 0 false 0), false)) else ((F66 p0.Trees).bind fun r3 => (F62_0 r3 p1).bind fun r5 => bif (bEq (r5.length : Nat) 0) then (some ((TTree.mk (A6u8.mk 0 0 0 0 0 0) (A6u8.mk 0 0 0 0 0 0) 0 0 0 false 0), false)) else ((F68_0 r5).bind fun r7 => some (r7, true)))
noncomputable def body27 : List AV → AR
  | [v0, v1] => .pure (aK 11 k_TRoots v0 ∧ bK v1 ∧ (F27 (g_TRoots (aL v0)) (bA v1)).isSome = true) (.tup [.agg [.int .u8 ((((gt (F27 (g_TRoots (aL v0)) (bA v1))).1).Root).x0), .int .u8 ((((gt (F27 (g_TRoots (aL v0)) (bA v1))).1).Root).x1), .int .u8 ((((gt (F27 (g_TRoots (aL v0)) (bA v1))).1).Root).x2), .int .u8 ((((gt (F27 (g_TRoots (aL v0)) (bA v1))).1).Root).x3), .int .u8 ((((gt (F27 (g_TRoots (aL v0)) (bA v1))).1).Root).x4), .int .u8 ((((gt (F27 (g_TRoots (aL v0)) (bA v1))).1).Root).x5), .int .u8 ((((gt (F27 (g_TRoots (aL v0)) (bA v1))).1).Parent).x0), .int .u8 ((((gt (F27 (g_TRoots (aL v0)) (bA v1))).1).Parent).x1), .int .u8 ((((gt (F27 (g_TRoots (aL v0)) (bA v1))).1).Parent).x2), .int .u8 ((((gt (F27 (g_TRoots (aL v0)) (bA v1))).1).Parent).x3), .int .u8 ((((gt (F27 (g_TRoots (aL v0)) (bA v1))).1).Parent).x4), .int .u8 ((((gt (F27 (g_TRoots (aL v0)) (bA v1))).1).Parent).x5), .int .i64 (((gt (F27 (g_TRoots (aL v0)) (bA v1))).1).Seq), .int .i64 (((gt (F27 (g_TRoots (aL v0)) (bA v1))).1).Hops), .int .i64 (((gt (F27 (g_TRoots (aL v0)) (bA v1))).1).Cost), .bool (((gt (F27 (g_TRoots (aL v0)) (bA v1))).1).Gate), .int .i64 (((gt (F27 (g_TRoots (aL v0)) (bA v1))).1).Until)], .bool ((gt (F27 (g_TRoots (aL v0)) (bA v1))).2)])
  | _ => .fail
set_option maxHeartbeats 4000000 in
set_option maxRecDepth 20000 in
theorem ok27 : FnOk Try.prog 27 (pureC body27) := by
  refine pure_fnM body27 (rs := [.cell 4 62, .tmp 5]) Try.func27 (by kernel_rfl) rfl rfl ?_
  intro l ob v hb hob
  unfold body27 at hb
  split at hb
  · rename_i v0 v1
    injection hb with q1 q2; subst q1 q2
    obtain ⟨hk0_0, hk1_0, hob⟩ := hob
    obtain ⟨r, H⟩ := Option.isSome_iff_exists.1 hob
    rw [H, gt_some]
    have hw0 := wA_TRoots hk0_0
    have hw1 := bK_wk hk1_0
    generalize g_TRoots (aL v0) = p0 at H hw0
    generalize bA v1 = p1 at H hw1
    refine ⟨[.agg [.int .u8 p0.Own.x0, .int .u8 p0.Own.x1, .int .u8 p0.Own.x2, .int .u8 p0.Own.x3, .int .u8 p0.Own.x4, .int .u8 p0.Own.x5, .bool p0.Root, .bool p0.Gate, .int .i64 p0.Seq, .ro 17 p0.Trees.length false (enR c_TTree p0.Trees), .ro 13 p0.Proxies.length false (enR c_TProxied p0.Proxies)], .bool p1], _, (fun E vs F => FR_wk1 hw0.1 F (fun vs F => FR_wk1 hw1.1 F (fun vs F => F))), rfl, rfl, ?_⟩
    rw [Try.ntmps27]
    simp only [List.length_cons, List.length_nil, Nat.reduceAdd, Nat.reduceSub, List.replicate_succ, List.replicate_zero, List.cons_append, List.nil_append]
    unfold F27 at H
    try dsimp only at H
    refine sq ctNo_ok ?_
    simp only [go_sem, Nat.reduceLeDiff, Nat.reduceLT, Nat.reduceAdd, Nat.reduceMul, Nat.reduceSub, Nat.reduceEqDiff, Nat.reduceBEq, Int.reduceToNat, reduceCtorEq]
    refine seqM ?_
    refine seqM ?_
    obtain ⟨r1, e2, H⟩ := Option.bind_eq_some_iff.1 H
    refine rg ct27t0_ok ?_
    simp only [go_sem, Nat.reduceLeDiff, Nat.reduceLT, Nat.reduceAdd, Nat.reduceMul, Nat.reduceSub, Nat.reduceEqDiff, Nat.reduceBEq, Int.reduceToNat, reduceCtorEq, ct27t0_34, body34, e2]
    repeat ((with_reducible refine And.intro ?_ ?_); focus (first | (with_reducible trivial) | omega | (and_intros <;> first | (with_reducible trivial) | omega | assumption | exact nfc | first | exact rfl | exact trivial | exact fitI | exact Or.inr rfl | exact Or.inl rfl | exact fun x hx => absurd hx (by omega) | (intro x hx; (repeat (first | (and_intros <;> (first | exact rfl | exact trivial | exact fitI | exact Or.inr rfl | exact Or.inl rfl | exact fun x hx => absurd hx (by omega))) | (exfalso; omega) | (rcases x with _ | x))); done)) | grind))
    refine condM rfl trivial (fun hc => ?_) (fun hc => ?_)
    · replace H := cond_t hc H
      refine sq ctNo_ok ?_
      simp only [go_sem, Nat.reduceLeDiff, Nat.reduceLT, Nat.reduceAdd, Nat.reduceMul, Nat.reduceSub, Nat.reduceEqDiff, Nat.reduceBEq, Int.reduceToNat, reduceCtorEq]
      repeat ((with_reducible refine And.intro ?_ ?_); focus (first | (with_reducible trivial) | omega | grind))
      refine rg ctNo_ok ?_
      simp only [go_sem, Nat.reduceLeDiff, Nat.reduceLT, Nat.reduceAdd, Nat.reduceMul, Nat.reduceSub, Nat.reduceEqDiff, Nat.reduceBEq, Int.reduceToNat, reduceCtorEq]
      obtain rfl := Option.some.inj H
      first | rfl | simp only [Bool.and_false, Bool.false_and, Bool.and_true, Bool.true_and]
    replace H := cond_f hc H
    refine rg ctNo_ok ?_
    simp only [go_sem, Nat.reduceLeDiff, Nat.reduceLT, Nat.reduceAdd, Nat.reduceMul, Nat.reduceSub, Nat.reduceEqDiff, Nat.reduceBEq, Int.reduceToNat, reduceCtorEq]
    refine seqM ?_
    obtain ⟨r3, e4, H⟩ := Option.bind_eq_some_iff.1 H
    obtain ⟨r5, e6, H⟩ := Option.bind_eq_some_iff.1 H
    refine rg ct27t1_ok ?_
    simp only [go_sem, Nat.reduceLeDiff, Nat.reduceLT, Nat.reduceAdd, Nat.reduceMul, Nat.reduceSub, Nat.reduceEqDiff, Nat.reduceBEq, Int.reduceToNat, reduceCtorEq, roD, roDOb, deadL, edC, edR, nodupB, rnm, rnmL, rnmB, rnmH, rnm_bif, rnmB_bif, putH, dropH, rhoN, ptB, slN, litL, celL, pK, isLit, oS, isRow, inL, ct27t1_62, body62_0, ct27t1_66, body66, e4, e6]
    repeat ((with_reducible refine And.intro ?_ ?_); focus (first | (with_reducible trivial) | omega | (and_intros <;> first | (with_reducible trivial) | omega | assumption | exact nfc | first | exact rfl | exact trivial | exact fitI | exact Or.inr rfl | exact Or.inl rfl | exact fun x hx => absurd hx (by omega) | (intro x hx; (repeat (first | (and_intros <;> (first | exact rfl | exact trivial | exact fitI | exact Or.inr rfl | exact Or.inl rfl | exact fun x hx => absurd hx (by omega))) | (exfalso; omega) | (rcases x with _ | x))); done)) | grind))
    refine seqM ?_
    refine sq ctNo_ok ?_
    simp only [go_sem, Nat.reduceLeDiff, Nat.reduceLT, Nat.reduceAdd, Nat.reduceMul, Nat.reduceSub, Nat.reduceEqDiff, Nat.reduceBEq, Int.reduceToNat, reduceCtorEq]
    repeat ((with_reducible refine And.intro ?_ ?_); focus (first | (with_reducible trivial) | omega | (and_intros <;> first | (with_reducible trivial) | omega | assumption | exact nfc | first | exact rfl | exact trivial | exact fitI | exact Or.inr rfl | exact Or.inl rfl | exact fun x hx => absurd hx (by omega) | (intro x hx; (repeat (first | (and_intros <;> (first | exact rfl | exact trivial | exact fitI | exact Or.inr rfl | exact Or.inl rfl | exact fun x hx => absurd hx (by omega))) | (exfalso; omega) | (rcases x with _ | x))); done)) | grind))
    refine condM rfl trivial (fun hc => ?_) (fun hc => ?_)
    · replace H := cond_t hc H
      refine sq ctNo_ok ?_
      simp only [go_sem, Nat.reduceLeDiff, Nat.reduceLT, Nat.reduceAdd, Nat.reduceMul, Nat.reduceSub, Nat.reduceEqDiff, Nat.reduceBEq, Int.reduceToNat, reduceCtorEq]
      repeat ((with_reducible refine And.intro ?_ ?_); focus (first | (with_reducible trivial) | omega | grind))
      refine rg ctNo_ok ?_
      simp only [go_sem, Nat.reduceLeDiff, Nat.reduceLT, Nat.reduceAdd, Nat.reduceMul, Nat.reduceSub, Nat.reduceEqDiff, Nat.reduceBEq, Int.reduceToNat, reduceCtorEq]
      obtain rfl := Option.some.inj H
      first | rfl | simp only [Bool.and_false, Bool.false_and, Bool.and_true, Bool.true_and]
    replace H := cond_f hc H
    refine rg ctNo_ok ?_
    simp only [go_sem, Nat.reduceLeDiff, Nat.reduceLT, Nat.reduceAdd, Nat.reduceMul, Nat.reduceSub, Nat.reduceEqDiff, Nat.reduceBEq, Int.reduceToNat, reduceCtorEq]
    refine seqM ?_
    obtain ⟨r7, e8, H⟩ := Option.bind_eq_some_iff.1 H
    refine rg ct27t2_ok ?_
    simp only [go_sem, Nat.reduceLeDiff, Nat.reduceLT, Nat.reduceAdd, Nat.reduceMul, Nat.reduceSub, Nat.reduceEqDiff, Nat.reduceBEq, Int.reduceToNat, reduceCtorEq, ct27t2_68, body68_0, e8]
    repeat ((with_reducible refine And.intro ?_ ?_); focus (first | (with_reducible trivial) | omega | (and_intros <;> first | (with_reducible trivial) | omega | assumption | exact nfc | first | exact rfl | exact trivial | exact fitI | exact Or.inr rfl | exact Or.inl rfl | exact fun x hx => absurd hx (by omega) | (intro x hx; (repeat (first | (and_intros <;> (first | exact rfl | exact trivial | exact fitI | exact Or.inr rfl | exact Or.inl rfl | exact fun x hx => absurd hx (by omega))) | (exfalso; omega) | (rcases x with _ | x))); done)) | grind))
    refine rg ctNo_ok ?_
    simp only [go_sem, Nat.reduceLeDiff, Nat.reduceLT, Nat.reduceAdd, Nat.reduceMul, Nat.reduceSub, Nat.reduceEqDiff, Nat.reduceBEq, Int.reduceToNat, reduceCtorEq]
    obtain rfl := Option.some.inj H
    first | rfl | simp only [Bool.and_false, Bool.false_and, Bool.and_true, Bool.true_and]
  · cases hb
/-! hotspot/hotspotlaw40.alive -/
noncomputable def ct36t0 : Ct := tab [(33, edC body33)]
theorem ct36t0_ok : CtOk Try.prog ct36t0 := tab_cons ok33 <| tab_nil
theorem ct36t0_33 (l : List AV) (h : List ABlk) : ct36t0 33 l h = edC body33 l h := rfl
noncomputable def ct36t1 : Ct := tab [(20, edC body20)]
theorem ct36t1_ok : CtOk Try.prog ct36t1 := tab_cons ok20 <| tab_nil
theorem ct36t1_20 (l : List AV) (h : List ABlk) : ct36t1 20 l h = edC body20 l h := rfl
noncomputable def ct36t2 : Ct := tab [(27, pureC body27)]
theorem ct36t2_ok : CtOk Try.prog ct36t2 := tab_cons ok27 <| tab_nil
theorem ct36t2_27 (l : List AV) (h : List ABlk) : ct36t2 27 l h = pureC body27 l h := rfl
noncomputable def F36 : Option (Bool) :=
  (F33 (A6u8.mk 1 0 0 0 0 0) false false).bind fun r1 => (F20 (TRoots.mk (A6u8.mk r1.1.Own.x0 r1.1.Own.x1 r1.1.Own.x2 r1.1.Own.x3 r1.1.Own.x4 r1.1.Own.x5) r1.1.Root r1.1.Gate r1.1.Seq r1.1.Trees r1.1.Proxies) (TRootWord.mk (A6u8.mk 9 0 0 0 0 0) 1 0 0 false) (A6u8.mk 9 0 0 0 0 0) 30 0).bind fun r3 => need (bif (!((((!bEq r1.2 0) || (!bEq r3.2.2 0)) || (!bEq (r3.2.1.length : Nat) 1)) || (!bEq (r3.1.Trees.length : Nat) 1))) then inb 0 r3.1.Trees.length else true) <| need (bif (!(((((!bEq r1.2 0) || (!bEq r3.2.2 0)) || (!bEq (r3.2.1.length : Nat) 1)) || (!bEq (r3.1.Trees.length : Nat) 1)) || (!bEq ((gd r3.1.Trees 0).Hops) 1))) then inb 0 r3.1.Trees.length else true) <| bif ((((((!bEq r1.2 0) || (!bEq r3.2.2 0)) || (!bEq (r3.2.1.length : Nat) 1)) || (!bEq (r3.1.Trees.length : Nat) 1)) || (!bEq ((gd r3.1.Trees 0).Hops) 1)) || (!bEq ((gd r3.1.Trees 0).Cost) 30)) then (some false) else ((F20 (TRoots.mk (A6u8.mk r3.1.Own.x0 r3.1.Own.x1 r3.1.Own.x2 r3.1.Own.x3 r3.1.Own.x4 r3.1.Own.x5) r3.1.Root r3.1.Gate r3.1.Seq r3.1.Trees r3.1.Proxies) (TRootWord.mk (A6u8.mk 9 0 0 0 0 0) 1 1 10 false) (A6u8.mk 5 0 0 0 0 0) 15 1).bind fun r7 => (F20 (TRoots.mk (A6u8.mk r7.1.Own.x0 r7.1.Own.x1 r7.1.Own.x2 r7.1.Own.x3 r7.1.Own.x4 r7.1.Own.x5) r7.1.Root r7.1.Gate r7.1.Seq r7.1.Trees r7.1.Proxies) (TRootWord.mk (A6u8.mk 9 0 0 0 0 0) 1 0 0 false) (A6u8.mk 9 0 0 0 0 0) 30 2).bind fun r9 => (F27 (TRoots.mk (A6u8.mk r7.1.Own.x0 r7.1.Own.x1 r7.1.Own.x2 r7.1.Own.x3 r7.1.Own.x4 r7.1.Own.x5) r7.1.Root r7.1.Gate r7.1.Seq r7.1.Trees r7.1.Proxies) false).bind fun r11 => some (((((bEq r7.2.2 0) && r11.2) && (bEq r11.1.Cost 25)) && (bEq r11.1.Parent.x0 5 && (bEq r11.1.Parent.x1 0 && (bEq r11.1.Parent.x2 0 && (bEq r11.1.Parent.x3 0 && (bEq r11.1.Parent.x4 0 && (bEq r11.1.Parent.x5 0))))))) && (bEq r9.2.2 21)))
noncomputable def body36 : List AV → AR
  | [] => .pure ((F36).isSome = true) (.bool (gt F36))
  | _ => .fail
set_option maxHeartbeats 4000000 in
set_option maxRecDepth 20000 in
theorem ok36 : FnOk Try.prog 36 (pureC body36) := by
  refine pure_fnM body36 (rs := [.tmp 0]) Try.func36 (by kernel_rfl) rfl rfl ?_
  intro l ob v hb hob
  unfold body36 at hb
  split at hb
  · injection hb with q1 q2; subst q1 q2
    obtain ⟨r, H⟩ := Option.isSome_iff_exists.1 hob
    rw [H, gt_some]
    refine ⟨[], _, (fun E vs F => F), rfl, rfl, ?_⟩
    rw [Try.ntmps36]
    simp only [List.length_cons, List.length_nil, Nat.reduceAdd, Nat.reduceSub, List.replicate_succ, List.replicate_zero, List.cons_append, List.nil_append]
    unfold F36 at H
    try dsimp only at H
    refine sq ctNo_ok ?_
    simp only [go_sem, Nat.reduceLeDiff, Nat.reduceLT, Nat.reduceAdd, Nat.reduceMul, Nat.reduceSub, Nat.reduceEqDiff, Nat.reduceBEq, Int.reduceToNat, reduceCtorEq]
    refine seqM ?_
    obtain ⟨r1, e2, H⟩ := Option.bind_eq_some_iff.1 H
    refine rg ct36t0_ok ?_
    simp only [go_sem, Nat.reduceLeDiff, Nat.reduceLT, Nat.reduceAdd, Nat.reduceMul, Nat.reduceSub, Nat.reduceEqDiff, Nat.reduceBEq, Int.reduceToNat, reduceCtorEq, roD, roDOb, deadL, edC, edR, nodupB, rnm, rnmL, rnmB, rnmH, rnm_bif, rnmB_bif, putH, dropH, rhoN, ptB, slN, litL, celL, pK, isLit, oS, isRow, inL, ct36t0_33, body33, e2]
    repeat ((with_reducible refine And.intro ?_ ?_); focus (first | (with_reducible trivial) | omega | (and_intros <;> first | (with_reducible trivial) | omega | assumption | exact nfc | first | exact rfl | exact trivial | exact fitI | exact Or.inr rfl | exact Or.inl rfl | exact fun x hx => absurd hx (by omega) | (intro x hx; (repeat (first | (and_intros <;> (first | exact rfl | exact trivial | exact fitI | exact Or.inr rfl | exact Or.inl rfl | exact fun x hx => absurd hx (by omega))) | (exfalso; omega) | (rcases x with _ | x))); done)) | grind))
    refine sq ctNo_ok ?_
    simp only [go_sem, Nat.reduceLeDiff, Nat.reduceLT, Nat.reduceAdd, Nat.reduceMul, Nat.reduceSub, Nat.reduceEqDiff, Nat.reduceBEq, Int.reduceToNat, reduceCtorEq]
    repeat ((with_reducible refine And.intro ?_ ?_); focus (first | (with_reducible trivial) | omega | grind))
    refine seqM ?_
    obtain ⟨r3, e4, H⟩ := Option.bind_eq_some_iff.1 H
    refine rg ct36t1_ok ?_
    simp only [go_sem, Nat.reduceLeDiff, Nat.reduceLT, Nat.reduceAdd, Nat.reduceMul, Nat.reduceSub, Nat.reduceEqDiff, Nat.reduceBEq, Int.reduceToNat, reduceCtorEq, roD, roDOb, deadL, edC, edR, nodupB, rnm, rnmL, rnmB, rnmH, rnm_bif, rnmB_bif, putH, dropH, rhoN, ptB, slN, litL, celL, pK, isLit, oS, isRow, inL, ct36t1_20, body20, e4]
    repeat ((with_reducible refine And.intro ?_ ?_); focus (first | (with_reducible trivial) | omega | (and_intros <;> first | (with_reducible trivial) | omega | assumption | exact nfc | first | exact rfl | exact trivial | exact fitI | exact Or.inr rfl | exact Or.inl rfl | exact fun x hx => absurd hx (by omega) | (intro x hx; (repeat (first | (and_intros <;> (first | exact rfl | exact trivial | exact fitI | exact Or.inr rfl | exact Or.inl rfl | exact fun x hx => absurd hx (by omega))) | (exfalso; omega) | (rcases x with _ | x))); done)) | grind))
    refine seqM ?_
    refine seqM ?_
    obtain ⟨f5, H⟩ := need_some.1 H
    replace f5 := g_iff.1 f5
    replace f5 := fun g => inb_iff.1 (f5 g)
    obtain ⟨f6, H⟩ := need_some.1 H
    replace f6 := g_iff.1 f6
    replace f6 := fun g => inb_iff.1 (f6 g)
    refine rg ctNo_ok ?_
    simp only [go_sem, Nat.reduceLeDiff, Nat.reduceLT, Nat.reduceAdd, Nat.reduceMul, Nat.reduceSub, Nat.reduceEqDiff, Nat.reduceBEq, Int.reduceToNat, reduceCtorEq]
    repeat ((with_reducible refine And.intro ?_ ?_); focus (first | (with_reducible trivial) | omega | exact f5 | exact f6 | (intro g; have q := f5 (by first | exact g | (rw [g]; rfl) | simpa using g); first | exact q | exact ⟨q.1, q.2.1⟩ | exact q.2.2 | omega | exact ⟨g, q⟩ | exact ⟨trivial, q⟩ | exact ⟨g, q.1, q.2.1⟩ | exact ⟨g, q.2.2⟩) | (intro g; have q := f6 (by first | exact g | (rw [g]; rfl) | simpa using g); first | exact q | exact ⟨q.1, q.2.1⟩ | exact q.2.2 | omega | exact ⟨g, q⟩ | exact ⟨trivial, q⟩ | exact ⟨g, q.1, q.2.1⟩ | exact ⟨g, q.2.2⟩) | (intro g; (try have q0 := f5 (by first | exact g | (rw [g]; rfl) | simpa using g)); (try have q1 := f6 (by first | exact g | (rw [g]; rfl) | simpa using g)); and_intros <;> first | (with_reducible trivial) | assumption | exact nfc | (intro g2; rw [g, g2]; rfl) | (intro g2; assumption) | (simp only [g, Bool.true_and, Bool.and_true, Bool.not_false, Bool.not_true]; assumption) | grind) | (and_intros <;> first | (with_reducible trivial) | omega | assumption | exact nfc | first | exact rfl | exact trivial | exact fitI | exact Or.inr rfl | exact Or.inl rfl | exact fun x hx => absurd hx (by omega) | (intro x hx; (repeat (first | (and_intros <;> (first | exact rfl | exact trivial | exact fitI | exact Or.inr rfl | exact Or.inl rfl | exact fun x hx => absurd hx (by omega))) | (exfalso; omega) | (rcases x with _ | x))); done)) | grind))
    refine condM rfl trivial (fun hc => ?_) (fun hc => ?_)
    · replace H := cond_t hc H
      refine sq ctNo_ok ?_
      simp only [go_sem, Nat.reduceLeDiff, Nat.reduceLT, Nat.reduceAdd, Nat.reduceMul, Nat.reduceSub, Nat.reduceEqDiff, Nat.reduceBEq, Int.reduceToNat, reduceCtorEq]
      refine rg ctNo_ok ?_
      simp only [go_sem, Nat.reduceLeDiff, Nat.reduceLT, Nat.reduceAdd, Nat.reduceMul, Nat.reduceSub, Nat.reduceEqDiff, Nat.reduceBEq, Int.reduceToNat, reduceCtorEq]
      obtain rfl := Option.some.inj H
      first | rfl | simp only [Bool.and_false, Bool.false_and, Bool.and_true, Bool.true_and]
    replace H := cond_f hc H
    refine rg ctNo_ok ?_
    simp only [go_sem, Nat.reduceLeDiff, Nat.reduceLT, Nat.reduceAdd, Nat.reduceMul, Nat.reduceSub, Nat.reduceEqDiff, Nat.reduceBEq, Int.reduceToNat, reduceCtorEq]
    refine seqM ?_
    obtain ⟨r7, e8, H⟩ := Option.bind_eq_some_iff.1 H
    refine rg ct36t1_ok ?_
    simp only [go_sem, Nat.reduceLeDiff, Nat.reduceLT, Nat.reduceAdd, Nat.reduceMul, Nat.reduceSub, Nat.reduceEqDiff, Nat.reduceBEq, Int.reduceToNat, reduceCtorEq, roD, roDOb, deadL, edC, edR, nodupB, rnm, rnmL, rnmB, rnmH, rnm_bif, rnmB_bif, putH, dropH, rhoN, ptB, slN, litL, celL, pK, isLit, oS, isRow, inL, ct36t1_20, body20, e8]
    repeat ((with_reducible refine And.intro ?_ ?_); focus (first | (with_reducible trivial) | omega | (and_intros <;> first | (with_reducible trivial) | omega | assumption | exact nfc | first | exact rfl | exact trivial | exact fitI | exact Or.inr rfl | exact Or.inl rfl | exact fun x hx => absurd hx (by omega) | (intro x hx; (repeat (first | (and_intros <;> (first | exact rfl | exact trivial | exact fitI | exact Or.inr rfl | exact Or.inl rfl | exact fun x hx => absurd hx (by omega))) | (exfalso; omega) | (rcases x with _ | x))); done)) | grind))
    refine seqM ?_
    obtain ⟨r9, e10, H⟩ := Option.bind_eq_some_iff.1 H
    refine rg ct36t1_ok ?_
    simp only [go_sem, Nat.reduceLeDiff, Nat.reduceLT, Nat.reduceAdd, Nat.reduceMul, Nat.reduceSub, Nat.reduceEqDiff, Nat.reduceBEq, Int.reduceToNat, reduceCtorEq, roD, roDOb, deadL, edC, edR, nodupB, rnm, rnmL, rnmB, rnmH, rnm_bif, rnmB_bif, putH, dropH, rhoN, ptB, slN, litL, celL, pK, isLit, oS, isRow, inL, ct36t1_20, body20, e10]
    repeat ((with_reducible refine And.intro ?_ ?_); focus (first | (with_reducible trivial) | omega | (and_intros <;> first | (with_reducible trivial) | omega | assumption | exact nfc | first | exact rfl | exact trivial | exact fitI | exact Or.inr rfl | exact Or.inl rfl | exact fun x hx => absurd hx (by omega) | (intro x hx; (repeat (first | (and_intros <;> (first | exact rfl | exact trivial | exact fitI | exact Or.inr rfl | exact Or.inl rfl | exact fun x hx => absurd hx (by omega))) | (exfalso; omega) | (rcases x with _ | x))); done)) | grind))
    refine seqM ?_
    obtain ⟨r11, e12, H⟩ := Option.bind_eq_some_iff.1 H
    refine rg ct36t2_ok ?_
    simp only [go_sem, Nat.reduceLeDiff, Nat.reduceLT, Nat.reduceAdd, Nat.reduceMul, Nat.reduceSub, Nat.reduceEqDiff, Nat.reduceBEq, Int.reduceToNat, reduceCtorEq, ct36t2_27, body27, e12]
    repeat ((with_reducible refine And.intro ?_ ?_); focus (first | (with_reducible trivial) | omega | (and_intros <;> first | (with_reducible trivial) | omega | assumption | exact nfc | first | exact rfl | exact trivial | exact fitI | exact Or.inr rfl | exact Or.inl rfl | exact fun x hx => absurd hx (by omega) | (intro x hx; (repeat (first | (and_intros <;> (first | exact rfl | exact trivial | exact fitI | exact Or.inr rfl | exact Or.inl rfl | exact fun x hx => absurd hx (by omega))) | (exfalso; omega) | (rcases x with _ | x))); done)) | grind))
    refine sq ctNo_ok ?_
    simp only [go_sem, Nat.reduceLeDiff, Nat.reduceLT, Nat.reduceAdd, Nat.reduceMul, Nat.reduceSub, Nat.reduceEqDiff, Nat.reduceBEq, Int.reduceToNat, reduceCtorEq]
    repeat ((with_reducible refine And.intro ?_ ?_); focus (first | (with_reducible trivial) | omega | grind))
    refine rg ctNo_ok ?_
    simp only [go_sem, Nat.reduceLeDiff, Nat.reduceLT, Nat.reduceAdd, Nat.reduceMul, Nat.reduceSub, Nat.reduceEqDiff, Nat.reduceBEq, Int.reduceToNat, reduceCtorEq]
    obtain rfl := Option.some.inj H
    first | rfl | simp only [Bool.and_false, Bool.false_and, Bool.and_true, Bool.true_and]
  · cases hb
/-! hotspot/hotspotlaw40.great -/
noncomputable def F16 (p0 : TRoots) : Option (Bool) :=
  some ((bLt 20 (p0.Trees.length : Nat)) || (bLt 100 (p0.Proxies.length : Nat)))
noncomputable def body16 : List AV → AR
  | [v0] => .pure (aK 11 k_TRoots v0 ∧ (F16 (g_TRoots (aL v0))).isSome = true) (.bool (gt (F16 (g_TRoots (aL v0)))))
  | _ => .fail
set_option maxHeartbeats 4000000 in
set_option maxRecDepth 20000 in
theorem ok16 : FnOk Try.prog 16 (pureC body16) := by
  refine pure_fnM body16 (rs := [.tmp 2]) Try.func16 (by kernel_rfl) rfl rfl ?_
  intro l ob v hb hob
  unfold body16 at hb
  split at hb
  · rename_i v0
    injection hb with q1 q2; subst q1 q2
    obtain ⟨hk0_0, hob⟩ := hob
    obtain ⟨r, H⟩ := Option.isSome_iff_exists.1 hob
    rw [H, gt_some]
    have hw0 := wA_TRoots hk0_0
    generalize g_TRoots (aL v0) = p0 at H hw0
    refine ⟨[.agg [.int .u8 p0.Own.x0, .int .u8 p0.Own.x1, .int .u8 p0.Own.x2, .int .u8 p0.Own.x3, .int .u8 p0.Own.x4, .int .u8 p0.Own.x5, .bool p0.Root, .bool p0.Gate, .int .i64 p0.Seq, .ro 17 p0.Trees.length false (enR c_TTree p0.Trees), .ro 13 p0.Proxies.length false (enR c_TProxied p0.Proxies)]], _, (fun E vs F => FR_wk1 hw0.1 F (fun vs F => F)), rfl, rfl, ?_⟩
    rw [Try.ntmps16]
    simp only [List.length_cons, List.length_nil, Nat.reduceAdd, Nat.reduceSub, List.replicate_succ, List.replicate_zero, List.cons_append, List.nil_append]
    unfold F16 at H
    try dsimp only at H
    refine sq ctNo_ok ?_
    simp only [go_sem, Nat.reduceLeDiff, Nat.reduceLT, Nat.reduceAdd, Nat.reduceMul, Nat.reduceSub, Nat.reduceEqDiff, Nat.reduceBEq, Int.reduceToNat, reduceCtorEq]
    refine sq ctNo_ok ?_
    simp only [go_sem, Nat.reduceLeDiff, Nat.reduceLT, Nat.reduceAdd, Nat.reduceMul, Nat.reduceSub, Nat.reduceEqDiff, Nat.reduceBEq, Int.reduceToNat, reduceCtorEq]
    repeat ((with_reducible refine And.intro ?_ ?_); focus (first | (with_reducible trivial) | omega | (intro g; and_intros <;> first | (with_reducible trivial) | assumption | exact nfc | (intro g2; rw [g, g2]; rfl) | (intro g2; assumption) | (simp only [g, Bool.true_and, Bool.and_true, Bool.not_false, Bool.not_true]; assumption) | grind) | (and_intros <;> first | (with_reducible trivial) | omega | assumption | exact nfc | first | exact rfl | exact trivial | exact fitI | exact Or.inr rfl | exact Or.inl rfl | exact fun x hx => absurd hx (by omega) | (intro x hx; (repeat (first | (and_intros <;> (first | exact rfl | exact trivial | exact fitI | exact Or.inr rfl | exact Or.inl rfl | exact fun x hx => absurd hx (by omega))) | (exfalso; omega) | (rcases x with _ | x))); done)) | grind))
    refine rg ctNo_ok ?_
    simp only [go_sem, Nat.reduceLeDiff, Nat.reduceLT, Nat.reduceAdd, Nat.reduceMul, Nat.reduceSub, Nat.reduceEqDiff, Nat.reduceBEq, Int.reduceToNat, reduceCtorEq]
    obtain rfl := Option.some.inj H
    first | rfl | simp only [Bool.and_false, Bool.false_and, Bool.and_true, Bool.true_and]
  · cases hb
/-! hotspot/hotspotref40.Same -/
noncomputable def F24_L1 (p0 : TRoots) (p1 : TRoots) (v1_1 : Int) : Option (Lp (Int) ((Unit) ⊕ (Bool))) :=
  bif (bLt v1_1 (p0.Trees.length : Nat)) then (need (inb v1_1 p0.Trees.length) <| need (inb v1_1 p1.Trees.length) <| bif (!(bEq (((gd p0.Trees v1_1.toNat).Root).x0) (((gd p1.Trees v1_1.toNat).Root).x0) && (bEq (((gd p0.Trees v1_1.toNat).Root).x1) (((gd p1.Trees v1_1.toNat).Root).x1) && (bEq (((gd p0.Trees v1_1.toNat).Root).x2) (((gd p1.Trees v1_1.toNat).Root).x2) && (bEq (((gd p0.Trees v1_1.toNat).Root).x3) (((gd p1.Trees v1_1.toNat).Root).x3) && (bEq (((gd p0.Trees v1_1.toNat).Root).x4) (((gd p1.Trees v1_1.toNat).Root).x4) && (bEq (((gd p0.Trees v1_1.toNat).Root).x5) (((gd p1.Trees v1_1.toNat).Root).x5) && (bEq (((gd p0.Trees v1_1.toNat).Parent).x0) (((gd p1.Trees v1_1.toNat).Parent).x0) && (bEq (((gd p0.Trees v1_1.toNat).Parent).x1) (((gd p1.Trees v1_1.toNat).Parent).x1) && (bEq (((gd p0.Trees v1_1.toNat).Parent).x2) (((gd p1.Trees v1_1.toNat).Parent).x2) && (bEq (((gd p0.Trees v1_1.toNat).Parent).x3) (((gd p1.Trees v1_1.toNat).Parent).x3) && (bEq (((gd p0.Trees v1_1.toNat).Parent).x4) (((gd p1.Trees v1_1.toNat).Parent).x4) && (bEq (((gd p0.Trees v1_1.toNat).Parent).x5) (((gd p1.Trees v1_1.toNat).Parent).x5) && (bEq ((gd p0.Trees v1_1.toNat).Seq) ((gd p1.Trees v1_1.toNat).Seq) && (bEq ((gd p0.Trees v1_1.toNat).Hops) ((gd p1.Trees v1_1.toNat).Hops) && (bEq ((gd p0.Trees v1_1.toNat).Cost) ((gd p1.Trees v1_1.toNat).Cost) && (bB ((gd p0.Trees v1_1.toNat).Gate) ((gd p1.Trees v1_1.toNat).Gate) && (bEq ((gd p0.Trees v1_1.toNat).Until) ((gd p1.Trees v1_1.toNat).Until))))))))))))))))))) then (some (.done (.inr false))) else (some (.next (wr .i64 (v1_1 + 1))))) else (some (.done (.inl ())))
noncomputable def F24_L2 (p0 : TRoots) (p1 : TRoots) (v2_1 : Int) : Option (Lp (Int) ((Unit) ⊕ (Bool))) :=
  bif (bLt v2_1 (p0.Proxies.length : Nat)) then (need (inb v2_1 p0.Proxies.length) <| need (inb v2_1 p1.Proxies.length) <| bif (!(bEq (((gd p0.Proxies v2_1.toNat).Out).x0) (((gd p1.Proxies v2_1.toNat).Out).x0) && (bEq (((gd p0.Proxies v2_1.toNat).Out).x1) (((gd p1.Proxies v2_1.toNat).Out).x1) && (bEq (((gd p0.Proxies v2_1.toNat).Out).x2) (((gd p1.Proxies v2_1.toNat).Out).x2) && (bEq (((gd p0.Proxies v2_1.toNat).Out).x3) (((gd p1.Proxies v2_1.toNat).Out).x3) && (bEq (((gd p0.Proxies v2_1.toNat).Out).x4) (((gd p1.Proxies v2_1.toNat).Out).x4) && (bEq (((gd p0.Proxies v2_1.toNat).Out).x5) (((gd p1.Proxies v2_1.toNat).Out).x5) && (bEq (((gd p0.Proxies v2_1.toNat).Via).x0) (((gd p1.Proxies v2_1.toNat).Via).x0) && (bEq (((gd p0.Proxies v2_1.toNat).Via).x1) (((gd p1.Proxies v2_1.toNat).Via).x1) && (bEq (((gd p0.Proxies v2_1.toNat).Via).x2) (((gd p1.Proxies v2_1.toNat).Via).x2) && (bEq (((gd p0.Proxies v2_1.toNat).Via).x3) (((gd p1.Proxies v2_1.toNat).Via).x3) && (bEq (((gd p0.Proxies v2_1.toNat).Via).x4) (((gd p1.Proxies v2_1.toNat).Via).x4) && (bEq (((gd p0.Proxies v2_1.toNat).Via).x5) (((gd p1.Proxies v2_1.toNat).Via).x5) && (bEq ((gd p0.Proxies v2_1.toNat).Until) ((gd p1.Proxies v2_1.toNat).Until))))))))))))))) then (some (.done (.inr false))) else (some (.next (wr .i64 (v2_1 + 1))))) else (some (.done (.inl ())))
noncomputable def F24 (p0 : TRoots) (p1 : TRoots) : Option (Bool) :=
  bif ((((((!(bEq p0.Own.x0 p1.Own.x0 && (bEq p0.Own.x1 p1.Own.x1 && (bEq p0.Own.x2 p1.Own.x2 && (bEq p0.Own.x3 p1.Own.x3 && (bEq p0.Own.x4 p1.Own.x4 && (bEq p0.Own.x5 p1.Own.x5))))))) || (!bB p0.Root p1.Root)) || (!bB p0.Gate p1.Gate)) || (!bEq p0.Seq p1.Seq)) || (!bEq (p0.Trees.length : Nat) (p1.Trees.length : Nat))) || (!bEq (p0.Proxies.length : Nat) (p1.Proxies.length : Nat))) then (some false) else (lp (loopD (fun s => F24_L1 p0 p1 s) 0) (fun e => lp (loopD (fun s => F24_L2 p0 p1 s) 0) (fun e => some true) some) some)
noncomputable def body24 : List AV → AR
  | [v0, v1] => .pure (aK 11 k_TRoots v0 ∧ aK 11 k_TRoots v1 ∧ (F24 (g_TRoots (aL v0)) (g_TRoots (aL v1))).isSome = true) (.bool (gt (F24 (g_TRoots (aL v0)) (g_TRoots (aL v1)))))
  | _ => .fail
set_option maxHeartbeats 4000000 in
set_option maxRecDepth 20000 in
theorem ok24 : FnOk Try.prog 24 (pureC body24) := by
  refine pure_fnM body24 (rs := [.tmp 4]) Try.func24 (by kernel_rfl) rfl rfl ?_
  intro l ob v hb hob
  unfold body24 at hb
  split at hb
  · rename_i v0 v1
    injection hb with q1 q2; subst q1 q2
    obtain ⟨hk0_0, hk1_0, hob⟩ := hob
    obtain ⟨r, H⟩ := Option.isSome_iff_exists.1 hob
    rw [H, gt_some]
    have hw0 := wA_TRoots hk0_0
    have hw1 := wA_TRoots hk1_0
    generalize g_TRoots (aL v0) = p0 at H hw0
    generalize g_TRoots (aL v1) = p1 at H hw1
    refine ⟨[.agg [.int .u8 p0.Own.x0, .int .u8 p0.Own.x1, .int .u8 p0.Own.x2, .int .u8 p0.Own.x3, .int .u8 p0.Own.x4, .int .u8 p0.Own.x5, .bool p0.Root, .bool p0.Gate, .int .i64 p0.Seq, .ro 17 p0.Trees.length false (enR c_TTree p0.Trees), .ro 13 p0.Proxies.length false (enR c_TProxied p0.Proxies)], .agg [.int .u8 p1.Own.x0, .int .u8 p1.Own.x1, .int .u8 p1.Own.x2, .int .u8 p1.Own.x3, .int .u8 p1.Own.x4, .int .u8 p1.Own.x5, .bool p1.Root, .bool p1.Gate, .int .i64 p1.Seq, .ro 17 p1.Trees.length false (enR c_TTree p1.Trees), .ro 13 p1.Proxies.length false (enR c_TProxied p1.Proxies)]], _, (fun E vs F => FR_wk1 hw0.1 F (fun vs F => FR_wk1 hw1.1 F (fun vs F => F))), rfl, rfl, ?_⟩
    rw [Try.ntmps24]
    simp only [List.length_cons, List.length_nil, Nat.reduceAdd, Nat.reduceSub, List.replicate_succ, List.replicate_zero, List.cons_append, List.nil_append]
    unfold F24 at H
    try dsimp only at H
    refine sq ctNo_ok ?_
    simp only [go_sem, Nat.reduceLeDiff, Nat.reduceLT, Nat.reduceAdd, Nat.reduceMul, Nat.reduceSub, Nat.reduceEqDiff, Nat.reduceBEq, Int.reduceToNat, reduceCtorEq]
    refine seqM ?_
    refine sq ctNo_ok ?_
    simp only [go_sem, Nat.reduceLeDiff, Nat.reduceLT, Nat.reduceAdd, Nat.reduceMul, Nat.reduceSub, Nat.reduceEqDiff, Nat.reduceBEq, Int.reduceToNat, reduceCtorEq]
    repeat ((with_reducible refine And.intro ?_ ?_); focus (first | (with_reducible trivial) | omega | (intro g; and_intros <;> first | (with_reducible trivial) | assumption | exact nfc | (intro g2; rw [g, g2]; rfl) | (intro g2; assumption) | (simp only [g, Bool.true_and, Bool.and_true, Bool.not_false, Bool.not_true]; assumption) | grind) | (and_intros <;> first | (with_reducible trivial) | omega | assumption | exact nfc | first | exact rfl | exact trivial | exact fitI | exact Or.inr rfl | exact Or.inl rfl | exact fun x hx => absurd hx (by omega) | (intro x hx; (repeat (first | (and_intros <;> (first | exact rfl | exact trivial | exact fitI | exact Or.inr rfl | exact Or.inl rfl | exact fun x hx => absurd hx (by omega))) | (exfalso; omega) | (rcases x with _ | x))); done)) | grind))
    refine condM rfl trivial (fun hc => ?_) (fun hc => ?_)
    · replace H := cond_t hc H
      refine sq ctNo_ok ?_
      simp only [go_sem, Nat.reduceLeDiff, Nat.reduceLT, Nat.reduceAdd, Nat.reduceMul, Nat.reduceSub, Nat.reduceEqDiff, Nat.reduceBEq, Int.reduceToNat, reduceCtorEq]
      refine rg ctNo_ok ?_
      simp only [go_sem, Nat.reduceLeDiff, Nat.reduceLT, Nat.reduceAdd, Nat.reduceMul, Nat.reduceSub, Nat.reduceEqDiff, Nat.reduceBEq, Int.reduceToNat, reduceCtorEq]
      obtain rfl := Option.some.inj H
      first | rfl | simp only [Bool.and_false, Bool.false_and, Bool.and_true, Bool.true_and]
    replace H := cond_f hc H
    refine rg ctNo_ok ?_
    simp only [go_sem, Nat.reduceLeDiff, Nat.reduceLT, Nat.reduceAdd, Nat.reduceMul, Nat.reduceSub, Nat.reduceEqDiff, Nat.reduceBEq, Int.reduceToNat, reduceCtorEq]
    refine seqM ?_
    refine sq ctNo_ok ?_
    simp only [go_sem, Nat.reduceLeDiff, Nat.reduceLT, Nat.reduceAdd, Nat.reduceMul, Nat.reduceSub, Nat.reduceEqDiff, Nat.reduceBEq, Int.reduceToNat, reduceCtorEq]
    refine blkM ?_
    refine loop_den (fun s : Int => (.top :: .top :: .ptr 0 0 0 0 :: .ptr 1 0 0 0 :: .top :: .int .i64 s :: .top :: .top :: .top :: .top :: .top :: .top :: .top :: .top :: .top :: .top :: .top :: .top :: .top :: .top :: .top :: .top :: .top :: .top :: .top :: .top :: .top :: .top :: .top :: .top :: .top :: .top :: .top :: .top :: .top :: .top :: .top :: .top :: .top :: .top :: .top :: .top :: .top :: .top :: .top :: .top :: .top :: .top :: .top :: .top :: .top :: .top :: .top :: .top :: .top :: .top :: .top :: .top :: .top :: .top :: .top :: .top :: .top :: .top :: .top :: .top :: .top :: .top :: .top :: .top :: .top :: .top :: .top :: .top :: .top :: .top :: .top :: .top :: .top :: .top :: .top :: .top :: .top :: .top :: .top :: .top :: .top :: [])) (fun s => [.lit 41 [.int .u8 p0.Own.x0, .int .u8 p0.Own.x1, .int .u8 p0.Own.x2, .int .u8 p0.Own.x3, .int .u8 p0.Own.x4, .int .u8 p0.Own.x5, .bool p0.Root, .bool p0.Gate, .int .i64 p0.Seq, .ro 17 p0.Trees.length false (enR c_TTree p0.Trees), .ro 13 p0.Proxies.length false (enR c_TProxied p0.Proxies)], .lit 41 [.int .u8 p1.Own.x0, .int .u8 p1.Own.x1, .int .u8 p1.Own.x2, .int .u8 p1.Own.x3, .int .u8 p1.Own.x4, .int .u8 p1.Own.x5, .bool p1.Root, .bool p1.Gate, .int .i64 p1.Seq, .ro 17 p1.Trees.length false (enR c_TTree p1.Trees), .ro 13 p1.Proxies.length false (enR c_TProxied p1.Proxies)]]) (fun e : Unit => (.top :: .top :: .ptr 0 0 0 0 :: .ptr 1 0 0 0 :: .top :: .top :: .top :: .top :: .top :: .top :: .top :: .top :: .top :: .top :: .top :: .top :: .top :: .top :: .top :: .top :: .top :: .top :: .top :: .top :: .top :: .top :: .top :: .top :: .top :: .top :: .top :: .top :: .top :: .top :: .top :: .top :: .top :: .top :: .top :: .top :: .top :: .top :: .top :: .top :: .top :: .top :: .top :: .top :: .top :: .top :: .top :: .top :: .top :: .top :: .top :: .top :: .top :: .top :: .top :: .top :: .top :: .top :: .top :: .top :: .top :: .top :: .top :: .top :: .top :: .top :: .top :: .top :: .top :: .top :: .top :: .top :: .top :: .top :: .top :: .top :: .top :: .top :: .top :: .top :: .top :: .top :: .top :: [])) (fun e => [.lit 41 [.int .u8 p0.Own.x0, .int .u8 p0.Own.x1, .int .u8 p0.Own.x2, .int .u8 p0.Own.x3, .int .u8 p0.Own.x4, .int .u8 p0.Own.x5, .bool p0.Root, .bool p0.Gate, .int .i64 p0.Seq, .ro 17 p0.Trees.length false (enR c_TTree p0.Trees), .ro 13 p0.Proxies.length false (enR c_TProxied p0.Proxies)], .lit 41 [.int .u8 p1.Own.x0, .int .u8 p1.Own.x1, .int .u8 p1.Own.x2, .int .u8 p1.Own.x3, .int .u8 p1.Own.x4, .int .u8 p1.Own.x5, .bool p1.Root, .bool p1.Gate, .int .i64 p1.Seq, .ro 17 p1.Trees.length false (enR c_TTree p1.Trees), .ro 13 p1.Proxies.length false (enR c_TProxied p1.Proxies)]]) H ?_ (fun v1_1 o H hn1_1 hn2_1 => ?_) (fun e H => ?_)
    · refine SubF_of ⟨[some 0, some 1], ?_, ?_, by rfl, by rfl⟩
      · simp [CvL, Cv, getM]
      · exact ⟨(by simp [CvB, CvL, Cv, blkAt, geth, getM]), (by simp [CvB, CvL, Cv, blkAt, geth, getM]), trivial⟩
    · unfold F24_L1 at H
      try dsimp only at H ⊢
      refine seqM ?_
      refine sq ctNo_ok ?_
      simp only [go_sem, Nat.reduceLeDiff, Nat.reduceLT, Nat.reduceAdd, Nat.reduceMul, Nat.reduceSub, Nat.reduceEqDiff, Nat.reduceBEq, Int.reduceToNat, reduceCtorEq]
      repeat ((with_reducible refine And.intro ?_ ?_); focus (first | (with_reducible trivial) | omega | (and_intros <;> first | (with_reducible trivial) | omega | assumption | exact nfc | first | exact rfl | exact trivial | exact fitI | exact Or.inr rfl | exact Or.inl rfl | exact fun x hx => absurd hx (by omega) | (intro x hx; (repeat (first | (and_intros <;> (first | exact rfl | exact trivial | exact fitI | exact Or.inr rfl | exact Or.inl rfl | exact fun x hx => absurd hx (by omega))) | (exfalso; omega) | (rcases x with _ | x))); done)) | grind))
      refine condM' rfl trivial (fun hc => ?_) (fun hc => ?_)
      · replace H := cond_f hc H
        refine rg ctNo_ok ?_
        simp only [go_sem, Nat.reduceLeDiff, Nat.reduceLT, Nat.reduceAdd, Nat.reduceMul, Nat.reduceSub, Nat.reduceEqDiff, Nat.reduceBEq, Int.reduceToNat, reduceCtorEq]
        refine ⟨_, (Option.some.inj H).symm, ?_⟩
        refine SubF_of ⟨[some 0, some 1], ?_, ?_, by rfl, by rfl⟩
        · simp [CvL, Cv, getM]
        · exact ⟨(by simp [CvB, CvL, Cv, blkAt, geth, getM]), (by simp [CvB, CvL, Cv, blkAt, geth, getM]), trivial⟩
      replace H := cond_t hc H
      refine rg ctNo_ok ?_
      simp only [go_sem, Nat.reduceLeDiff, Nat.reduceLT, Nat.reduceAdd, Nat.reduceMul, Nat.reduceSub, Nat.reduceEqDiff, Nat.reduceBEq, Int.reduceToNat, reduceCtorEq]
      refine seqM ?_
      refine blkM ?_
      refine seqM ?_
      obtain ⟨f1, H⟩ := need_some.1 H
      replace f1 := inb_iff.1 f1
      obtain ⟨f2, H⟩ := need_some.1 H
      replace f2 := inb_iff.1 f2
      refine draw_quiet shT_ok ctNo_ok (by kernel_rfl) (by kernel_rfl) ?_
      simp only [go_sem, Nat.reduceLeDiff, Nat.reduceLT, Nat.reduceAdd, Nat.reduceMul, Nat.reduceSub, Nat.reduceEqDiff, Nat.reduceBEq, Int.reduceToNat, reduceCtorEq, f1, f2]
      repeat ((with_reducible refine And.intro ?_ ?_); focus (first | (with_reducible trivial) | omega | grind))
      refine condM rfl trivial (fun hc => ?_) (fun hc => ?_)
      · replace H := cond_t hc H
        refine sq ctNo_ok ?_
        simp only [go_sem, Nat.reduceLeDiff, Nat.reduceLT, Nat.reduceAdd, Nat.reduceMul, Nat.reduceSub, Nat.reduceEqDiff, Nat.reduceBEq, Int.reduceToNat, reduceCtorEq]
        refine rg ctNo_ok ?_
        simp only [go_sem, Nat.reduceLeDiff, Nat.reduceLT, Nat.reduceAdd, Nat.reduceMul, Nat.reduceSub, Nat.reduceEqDiff, Nat.reduceBEq, Int.reduceToNat, reduceCtorEq]
        have H := hn2_1 _ (Option.some.inj H).symm
        obtain rfl := Option.some.inj H
        first | rfl | simp only [Bool.and_false, Bool.false_and, Bool.and_true, Bool.true_and]
      replace H := cond_f hc H
      refine rg ctNo_ok ?_
      simp only [go_sem, Nat.reduceLeDiff, Nat.reduceLT, Nat.reduceAdd, Nat.reduceMul, Nat.reduceSub, Nat.reduceEqDiff, Nat.reduceBEq, Int.reduceToNat, reduceCtorEq]
      refine rg ctNo_ok ?_
      simp only [go_sem, Nat.reduceLeDiff, Nat.reduceLT, Nat.reduceAdd, Nat.reduceMul, Nat.reduceSub, Nat.reduceEqDiff, Nat.reduceBEq, Int.reduceToNat, reduceCtorEq]
      refine ⟨_, (Option.some.inj H).symm, ?_⟩
      refine SubF_of ⟨[some 0, some 1], ?_, ?_, by rfl, by rfl⟩
      · simp [CvL, Cv, getM]
      · exact ⟨(by simp [CvB, CvL, Cv, blkAt, geth, getM]), (by simp [CvB, CvL, Cv, blkAt, geth, getM]), trivial⟩
    · try dsimp only at H ⊢
      try simp only [m_normal, k_normal, b_normal, kL_normal, r_normal]
      refine seqM ?_
      refine sq ctNo_ok ?_
      simp only [go_sem, Nat.reduceLeDiff, Nat.reduceLT, Nat.reduceAdd, Nat.reduceMul, Nat.reduceSub, Nat.reduceEqDiff, Nat.reduceBEq, Int.reduceToNat, reduceCtorEq]
      refine blkM ?_
      refine loop_den (fun s : Int => (.top :: .top :: .ptr 0 0 0 0 :: .ptr 1 0 0 0 :: .top :: .top :: .int .i64 s :: .top :: .top :: .top :: .top :: .top :: .top :: .top :: .top :: .top :: .top :: .top :: .top :: .top :: .top :: .top :: .top :: .top :: .top :: .top :: .top :: .top :: .top :: .top :: .top :: .top :: .top :: .top :: .top :: .top :: .top :: .top :: .top :: .top :: .top :: .top :: .top :: .top :: .top :: .top :: .top :: .top :: .top :: .top :: .top :: .top :: .top :: .top :: .top :: .top :: .top :: .top :: .top :: .top :: .top :: .top :: .top :: .top :: .top :: .top :: .top :: .top :: .top :: .top :: .top :: .top :: .top :: .top :: .top :: .top :: .top :: .top :: .top :: .top :: .top :: .top :: .top :: .top :: .top :: .top :: .top :: [])) (fun s => [.lit 41 [.int .u8 p0.Own.x0, .int .u8 p0.Own.x1, .int .u8 p0.Own.x2, .int .u8 p0.Own.x3, .int .u8 p0.Own.x4, .int .u8 p0.Own.x5, .bool p0.Root, .bool p0.Gate, .int .i64 p0.Seq, .ro 17 p0.Trees.length false (enR c_TTree p0.Trees), .ro 13 p0.Proxies.length false (enR c_TProxied p0.Proxies)], .lit 41 [.int .u8 p1.Own.x0, .int .u8 p1.Own.x1, .int .u8 p1.Own.x2, .int .u8 p1.Own.x3, .int .u8 p1.Own.x4, .int .u8 p1.Own.x5, .bool p1.Root, .bool p1.Gate, .int .i64 p1.Seq, .ro 17 p1.Trees.length false (enR c_TTree p1.Trees), .ro 13 p1.Proxies.length false (enR c_TProxied p1.Proxies)]]) (fun e : Unit => (.top :: .top :: .top :: .top :: .top :: .top :: .top :: .top :: .top :: .top :: .top :: .top :: .top :: .top :: .top :: .top :: .top :: .top :: .top :: .top :: .top :: .top :: .top :: .top :: .top :: .top :: .top :: .top :: .top :: .top :: .top :: .top :: .top :: .top :: .top :: .top :: .top :: .top :: .top :: .top :: .top :: .top :: .top :: .top :: .top :: .top :: .top :: .top :: .top :: .top :: .top :: .top :: .top :: .top :: .top :: .top :: .top :: .top :: .top :: .top :: .top :: .top :: .top :: .top :: .top :: .top :: .top :: .top :: .top :: .top :: .top :: .top :: .top :: .top :: .top :: .top :: .top :: .top :: .top :: .top :: .top :: .top :: .top :: .top :: .top :: .top :: .top :: [])) (fun e => [.dead, .dead]) H ?_ (fun v2_1 o H hn1_2 hn2_2 => ?_) (fun e H => ?_)
      · refine SubF_of ⟨[some 0, some 1], ?_, ?_, by rfl, by rfl⟩
        · simp [CvL, Cv, getM]
        · exact ⟨(by simp [CvB, CvL, Cv, blkAt, geth, getM]), (by simp [CvB, CvL, Cv, blkAt, geth, getM]), trivial⟩
      · unfold F24_L2 at H
        try dsimp only at H ⊢
        refine seqM ?_
        refine sq ctNo_ok ?_
        simp only [go_sem, Nat.reduceLeDiff, Nat.reduceLT, Nat.reduceAdd, Nat.reduceMul, Nat.reduceSub, Nat.reduceEqDiff, Nat.reduceBEq, Int.reduceToNat, reduceCtorEq]
        repeat ((with_reducible refine And.intro ?_ ?_); focus (first | (with_reducible trivial) | omega | (and_intros <;> first | (with_reducible trivial) | omega | assumption | exact nfc | first | exact rfl | exact trivial | exact fitI | exact Or.inr rfl | exact Or.inl rfl | exact fun x hx => absurd hx (by omega) | (intro x hx; (repeat (first | (and_intros <;> (first | exact rfl | exact trivial | exact fitI | exact Or.inr rfl | exact Or.inl rfl | exact fun x hx => absurd hx (by omega))) | (exfalso; omega) | (rcases x with _ | x))); done)) | grind))
        refine condM' rfl trivial (fun hc => ?_) (fun hc => ?_)
        · replace H := cond_f hc H
          refine rg ctNo_ok ?_
          simp only [go_sem, Nat.reduceLeDiff, Nat.reduceLT, Nat.reduceAdd, Nat.reduceMul, Nat.reduceSub, Nat.reduceEqDiff, Nat.reduceBEq, Int.reduceToNat, reduceCtorEq]
          refine ⟨_, (Option.some.inj H).symm, ?_⟩
          refine SubF_of ⟨[some 0, some 1], ?_, ?_, by rfl, by rfl⟩
          · simp [CvL, Cv, getM]
          · exact ⟨CvB_dead, CvB_dead, trivial⟩
        replace H := cond_t hc H
        refine rg ctNo_ok ?_
        simp only [go_sem, Nat.reduceLeDiff, Nat.reduceLT, Nat.reduceAdd, Nat.reduceMul, Nat.reduceSub, Nat.reduceEqDiff, Nat.reduceBEq, Int.reduceToNat, reduceCtorEq]
        refine seqM ?_
        refine blkM ?_
        refine seqM ?_
        obtain ⟨f3, H⟩ := need_some.1 H
        replace f3 := inb_iff.1 f3
        obtain ⟨f4, H⟩ := need_some.1 H
        replace f4 := inb_iff.1 f4
        refine draw_quiet shT_ok ctNo_ok (by kernel_rfl) (by kernel_rfl) ?_
        simp only [go_sem, Nat.reduceLeDiff, Nat.reduceLT, Nat.reduceAdd, Nat.reduceMul, Nat.reduceSub, Nat.reduceEqDiff, Nat.reduceBEq, Int.reduceToNat, reduceCtorEq, f3, f4]
        repeat ((with_reducible refine And.intro ?_ ?_); focus (first | (with_reducible trivial) | omega | grind))
        refine condM rfl trivial (fun hc => ?_) (fun hc => ?_)
        · replace H := cond_t hc H
          refine sq ctNo_ok ?_
          simp only [go_sem, Nat.reduceLeDiff, Nat.reduceLT, Nat.reduceAdd, Nat.reduceMul, Nat.reduceSub, Nat.reduceEqDiff, Nat.reduceBEq, Int.reduceToNat, reduceCtorEq]
          refine rg ctNo_ok ?_
          simp only [go_sem, Nat.reduceLeDiff, Nat.reduceLT, Nat.reduceAdd, Nat.reduceMul, Nat.reduceSub, Nat.reduceEqDiff, Nat.reduceBEq, Int.reduceToNat, reduceCtorEq]
          have H := hn2_2 _ (Option.some.inj H).symm
          obtain rfl := Option.some.inj H
          first | rfl | simp only [Bool.and_false, Bool.false_and, Bool.and_true, Bool.true_and]
        replace H := cond_f hc H
        refine rg ctNo_ok ?_
        simp only [go_sem, Nat.reduceLeDiff, Nat.reduceLT, Nat.reduceAdd, Nat.reduceMul, Nat.reduceSub, Nat.reduceEqDiff, Nat.reduceBEq, Int.reduceToNat, reduceCtorEq]
        refine rg ctNo_ok ?_
        simp only [go_sem, Nat.reduceLeDiff, Nat.reduceLT, Nat.reduceAdd, Nat.reduceMul, Nat.reduceSub, Nat.reduceEqDiff, Nat.reduceBEq, Int.reduceToNat, reduceCtorEq]
        refine ⟨_, (Option.some.inj H).symm, ?_⟩
        refine SubF_of ⟨[some 0, some 1], ?_, ?_, by rfl, by rfl⟩
        · simp [CvL, Cv, getM]
        · exact ⟨(by simp [CvB, CvL, Cv, blkAt, geth, getM]), (by simp [CvB, CvL, Cv, blkAt, geth, getM]), trivial⟩
      · try dsimp only at H ⊢
        try simp only [m_normal, k_normal, b_normal, kL_normal, r_normal]
        refine sq ctNo_ok ?_
        simp only [go_sem, Nat.reduceLeDiff, Nat.reduceLT, Nat.reduceAdd, Nat.reduceMul, Nat.reduceSub, Nat.reduceEqDiff, Nat.reduceBEq, Int.reduceToNat, reduceCtorEq]
        refine rg ctNo_ok ?_
        simp only [go_sem, Nat.reduceLeDiff, Nat.reduceLT, Nat.reduceAdd, Nat.reduceMul, Nat.reduceSub, Nat.reduceEqDiff, Nat.reduceBEq, Int.reduceToNat, reduceCtorEq]
        obtain rfl := Option.some.inj H
        first | rfl | simp only [Bool.and_false, Bool.false_and, Bool.and_true, Bool.true_and]
  · cases hb
/-! hotspot/hotspotref40.Find -/
noncomputable def F37_L1 (p0 : TRoots) (p1 : A6u8) (v1_1 : Int) : Option (Lp (Int) ((Unit) ⊕ (TTree × Bool))) :=
  bif (bLt v1_1 (p0.Trees.length : Nat)) then (need (inb v1_1 p0.Trees.length) <| bif (bEq (((gd p0.Trees v1_1.toNat).Root).x0) p1.x0 && (bEq (((gd p0.Trees v1_1.toNat).Root).x1) p1.x1 && (bEq (((gd p0.Trees v1_1.toNat).Root).x2) p1.x2 && (bEq (((gd p0.Trees v1_1.toNat).Root).x3) p1.x3 && (bEq (((gd p0.Trees v1_1.toNat).Root).x4) p1.x4 && (bEq (((gd p0.Trees v1_1.toNat).Root).x5) p1.x5)))))) then (need (inb v1_1 p0.Trees.length) <| some (.done (.inr ((TTree.mk (A6u8.mk (((gd p0.Trees v1_1.toNat).Root).x0) (((gd p0.Trees v1_1.toNat).Root).x1) (((gd p0.Trees v1_1.toNat).Root).x2) (((gd p0.Trees v1_1.toNat).Root).x3) (((gd p0.Trees v1_1.toNat).Root).x4) (((gd p0.Trees v1_1.toNat).Root).x5)) (A6u8.mk (((gd p0.Trees v1_1.toNat).Parent).x0) (((gd p0.Trees v1_1.toNat).Parent).x1) (((gd p0.Trees v1_1.toNat).Parent).x2) (((gd p0.Trees v1_1.toNat).Parent).x3) (((gd p0.Trees v1_1.toNat).Parent).x4) (((gd p0.Trees v1_1.toNat).Parent).x5)) ((gd p0.Trees v1_1.toNat).Seq) ((gd p0.Trees v1_1.toNat).Hops) ((gd p0.Trees v1_1.toNat).Cost) ((gd p0.Trees v1_1.toNat).Gate) ((gd p0.Trees v1_1.toNat).Until)), true)))) else (some (.next (wr .i64 (v1_1 + 1))))) else (some (.done (.inl ())))
noncomputable def F37 (p0 : TRoots) (p1 : A6u8) : Option (TTree × Bool) :=
  lp (loopD (fun s => F37_L1 p0 p1 s) 0) (fun e => some ((TTree.mk (A6u8.mk 0 0 0 0 0 0) (A6u8.mk 0 0 0 0 0 0) 0 0 0 false 0), false)) some
noncomputable def body37 : List AV → AR
  | [v0, v1] => .pure (aK 11 k_TRoots v0 ∧ aK 6 k_A6u8 v1 ∧ (F37 (g_TRoots (aL v0)) (g_A6u8 (aL v1))).isSome = true) (.tup [.agg [.int .u8 ((((gt (F37 (g_TRoots (aL v0)) (g_A6u8 (aL v1)))).1).Root).x0), .int .u8 ((((gt (F37 (g_TRoots (aL v0)) (g_A6u8 (aL v1)))).1).Root).x1), .int .u8 ((((gt (F37 (g_TRoots (aL v0)) (g_A6u8 (aL v1)))).1).Root).x2), .int .u8 ((((gt (F37 (g_TRoots (aL v0)) (g_A6u8 (aL v1)))).1).Root).x3), .int .u8 ((((gt (F37 (g_TRoots (aL v0)) (g_A6u8 (aL v1)))).1).Root).x4), .int .u8 ((((gt (F37 (g_TRoots (aL v0)) (g_A6u8 (aL v1)))).1).Root).x5), .int .u8 ((((gt (F37 (g_TRoots (aL v0)) (g_A6u8 (aL v1)))).1).Parent).x0), .int .u8 ((((gt (F37 (g_TRoots (aL v0)) (g_A6u8 (aL v1)))).1).Parent).x1), .int .u8 ((((gt (F37 (g_TRoots (aL v0)) (g_A6u8 (aL v1)))).1).Parent).x2), .int .u8 ((((gt (F37 (g_TRoots (aL v0)) (g_A6u8 (aL v1)))).1).Parent).x3), .int .u8 ((((gt (F37 (g_TRoots (aL v0)) (g_A6u8 (aL v1)))).1).Parent).x4), .int .u8 ((((gt (F37 (g_TRoots (aL v0)) (g_A6u8 (aL v1)))).1).Parent).x5), .int .i64 (((gt (F37 (g_TRoots (aL v0)) (g_A6u8 (aL v1)))).1).Seq), .int .i64 (((gt (F37 (g_TRoots (aL v0)) (g_A6u8 (aL v1)))).1).Hops), .int .i64 (((gt (F37 (g_TRoots (aL v0)) (g_A6u8 (aL v1)))).1).Cost), .bool (((gt (F37 (g_TRoots (aL v0)) (g_A6u8 (aL v1)))).1).Gate), .int .i64 (((gt (F37 (g_TRoots (aL v0)) (g_A6u8 (aL v1)))).1).Until)], .bool ((gt (F37 (g_TRoots (aL v0)) (g_A6u8 (aL v1)))).2)])
  | _ => .fail
set_option maxHeartbeats 4000000 in
set_option maxRecDepth 20000 in
theorem ok37 : FnOk Try.prog 37 (pureC body37) := by
  refine pure_fnM body37 (rs := [.cell 4 62, .tmp 5]) Try.func37 (by kernel_rfl) rfl rfl ?_
  intro l ob v hb hob
  unfold body37 at hb
  split at hb
  · rename_i v0 v1
    injection hb with q1 q2; subst q1 q2
    obtain ⟨hk0_0, hk1_0, hob⟩ := hob
    obtain ⟨r, H⟩ := Option.isSome_iff_exists.1 hob
    rw [H, gt_some]
    have hw0 := wA_TRoots hk0_0
    have hw1 := wA_A6u8 hk1_0
    generalize g_TRoots (aL v0) = p0 at H hw0
    generalize g_A6u8 (aL v1) = p1 at H hw1
    refine ⟨[.agg [.int .u8 p0.Own.x0, .int .u8 p0.Own.x1, .int .u8 p0.Own.x2, .int .u8 p0.Own.x3, .int .u8 p0.Own.x4, .int .u8 p0.Own.x5, .bool p0.Root, .bool p0.Gate, .int .i64 p0.Seq, .ro 17 p0.Trees.length false (enR c_TTree p0.Trees), .ro 13 p0.Proxies.length false (enR c_TProxied p0.Proxies)], .agg [.int .u8 p1.x0, .int .u8 p1.x1, .int .u8 p1.x2, .int .u8 p1.x3, .int .u8 p1.x4, .int .u8 p1.x5]], _, (fun E vs F => FR_wk1 hw0.1 F (fun vs F => FR_wk1 hw1.1 F (fun vs F => F))), rfl, rfl, ?_⟩
    rw [Try.ntmps37]
    simp only [List.length_cons, List.length_nil, Nat.reduceAdd, Nat.reduceSub, List.replicate_succ, List.replicate_zero, List.cons_append, List.nil_append]
    unfold F37 at H
    try dsimp only at H
    refine sq ctNo_ok ?_
    simp only [go_sem, Nat.reduceLeDiff, Nat.reduceLT, Nat.reduceAdd, Nat.reduceMul, Nat.reduceSub, Nat.reduceEqDiff, Nat.reduceBEq, Int.reduceToNat, reduceCtorEq]
    refine seqM ?_
    refine sq ctNo_ok ?_
    simp only [go_sem, Nat.reduceLeDiff, Nat.reduceLT, Nat.reduceAdd, Nat.reduceMul, Nat.reduceSub, Nat.reduceEqDiff, Nat.reduceBEq, Int.reduceToNat, reduceCtorEq]
    refine blkM ?_
    refine loop_den (fun s : Int => [.top, .top, .ptr 0 0 0 0, .ptr 1 0 0 0, .ptr 2 0 0 0, .top, .int .i64 s, .top, .top, .top, .top, .top, .top, .top, .top, .top, .top, .top, .top, .top, .top, .top, .top, .top, .top, .top, .top, .top]) (fun s => [.lit 41 [.int .u8 p0.Own.x0, .int .u8 p0.Own.x1, .int .u8 p0.Own.x2, .int .u8 p0.Own.x3, .int .u8 p0.Own.x4, .int .u8 p0.Own.x5, .bool p0.Root, .bool p0.Gate, .int .i64 p0.Seq, .ro 17 p0.Trees.length false (enR c_TTree p0.Trees), .ro 13 p0.Proxies.length false (enR c_TProxied p0.Proxies)], .lit 23 [.int .u8 p1.x0, .int .u8 p1.x1, .int .u8 p1.x2, .int .u8 p1.x3, .int .u8 p1.x4, .int .u8 p1.x5], .lit 62 [.int .u8 0, .int .u8 0, .int .u8 0, .int .u8 0, .int .u8 0, .int .u8 0, .int .u8 0, .int .u8 0, .int .u8 0, .int .u8 0, .int .u8 0, .int .u8 0, .int .i64 0, .int .i64 0, .int .i64 0, .bool false, .int .i64 0]]) (fun e : Unit => [.top, .top, .top, .top, .ptr 2 0 0 0, .top, .top, .top, .top, .top, .top, .top, .top, .top, .top, .top, .top, .top, .top, .top, .top, .top, .top, .top, .top, .top, .top, .top]) (fun e => [.dead, .dead, .lit 62 [.int .u8 0, .int .u8 0, .int .u8 0, .int .u8 0, .int .u8 0, .int .u8 0, .int .u8 0, .int .u8 0, .int .u8 0, .int .u8 0, .int .u8 0, .int .u8 0, .int .i64 0, .int .i64 0, .int .i64 0, .bool false, .int .i64 0]]) H ?_ (fun v1_1 o H hn1_1 hn2_1 => ?_) (fun e H => ?_)
    · refine SubF_of ⟨[some 0, some 1, some 2], ?_, ?_, by rfl, by rfl⟩
      · simp [CvL, Cv, getM]
      · exact ⟨(by simp [CvB, CvL, Cv, blkAt, geth, getM]), (by simp [CvB, CvL, Cv, blkAt, geth, getM]), (by simp [CvB, CvL, Cv, blkAt, geth, getM]), trivial⟩
    · unfold F37_L1 at H
      try dsimp only at H ⊢
      refine seqM ?_
      refine sq ctNo_ok ?_
      simp only [go_sem, Nat.reduceLeDiff, Nat.reduceLT, Nat.reduceAdd, Nat.reduceMul, Nat.reduceSub, Nat.reduceEqDiff, Nat.reduceBEq, Int.reduceToNat, reduceCtorEq]
      repeat ((with_reducible refine And.intro ?_ ?_); focus (first | (with_reducible trivial) | omega | (and_intros <;> first | (with_reducible trivial) | omega | assumption | exact nfc | first | exact rfl | exact trivial | exact fitI | exact Or.inr rfl | exact Or.inl rfl | exact fun x hx => absurd hx (by omega) | (intro x hx; (repeat (first | (and_intros <;> (first | exact rfl | exact trivial | exact fitI | exact Or.inr rfl | exact Or.inl rfl | exact fun x hx => absurd hx (by omega))) | (exfalso; omega) | (rcases x with _ | x))); done)) | grind))
      refine condM' rfl trivial (fun hc => ?_) (fun hc => ?_)
      · replace H := cond_f hc H
        refine rg ctNo_ok ?_
        simp only [go_sem, Nat.reduceLeDiff, Nat.reduceLT, Nat.reduceAdd, Nat.reduceMul, Nat.reduceSub, Nat.reduceEqDiff, Nat.reduceBEq, Int.reduceToNat, reduceCtorEq]
        refine ⟨_, (Option.some.inj H).symm, ?_⟩
        refine SubF_of ⟨[some 0, some 1, some 2], ?_, ?_, by rfl, by rfl⟩
        · simp [CvL, Cv, getM]
        · exact ⟨CvB_dead, CvB_dead, (by simp [CvB, CvL, Cv, blkAt, geth, getM]), trivial⟩
      replace H := cond_t hc H
      refine rg ctNo_ok ?_
      simp only [go_sem, Nat.reduceLeDiff, Nat.reduceLT, Nat.reduceAdd, Nat.reduceMul, Nat.reduceSub, Nat.reduceEqDiff, Nat.reduceBEq, Int.reduceToNat, reduceCtorEq]
      refine seqM ?_
      refine blkM ?_
      refine seqM ?_
      obtain ⟨f1, H⟩ := need_some.1 H
      replace f1 := inb_iff.1 f1
      refine draw_quiet shT_ok ctNo_ok (by kernel_rfl) (by kernel_rfl) ?_
      simp only [go_sem, Nat.reduceLeDiff, Nat.reduceLT, Nat.reduceAdd, Nat.reduceMul, Nat.reduceSub, Nat.reduceEqDiff, Nat.reduceBEq, Int.reduceToNat, reduceCtorEq, f1]
      repeat ((with_reducible refine And.intro ?_ ?_); focus (first | (with_reducible trivial) | omega | grind))
      refine condM' rfl trivial (fun hc => ?_) (fun hc => ?_)
      · replace H := cond_f hc H
        refine rg ctNo_ok ?_
        simp only [go_sem, Nat.reduceLeDiff, Nat.reduceLT, Nat.reduceAdd, Nat.reduceMul, Nat.reduceSub, Nat.reduceEqDiff, Nat.reduceBEq, Int.reduceToNat, reduceCtorEq]
        refine rg ctNo_ok ?_
        simp only [go_sem, Nat.reduceLeDiff, Nat.reduceLT, Nat.reduceAdd, Nat.reduceMul, Nat.reduceSub, Nat.reduceEqDiff, Nat.reduceBEq, Int.reduceToNat, reduceCtorEq]
        refine ⟨_, (Option.some.inj H).symm, ?_⟩
        refine SubF_of ⟨[some 0, some 1, some 2], ?_, ?_, by rfl, by rfl⟩
        · simp [CvL, Cv, getM]
        · exact ⟨(by simp [CvB, CvL, Cv, blkAt, geth, getM]), (by simp [CvB, CvL, Cv, blkAt, geth, getM]), (by simp [CvB, CvL, Cv, blkAt, geth, getM]), trivial⟩
      replace H := cond_t hc H
      refine seqM ?_
      obtain ⟨f2, H⟩ := need_some.1 H
      replace f2 := inb_iff.1 f2
      refine rg ctNo_ok ?_
      simp only [go_sem, Nat.reduceLeDiff, Nat.reduceLT, Nat.reduceAdd, Nat.reduceMul, Nat.reduceSub, Nat.reduceEqDiff, Nat.reduceBEq, Int.reduceToNat, reduceCtorEq, f2]
      repeat ((with_reducible refine And.intro ?_ ?_); focus (first | (with_reducible trivial) | omega | grind))
      refine rg ctNo_ok ?_
      simp only [go_sem, Nat.reduceLeDiff, Nat.reduceLT, Nat.reduceAdd, Nat.reduceMul, Nat.reduceSub, Nat.reduceEqDiff, Nat.reduceBEq, Int.reduceToNat, reduceCtorEq]
      have H := hn2_1 _ (Option.some.inj H).symm
      obtain rfl := Option.some.inj H
      first | rfl | simp only [Bool.and_false, Bool.false_and, Bool.and_true, Bool.true_and]
    · try dsimp only at H ⊢
      try simp only [m_normal, k_normal, b_normal, kL_normal, r_normal]
      refine sq ctNo_ok ?_
      simp only [go_sem, Nat.reduceLeDiff, Nat.reduceLT, Nat.reduceAdd, Nat.reduceMul, Nat.reduceSub, Nat.reduceEqDiff, Nat.reduceBEq, Int.reduceToNat, reduceCtorEq]
      repeat ((with_reducible refine And.intro ?_ ?_); focus (first | (with_reducible trivial) | omega | grind))
      refine rg ctNo_ok ?_
      simp only [go_sem, Nat.reduceLeDiff, Nat.reduceLT, Nat.reduceAdd, Nat.reduceMul, Nat.reduceSub, Nat.reduceEqDiff, Nat.reduceBEq, Int.reduceToNat, reduceCtorEq]
      obtain rfl := Option.some.inj H
      first | rfl | simp only [Bool.and_false, Bool.false_and, Bool.and_true, Bool.true_and]
  · cases hb
/-! hotspot/hotspotref40.Better -/
noncomputable def F38 (p0 : TTree) (p1 : TTree) : Option (Bool) :=
  some ((bLt p1.Seq p0.Seq) || ((bEq p0.Seq p1.Seq) && (bLt p0.Cost p1.Cost)))
noncomputable def body38 : List AV → AR
  | [v0, v1] => .pure (aK 17 k_TTree v0 ∧ aK 17 k_TTree v1 ∧ (F38 (g_TTree (aL v0)) (g_TTree (aL v1))).isSome = true) (.bool (gt (F38 (g_TTree (aL v0)) (g_TTree (aL v1)))))
  | _ => .fail
set_option maxHeartbeats 4000000 in
set_option maxRecDepth 20000 in
theorem ok38 : FnOk Try.prog 38 (pureC body38) := by
  refine pure_fnM body38 (rs := [.tmp 4]) Try.func38 (by kernel_rfl) rfl rfl ?_
  intro l ob v hb hob
  unfold body38 at hb
  split at hb
  · rename_i v0 v1
    injection hb with q1 q2; subst q1 q2
    obtain ⟨hk0_0, hk1_0, hob⟩ := hob
    obtain ⟨r, H⟩ := Option.isSome_iff_exists.1 hob
    rw [H, gt_some]
    have hw0 := wA_TTree hk0_0
    have hw1 := wA_TTree hk1_0
    generalize g_TTree (aL v0) = p0 at H hw0
    generalize g_TTree (aL v1) = p1 at H hw1
    refine ⟨[.agg [.int .u8 p0.Root.x0, .int .u8 p0.Root.x1, .int .u8 p0.Root.x2, .int .u8 p0.Root.x3, .int .u8 p0.Root.x4, .int .u8 p0.Root.x5, .int .u8 p0.Parent.x0, .int .u8 p0.Parent.x1, .int .u8 p0.Parent.x2, .int .u8 p0.Parent.x3, .int .u8 p0.Parent.x4, .int .u8 p0.Parent.x5, .int .i64 p0.Seq, .int .i64 p0.Hops, .int .i64 p0.Cost, .bool p0.Gate, .int .i64 p0.Until], .agg [.int .u8 p1.Root.x0, .int .u8 p1.Root.x1, .int .u8 p1.Root.x2, .int .u8 p1.Root.x3, .int .u8 p1.Root.x4, .int .u8 p1.Root.x5, .int .u8 p1.Parent.x0, .int .u8 p1.Parent.x1, .int .u8 p1.Parent.x2, .int .u8 p1.Parent.x3, .int .u8 p1.Parent.x4, .int .u8 p1.Parent.x5, .int .i64 p1.Seq, .int .i64 p1.Hops, .int .i64 p1.Cost, .bool p1.Gate, .int .i64 p1.Until]], _, (fun E vs F => FR_wk1 hw0.1 F (fun vs F => FR_wk1 hw1.1 F (fun vs F => F))), rfl, rfl, ?_⟩
    rw [Try.ntmps38]
    simp only [List.length_cons, List.length_nil, Nat.reduceAdd, Nat.reduceSub, List.replicate_succ, List.replicate_zero, List.cons_append, List.nil_append]
    unfold F38 at H
    try dsimp only at H
    refine sq ctNo_ok ?_
    simp only [go_sem, Nat.reduceLeDiff, Nat.reduceLT, Nat.reduceAdd, Nat.reduceMul, Nat.reduceSub, Nat.reduceEqDiff, Nat.reduceBEq, Int.reduceToNat, reduceCtorEq]
    refine sq ctNo_ok ?_
    simp only [go_sem, Nat.reduceLeDiff, Nat.reduceLT, Nat.reduceAdd, Nat.reduceMul, Nat.reduceSub, Nat.reduceEqDiff, Nat.reduceBEq, Int.reduceToNat, reduceCtorEq]
    repeat ((with_reducible refine And.intro ?_ ?_); focus (first | (with_reducible trivial) | omega | grind))
    refine rg ctNo_ok ?_
    simp only [go_sem, Nat.reduceLeDiff, Nat.reduceLT, Nat.reduceAdd, Nat.reduceMul, Nat.reduceSub, Nat.reduceEqDiff, Nat.reduceBEq, Int.reduceToNat, reduceCtorEq]
    obtain rfl := Option.some.inj H
    first | rfl | simp only [Bool.and_false, Bool.false_and, Bool.and_true, Bool.true_and]
  · cases hb
/-! hotspot/hotspotlaw40.RootFresh -/
noncomputable def ct6t0 : Ct := tab [(36, pureC body36)]
theorem ct6t0_ok : CtOk Try.prog ct6t0 := tab_cons ok36 <| tab_nil
theorem ct6t0_36 (l : List AV) (h : List ABlk) : ct6t0 36 l h = pureC body36 l h := rfl
noncomputable def ct6t1 : Ct := tab [(16, pureC body16)]
theorem ct6t1_ok : CtOk Try.prog ct6t1 := tab_cons ok16 <| tab_nil
theorem ct6t1_16 (l : List AV) (h : List ABlk) : ct6t1 16 l h = pureC body16 l h := rfl
noncomputable def ct6t2 : Ct := tab [(20, edC body20)]
theorem ct6t2_ok : CtOk Try.prog ct6t2 := tab_cons ok20 <| tab_nil
theorem ct6t2_20 (l : List AV) (h : List ABlk) : ct6t2 20 l h = edC body20 l h := rfl
noncomputable def ct6t3 : Ct := tab [(24, pureC body24)]
theorem ct6t3_ok : CtOk Try.prog ct6t3 := tab_cons ok24 <| tab_nil
theorem ct6t3_24 (l : List AV) (h : List ABlk) : ct6t3 24 l h = pureC body24 l h := rfl
noncomputable def ct6t4 : Ct := tab [(37, pureC body37)]
theorem ct6t4_ok : CtOk Try.prog ct6t4 := tab_cons ok37 <| tab_nil
theorem ct6t4_37 (l : List AV) (h : List ABlk) : ct6t4 37 l h = pureC body37 l h := rfl
noncomputable def ct6t5 : Ct := tab [(34, pureC body34), (38, pureC body38)]
theorem ct6t5_ok : CtOk Try.prog ct6t5 := tab_cons ok34 <| tab_cons ok38 <| tab_nil
theorem ct6t5_34 (l : List AV) (h : List ABlk) : ct6t5 34 l h = pureC body34 l h := rfl
theorem ct6t5_38 (l : List AV) (h : List ABlk) : ct6t5 38 l h = pureC body38 l h := rfl
noncomputable def F6_L1 (p0 : TRoots) (p1 : TRootWord) (r5 : TRoots × (List TRootWord) × Int) (v1_1 : Int) : Option (Lp (Int) ((Unit) ⊕ (Bool))) :=
  bif (bLt v1_1 (p0.Trees.length : Nat)) then (need (inb v1_1 p0.Trees.length) <| (F37 (TRoots.mk (A6u8.mk r5.1.Own.x0 r5.1.Own.x1 r5.1.Own.x2 r5.1.Own.x3 r5.1.Own.x4 r5.1.Own.x5) r5.1.Root r5.1.Gate r5.1.Seq r5.1.Trees r5.1.Proxies) ((gd p0.Trees v1_1.toNat).Root)).bind fun r15 => need (bif (!(!r15.2)) then inb v1_1 p0.Trees.length else true) <| need (bif ((!(!r15.2)) && (!(bEq (((gd p0.Trees v1_1.toNat).Root).x0) p1.Root.x0 && (bEq (((gd p0.Trees v1_1.toNat).Root).x1) p1.Root.x1 && (bEq (((gd p0.Trees v1_1.toNat).Root).x2) p1.Root.x2 && (bEq (((gd p0.Trees v1_1.toNat).Root).x3) p1.Root.x3 && (bEq (((gd p0.Trees v1_1.toNat).Root).x4) p1.Root.x4 && (bEq (((gd p0.Trees v1_1.toNat).Root).x5) p1.Root.x5)))))))) then inb v1_1 p0.Trees.length else true) <| bif ((!r15.2) || ((!(bEq (((gd p0.Trees v1_1.toNat).Root).x0) p1.Root.x0 && (bEq (((gd p0.Trees v1_1.toNat).Root).x1) p1.Root.x1 && (bEq (((gd p0.Trees v1_1.toNat).Root).x2) p1.Root.x2 && (bEq (((gd p0.Trees v1_1.toNat).Root).x3) p1.Root.x3 && (bEq (((gd p0.Trees v1_1.toNat).Root).x4) p1.Root.x4 && (bEq (((gd p0.Trees v1_1.toNat).Root).x5) p1.Root.x5))))))) && (!(bEq r15.1.Root.x0 (((gd p0.Trees v1_1.toNat).Root).x0) && (bEq r15.1.Root.x1 (((gd p0.Trees v1_1.toNat).Root).x1) && (bEq r15.1.Root.x2 (((gd p0.Trees v1_1.toNat).Root).x2) && (bEq r15.1.Root.x3 (((gd p0.Trees v1_1.toNat).Root).x3) && (bEq r15.1.Root.x4 (((gd p0.Trees v1_1.toNat).Root).x4) && (bEq r15.1.Root.x5 (((gd p0.Trees v1_1.toNat).Root).x5) && (bEq r15.1.Parent.x0 (((gd p0.Trees v1_1.toNat).Parent).x0) && (bEq r15.1.Parent.x1 (((gd p0.Trees v1_1.toNat).Parent).x1) && (bEq r15.1.Parent.x2 (((gd p0.Trees v1_1.toNat).Parent).x2) && (bEq r15.1.Parent.x3 (((gd p0.Trees v1_1.toNat).Parent).x3) && (bEq r15.1.Parent.x4 (((gd p0.Trees v1_1.toNat).Parent).x4) && (bEq r15.1.Parent.x5 (((gd p0.Trees v1_1.toNat).Parent).x5) && (bEq r15.1.Seq ((gd p0.Trees v1_1.toNat).Seq) && (bEq r15.1.Hops ((gd p0.Trees v1_1.toNat).Hops) && (bEq r15.1.Cost ((gd p0.Trees v1_1.toNat).Cost) && (bB r15.1.Gate ((gd p0.Trees v1_1.toNat).Gate) && (bEq r15.1.Until ((gd p0.Trees v1_1.toNat).Until))))))))))))))))))))) then (some (.done (.inr false))) else (some (.next (wr .i64 (v1_1 + 1))))) else (some (.done (.inl ())))
noncomputable def F6_L2 (p0 : TRoots) (p1 : TRootWord) (r5 : TRoots × (List TRootWord) × Int) (v2_1 : Int) : Option (Lp (Int) ((Unit) ⊕ (Bool))) :=
  bif (bLt v2_1 (p0.Trees.length : Nat)) then (need (inb v2_1 p0.Trees.length) <| (F37 (TRoots.mk (A6u8.mk r5.1.Own.x0 r5.1.Own.x1 r5.1.Own.x2 r5.1.Own.x3 r5.1.Own.x4 r5.1.Own.x5) r5.1.Root r5.1.Gate r5.1.Seq r5.1.Trees r5.1.Proxies) ((gd p0.Trees v2_1.toNat).Root)).bind fun r25 => need (bif (!(!r25.2)) then inb v2_1 p0.Trees.length else true) <| need (bif ((!(!r25.2)) && (!(bEq (((gd p0.Trees v2_1.toNat).Root).x0) p1.Root.x0 && (bEq (((gd p0.Trees v2_1.toNat).Root).x1) p1.Root.x1 && (bEq (((gd p0.Trees v2_1.toNat).Root).x2) p1.Root.x2 && (bEq (((gd p0.Trees v2_1.toNat).Root).x3) p1.Root.x3 && (bEq (((gd p0.Trees v2_1.toNat).Root).x4) p1.Root.x4 && (bEq (((gd p0.Trees v2_1.toNat).Root).x5) p1.Root.x5)))))))) then inb v2_1 p0.Trees.length else true) <| bif ((!r25.2) || ((!(bEq (((gd p0.Trees v2_1.toNat).Root).x0) p1.Root.x0 && (bEq (((gd p0.Trees v2_1.toNat).Root).x1) p1.Root.x1 && (bEq (((gd p0.Trees v2_1.toNat).Root).x2) p1.Root.x2 && (bEq (((gd p0.Trees v2_1.toNat).Root).x3) p1.Root.x3 && (bEq (((gd p0.Trees v2_1.toNat).Root).x4) p1.Root.x4 && (bEq (((gd p0.Trees v2_1.toNat).Root).x5) p1.Root.x5))))))) && (!(bEq r25.1.Root.x0 (((gd p0.Trees v2_1.toNat).Root).x0) && (bEq r25.1.Root.x1 (((gd p0.Trees v2_1.toNat).Root).x1) && (bEq r25.1.Root.x2 (((gd p0.Trees v2_1.toNat).Root).x2) && (bEq r25.1.Root.x3 (((gd p0.Trees v2_1.toNat).Root).x3) && (bEq r25.1.Root.x4 (((gd p0.Trees v2_1.toNat).Root).x4) && (bEq r25.1.Root.x5 (((gd p0.Trees v2_1.toNat).Root).x5) && (bEq r25.1.Parent.x0 (((gd p0.Trees v2_1.toNat).Parent).x0) && (bEq r25.1.Parent.x1 (((gd p0.Trees v2_1.toNat).Parent).x1) && (bEq r25.1.Parent.x2 (((gd p0.Trees v2_1.toNat).Parent).x2) && (bEq r25.1.Parent.x3 (((gd p0.Trees v2_1.toNat).Parent).x3) && (bEq r25.1.Parent.x4 (((gd p0.Trees v2_1.toNat).Parent).x4) && (bEq r25.1.Parent.x5 (((gd p0.Trees v2_1.toNat).Parent).x5) && (bEq r25.1.Seq ((gd p0.Trees v2_1.toNat).Seq) && (bEq r25.1.Hops ((gd p0.Trees v2_1.toNat).Hops) && (bEq r25.1.Cost ((gd p0.Trees v2_1.toNat).Cost) && (bB r25.1.Gate ((gd p0.Trees v2_1.toNat).Gate) && (bEq r25.1.Until ((gd p0.Trees v2_1.toNat).Until))))))))))))))))))))) then (some (.done (.inr false))) else (some (.next (wr .i64 (v2_1 + 1))))) else (some (.done (.inl ())))
noncomputable def F6 (p0 : TRoots) (p1 : TRootWord) (p2 : A6u8) (p3 : Int) (p4 : Int) : Option (Bool) :=
  (F36).bind fun r1 => (F16 p0).bind fun r3 => bif (r3 || (!r1)) then (some r1) else ((F20 p0 p1 p2 p3 p4).bind fun r5 => bif (!bEq r5.2.2 0) then (need (bif (r1 && (bEq (r5.2.1.length : Nat) 0)) then ((F24 (TRoots.mk (A6u8.mk r5.1.Own.x0 r5.1.Own.x1 r5.1.Own.x2 r5.1.Own.x3 r5.1.Own.x4 r5.1.Own.x5) r5.1.Root r5.1.Gate r5.1.Seq r5.1.Trees r5.1.Proxies) (TRoots.mk (A6u8.mk 0 0 0 0 0 0) false false 0 [] [])).isSome) else true) <| some ((r1 && (bEq (r5.2.1.length : Nat) 0)) && (gt (F24 (TRoots.mk (A6u8.mk r5.1.Own.x0 r5.1.Own.x1 r5.1.Own.x2 r5.1.Own.x3 r5.1.Own.x4 r5.1.Own.x5) r5.1.Root r5.1.Gate r5.1.Seq r5.1.Trees r5.1.Proxies) (TRoots.mk (A6u8.mk 0 0 0 0 0 0) false false 0 [] []))))) else ((F37 (TRoots.mk (A6u8.mk r5.1.Own.x0 r5.1.Own.x1 r5.1.Own.x2 r5.1.Own.x3 r5.1.Own.x4 r5.1.Own.x5) r5.1.Root r5.1.Gate r5.1.Seq r5.1.Trees r5.1.Proxies) p1.Root).bind fun r8 => (F37 p0 p1.Root).bind fun r10 => bif (!r10.2) then (need (bif ((!(!r8.2)) && r10.2) then ((F38 r8.1 r10.1).isSome) else true) <| need (bif (!(((((((!r8.2) || (r10.2 && (!(gt (F38 r8.1 r10.1))))) || (!(bEq r8.1.Parent.x0 p2.x0 && (bEq r8.1.Parent.x1 p2.x1 && (bEq r8.1.Parent.x2 p2.x2 && (bEq r8.1.Parent.x3 p2.x3 && (bEq r8.1.Parent.x4 p2.x4 && (bEq r8.1.Parent.x5 p2.x5)))))))) || (!bEq r8.1.Seq p1.Seq)) || (!bEq r8.1.Cost (wr .i64 (p1.Cost + p3)))) || (!bEq r8.1.Hops (wr .i64 (p1.Hops + 1)))) || (!bEq (r5.1.Trees.length : Nat) (wr .i64 ((p0.Trees.length : Nat) + 1))))) then ((F34 (TRoots.mk (A6u8.mk r5.1.Own.x0 r5.1.Own.x1 r5.1.Own.x2 r5.1.Own.x3 r5.1.Own.x4 r5.1.Own.x5) r5.1.Root r5.1.Gate r5.1.Seq r5.1.Trees r5.1.Proxies)).isSome) else true) <| bif ((((((((!r8.2) || (r10.2 && (!(gt (F38 r8.1 r10.1))))) || (!(bEq r8.1.Parent.x0 p2.x0 && (bEq r8.1.Parent.x1 p2.x1 && (bEq r8.1.Parent.x2 p2.x2 && (bEq r8.1.Parent.x3 p2.x3 && (bEq r8.1.Parent.x4 p2.x4 && (bEq r8.1.Parent.x5 p2.x5)))))))) || (!bEq r8.1.Seq p1.Seq)) || (!bEq r8.1.Cost (wr .i64 (p1.Cost + p3)))) || (!bEq r8.1.Hops (wr .i64 (p1.Hops + 1)))) || (!bEq (r5.1.Trees.length : Nat) (wr .i64 ((p0.Trees.length : Nat) + 1)))) || (!bEq (gt (F34 (TRoots.mk (A6u8.mk r5.1.Own.x0 r5.1.Own.x1 r5.1.Own.x2 r5.1.Own.x3 r5.1.Own.x4 r5.1.Own.x5) r5.1.Root r5.1.Gate r5.1.Seq r5.1.Trees r5.1.Proxies))) 0)) then (some false) else (lp (loopD (fun s => F6_L1 p0 p1 r5 s) 0) (fun e => (F20 (TRoots.mk (A6u8.mk r5.1.Own.x0 r5.1.Own.x1 r5.1.Own.x2 r5.1.Own.x3 r5.1.Own.x4 r5.1.Own.x5) r5.1.Root r5.1.Gate r5.1.Seq r5.1.Trees r5.1.Proxies) p1 p2 p3 p4).bind fun r19 => need (bif ((!((bEq (r5.2.1.length : Nat) 0) && (bEq r8.1.Hops 16))) && (bEq (r5.2.1.length : Nat) 1)) then inb 0 r5.2.1.length else true) <| some ((r1 && (((bEq (r5.2.1.length : Nat) 0) && (bEq r8.1.Hops 16)) || ((bEq (r5.2.1.length : Nat) 1) && (bEq (((gd r5.2.1 0).Root).x0) r8.1.Root.x0 && (bEq (((gd r5.2.1 0).Root).x1) r8.1.Root.x1 && (bEq (((gd r5.2.1 0).Root).x2) r8.1.Root.x2 && (bEq (((gd r5.2.1 0).Root).x3) r8.1.Root.x3 && (bEq (((gd r5.2.1 0).Root).x4) r8.1.Root.x4 && (bEq (((gd r5.2.1 0).Root).x5) r8.1.Root.x5 && (bEq ((gd r5.2.1 0).Seq) r8.1.Seq && (bEq ((gd r5.2.1 0).Hops) r8.1.Hops && (bEq ((gd r5.2.1 0).Cost) r8.1.Cost && (bB ((gd r5.2.1 0).Gate) r8.1.Gate))))))))))))) && (bEq r19.2.2 21))) some)) else (need (bif ((!(!r8.2)) && r10.2) then ((F38 r8.1 r10.1).isSome) else true) <| need (bif (!(((((((!r8.2) || (r10.2 && (!(gt (F38 r8.1 r10.1))))) || (!(bEq r8.1.Parent.x0 p2.x0 && (bEq r8.1.Parent.x1 p2.x1 && (bEq r8.1.Parent.x2 p2.x2 && (bEq r8.1.Parent.x3 p2.x3 && (bEq r8.1.Parent.x4 p2.x4 && (bEq r8.1.Parent.x5 p2.x5)))))))) || (!bEq r8.1.Seq p1.Seq)) || (!bEq r8.1.Cost (wr .i64 (p1.Cost + p3)))) || (!bEq r8.1.Hops (wr .i64 (p1.Hops + 1)))) || (!bEq (r5.1.Trees.length : Nat) (p0.Trees.length : Nat)))) then ((F34 (TRoots.mk (A6u8.mk r5.1.Own.x0 r5.1.Own.x1 r5.1.Own.x2 r5.1.Own.x3 r5.1.Own.x4 r5.1.Own.x5) r5.1.Root r5.1.Gate r5.1.Seq r5.1.Trees r5.1.Proxies)).isSome) else true) <| bif ((((((((!r8.2) || (r10.2 && (!(gt (F38 r8.1 r10.1))))) || (!(bEq r8.1.Parent.x0 p2.x0 && (bEq r8.1.Parent.x1 p2.x1 && (bEq r8.1.Parent.x2 p2.x2 && (bEq r8.1.Parent.x3 p2.x3 && (bEq r8.1.Parent.x4 p2.x4 && (bEq r8.1.Parent.x5 p2.x5)))))))) || (!bEq r8.1.Seq p1.Seq)) || (!bEq r8.1.Cost (wr .i64 (p1.Cost + p3)))) || (!bEq r8.1.Hops (wr .i64 (p1.Hops + 1)))) || (!bEq (r5.1.Trees.length : Nat) (p0.Trees.length : Nat))) || (!bEq (gt (F34 (TRoots.mk (A6u8.mk r5.1.Own.x0 r5.1.Own.x1 r5.1.Own.x2 r5.1.Own.x3 r5.1.Own.x4 r5.1.Own.x5) r5.1.Root r5.1.Gate r5.1.Seq r5.1.Trees r5.1.Proxies))) 0)) then (some false) else (lp (loopD (fun s => F6_L2 p0 p1 r5 s) 0) (fun e => (F20 (TRoots.mk (A6u8.mk r5.1.Own.x0 r5.1.Own.x1 r5.1.Own.x2 r5.1.Own.x3 r5.1.Own.x4 r5.1.Own.x5) r5.1.Root r5.1.Gate r5.1.Seq r5.1.Trees r5.1.Proxies) p1 p2 p3 p4).bind fun r29 => need (bif ((!((bEq (r5.2.1.length : Nat) 0) && (bEq r8.1.Hops 16))) && (bEq (r5.2.1.length : Nat) 1)) then inb 0 r5.2.1.length else true) <| some ((r1 && (((bEq (r5.2.1.length : Nat) 0) && (bEq r8.1.Hops 16)) || ((bEq (r5.2.1.length : Nat) 1) && (bEq (((gd r5.2.1 0).Root).x0) r8.1.Root.x0 && (bEq (((gd r5.2.1 0).Root).x1) r8.1.Root.x1 && (bEq (((gd r5.2.1 0).Root).x2) r8.1.Root.x2 && (bEq (((gd r5.2.1 0).Root).x3) r8.1.Root.x3 && (bEq (((gd r5.2.1 0).Root).x4) r8.1.Root.x4 && (bEq (((gd r5.2.1 0).Root).x5) r8.1.Root.x5 && (bEq ((gd r5.2.1 0).Seq) r8.1.Seq && (bEq ((gd r5.2.1 0).Hops) r8.1.Hops && (bEq ((gd r5.2.1 0).Cost) r8.1.Cost && (bB ((gd r5.2.1 0).Gate) r8.1.Gate))))))))))))) && (bEq r29.2.2 21))) some))))
noncomputable def body6 : List AV → AR
  | [v0, v1, v2, v3, v4] => .pure (aK 11 k_TRoots v0 ∧ aK 10 k_TRootWord v1 ∧ aK 6 k_A6u8 v2 ∧ iK .i64 v3 ∧ iK .i64 v4 ∧ (F6 (g_TRoots (aL v0)) (g_TRootWord (aL v1)) (g_A6u8 (aL v2)) (iA v3) (iA v4)).isSome = true) (.bool (gt (F6 (g_TRoots (aL v0)) (g_TRootWord (aL v1)) (g_A6u8 (aL v2)) (iA v3) (iA v4))))
  | _ => .fail
set_option maxHeartbeats 4000000 in
set_option maxRecDepth 20000 in
theorem ok6 : FnOk Try.prog 6 (pureC body6) := by
  refine pure_fnM body6 (rs := [.tmp 10]) Try.func6 (by kernel_rfl) rfl rfl ?_
  intro l ob v hb hob
  unfold body6 at hb
  split at hb
  · rename_i v0 v1 v2 v3 v4
    injection hb with q1 q2; subst q1 q2
    obtain ⟨hk0_0, hk1_0, hk2_0, hk3_0, hk4_0, hob⟩ := hob
    obtain ⟨r, H⟩ := Option.isSome_iff_exists.1 hob
    rw [H, gt_some]
    have hw0 := wA_TRoots hk0_0
    have hw1 := wA_TRootWord hk1_0
    have hw2 := wA_A6u8 hk2_0
    have hw3 := iK_wk hk3_0
    have hw4 := iK_wk hk4_0
    generalize g_TRoots (aL v0) = p0 at H hw0
    generalize g_TRootWord (aL v1) = p1 at H hw1
    generalize g_A6u8 (aL v2) = p2 at H hw2
    generalize iA v3 = p3 at H hw3
    generalize iA v4 = p4 at H hw4
    refine ⟨[.agg [.int .u8 p0.Own.x0, .int .u8 p0.Own.x1, .int .u8 p0.Own.x2, .int .u8 p0.Own.x3, .int .u8 p0.Own.x4, .int .u8 p0.Own.x5, .bool p0.Root, .bool p0.Gate, .int .i64 p0.Seq, .ro 17 p0.Trees.length false (enR c_TTree p0.Trees), .ro 13 p0.Proxies.length false (enR c_TProxied p0.Proxies)], .agg [.int .u8 p1.Root.x0, .int .u8 p1.Root.x1, .int .u8 p1.Root.x2, .int .u8 p1.Root.x3, .int .u8 p1.Root.x4, .int .u8 p1.Root.x5, .int .i64 p1.Seq, .int .i64 p1.Hops, .int .i64 p1.Cost, .bool p1.Gate], .agg [.int .u8 p2.x0, .int .u8 p2.x1, .int .u8 p2.x2, .int .u8 p2.x3, .int .u8 p2.x4, .int .u8 p2.x5], .int .i64 p3, .int .i64 p4], _, (fun E vs F => FR_wk1 hw0.1 F (fun vs F => FR_wk1 hw1.1 F (fun vs F => FR_wk1 hw2.1 F (fun vs F => FR_wk1 hw3.1 F (fun vs F => FR_wk1 hw4.1 F (fun vs F => F)))))), rfl, rfl, ?_⟩
    rw [Try.ntmps6]
    simp only [List.length_cons, List.length_nil, Nat.reduceAdd, Nat.reduceSub, List.replicate_succ, List.replicate_zero, List.cons_append, List.nil_append]
    unfold F6 at H
    try dsimp only at H
    refine sq ctNo_ok ?_
    simp only [go_sem, Nat.reduceLeDiff, Nat.reduceLT, Nat.reduceAdd, Nat.reduceMul, Nat.reduceSub, Nat.reduceEqDiff, Nat.reduceBEq, Int.reduceToNat, reduceCtorEq]
    refine seqM ?_
    obtain ⟨r1, e2, H⟩ := Option.bind_eq_some_iff.1 H
    refine rg ct6t0_ok ?_
    simp only [go_sem, Nat.reduceLeDiff, Nat.reduceLT, Nat.reduceAdd, Nat.reduceMul, Nat.reduceSub, Nat.reduceEqDiff, Nat.reduceBEq, Int.reduceToNat, reduceCtorEq, ct6t0_36, body36, e2]
    repeat ((with_reducible refine And.intro ?_ ?_); focus (first | (with_reducible trivial) | omega | (and_intros <;> first | (with_reducible trivial) | omega | assumption | exact nfc | first | exact rfl | exact trivial | exact fitI | exact Or.inr rfl | exact Or.inl rfl | exact fun x hx => absurd hx (by omega) | (intro x hx; (repeat (first | (and_intros <;> (first | exact rfl | exact trivial | exact fitI | exact Or.inr rfl | exact Or.inl rfl | exact fun x hx => absurd hx (by omega))) | (exfalso; omega) | (rcases x with _ | x))); done)) | grind))
    refine seqM ?_
    refine seqM ?_
    obtain ⟨r3, e4, H⟩ := Option.bind_eq_some_iff.1 H
    refine rg ct6t1_ok ?_
    simp only [go_sem, Nat.reduceLeDiff, Nat.reduceLT, Nat.reduceAdd, Nat.reduceMul, Nat.reduceSub, Nat.reduceEqDiff, Nat.reduceBEq, Int.reduceToNat, reduceCtorEq, ct6t1_16, body16, e4]
    repeat ((with_reducible refine And.intro ?_ ?_); focus (first | (with_reducible trivial) | omega | (intro g; and_intros <;> first | (with_reducible trivial) | assumption | exact nfc | (intro g2; rw [g, g2]; rfl) | (intro g2; assumption) | (simp only [g, Bool.true_and, Bool.and_true, Bool.not_false, Bool.not_true]; assumption) | grind) | (and_intros <;> first | (with_reducible trivial) | omega | assumption | exact nfc | first | exact rfl | exact trivial | exact fitI | exact Or.inr rfl | exact Or.inl rfl | exact fun x hx => absurd hx (by omega) | (intro x hx; (repeat (first | (and_intros <;> (first | exact rfl | exact trivial | exact fitI | exact Or.inr rfl | exact Or.inl rfl | exact fun x hx => absurd hx (by omega))) | (exfalso; omega) | (rcases x with _ | x))); done)) | grind))
    refine condM rfl trivial (fun hc => ?_) (fun hc => ?_)
    · replace H := cond_t hc H
      refine sq ctNo_ok ?_
      simp only [go_sem, Nat.reduceLeDiff, Nat.reduceLT, Nat.reduceAdd, Nat.reduceMul, Nat.reduceSub, Nat.reduceEqDiff, Nat.reduceBEq, Int.reduceToNat, reduceCtorEq]
      refine rg ctNo_ok ?_
      simp only [go_sem, Nat.reduceLeDiff, Nat.reduceLT, Nat.reduceAdd, Nat.reduceMul, Nat.reduceSub, Nat.reduceEqDiff, Nat.reduceBEq, Int.reduceToNat, reduceCtorEq]
      obtain rfl := Option.some.inj H
      first | rfl | simp only [Bool.and_false, Bool.false_and, Bool.and_true, Bool.true_and]
    replace H := cond_f hc H
    refine rg ctNo_ok ?_
    simp only [go_sem, Nat.reduceLeDiff, Nat.reduceLT, Nat.reduceAdd, Nat.reduceMul, Nat.reduceSub, Nat.reduceEqDiff, Nat.reduceBEq, Int.reduceToNat, reduceCtorEq]
    refine seqM ?_
    obtain ⟨r5, e6, H⟩ := Option.bind_eq_some_iff.1 H
    refine rg ct6t2_ok ?_
    simp only [go_sem, Nat.reduceLeDiff, Nat.reduceLT, Nat.reduceAdd, Nat.reduceMul, Nat.reduceSub, Nat.reduceEqDiff, Nat.reduceBEq, Int.reduceToNat, reduceCtorEq, roD, roDOb, deadL, edC, edR, nodupB, rnm, rnmL, rnmB, rnmH, rnm_bif, rnmB_bif, putH, dropH, rhoN, ptB, slN, litL, celL, pK, isLit, oS, isRow, inL, ct6t2_20, body20, e6]
    repeat ((with_reducible refine And.intro ?_ ?_); focus (first | (with_reducible trivial) | omega | (and_intros <;> first | (with_reducible trivial) | omega | assumption | exact nfc | first | exact rfl | exact trivial | exact fitI | exact Or.inr rfl | exact Or.inl rfl | exact fun x hx => absurd hx (by omega) | (intro x hx; (repeat (first | (and_intros <;> (first | exact rfl | exact trivial | exact fitI | exact Or.inr rfl | exact Or.inl rfl | exact fun x hx => absurd hx (by omega))) | (exfalso; omega) | (rcases x with _ | x))); done)) | grind))
    refine seqM ?_
    refine sq ctNo_ok ?_
    simp only [go_sem, Nat.reduceLeDiff, Nat.reduceLT, Nat.reduceAdd, Nat.reduceMul, Nat.reduceSub, Nat.reduceEqDiff, Nat.reduceBEq, Int.reduceToNat, reduceCtorEq]
    refine condM rfl trivial (fun hc => ?_) (fun hc => ?_)
    · replace H := cond_t hc H
      refine seqM ?_
      obtain ⟨f7, H⟩ := need_some.1 H
      replace f7 := g_iff.1 f7
      refine rg ct6t3_ok ?_
      simp only [go_sem, Nat.reduceLeDiff, Nat.reduceLT, Nat.reduceAdd, Nat.reduceMul, Nat.reduceSub, Nat.reduceEqDiff, Nat.reduceBEq, Int.reduceToNat, reduceCtorEq, ct6t3_24, body24]
      repeat ((with_reducible refine And.intro ?_ ?_); focus (first | (with_reducible trivial) | omega | exact f7 | (intro g; have q := f7 (by first | exact g | (rw [g]; rfl) | simpa using g); first | exact q | exact ⟨q.1, q.2.1⟩ | exact q.2.2 | omega | exact ⟨g, q⟩ | exact ⟨trivial, q⟩ | exact ⟨g, q.1, q.2.1⟩ | exact ⟨g, q.2.2⟩) | (intro g; (try have q0 := f7 (by first | exact g | (rw [g]; rfl) | simpa using g)); and_intros <;> first | (with_reducible trivial) | assumption | exact nfc | (intro g2; rw [g, g2]; rfl) | (intro g2; assumption) | (simp only [g, Bool.true_and, Bool.and_true, Bool.not_false, Bool.not_true]; assumption) | grind) | (and_intros <;> first | (with_reducible trivial) | omega | assumption | exact nfc | first | exact rfl | exact trivial | exact fitI | exact Or.inr rfl | exact Or.inl rfl | exact fun x hx => absurd hx (by omega) | (intro x hx; (repeat (first | (and_intros <;> (first | exact rfl | exact trivial | exact fitI | exact Or.inr rfl | exact Or.inl rfl | exact fun x hx => absurd hx (by omega))) | (exfalso; omega) | (rcases x with _ | x))); done)) | grind))
      refine rg ctNo_ok ?_
      simp only [go_sem, Nat.reduceLeDiff, Nat.reduceLT, Nat.reduceAdd, Nat.reduceMul, Nat.reduceSub, Nat.reduceEqDiff, Nat.reduceBEq, Int.reduceToNat, reduceCtorEq]
      obtain rfl := Option.some.inj H
      first | rfl | simp only [Bool.and_false, Bool.false_and, Bool.and_true, Bool.true_and]
    replace H := cond_f hc H
    refine rg ctNo_ok ?_
    simp only [go_sem, Nat.reduceLeDiff, Nat.reduceLT, Nat.reduceAdd, Nat.reduceMul, Nat.reduceSub, Nat.reduceEqDiff, Nat.reduceBEq, Int.reduceToNat, reduceCtorEq]
    refine seqM ?_
    obtain ⟨r8, e9, H⟩ := Option.bind_eq_some_iff.1 H
    refine rg ct6t4_ok ?_
    simp only [go_sem, Nat.reduceLeDiff, Nat.reduceLT, Nat.reduceAdd, Nat.reduceMul, Nat.reduceSub, Nat.reduceEqDiff, Nat.reduceBEq, Int.reduceToNat, reduceCtorEq, ct6t4_37, body37, e9]
    repeat ((with_reducible refine And.intro ?_ ?_); focus (first | (with_reducible trivial) | omega | (and_intros <;> first | (with_reducible trivial) | omega | assumption | exact nfc | first | exact rfl | exact trivial | exact fitI | exact Or.inr rfl | exact Or.inl rfl | exact fun x hx => absurd hx (by omega) | (intro x hx; (repeat (first | (and_intros <;> (first | exact rfl | exact trivial | exact fitI | exact Or.inr rfl | exact Or.inl rfl | exact fun x hx => absurd hx (by omega))) | (exfalso; omega) | (rcases x with _ | x))); done)) | grind))
    refine seqM ?_
    obtain ⟨r10, e11, H⟩ := Option.bind_eq_some_iff.1 H
    refine rg ct6t4_ok ?_
    simp only [go_sem, Nat.reduceLeDiff, Nat.reduceLT, Nat.reduceAdd, Nat.reduceMul, Nat.reduceSub, Nat.reduceEqDiff, Nat.reduceBEq, Int.reduceToNat, reduceCtorEq, ct6t4_37, body37, e11]
    repeat ((with_reducible refine And.intro ?_ ?_); focus (first | (with_reducible trivial) | omega | (and_intros <;> first | (with_reducible trivial) | omega | assumption | exact nfc | first | exact rfl | exact trivial | exact fitI | exact Or.inr rfl | exact Or.inl rfl | exact fun x hx => absurd hx (by omega) | (intro x hx; (repeat (first | (and_intros <;> (first | exact rfl | exact trivial | exact fitI | exact Or.inr rfl | exact Or.inl rfl | exact fun x hx => absurd hx (by omega))) | (exfalso; omega) | (rcases x with _ | x))); done)) | grind))
    refine sq ctNo_ok ?_
    simp only [go_sem, Nat.reduceLeDiff, Nat.reduceLT, Nat.reduceAdd, Nat.reduceMul, Nat.reduceSub, Nat.reduceEqDiff, Nat.reduceBEq, Int.reduceToNat, reduceCtorEq]
    repeat ((with_reducible refine And.intro ?_ ?_); focus (first | (with_reducible trivial) | omega | (and_intros <;> first | (with_reducible trivial) | omega | assumption | exact nfc | first | exact rfl | exact trivial | exact fitI | exact Or.inr rfl | exact Or.inl rfl | exact fun x hx => absurd hx (by omega) | (intro x hx; (repeat (first | (and_intros <;> (first | exact rfl | exact trivial | exact fitI | exact Or.inr rfl | exact Or.inl rfl | exact fun x hx => absurd hx (by omega))) | (exfalso; omega) | (rcases x with _ | x))); done)) | grind))
    refine seqM ?_
    refine sq ctNo_ok ?_
    simp only [go_sem, Nat.reduceLeDiff, Nat.reduceLT, Nat.reduceAdd, Nat.reduceMul, Nat.reduceSub, Nat.reduceEqDiff, Nat.reduceBEq, Int.reduceToNat, reduceCtorEq]
    refine condM rfl trivial (fun hc => ?_) (fun hc => ?_)
    · replace H := cond_t hc H
      refine rg ctNo_ok ?_
      simp only [go_sem, Nat.reduceLeDiff, Nat.reduceLT, Nat.reduceAdd, Nat.reduceMul, Nat.reduceSub, Nat.reduceEqDiff, Nat.reduceBEq, Int.reduceToNat, reduceCtorEq]
      refine seqM ?_
      refine seqM ?_
      obtain ⟨f12, H⟩ := need_some.1 H
      replace f12 := g_iff.1 f12
      obtain ⟨f13, H⟩ := need_some.1 H
      replace f13 := g_iff.1 f13
      refine rg ct6t5_ok ?_
      simp only [go_sem, Nat.reduceLeDiff, Nat.reduceLT, Nat.reduceAdd, Nat.reduceMul, Nat.reduceSub, Nat.reduceEqDiff, Nat.reduceBEq, Int.reduceToNat, reduceCtorEq, ct6t5_34, body34, ct6t5_38, body38]
      repeat ((with_reducible refine And.intro ?_ ?_); focus (first | (with_reducible trivial) | omega | exact f12 | exact f13 | (intro g; have q := f12 (by first | exact g | (rw [g]; rfl) | simpa using g); first | exact q | exact ⟨q.1, q.2.1⟩ | exact q.2.2 | omega | exact ⟨g, q⟩ | exact ⟨trivial, q⟩ | exact ⟨g, q.1, q.2.1⟩ | exact ⟨g, q.2.2⟩) | (intro g; have q := f13 (by first | exact g | (rw [g]; rfl) | simpa using g); first | exact q | exact ⟨q.1, q.2.1⟩ | exact q.2.2 | omega | exact ⟨g, q⟩ | exact ⟨trivial, q⟩ | exact ⟨g, q.1, q.2.1⟩ | exact ⟨g, q.2.2⟩) | (intro g; (try have q0 := f12 (by first | exact g | (rw [g]; rfl) | simpa using g)); (try have q1 := f13 (by first | exact g | (rw [g]; rfl) | simpa using g)); and_intros <;> first | (with_reducible trivial) | assumption | exact nfc | (intro g2; rw [g, g2]; rfl) | (intro g2; assumption) | (simp only [g, Bool.true_and, Bool.and_true, Bool.not_false, Bool.not_true]; assumption) | grind) | (and_intros <;> first | (with_reducible trivial) | omega | assumption | exact nfc | first | exact rfl | exact trivial | exact fitI | exact Or.inr rfl | exact Or.inl rfl | exact fun x hx => absurd hx (by omega) | (intro x hx; (repeat (first | (and_intros <;> (first | exact rfl | exact trivial | exact fitI | exact Or.inr rfl | exact Or.inl rfl | exact fun x hx => absurd hx (by omega))) | (exfalso; omega) | (rcases x with _ | x))); done)) | grind))
      refine condM rfl trivial (fun hc => ?_) (fun hc => ?_)
      · replace H := cond_t hc H
        refine sq ctNo_ok ?_
        simp only [go_sem, Nat.reduceLeDiff, Nat.reduceLT, Nat.reduceAdd, Nat.reduceMul, Nat.reduceSub, Nat.reduceEqDiff, Nat.reduceBEq, Int.reduceToNat, reduceCtorEq]
        refine rg ctNo_ok ?_
        simp only [go_sem, Nat.reduceLeDiff, Nat.reduceLT, Nat.reduceAdd, Nat.reduceMul, Nat.reduceSub, Nat.reduceEqDiff, Nat.reduceBEq, Int.reduceToNat, reduceCtorEq]
        obtain rfl := Option.some.inj H
        first | rfl | simp only [Bool.and_false, Bool.false_and, Bool.and_true, Bool.true_and]
      replace H := cond_f hc H
      refine rg ctNo_ok ?_
      simp only [go_sem, Nat.reduceLeDiff, Nat.reduceLT, Nat.reduceAdd, Nat.reduceMul, Nat.reduceSub, Nat.reduceEqDiff, Nat.reduceBEq, Int.reduceToNat, reduceCtorEq]
      refine seqM ?_
      refine sq ctNo_ok ?_
      simp only [go_sem, Nat.reduceLeDiff, Nat.reduceLT, Nat.reduceAdd, Nat.reduceMul, Nat.reduceSub, Nat.reduceEqDiff, Nat.reduceBEq, Int.reduceToNat, reduceCtorEq]
      refine blkM ?_
      refine loop_den (fun s : Int => (.top :: .top :: .top :: .int .i64 p3 :: .int .i64 p4 :: .ptr 0 0 0 0 :: .ptr 1 0 0 0 :: .ptr 2 0 0 0 :: .top :: .top :: .top :: .bool r1 :: .ptr 6 0 0 0 :: .sl 5 10 0 r5.2.1.length false :: .top :: .ptr 7 0 0 0 :: .top :: .top :: .top :: .top :: .int .i64 s :: .top :: .top :: .top :: .top :: .top :: .top :: .top :: .top :: .top :: .top :: .top :: .top :: .top :: .top :: .top :: .top :: .top :: .top :: .top :: .top :: .top :: .top :: .top :: .top :: .top :: .top :: .top :: .top :: .top :: .top :: .top :: .top :: .top :: .top :: .top :: .top :: .top :: .top :: .top :: .top :: .top :: .top :: .top :: .top :: .top :: .top :: .top :: .top :: .top :: .top :: .top :: .top :: .top :: .top :: .top :: .top :: .top :: .top :: .top :: .top :: .top :: .top :: .top :: .top :: .top :: .top :: .top :: .top :: .top :: .top :: .top :: .top :: .top :: .top :: .top :: .top :: .top :: .top :: .top :: .top :: .top :: .top :: .top :: .top :: .top :: .top :: .top :: .top :: .top :: .top :: .top :: .top :: .top :: .top :: .top :: .top :: .top :: .top :: .top :: .top :: .top :: .top :: .top :: .top :: .top :: .top :: .top :: .top :: .top :: .top :: .top :: .top :: .top :: .top :: .top :: .top :: .top :: .top :: .top :: .top :: .top :: .top :: .top :: .top :: .top :: .top :: .top :: .top :: .top :: .top :: .top :: .top :: .top :: .top :: .top :: .top :: .top :: .top :: .top :: .top :: .top :: .top :: .top :: .top :: .top :: .top :: .top :: .top :: .top :: .top :: .top :: .top :: .top :: .top :: .top :: .top :: .top :: .top :: .top :: .top :: .top :: .top :: .top :: .top :: .top :: .top :: .top :: .top :: .top :: .top :: .top :: .top :: .top :: .top :: .top :: .top :: .top :: .top :: .top :: .top :: .top :: .top :: .top :: .top :: .top :: .top :: .top :: .top :: .top :: .top :: .top :: .top :: .top :: .top :: .top :: .top :: .top :: .top :: .top :: [])) (fun s => [.lit 41 [.int .u8 p0.Own.x0, .int .u8 p0.Own.x1, .int .u8 p0.Own.x2, .int .u8 p0.Own.x3, .int .u8 p0.Own.x4, .int .u8 p0.Own.x5, .bool p0.Root, .bool p0.Gate, .int .i64 p0.Seq, .ro 17 p0.Trees.length false (enR c_TTree p0.Trees), .ro 13 p0.Proxies.length false (enR c_TProxied p0.Proxies)], .lit 25 [.int .u8 p1.Root.x0, .int .u8 p1.Root.x1, .int .u8 p1.Root.x2, .int .u8 p1.Root.x3, .int .u8 p1.Root.x4, .int .u8 p1.Root.x5, .int .i64 p1.Seq, .int .i64 p1.Hops, .int .i64 p1.Cost, .bool p1.Gate], .lit 23 [.int .u8 p2.x0, .int .u8 p2.x1, .int .u8 p2.x2, .int .u8 p2.x3, .int .u8 p2.x4, .int .u8 p2.x5], .row 62 17 r5.1.Trees.length (enR c_TTree r5.1.Trees), .row 64 13 r5.1.Proxies.length (enR c_TProxied r5.1.Proxies), .row 25 10 r5.2.1.length (enR c_TRootWord r5.2.1), .lit 41 [.int .u8 r5.1.Own.x0, .int .u8 r5.1.Own.x1, .int .u8 r5.1.Own.x2, .int .u8 r5.1.Own.x3, .int .u8 r5.1.Own.x4, .int .u8 r5.1.Own.x5, .bool r5.1.Root, .bool r5.1.Gate, .int .i64 r5.1.Seq, .sl 3 17 0 r5.1.Trees.length false, .sl 4 13 0 r5.1.Proxies.length false], .lit 62 [.int .u8 r8.1.Root.x0, .int .u8 r8.1.Root.x1, .int .u8 r8.1.Root.x2, .int .u8 r8.1.Root.x3, .int .u8 r8.1.Root.x4, .int .u8 r8.1.Root.x5, .int .u8 r8.1.Parent.x0, .int .u8 r8.1.Parent.x1, .int .u8 r8.1.Parent.x2, .int .u8 r8.1.Parent.x3, .int .u8 r8.1.Parent.x4, .int .u8 r8.1.Parent.x5, .int .i64 r8.1.Seq, .int .i64 r8.1.Hops, .int .i64 r8.1.Cost, .bool r8.1.Gate, .int .i64 r8.1.Until], .dead]) (fun e : Unit => (.top :: .top :: .top :: .int .i64 p3 :: .int .i64 p4 :: .top :: .ptr 1 0 0 0 :: .ptr 2 0 0 0 :: .top :: .top :: .top :: .bool r1 :: .ptr 6 0 0 0 :: .sl 5 10 0 r5.2.1.length false :: .top :: .ptr 7 0 0 0 :: .top :: .top :: .top :: .top :: .top :: .top :: .top :: .top :: .top :: .top :: .top :: .top :: .top :: .top :: .top :: .top :: .top :: .top :: .top :: .top :: .top :: .top :: .top :: .top :: .top :: .top :: .top :: .top :: .top :: .top :: .top :: .top :: .top :: .top :: .top :: .top :: .top :: .top :: .top :: .top :: .top :: .top :: .top :: .top :: .top :: .top :: .top :: .top :: .top :: .top :: .top :: .top :: .top :: .top :: .top :: .top :: .top :: .top :: .top :: .top :: .top :: .top :: .top :: .top :: .top :: .top :: .top :: .top :: .top :: .top :: .top :: .top :: .top :: .top :: .top :: .top :: .top :: .top :: .top :: .top :: .top :: .top :: .top :: .top :: .top :: .top :: .top :: .top :: .top :: .top :: .top :: .top :: .top :: .top :: .top :: .top :: .top :: .top :: .top :: .top :: .top :: .top :: .top :: .top :: .top :: .top :: .top :: .top :: .top :: .top :: .top :: .top :: .top :: .top :: .top :: .top :: .top :: .top :: .top :: .top :: .top :: .top :: .top :: .top :: .top :: .top :: .top :: .top :: .top :: .top :: .top :: .top :: .top :: .top :: .top :: .top :: .top :: .top :: .top :: .top :: .top :: .top :: .top :: .top :: .top :: .top :: .top :: .top :: .top :: .top :: .top :: .top :: .top :: .top :: .top :: .top :: .top :: .top :: .top :: .top :: .top :: .top :: .top :: .top :: .top :: .top :: .top :: .top :: .top :: .top :: .top :: .top :: .top :: .top :: .top :: .top :: .top :: .top :: .top :: .top :: .top :: .top :: .top :: .top :: .top :: .top :: .top :: .top :: .top :: .top :: .top :: .top :: .top :: .top :: .top :: .top :: .top :: .top :: .top :: .top :: .top :: .top :: .top :: .top :: [])) (fun e => [.dead, .lit 25 [.int .u8 p1.Root.x0, .int .u8 p1.Root.x1, .int .u8 p1.Root.x2, .int .u8 p1.Root.x3, .int .u8 p1.Root.x4, .int .u8 p1.Root.x5, .int .i64 p1.Seq, .int .i64 p1.Hops, .int .i64 p1.Cost, .bool p1.Gate], .lit 23 [.int .u8 p2.x0, .int .u8 p2.x1, .int .u8 p2.x2, .int .u8 p2.x3, .int .u8 p2.x4, .int .u8 p2.x5], .row 62 17 r5.1.Trees.length (enR c_TTree r5.1.Trees), .row 64 13 r5.1.Proxies.length (enR c_TProxied r5.1.Proxies), .row 25 10 r5.2.1.length (enR c_TRootWord r5.2.1), .lit 41 [.int .u8 r5.1.Own.x0, .int .u8 r5.1.Own.x1, .int .u8 r5.1.Own.x2, .int .u8 r5.1.Own.x3, .int .u8 r5.1.Own.x4, .int .u8 r5.1.Own.x5, .bool r5.1.Root, .bool r5.1.Gate, .int .i64 r5.1.Seq, .sl 3 17 0 r5.1.Trees.length false, .sl 4 13 0 r5.1.Proxies.length false], .lit 62 [.int .u8 r8.1.Root.x0, .int .u8 r8.1.Root.x1, .int .u8 r8.1.Root.x2, .int .u8 r8.1.Root.x3, .int .u8 r8.1.Root.x4, .int .u8 r8.1.Root.x5, .int .u8 r8.1.Parent.x0, .int .u8 r8.1.Parent.x1, .int .u8 r8.1.Parent.x2, .int .u8 r8.1.Parent.x3, .int .u8 r8.1.Parent.x4, .int .u8 r8.1.Parent.x5, .int .i64 r8.1.Seq, .int .i64 r8.1.Hops, .int .i64 r8.1.Cost, .bool r8.1.Gate, .int .i64 r8.1.Until], .dead]) H ?_ (fun v1_1 o H hn1_1 hn2_1 => ?_) (fun e H => ?_)
      · refine SubF_of ⟨[some 0, some 1, some 2, some 3, some 4, some 5, some 6, some 7, some 8], ?_, ?_, by rfl, by rfl⟩
        · simp [CvL, Cv, getM]
        · exact ⟨(by simp [CvB, CvL, Cv, blkAt, geth, getM]), (by simp [CvB, CvL, Cv, blkAt, geth, getM]), (by simp [CvB, CvL, Cv, blkAt, geth, getM]), (CvB_same nfA), (CvB_same nfA), (CvB_same nfA), (by simp [CvB, CvL, Cv, blkAt, geth, getM]), (by simp [CvB, CvL, Cv, blkAt, geth, getM]), CvB_dead, trivial⟩
      · unfold F6_L1 at H
        try dsimp only at H ⊢
        refine seqM ?_
        refine sq ctNo_ok ?_
        simp only [go_sem, Nat.reduceLeDiff, Nat.reduceLT, Nat.reduceAdd, Nat.reduceMul, Nat.reduceSub, Nat.reduceEqDiff, Nat.reduceBEq, Int.reduceToNat, reduceCtorEq]
        repeat ((with_reducible refine And.intro ?_ ?_); focus (first | (with_reducible trivial) | omega | (and_intros <;> first | (with_reducible trivial) | omega | assumption | exact nfc | first | exact rfl | exact trivial | exact fitI | exact Or.inr rfl | exact Or.inl rfl | exact fun x hx => absurd hx (by omega) | (intro x hx; (repeat (first | (and_intros <;> (first | exact rfl | exact trivial | exact fitI | exact Or.inr rfl | exact Or.inl rfl | exact fun x hx => absurd hx (by omega))) | (exfalso; omega) | (rcases x with _ | x))); done)) | grind))
        refine condM' rfl trivial (fun hc => ?_) (fun hc => ?_)
        · replace H := cond_f hc H
          refine rg ctNo_ok ?_
          simp only [go_sem, Nat.reduceLeDiff, Nat.reduceLT, Nat.reduceAdd, Nat.reduceMul, Nat.reduceSub, Nat.reduceEqDiff, Nat.reduceBEq, Int.reduceToNat, reduceCtorEq]
          refine ⟨_, (Option.some.inj H).symm, ?_⟩
          refine SubF_of ⟨[some 0, some 1, some 2, some 3, some 4, some 5, some 6, some 7, some 8], ?_, ?_, by rfl, by rfl⟩
          · simp [CvL, Cv, getM]
          · exact ⟨CvB_dead, (by simp [CvB, CvL, Cv, blkAt, geth, getM]), (by simp [CvB, CvL, Cv, blkAt, geth, getM]), (CvB_same nfA), (CvB_same nfA), (CvB_same nfA), (by simp [CvB, CvL, Cv, blkAt, geth, getM]), (by simp [CvB, CvL, Cv, blkAt, geth, getM]), CvB_dead, trivial⟩
        replace H := cond_t hc H
        refine rg ctNo_ok ?_
        simp only [go_sem, Nat.reduceLeDiff, Nat.reduceLT, Nat.reduceAdd, Nat.reduceMul, Nat.reduceSub, Nat.reduceEqDiff, Nat.reduceBEq, Int.reduceToNat, reduceCtorEq]
        refine seqM ?_
        refine blkM ?_
        refine seqM ?_
        obtain ⟨f14, H⟩ := need_some.1 H
        replace f14 := inb_iff.1 f14
        obtain ⟨r15, e16, H⟩ := Option.bind_eq_some_iff.1 H
        refine draw_rule shT_ok ct6t4_ok 1 (by kernel_rfl) (by kernel_rfl) ?_
        intro an han
        simp only [d_nil, d_cons, nxtD, xrD, xoD, roEq, minL, List.append_nil, refsOp, refs, refsL, mask, maskF, place, placeF, okLog, pairOk, hit, inL, slotsF, ren, renL, rnN, nrH, nrB, nrL, nr, dead0, deadS, List.replicate_zero, List.replicate_succ, Nat.sub_self, Nat.add_zero, Nat.zero_add, Nat.reduceSub, Nat.not_lt_zero, Nat.zero_le, Nat.lt_add_one, go_sem, Nat.reduceLeDiff, Nat.reduceLT, Nat.reduceAdd, Nat.reduceMul, Nat.reduceSub, Nat.reduceEqDiff, Nat.reduceBEq, Int.reduceToNat, reduceCtorEq, ct6t4_37, body37, f14, e16]
        repeat ((with_reducible refine And.intro ?_ ?_); focus (and_intros <;> first | (with_reducible trivial) | (show anB _ _ _ = true; subst han; kernel_rfl) | (show (anB _ _ _ && _) = true; subst han; kernel_rfl) | omega | assumption | exact nrc | exact nfc | first | exact rfl | exact trivial | exact fitI | exact Or.inr rfl | exact Or.inl rfl | exact fun x hx => absurd hx (by omega) | (intro x hx; (repeat (first | (and_intros <;> (first | exact rfl | exact trivial | exact fitI | exact Or.inr rfl | exact Or.inl rfl | exact fun x hx => absurd hx (by omega))) | (exfalso; omega) | (rcases x with _ | x))); done)))
        refine seqM ?_
        obtain ⟨f17, H⟩ := need_some.1 H
        replace f17 := g_iff.1 f17
        replace f17 := fun g => inb_iff.1 (f17 g)
        obtain ⟨f18, H⟩ := need_some.1 H
        replace f18 := g_iff.1 f18
        replace f18 := fun g => inb_iff.1 (f18 g)
        refine draw_quiet shT_ok ctNo_ok (by kernel_rfl) (by kernel_rfl) ?_
        simp only [go_sem, Nat.reduceLeDiff, Nat.reduceLT, Nat.reduceAdd, Nat.reduceMul, Nat.reduceSub, Nat.reduceEqDiff, Nat.reduceBEq, Int.reduceToNat, reduceCtorEq]
        repeat ((with_reducible refine And.intro ?_ ?_); focus (first | (with_reducible trivial) | omega | exact f17 | exact f18 | (intro g; have q := f17 (by first | exact g | (rw [g]; rfl) | simpa using g); first | exact q | exact ⟨q.1, q.2.1⟩ | exact q.2.2 | omega | exact ⟨g, q⟩ | exact ⟨trivial, q⟩ | exact ⟨g, q.1, q.2.1⟩ | exact ⟨g, q.2.2⟩) | (intro g; have q := f18 (by first | exact g | (rw [g]; rfl) | simpa using g); first | exact q | exact ⟨q.1, q.2.1⟩ | exact q.2.2 | omega | exact ⟨g, q⟩ | exact ⟨trivial, q⟩ | exact ⟨g, q.1, q.2.1⟩ | exact ⟨g, q.2.2⟩) | grind))
        refine condM rfl trivial (fun hc => ?_) (fun hc => ?_)
        · replace H := cond_t hc H
          refine sq ctNo_ok ?_
          simp only [go_sem, Nat.reduceLeDiff, Nat.reduceLT, Nat.reduceAdd, Nat.reduceMul, Nat.reduceSub, Nat.reduceEqDiff, Nat.reduceBEq, Int.reduceToNat, reduceCtorEq]
          refine rg ctNo_ok ?_
          simp only [go_sem, Nat.reduceLeDiff, Nat.reduceLT, Nat.reduceAdd, Nat.reduceMul, Nat.reduceSub, Nat.reduceEqDiff, Nat.reduceBEq, Int.reduceToNat, reduceCtorEq]
          have H := hn2_1 _ (Option.some.inj H).symm
          obtain rfl := Option.some.inj H
          first | rfl | simp only [Bool.and_false, Bool.false_and, Bool.and_true, Bool.true_and]
        replace H := cond_f hc H
        refine rg ctNo_ok ?_
        simp only [go_sem, Nat.reduceLeDiff, Nat.reduceLT, Nat.reduceAdd, Nat.reduceMul, Nat.reduceSub, Nat.reduceEqDiff, Nat.reduceBEq, Int.reduceToNat, reduceCtorEq]
        refine rg ctNo_ok ?_
        simp only [go_sem, Nat.reduceLeDiff, Nat.reduceLT, Nat.reduceAdd, Nat.reduceMul, Nat.reduceSub, Nat.reduceEqDiff, Nat.reduceBEq, Int.reduceToNat, reduceCtorEq]
        refine ⟨_, (Option.some.inj H).symm, ?_⟩
        refine SubF_of ⟨[some 0, some 1, some 2, some 3, some 4, some 5, some 6, some 7, some 8], ?_, ?_, by rfl, by rfl⟩
        · simp [CvL, Cv, getM]
        · exact ⟨(by simp [CvB, CvL, Cv, blkAt, geth, getM]), (by simp [CvB, CvL, Cv, blkAt, geth, getM]), (by simp [CvB, CvL, Cv, blkAt, geth, getM]), (CvB_same nfA), (CvB_same nfA), (CvB_same nfA), (by simp [CvB, CvL, Cv, blkAt, geth, getM]), (by simp [CvB, CvL, Cv, blkAt, geth, getM]), CvB_dead, trivial⟩
      · try dsimp only at H ⊢
        try simp only [m_normal, k_normal, b_normal, kL_normal, r_normal]
        refine seqM ?_
        obtain ⟨r19, e20, H⟩ := Option.bind_eq_some_iff.1 H
        refine rg ct6t2_ok ?_
        simp only [go_sem, Nat.reduceLeDiff, Nat.reduceLT, Nat.reduceAdd, Nat.reduceMul, Nat.reduceSub, Nat.reduceEqDiff, Nat.reduceBEq, Int.reduceToNat, reduceCtorEq, roD, roDOb, deadL, edC, edR, nodupB, rnm, rnmL, rnmB, rnmH, rnm_bif, rnmB_bif, putH, dropH, rhoN, ptB, slN, litL, celL, pK, isLit, oS, isRow, inL, ct6t2_20, body20, e20]
        repeat ((with_reducible refine And.intro ?_ ?_); focus (first | (with_reducible trivial) | omega | (and_intros <;> first | (with_reducible trivial) | omega | assumption | exact nfc | first | exact rfl | exact trivial | exact fitI | exact Or.inr rfl | exact Or.inl rfl | exact fun x hx => absurd hx (by omega) | (intro x hx; (repeat (first | (and_intros <;> (first | exact rfl | exact trivial | exact fitI | exact Or.inr rfl | exact Or.inl rfl | exact fun x hx => absurd hx (by omega))) | (exfalso; omega) | (rcases x with _ | x))); done)) | grind))
        refine seqM ?_
        obtain ⟨f21, H⟩ := need_some.1 H
        replace f21 := g_iff.1 f21
        replace f21 := fun g => inb_iff.1 (f21 g)
        refine draw_quiet shT_ok ctNo_ok (by kernel_rfl) (by kernel_rfl) ?_
        simp only [go_sem, Nat.reduceLeDiff, Nat.reduceLT, Nat.reduceAdd, Nat.reduceMul, Nat.reduceSub, Nat.reduceEqDiff, Nat.reduceBEq, Int.reduceToNat, reduceCtorEq]
        repeat ((with_reducible refine And.intro ?_ ?_); focus (first | (with_reducible trivial) | omega | exact f21 | (intro g; have q := f21 (by first | exact g | (rw [g]; rfl) | simpa using g); first | exact q | exact ⟨q.1, q.2.1⟩ | exact q.2.2 | omega | exact ⟨g, q⟩ | exact ⟨trivial, q⟩ | exact ⟨g, q.1, q.2.1⟩ | exact ⟨g, q.2.2⟩) | (intro g; (try have q0 := f21 (by first | exact g | (rw [g]; rfl) | simpa using g)); and_intros <;> first | (with_reducible trivial) | assumption | exact nfc | (intro g2; rw [g, g2]; rfl) | (intro g2; assumption) | (simp only [g, Bool.true_and, Bool.and_true, Bool.not_false, Bool.not_true]; assumption) | grind) | (and_intros <;> first | (with_reducible trivial) | omega | assumption | exact nfc | first | exact rfl | exact trivial | exact fitI | exact Or.inr rfl | exact Or.inl rfl | exact fun x hx => absurd hx (by omega) | (intro x hx; (repeat (first | (and_intros <;> (first | exact rfl | exact trivial | exact fitI | exact Or.inr rfl | exact Or.inl rfl | exact fun x hx => absurd hx (by omega))) | (exfalso; omega) | (rcases x with _ | x))); done)) | grind))
        refine sq ctNo_ok ?_
        simp only [go_sem, Nat.reduceLeDiff, Nat.reduceLT, Nat.reduceAdd, Nat.reduceMul, Nat.reduceSub, Nat.reduceEqDiff, Nat.reduceBEq, Int.reduceToNat, reduceCtorEq]
        repeat ((with_reducible refine And.intro ?_ ?_); focus (first | (with_reducible trivial) | omega | grind))
        refine rg ctNo_ok ?_
        simp only [go_sem, Nat.reduceLeDiff, Nat.reduceLT, Nat.reduceAdd, Nat.reduceMul, Nat.reduceSub, Nat.reduceEqDiff, Nat.reduceBEq, Int.reduceToNat, reduceCtorEq]
        obtain rfl := Option.some.inj H
        first | rfl | simp only [Bool.and_false, Bool.false_and, Bool.and_true, Bool.true_and]
    replace H := cond_f hc H
    refine rg ctNo_ok ?_
    simp only [go_sem, Nat.reduceLeDiff, Nat.reduceLT, Nat.reduceAdd, Nat.reduceMul, Nat.reduceSub, Nat.reduceEqDiff, Nat.reduceBEq, Int.reduceToNat, reduceCtorEq]
    refine seqM ?_
    refine seqM ?_
    obtain ⟨f22, H⟩ := need_some.1 H
    replace f22 := g_iff.1 f22
    obtain ⟨f23, H⟩ := need_some.1 H
    replace f23 := g_iff.1 f23
    refine rg ct6t5_ok ?_
    simp only [go_sem, Nat.reduceLeDiff, Nat.reduceLT, Nat.reduceAdd, Nat.reduceMul, Nat.reduceSub, Nat.reduceEqDiff, Nat.reduceBEq, Int.reduceToNat, reduceCtorEq, ct6t5_34, body34, ct6t5_38, body38]
    repeat ((with_reducible refine And.intro ?_ ?_); focus (first | (with_reducible trivial) | omega | exact f22 | exact f23 | (intro g; have q := f22 (by first | exact g | (rw [g]; rfl) | simpa using g); first | exact q | exact ⟨q.1, q.2.1⟩ | exact q.2.2 | omega | exact ⟨g, q⟩ | exact ⟨trivial, q⟩ | exact ⟨g, q.1, q.2.1⟩ | exact ⟨g, q.2.2⟩) | (intro g; have q := f23 (by first | exact g | (rw [g]; rfl) | simpa using g); first | exact q | exact ⟨q.1, q.2.1⟩ | exact q.2.2 | omega | exact ⟨g, q⟩ | exact ⟨trivial, q⟩ | exact ⟨g, q.1, q.2.1⟩ | exact ⟨g, q.2.2⟩) | (intro g; (try have q0 := f22 (by first | exact g | (rw [g]; rfl) | simpa using g)); (try have q1 := f23 (by first | exact g | (rw [g]; rfl) | simpa using g)); and_intros <;> first | (with_reducible trivial) | assumption | exact nfc | (intro g2; rw [g, g2]; rfl) | (intro g2; assumption) | (simp only [g, Bool.true_and, Bool.and_true, Bool.not_false, Bool.not_true]; assumption) | grind) | (and_intros <;> first | (with_reducible trivial) | omega | assumption | exact nfc | first | exact rfl | exact trivial | exact fitI | exact Or.inr rfl | exact Or.inl rfl | exact fun x hx => absurd hx (by omega) | (intro x hx; (repeat (first | (and_intros <;> (first | exact rfl | exact trivial | exact fitI | exact Or.inr rfl | exact Or.inl rfl | exact fun x hx => absurd hx (by omega))) | (exfalso; omega) | (rcases x with _ | x))); done)) | grind))
    refine condM rfl trivial (fun hc => ?_) (fun hc => ?_)
    · replace H := cond_t hc H
      refine sq ctNo_ok ?_
      simp only [go_sem, Nat.reduceLeDiff, Nat.reduceLT, Nat.reduceAdd, Nat.reduceMul, Nat.reduceSub, Nat.reduceEqDiff, Nat.reduceBEq, Int.reduceToNat, reduceCtorEq]
      refine rg ctNo_ok ?_
      simp only [go_sem, Nat.reduceLeDiff, Nat.reduceLT, Nat.reduceAdd, Nat.reduceMul, Nat.reduceSub, Nat.reduceEqDiff, Nat.reduceBEq, Int.reduceToNat, reduceCtorEq]
      obtain rfl := Option.some.inj H
      first | rfl | simp only [Bool.and_false, Bool.false_and, Bool.and_true, Bool.true_and]
    replace H := cond_f hc H
    refine rg ctNo_ok ?_
    simp only [go_sem, Nat.reduceLeDiff, Nat.reduceLT, Nat.reduceAdd, Nat.reduceMul, Nat.reduceSub, Nat.reduceEqDiff, Nat.reduceBEq, Int.reduceToNat, reduceCtorEq]
    refine seqM ?_
    refine sq ctNo_ok ?_
    simp only [go_sem, Nat.reduceLeDiff, Nat.reduceLT, Nat.reduceAdd, Nat.reduceMul, Nat.reduceSub, Nat.reduceEqDiff, Nat.reduceBEq, Int.reduceToNat, reduceCtorEq]
    refine blkM ?_
    refine loop_den (fun s : Int => (.top :: .top :: .top :: .int .i64 p3 :: .int .i64 p4 :: .ptr 0 0 0 0 :: .ptr 1 0 0 0 :: .ptr 2 0 0 0 :: .top :: .top :: .top :: .bool r1 :: .ptr 6 0 0 0 :: .sl 5 10 0 r5.2.1.length false :: .top :: .ptr 7 0 0 0 :: .top :: .top :: .top :: .top :: .int .i64 s :: .top :: .top :: .top :: .top :: .top :: .top :: .top :: .top :: .top :: .top :: .top :: .top :: .top :: .top :: .top :: .top :: .top :: .top :: .top :: .top :: .top :: .top :: .top :: .top :: .top :: .top :: .top :: .top :: .top :: .top :: .top :: .top :: .top :: .top :: .top :: .top :: .top :: .top :: .top :: .top :: .top :: .top :: .top :: .top :: .top :: .top :: .top :: .top :: .top :: .top :: .top :: .top :: .top :: .top :: .top :: .top :: .top :: .top :: .top :: .top :: .top :: .top :: .top :: .top :: .top :: .top :: .top :: .top :: .top :: .top :: .top :: .top :: .top :: .top :: .top :: .top :: .top :: .top :: .top :: .top :: .top :: .top :: .top :: .top :: .top :: .top :: .top :: .top :: .top :: .top :: .top :: .top :: .top :: .top :: .top :: .top :: .top :: .top :: .top :: .top :: .top :: .top :: .top :: .top :: .top :: .top :: .top :: .top :: .top :: .top :: .top :: .top :: .top :: .top :: .top :: .top :: .top :: .top :: .top :: .top :: .top :: .top :: .top :: .top :: .top :: .top :: .top :: .top :: .top :: .top :: .top :: .top :: .top :: .top :: .top :: .top :: .top :: .top :: .top :: .top :: .top :: .top :: .top :: .top :: .top :: .top :: .top :: .top :: .top :: .top :: .top :: .top :: .top :: .top :: .top :: .top :: .top :: .top :: .top :: .top :: .top :: .top :: .top :: .top :: .top :: .top :: .top :: .top :: .top :: .top :: .top :: .top :: .top :: .top :: .top :: .top :: .top :: .top :: .top :: .top :: .top :: .top :: .top :: .top :: .top :: .top :: .top :: .top :: .top :: .top :: .top :: .top :: .top :: .top :: .top :: .top :: .top :: .top :: .top :: [])) (fun s => [.lit 41 [.int .u8 p0.Own.x0, .int .u8 p0.Own.x1, .int .u8 p0.Own.x2, .int .u8 p0.Own.x3, .int .u8 p0.Own.x4, .int .u8 p0.Own.x5, .bool p0.Root, .bool p0.Gate, .int .i64 p0.Seq, .ro 17 p0.Trees.length false (enR c_TTree p0.Trees), .ro 13 p0.Proxies.length false (enR c_TProxied p0.Proxies)], .lit 25 [.int .u8 p1.Root.x0, .int .u8 p1.Root.x1, .int .u8 p1.Root.x2, .int .u8 p1.Root.x3, .int .u8 p1.Root.x4, .int .u8 p1.Root.x5, .int .i64 p1.Seq, .int .i64 p1.Hops, .int .i64 p1.Cost, .bool p1.Gate], .lit 23 [.int .u8 p2.x0, .int .u8 p2.x1, .int .u8 p2.x2, .int .u8 p2.x3, .int .u8 p2.x4, .int .u8 p2.x5], .row 62 17 r5.1.Trees.length (enR c_TTree r5.1.Trees), .row 64 13 r5.1.Proxies.length (enR c_TProxied r5.1.Proxies), .row 25 10 r5.2.1.length (enR c_TRootWord r5.2.1), .lit 41 [.int .u8 r5.1.Own.x0, .int .u8 r5.1.Own.x1, .int .u8 r5.1.Own.x2, .int .u8 r5.1.Own.x3, .int .u8 r5.1.Own.x4, .int .u8 r5.1.Own.x5, .bool r5.1.Root, .bool r5.1.Gate, .int .i64 r5.1.Seq, .sl 3 17 0 r5.1.Trees.length false, .sl 4 13 0 r5.1.Proxies.length false], .lit 62 [.int .u8 r8.1.Root.x0, .int .u8 r8.1.Root.x1, .int .u8 r8.1.Root.x2, .int .u8 r8.1.Root.x3, .int .u8 r8.1.Root.x4, .int .u8 r8.1.Root.x5, .int .u8 r8.1.Parent.x0, .int .u8 r8.1.Parent.x1, .int .u8 r8.1.Parent.x2, .int .u8 r8.1.Parent.x3, .int .u8 r8.1.Parent.x4, .int .u8 r8.1.Parent.x5, .int .i64 r8.1.Seq, .int .i64 r8.1.Hops, .int .i64 r8.1.Cost, .bool r8.1.Gate, .int .i64 r8.1.Until], .dead]) (fun e : Unit => (.top :: .top :: .top :: .int .i64 p3 :: .int .i64 p4 :: .top :: .ptr 1 0 0 0 :: .ptr 2 0 0 0 :: .top :: .top :: .top :: .bool r1 :: .ptr 6 0 0 0 :: .sl 5 10 0 r5.2.1.length false :: .top :: .ptr 7 0 0 0 :: .top :: .top :: .top :: .top :: .top :: .top :: .top :: .top :: .top :: .top :: .top :: .top :: .top :: .top :: .top :: .top :: .top :: .top :: .top :: .top :: .top :: .top :: .top :: .top :: .top :: .top :: .top :: .top :: .top :: .top :: .top :: .top :: .top :: .top :: .top :: .top :: .top :: .top :: .top :: .top :: .top :: .top :: .top :: .top :: .top :: .top :: .top :: .top :: .top :: .top :: .top :: .top :: .top :: .top :: .top :: .top :: .top :: .top :: .top :: .top :: .top :: .top :: .top :: .top :: .top :: .top :: .top :: .top :: .top :: .top :: .top :: .top :: .top :: .top :: .top :: .top :: .top :: .top :: .top :: .top :: .top :: .top :: .top :: .top :: .top :: .top :: .top :: .top :: .top :: .top :: .top :: .top :: .top :: .top :: .top :: .top :: .top :: .top :: .top :: .top :: .top :: .top :: .top :: .top :: .top :: .top :: .top :: .top :: .top :: .top :: .top :: .top :: .top :: .top :: .top :: .top :: .top :: .top :: .top :: .top :: .top :: .top :: .top :: .top :: .top :: .top :: .top :: .top :: .top :: .top :: .top :: .top :: .top :: .top :: .top :: .top :: .top :: .top :: .top :: .top :: .top :: .top :: .top :: .top :: .top :: .top :: .top :: .top :: .top :: .top :: .top :: .top :: .top :: .top :: .top :: .top :: .top :: .top :: .top :: .top :: .top :: .top :: .top :: .top :: .top :: .top :: .top :: .top :: .top :: .top :: .top :: .top :: .top :: .top :: .top :: .top :: .top :: .top :: .top :: .top :: .top :: .top :: .top :: .top :: .top :: .top :: .top :: .top :: .top :: .top :: .top :: .top :: .top :: .top :: .top :: .top :: .top :: .top :: .top :: .top :: .top :: .top :: .top :: .top :: [])) (fun e => [.dead, .lit 25 [.int .u8 p1.Root.x0, .int .u8 p1.Root.x1, .int .u8 p1.Root.x2, .int .u8 p1.Root.x3, .int .u8 p1.Root.x4, .int .u8 p1.Root.x5, .int .i64 p1.Seq, .int .i64 p1.Hops, .int .i64 p1.Cost, .bool p1.Gate], .lit 23 [.int .u8 p2.x0, .int .u8 p2.x1, .int .u8 p2.x2, .int .u8 p2.x3, .int .u8 p2.x4, .int .u8 p2.x5], .row 62 17 r5.1.Trees.length (enR c_TTree r5.1.Trees), .row 64 13 r5.1.Proxies.length (enR c_TProxied r5.1.Proxies), .row 25 10 r5.2.1.length (enR c_TRootWord r5.2.1), .lit 41 [.int .u8 r5.1.Own.x0, .int .u8 r5.1.Own.x1, .int .u8 r5.1.Own.x2, .int .u8 r5.1.Own.x3, .int .u8 r5.1.Own.x4, .int .u8 r5.1.Own.x5, .bool r5.1.Root, .bool r5.1.Gate, .int .i64 r5.1.Seq, .sl 3 17 0 r5.1.Trees.length false, .sl 4 13 0 r5.1.Proxies.length false], .lit 62 [.int .u8 r8.1.Root.x0, .int .u8 r8.1.Root.x1, .int .u8 r8.1.Root.x2, .int .u8 r8.1.Root.x3, .int .u8 r8.1.Root.x4, .int .u8 r8.1.Root.x5, .int .u8 r8.1.Parent.x0, .int .u8 r8.1.Parent.x1, .int .u8 r8.1.Parent.x2, .int .u8 r8.1.Parent.x3, .int .u8 r8.1.Parent.x4, .int .u8 r8.1.Parent.x5, .int .i64 r8.1.Seq, .int .i64 r8.1.Hops, .int .i64 r8.1.Cost, .bool r8.1.Gate, .int .i64 r8.1.Until], .dead]) H ?_ (fun v2_1 o H hn1_2 hn2_2 => ?_) (fun e H => ?_)
    · refine SubF_of ⟨[some 0, some 1, some 2, some 3, some 4, some 5, some 6, some 7, some 8], ?_, ?_, by rfl, by rfl⟩
      · simp [CvL, Cv, getM]
      · exact ⟨(by simp [CvB, CvL, Cv, blkAt, geth, getM]), (by simp [CvB, CvL, Cv, blkAt, geth, getM]), (by simp [CvB, CvL, Cv, blkAt, geth, getM]), (CvB_same nfA), (CvB_same nfA), (CvB_same nfA), (by simp [CvB, CvL, Cv, blkAt, geth, getM]), (by simp [CvB, CvL, Cv, blkAt, geth, getM]), CvB_dead, trivial⟩
    · unfold F6_L2 at H
      try dsimp only at H ⊢
      refine seqM ?_
      refine sq ctNo_ok ?_
      simp only [go_sem, Nat.reduceLeDiff, Nat.reduceLT, Nat.reduceAdd, Nat.reduceMul, Nat.reduceSub, Nat.reduceEqDiff, Nat.reduceBEq, Int.reduceToNat, reduceCtorEq]
      repeat ((with_reducible refine And.intro ?_ ?_); focus (first | (with_reducible trivial) | omega | (and_intros <;> first | (with_reducible trivial) | omega | assumption | exact nfc | first | exact rfl | exact trivial | exact fitI | exact Or.inr rfl | exact Or.inl rfl | exact fun x hx => absurd hx (by omega) | (intro x hx; (repeat (first | (and_intros <;> (first | exact rfl | exact trivial | exact fitI | exact Or.inr rfl | exact Or.inl rfl | exact fun x hx => absurd hx (by omega))) | (exfalso; omega) | (rcases x with _ | x))); done)) | grind))
      refine condM' rfl trivial (fun hc => ?_) (fun hc => ?_)
      · replace H := cond_f hc H
        refine rg ctNo_ok ?_
        simp only [go_sem, Nat.reduceLeDiff, Nat.reduceLT, Nat.reduceAdd, Nat.reduceMul, Nat.reduceSub, Nat.reduceEqDiff, Nat.reduceBEq, Int.reduceToNat, reduceCtorEq]
        refine ⟨_, (Option.some.inj H).symm, ?_⟩
        refine SubF_of ⟨[some 0, some 1, some 2, some 3, some 4, some 5, some 6, some 7, some 8], ?_, ?_, by rfl, by rfl⟩
        · simp [CvL, Cv, getM]
        · exact ⟨CvB_dead, (by simp [CvB, CvL, Cv, blkAt, geth, getM]), (by simp [CvB, CvL, Cv, blkAt, geth, getM]), (CvB_same nfA), (CvB_same nfA), (CvB_same nfA), (by simp [CvB, CvL, Cv, blkAt, geth, getM]), (by simp [CvB, CvL, Cv, blkAt, geth, getM]), CvB_dead, trivial⟩
      replace H := cond_t hc H
      refine rg ctNo_ok ?_
      simp only [go_sem, Nat.reduceLeDiff, Nat.reduceLT, Nat.reduceAdd, Nat.reduceMul, Nat.reduceSub, Nat.reduceEqDiff, Nat.reduceBEq, Int.reduceToNat, reduceCtorEq]
      refine seqM ?_
      refine blkM ?_
      refine seqM ?_
      obtain ⟨f24, H⟩ := need_some.1 H
      replace f24 := inb_iff.1 f24
      obtain ⟨r25, e26, H⟩ := Option.bind_eq_some_iff.1 H
      refine draw_rule shT_ok ct6t4_ok 1 (by kernel_rfl) (by kernel_rfl) ?_
      intro an han
      simp only [d_nil, d_cons, nxtD, xrD, xoD, roEq, minL, List.append_nil, refsOp, refs, refsL, mask, maskF, place, placeF, okLog, pairOk, hit, inL, slotsF, ren, renL, rnN, nrH, nrB, nrL, nr, dead0, deadS, List.replicate_zero, List.replicate_succ, Nat.sub_self, Nat.add_zero, Nat.zero_add, Nat.reduceSub, Nat.not_lt_zero, Nat.zero_le, Nat.lt_add_one, go_sem, Nat.reduceLeDiff, Nat.reduceLT, Nat.reduceAdd, Nat.reduceMul, Nat.reduceSub, Nat.reduceEqDiff, Nat.reduceBEq, Int.reduceToNat, reduceCtorEq, ct6t4_37, body37, f24, e26]
      repeat ((with_reducible refine And.intro ?_ ?_); focus (and_intros <;> first | (with_reducible trivial) | (show anB _ _ _ = true; subst han; kernel_rfl) | (show (anB _ _ _ && _) = true; subst han; kernel_rfl) | omega | assumption | exact nrc | exact nfc | first | exact rfl | exact trivial | exact fitI | exact Or.inr rfl | exact Or.inl rfl | exact fun x hx => absurd hx (by omega) | (intro x hx; (repeat (first | (and_intros <;> (first | exact rfl | exact trivial | exact fitI | exact Or.inr rfl | exact Or.inl rfl | exact fun x hx => absurd hx (by omega))) | (exfalso; omega) | (rcases x with _ | x))); done)))
      refine seqM ?_
      obtain ⟨f27, H⟩ := need_some.1 H
      replace f27 := g_iff.1 f27
      replace f27 := fun g => inb_iff.1 (f27 g)
      obtain ⟨f28, H⟩ := need_some.1 H
      replace f28 := g_iff.1 f28
      replace f28 := fun g => inb_iff.1 (f28 g)
      refine draw_quiet shT_ok ctNo_ok (by kernel_rfl) (by kernel_rfl) ?_
      simp only [go_sem, Nat.reduceLeDiff, Nat.reduceLT, Nat.reduceAdd, Nat.reduceMul, Nat.reduceSub, Nat.reduceEqDiff, Nat.reduceBEq, Int.reduceToNat, reduceCtorEq]
      repeat ((with_reducible refine And.intro ?_ ?_); focus (first | (with_reducible trivial) | omega | exact f27 | exact f28 | (intro g; have q := f27 (by first | exact g | (rw [g]; rfl) | simpa using g); first | exact q | exact ⟨q.1, q.2.1⟩ | exact q.2.2 | omega | exact ⟨g, q⟩ | exact ⟨trivial, q⟩ | exact ⟨g, q.1, q.2.1⟩ | exact ⟨g, q.2.2⟩) | (intro g; have q := f28 (by first | exact g | (rw [g]; rfl) | simpa using g); first | exact q | exact ⟨q.1, q.2.1⟩ | exact q.2.2 | omega | exact ⟨g, q⟩ | exact ⟨trivial, q⟩ | exact ⟨g, q.1, q.2.1⟩ | exact ⟨g, q.2.2⟩) | grind))
      refine condM rfl trivial (fun hc => ?_) (fun hc => ?_)
      · replace H := cond_t hc H
        refine sq ctNo_ok ?_
        simp only [go_sem, Nat.reduceLeDiff, Nat.reduceLT, Nat.reduceAdd, Nat.reduceMul, Nat.reduceSub, Nat.reduceEqDiff, Nat.reduceBEq, Int.reduceToNat, reduceCtorEq]
        refine rg ctNo_ok ?_
        simp only [go_sem, Nat.reduceLeDiff, Nat.reduceLT, Nat.reduceAdd, Nat.reduceMul, Nat.reduceSub, Nat.reduceEqDiff, Nat.reduceBEq, Int.reduceToNat, reduceCtorEq]
        have H := hn2_2 _ (Option.some.inj H).symm
        obtain rfl := Option.some.inj H
        first | rfl | simp only [Bool.and_false, Bool.false_and, Bool.and_true, Bool.true_and]
      replace H := cond_f hc H
      refine rg ctNo_ok ?_
      simp only [go_sem, Nat.reduceLeDiff, Nat.reduceLT, Nat.reduceAdd, Nat.reduceMul, Nat.reduceSub, Nat.reduceEqDiff, Nat.reduceBEq, Int.reduceToNat, reduceCtorEq]
      refine rg ctNo_ok ?_
      simp only [go_sem, Nat.reduceLeDiff, Nat.reduceLT, Nat.reduceAdd, Nat.reduceMul, Nat.reduceSub, Nat.reduceEqDiff, Nat.reduceBEq, Int.reduceToNat, reduceCtorEq]
      refine ⟨_, (Option.some.inj H).symm, ?_⟩
      refine SubF_of ⟨[some 0, some 1, some 2, some 3, some 4, some 5, some 6, some 7, some 8], ?_, ?_, by rfl, by rfl⟩
      · simp [CvL, Cv, getM]
      · exact ⟨(by simp [CvB, CvL, Cv, blkAt, geth, getM]), (by simp [CvB, CvL, Cv, blkAt, geth, getM]), (by simp [CvB, CvL, Cv, blkAt, geth, getM]), (CvB_same nfA), (CvB_same nfA), (CvB_same nfA), (by simp [CvB, CvL, Cv, blkAt, geth, getM]), (by simp [CvB, CvL, Cv, blkAt, geth, getM]), CvB_dead, trivial⟩
    · try dsimp only at H ⊢
      try simp only [m_normal, k_normal, b_normal, kL_normal, r_normal]
      refine seqM ?_
      obtain ⟨r29, e30, H⟩ := Option.bind_eq_some_iff.1 H
      refine rg ct6t2_ok ?_
      simp only [go_sem, Nat.reduceLeDiff, Nat.reduceLT, Nat.reduceAdd, Nat.reduceMul, Nat.reduceSub, Nat.reduceEqDiff, Nat.reduceBEq, Int.reduceToNat, reduceCtorEq, roD, roDOb, deadL, edC, edR, nodupB, rnm, rnmL, rnmB, rnmH, rnm_bif, rnmB_bif, putH, dropH, rhoN, ptB, slN, litL, celL, pK, isLit, oS, isRow, inL, ct6t2_20, body20, e30]
      repeat ((with_reducible refine And.intro ?_ ?_); focus (first | (with_reducible trivial) | omega | (and_intros <;> first | (with_reducible trivial) | omega | assumption | exact nfc | first | exact rfl | exact trivial | exact fitI | exact Or.inr rfl | exact Or.inl rfl | exact fun x hx => absurd hx (by omega) | (intro x hx; (repeat (first | (and_intros <;> (first | exact rfl | exact trivial | exact fitI | exact Or.inr rfl | exact Or.inl rfl | exact fun x hx => absurd hx (by omega))) | (exfalso; omega) | (rcases x with _ | x))); done)) | grind))
      refine seqM ?_
      obtain ⟨f31, H⟩ := need_some.1 H
      replace f31 := g_iff.1 f31
      replace f31 := fun g => inb_iff.1 (f31 g)
      refine draw_quiet shT_ok ctNo_ok (by kernel_rfl) (by kernel_rfl) ?_
      simp only [go_sem, Nat.reduceLeDiff, Nat.reduceLT, Nat.reduceAdd, Nat.reduceMul, Nat.reduceSub, Nat.reduceEqDiff, Nat.reduceBEq, Int.reduceToNat, reduceCtorEq]
      repeat ((with_reducible refine And.intro ?_ ?_); focus (first | (with_reducible trivial) | omega | exact f31 | (intro g; have q := f31 (by first | exact g | (rw [g]; rfl) | simpa using g); first | exact q | exact ⟨q.1, q.2.1⟩ | exact q.2.2 | omega | exact ⟨g, q⟩ | exact ⟨trivial, q⟩ | exact ⟨g, q.1, q.2.1⟩ | exact ⟨g, q.2.2⟩) | (intro g; (try have q0 := f31 (by first | exact g | (rw [g]; rfl) | simpa using g)); and_intros <;> first | (with_reducible trivial) | assumption | exact nfc | (intro g2; rw [g, g2]; rfl) | (intro g2; assumption) | (simp only [g, Bool.true_and, Bool.and_true, Bool.not_false, Bool.not_true]; assumption) | grind) | (and_intros <;> first | (with_reducible trivial) | omega | assumption | exact nfc | first | exact rfl | exact trivial | exact fitI | exact Or.inr rfl | exact Or.inl rfl | exact fun x hx => absurd hx (by omega) | (intro x hx; (repeat (first | (and_intros <;> (first | exact rfl | exact trivial | exact fitI | exact Or.inr rfl | exact Or.inl rfl | exact fun x hx => absurd hx (by omega))) | (exfalso; omega) | (rcases x with _ | x))); done)) | grind))
      refine sq ctNo_ok ?_
      simp only [go_sem, Nat.reduceLeDiff, Nat.reduceLT, Nat.reduceAdd, Nat.reduceMul, Nat.reduceSub, Nat.reduceEqDiff, Nat.reduceBEq, Int.reduceToNat, reduceCtorEq]
      repeat ((with_reducible refine And.intro ?_ ?_); focus (first | (with_reducible trivial) | omega | grind))
      refine rg ctNo_ok ?_
      simp only [go_sem, Nat.reduceLeDiff, Nat.reduceLT, Nat.reduceAdd, Nat.reduceMul, Nat.reduceSub, Nat.reduceEqDiff, Nat.reduceBEq, Int.reduceToNat, reduceCtorEq]
      obtain rfl := Option.some.inj H
      first | rfl | simp only [Bool.and_false, Bool.false_and, Bool.and_true, Bool.true_and]
  · cases hb
end Go.Proofs.Ytdcepineppafpaa
