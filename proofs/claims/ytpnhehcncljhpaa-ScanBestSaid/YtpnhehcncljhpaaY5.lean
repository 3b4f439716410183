/-
  What ScanBest reaches.
-/
import Derived.Test.YtpnhehcncljhpaaY5p2
namespace Go.Proofs.Ytpnhehcncljhpaa
open Go.Am
set_option linter.unusedVariables false
set_option linter.unusedSimpArgs false
attribute [local go_sem] w_skip w_label w_goto w_scope k_goto b_goto l_goto s_normal s_exit s_ret s_goto w_region w_draw w_seq w_cond w_block w_exit w_ret w_loop k_normal k_exit k_ret b_normal b_exit b_ret l_normal l_exit l_ret m_normal m_exit m_ret m_goto kL_normal kL_exit kL_ret kS_normal kS_exit kS_ret kS_goto r_normal r_ret o_nil o_cons q_nil q_cons nxt gval gvd gvl gvw dstOf evO ogOp ogC og ogL ogP ogO rho rhoO strip optOk getL setL setT absC absV absL pO hO evLoad ldB geth seth evStore stRes stB evBox evAlloc evFieldAddr evField evIndexAddr evBin2 binI binB binNR binU nilR_isEmpty nilR_t nilR_0 nilR_s evInt evStr evUn evConv cvO evPick mrg evExtract evNil evCall mapR evBuiltin evLen2 vcells vcOk atom tabF cnd retK resFin resL resA resC resCons evBuild evBuildP placeS placeA fillA fillOk putL getP nxtQ pureC_eq pureR genC_eq genR roV roL roOb roObL roW roWL roWOb roWObL nref nrefL binA binN eqSh eqRes evIndex evIndex2 evIndexS evSlice evSlice2 evSliceS evBound evConv2 cvS evAppend appRes srcOf evMake evBuildSlice repL evFn evMin evMax freshC freshR sub_enR0 evClear evClearR evCopy evCopyR lenS cutS Bool.or_false Bool.false_or Bool.or_true Bool.true_or Bool.and_false Bool.false_and Option.map_some Option.map_none Option.getD_some Option.getD_none Option.bind_some Option.bind_none Option.or_some Option.or_none Option.none_or Option.isSome_none Option.isNone_none Option.isNone_some List.nil_append List.cons_append List.append_nil cond_true cond_false List.length_cons List.length_nil beq_self_eq_true Bool.and_true Bool.true_and Bool.not_true Bool.not_false true_and and_true and_self true_implies implies_true ne_eq not_false_eq_true Bool.false_eq_true Bool.true_eq_false false_implies Nat.lt_irrefl Nat.le_refl Nat.succ_ne_self imp_self Bool.cond_false_right Bool.cond_true_left decide_true decide_false Bool.not_eq_true' Bool.not_eq_false' Bool.not_not Nat.zero_mul Nat.zero_add Nat.add_zero Nat.mul_one Nat.one_mul Bool.cond_self tsz3 tby3 tagg3 tslice3 tarr3 tzero3 tzn3 tplaces3 tint3 tstr3 tnoint3 tbool3 tany3 tintk3 tbytes3 tsz4 tby4 tagg4 tslice4 tarr4 tzero4 tzn4 tplaces4 tint4 tstr4 tnoint4 tbool4 tany4 tintk4 tbytes4 tsz5 tby5 tagg5 tslice5 tarr5 tzero5 tzn5 tplaces5 tint5 tstr5 tnoint5 tbool5 tany5 tintk5 tbytes5 tsz9 tby9 tagg9 tslice9 tarr9 tzero9 tzn9 tplaces9 tint9 tstr9 tnoint9 tbool9 tany9 tintk9 tbytes9 tsz22 tby22 tagg22 tslice22 tarr22 tzero22 tzn22 tplaces22 tint22 tstr22 tnoint22 tbool22 tany22 tintk22 tbytes22 tsz23 tby23 tagg23 tslice23 tarr23 tzero23 tzn23 tplaces23 tint23 tstr23 tnoint23 tbool23 tany23 tintk23 tbytes23 tsz25 tby25 tagg25 tslice25 tarr25 tzero25 tzn25 tplaces25 tint25 tstr25 tnoint25 tbool25 tany25 tintk25 tbytes25 tsz26 tby26 tagg26 tslice26 tarr26 tzero26 tzn26 tplaces26 tint26 tstr26 tnoint26 tbool26 tany26 tintk26 tbytes26 tsz35 tby35 tagg35 tslice35 tarr35 tzero35 tzn35 tplaces35 tint35 tstr35 tnoint35 tbool35 tany35 tintk35 tbytes35 tsz37 tby37 tagg37 tslice37 tarr37 tzero37 tzn37 tplaces37 tint37 tstr37 tnoint37 tbool37 tany37 tintk37 tbytes37 tfld37_0 tfld37_1 tfld37_2 tfld37_3 tsz39 tby39 tagg39 tslice39 tarr39 tzero39 tzn39 tplaces39 tint39 tstr39 tnoint39 tbool39 tany39 tintk39 tbytes39 tsz41 tby41 tagg41 tslice41 tarr41 tzero41 tzn41 tplaces41 tint41 tstr41 tnoint41 tbool41 tany41 tintk41 tbytes41 tfld41_0 tsz43 tby43 tagg43 tslice43 tarr43 tzero43 tzn43 tplaces43 tint43 tstr43 tnoint43 tbool43 tany43 tintk43 tbytes43 tsz44 tby44 tagg44 tslice44 tarr44 tzero44 tzn44 tplaces44 tint44 tstr44 tnoint44 tbool44 tany44 tintk44 tbytes44 tsz45 tby45 tagg45 tslice45 tarr45 tzero45 tzn45 tplaces45 tint45 tstr45 tnoint45 tbool45 tany45 tintk45 tbytes45 tsz47 tby47 tagg47 tslice47 tarr47 tzero47 tzn47 tplaces47 tint47 tstr47 tnoint47 tbool47 tany47 tintk47 tbytes47 tfld47_0 tfld47_1 tfld47_2 tfld47_3 tsz52 tby52 tagg52 tslice52 tarr52 tzero52 tzn52 tplaces52 tint52 tstr52 tnoint52 tbool52 tany52 tintk52 tbytes52 tfld52_0 tfld52_1 tfld52_2 tfld52_3 tfld52_4 tfld52_5 tfld52_6 tfld52_7 tsz59 tby59 tagg59 tslice59 tarr59 tzero59 tzn59 tplaces59 tint59 tstr59 tnoint59 tbool59 tany59 tintk59 tbytes59 tfld59_0 tfld59_1 tfld59_2 tfld59_3 tsz65 tby65 tagg65 tslice65 tarr65 tzero65 tzn65 tplaces65 tint65 tstr65 tnoint65 tbool65 tany65 tintk65 tbytes65 tfld65_0 tfld65_1 tfld65_2 tfld65_3 tsz74 tby74 tagg74 tslice74 tarr74 tzero74 tzn74 tplaces74 tint74 tstr74 tnoint74 tbool74 tany74 tintk74 tbytes74 tsz79 tby79 tagg79 tslice79 tarr79 tzero79 tzn79 tplaces79 tint79 tstr79 tnoint79 tbool79 tany79 tintk79 tbytes79 tsz81 tby81 tagg81 tslice81 tarr81 tzero81 tzn81 tplaces81 tint81 tstr81 tnoint81 tbool81 tany81 tintk81 tbytes81 tsz88 tby88 tagg88 tslice88 tarr88 tzero88 tzn88 tplaces88 tint88 tstr88 tnoint88 tbool88 tany88 tintk88 tbytes88 tsz94 tby94 tagg94 tslice94 tarr94 tzero94 tzn94 tplaces94 tint94 tstr94 tnoint94 tbool94 tany94 tintk94 tbytes94 tsz95 tby95 tagg95 tslice95 tarr95 tzero95 tzn95 tplaces95 tint95 tstr95 tnoint95 tbool95 tany95 tintk95 tbytes95 e_u8_0 fit_u8 de_u8 g_u8 k_u8 e_i64_0 fit_i64 de_i64 g_i64 k_i64 e_b_0 fit_b de_b g_b k_b e_s_0 fit_s de_s g_s k_s e_li64_0 fit_li64 de_li64 g_li64 k_li64 e_lu8_0 fit_lu8 de_lu8 g_lu8 k_lu8 e_U4_0 e_U4_1 e_U4_2 e_U4_3 fit_U4 de_U4 g_U4 k_U4 e_lU4_0 fit_lU4 de_lU4 g_lU4 k_lU4 e_TElement_0 e_TElement_1 e_TElement_2 e_TElement_3 fit_TElement de_TElement g_TElement k_TElement eta_TElement e_lTElement_0 fit_lTElement de_lTElement g_lTElement k_lTElement e_TVisit_0 e_TVisit_1 e_TVisit_2 e_TVisit_3 fit_TVisit de_TVisit g_TVisit k_TVisit eta_TVisit e_lTVisit_0 fit_lTVisit de_lTVisit g_lTVisit k_lTVisit e_A6u8_0 e_A6u8_1 e_A6u8_2 e_A6u8_3 e_A6u8_4 e_A6u8_5 fit_A6u8 de_A6u8 g_A6u8 k_A6u8 eta_A6u8 e_TCandidate_0 e_TCandidate_1 e_TCandidate_2 e_TCandidate_3 e_TCandidate_4 e_TCandidate_5 e_TCandidate_6 e_TCandidate_7 e_TCandidate_8 e_TCandidate_9 e_TCandidate_10 e_TCandidate_11 e_TCandidate_12 fit_TCandidate de_TCandidate g_TCandidate k_TCandidate eta_TCandidate e_lTCandidate_0 fit_lTCandidate de_lTCandidate g_lTCandidate k_lTCandidate e_TCandidates_0 fit_TCandidates de_TCandidates g_TCandidates k_TCandidates eta_TCandidates e_u64_0 fit_u64 de_u64 g_u64 k_u64 e_u16_0 fit_u16 de_u16 g_u16 k_u16 e_TBeacon_0 e_TBeacon_1 e_TBeacon_2 e_TBeacon_3 fit_TBeacon de_TBeacon g_TBeacon k_TBeacon eta_TBeacon e_TWanted_0 e_TWanted_1 e_TWanted_2 e_TWanted_3 fit_TWanted de_TWanted g_TWanted k_TWanted eta_TWanted deR_0 deR_1 deR_2 deR_3 deR_4 deR_5 deR_6 deR_7 deR_8 deR_9 deR_10 deR_11 deR_12 litC_x0 litC_x1 litC_x2 litC_x3 litC_x4 litC_x5 litC_x6 litC_x7 litC_x8 litC_x9 litC_x10 litC_x11 strE_u8 Fit_0 Option.isSome_some gt_some gd_one rK rG aL aK iK bK sK lK iA bA sA lA or_true true_or Int.toNat_natCast shT_43 shT_52 shT_59 shT_65 Int.toNat_zero Int.cast_ofNat_Int
/-! hotspot/hotspotref28.Before -/
noncomputable def F22 (p0 : A6u8) (p1 : A6u8) : Option (Bool) :=
  bif (!bEq p0.x0 p1.x0) then (some (bLt p0.x0 p1.x0)) else (bif (!bEq p0.x1 p1.x1) then (some (bLt p0.x1 p1.x1)) else (bif (!bEq p0.x2 p1.x2) then (some (bLt p0.x2 p1.x2)) else (bif (!bEq p0.x3 p1.x3) then (some (bLt p0.x3 p1.x3)) else (bif (!bEq p0.x4 p1.x4) then (some (bLt p0.x4 p1.x4)) else (bif (!bEq p0.x5 p1.x5) then (some (bLt p0.x5 p1.x5)) else (some false))))))
noncomputable def body22 : List AV → AR
  | [v0, v1] => .pure (aK 6 k_A6u8 v0 ∧ aK 6 k_A6u8 v1 ∧ (F22 (g_A6u8 (aL v0)) (g_A6u8 (aL v1))).isSome = true) (.bool (gt (F22 (g_A6u8 (aL v0)) (g_A6u8 (aL v1)))))
  | _ => .fail
set_option maxHeartbeats 4000000 in
set_option maxRecDepth 20000 in
theorem ok22 : FnOk Try.prog 22 (pureC body22) := by
  refine pure_fnM body22 (rs := [.tmp 4]) Try.func22 (by kernel_rfl) rfl rfl ?_
  intro l ob v hb hob
  unfold body22 at hb
  split at hb
  · rename_i v0 v1
    injection hb with q1 q2; subst q1 q2
    obtain ⟨hk0, hk1, hob⟩ := hob
    obtain ⟨r, H⟩ := Option.isSome_iff_exists.1 hob
    rw [H, gt_some]
    have hw0 := wA_A6u8 hk0
    have hw1 := wA_A6u8 hk1
    generalize g_A6u8 (aL v0) = p0 at H hw0
    generalize g_A6u8 (aL v1) = p1 at H hw1
    refine ⟨[.agg [.int .u8 p0.x0, .int .u8 p0.x1, .int .u8 p0.x2, .int .u8 p0.x3, .int .u8 p0.x4, .int .u8 p0.x5], .agg [.int .u8 p1.x0, .int .u8 p1.x1, .int .u8 p1.x2, .int .u8 p1.x3, .int .u8 p1.x4, .int .u8 p1.x5]], _, (fun E vs F => FR_wk1 hw0.1 F (fun vs F => FR_wk1 hw1.1 F (fun vs F => F))), rfl, rfl, ?_⟩
    rw [Try.ntmps22]
    simp only [List.length_cons, List.length_nil, Nat.reduceAdd, Nat.reduceSub, List.replicate_succ, List.replicate_zero, List.cons_append, List.nil_append]
    unfold F22 at H
    try dsimp only at H
    refine sq ctNo_ok ?_
    simp only [go_sem, Nat.reduceLeDiff, Nat.reduceLT, Nat.reduceAdd, Nat.reduceMul, Nat.reduceSub, Nat.reduceEqDiff, Nat.reduceBEq, Int.reduceToNat, reduceCtorEq]
    refine seqM ?_
    refine sq ctNo_ok ?_
    simp only [go_sem, Nat.reduceLeDiff, Nat.reduceLT, Nat.reduceAdd, Nat.reduceMul, Nat.reduceSub, Nat.reduceEqDiff, Nat.reduceBEq, Int.reduceToNat, reduceCtorEq]
    refine blkM ?_
    refine loop_roundsM 7 ?_
    refine rndM ?_
    refine seqM ?_
    refine sq ctNo_ok ?_
    simp only [go_sem, Nat.reduceLeDiff, Nat.reduceLT, Nat.reduceAdd, Nat.reduceMul, Nat.reduceSub, Nat.reduceEqDiff, Nat.reduceBEq, Int.reduceToNat, reduceCtorEq, (by decide : bLt (0) (6) = true)]
    refine condM rfl trivial (fun hc => ?_) (fun hc => ?_)
    rotate_left
    · cases hc
    refine rg ctNo_ok ?_
    simp only [go_sem, Nat.reduceLeDiff, Nat.reduceLT, Nat.reduceAdd, Nat.reduceMul, Nat.reduceSub, Nat.reduceEqDiff, Nat.reduceBEq, Int.reduceToNat, reduceCtorEq]
    refine seqM ?_
    refine blkM ?_
    refine seqM ?_
    refine draw_quiet shT_ok ctNo_ok (by kernel_rfl) (by kernel_rfl) ?_
    simp only [go_sem, Nat.reduceLeDiff, Nat.reduceLT, Nat.reduceAdd, Nat.reduceMul, Nat.reduceSub, Nat.reduceEqDiff, Nat.reduceBEq, Int.reduceToNat, reduceCtorEq]
    repeat ((with_reducible refine And.intro ?_ ?_); focus (first | (with_reducible trivial) | omega | grind))
    refine condM rfl trivial (fun hc => ?_) (fun hc => ?_)
    · replace H := cond_t hc H
      refine seqM ?_
      refine draw_quiet shT_ok ctNo_ok (by kernel_rfl) (by kernel_rfl) ?_
      simp only [go_sem, Nat.reduceLeDiff, Nat.reduceLT, Nat.reduceAdd, Nat.reduceMul, Nat.reduceSub, Nat.reduceEqDiff, Nat.reduceBEq, Int.reduceToNat, reduceCtorEq]
      repeat ((with_reducible refine And.intro ?_ ?_); focus (first | (with_reducible trivial) | omega | grind))
      refine rg ctNo_ok ?_
      simp only [go_sem, Nat.reduceLeDiff, Nat.reduceLT, Nat.reduceAdd, Nat.reduceMul, Nat.reduceSub, Nat.reduceEqDiff, Nat.reduceBEq, Int.reduceToNat, reduceCtorEq]
      obtain rfl := Option.some.inj H
      first | rfl | simp only [Bool.and_false, Bool.false_and, Bool.and_true, Bool.true_and]
    replace H := cond_f hc H
    refine rg ctNo_ok ?_
    simp only [go_sem, Nat.reduceLeDiff, Nat.reduceLT, Nat.reduceAdd, Nat.reduceMul, Nat.reduceSub, Nat.reduceEqDiff, Nat.reduceBEq, Int.reduceToNat, reduceCtorEq]
    refine rg ctNo_ok ?_
    simp only [go_sem, Nat.reduceLeDiff, Nat.reduceLT, Nat.reduceAdd, Nat.reduceMul, Nat.reduceSub, Nat.reduceEqDiff, Nat.reduceBEq, Int.reduceToNat, reduceCtorEq, (by decide : wr IntKind.i64 ((0 : Int) + 1) = 1)]
    refine rndM ?_
    refine seqM ?_
    refine sq ctNo_ok ?_
    simp only [go_sem, Nat.reduceLeDiff, Nat.reduceLT, Nat.reduceAdd, Nat.reduceMul, Nat.reduceSub, Nat.reduceEqDiff, Nat.reduceBEq, Int.reduceToNat, reduceCtorEq, (by decide : bLt (1) (6) = true)]
    refine condM rfl trivial (fun hc => ?_) (fun hc => ?_)
    rotate_left
    · cases hc
    refine rg ctNo_ok ?_
    simp only [go_sem, Nat.reduceLeDiff, Nat.reduceLT, Nat.reduceAdd, Nat.reduceMul, Nat.reduceSub, Nat.reduceEqDiff, Nat.reduceBEq, Int.reduceToNat, reduceCtorEq]
    refine seqM ?_
    refine blkM ?_
    refine seqM ?_
    refine draw_quiet shT_ok ctNo_ok (by kernel_rfl) (by kernel_rfl) ?_
    simp only [go_sem, Nat.reduceLeDiff, Nat.reduceLT, Nat.reduceAdd, Nat.reduceMul, Nat.reduceSub, Nat.reduceEqDiff, Nat.reduceBEq, Int.reduceToNat, reduceCtorEq]
    repeat ((with_reducible refine And.intro ?_ ?_); focus (first | (with_reducible trivial) | omega | grind))
    refine condM rfl trivial (fun hc => ?_) (fun hc => ?_)
    · replace H := cond_t hc H
      refine seqM ?_
      refine draw_quiet shT_ok ctNo_ok (by kernel_rfl) (by kernel_rfl) ?_
      simp only [go_sem, Nat.reduceLeDiff, Nat.reduceLT, Nat.reduceAdd, Nat.reduceMul, Nat.reduceSub, Nat.reduceEqDiff, Nat.reduceBEq, Int.reduceToNat, reduceCtorEq]
      repeat ((with_reducible refine And.intro ?_ ?_); focus (first | (with_reducible trivial) | omega | grind))
      refine rg ctNo_ok ?_
      simp only [go_sem, Nat.reduceLeDiff, Nat.reduceLT, Nat.reduceAdd, Nat.reduceMul, Nat.reduceSub, Nat.reduceEqDiff, Nat.reduceBEq, Int.reduceToNat, reduceCtorEq]
      obtain rfl := Option.some.inj H
      first | rfl | simp only [Bool.and_false, Bool.false_and, Bool.and_true, Bool.true_and]
    replace H := cond_f hc H
    refine rg ctNo_ok ?_
    simp only [go_sem, Nat.reduceLeDiff, Nat.reduceLT, Nat.reduceAdd, Nat.reduceMul, Nat.reduceSub, Nat.reduceEqDiff, Nat.reduceBEq, Int.reduceToNat, reduceCtorEq]
    refine rg ctNo_ok ?_
    simp only [go_sem, Nat.reduceLeDiff, Nat.reduceLT, Nat.reduceAdd, Nat.reduceMul, Nat.reduceSub, Nat.reduceEqDiff, Nat.reduceBEq, Int.reduceToNat, reduceCtorEq, (by decide : wr IntKind.i64 ((1 : Int) + 1) = 2)]
    refine rndM ?_
    refine seqM ?_
    refine sq ctNo_ok ?_
    simp only [go_sem, Nat.reduceLeDiff, Nat.reduceLT, Nat.reduceAdd, Nat.reduceMul, Nat.reduceSub, Nat.reduceEqDiff, Nat.reduceBEq, Int.reduceToNat, reduceCtorEq, (by decide : bLt (2) (6) = true)]
    refine condM rfl trivial (fun hc => ?_) (fun hc => ?_)
    rotate_left
    · cases hc
    refine rg ctNo_ok ?_
    simp only [go_sem, Nat.reduceLeDiff, Nat.reduceLT, Nat.reduceAdd, Nat.reduceMul, Nat.reduceSub, Nat.reduceEqDiff, Nat.reduceBEq, Int.reduceToNat, reduceCtorEq]
    refine seqM ?_
    refine blkM ?_
    refine seqM ?_
    refine draw_quiet shT_ok ctNo_ok (by kernel_rfl) (by kernel_rfl) ?_
    simp only [go_sem, Nat.reduceLeDiff, Nat.reduceLT, Nat.reduceAdd, Nat.reduceMul, Nat.reduceSub, Nat.reduceEqDiff, Nat.reduceBEq, Int.reduceToNat, reduceCtorEq]
    repeat ((with_reducible refine And.intro ?_ ?_); focus (first | (with_reducible trivial) | omega | grind))
    refine condM rfl trivial (fun hc => ?_) (fun hc => ?_)
    · replace H := cond_t hc H
      refine seqM ?_
      refine draw_quiet shT_ok ctNo_ok (by kernel_rfl) (by kernel_rfl) ?_
      simp only [go_sem, Nat.reduceLeDiff, Nat.reduceLT, Nat.reduceAdd, Nat.reduceMul, Nat.reduceSub, Nat.reduceEqDiff, Nat.reduceBEq, Int.reduceToNat, reduceCtorEq]
      repeat ((with_reducible refine And.intro ?_ ?_); focus (first | (with_reducible trivial) | omega | grind))
      refine rg ctNo_ok ?_
      simp only [go_sem, Nat.reduceLeDiff, Nat.reduceLT, Nat.reduceAdd, Nat.reduceMul, Nat.reduceSub, Nat.reduceEqDiff, Nat.reduceBEq, Int.reduceToNat, reduceCtorEq]
      obtain rfl := Option.some.inj H
      first | rfl | simp only [Bool.and_false, Bool.false_and, Bool.and_true, Bool.true_and]
    replace H := cond_f hc H
    refine rg ctNo_ok ?_
    simp only [go_sem, Nat.reduceLeDiff, Nat.reduceLT, Nat.reduceAdd, Nat.reduceMul, Nat.reduceSub, Nat.reduceEqDiff, Nat.reduceBEq, Int.reduceToNat, reduceCtorEq]
    refine rg ctNo_ok ?_
    simp only [go_sem, Nat.reduceLeDiff, Nat.reduceLT, Nat.reduceAdd, Nat.reduceMul, Nat.reduceSub, Nat.reduceEqDiff, Nat.reduceBEq, Int.reduceToNat, reduceCtorEq, (by decide : wr IntKind.i64 ((2 : Int) + 1) = 3)]
    refine rndM ?_
    refine seqM ?_
    refine sq ctNo_ok ?_
    simp only [go_sem, Nat.reduceLeDiff, Nat.reduceLT, Nat.reduceAdd, Nat.reduceMul, Nat.reduceSub, Nat.reduceEqDiff, Nat.reduceBEq, Int.reduceToNat, reduceCtorEq, (by decide : bLt (3) (6) = true)]
    refine condM rfl trivial (fun hc => ?_) (fun hc => ?_)
    rotate_left
    · cases hc
    refine rg ctNo_ok ?_
    simp only [go_sem, Nat.reduceLeDiff, Nat.reduceLT, Nat.reduceAdd, Nat.reduceMul, Nat.reduceSub, Nat.reduceEqDiff, Nat.reduceBEq, Int.reduceToNat, reduceCtorEq]
    refine seqM ?_
    refine blkM ?_
    refine seqM ?_
    refine draw_quiet shT_ok ctNo_ok (by kernel_rfl) (by kernel_rfl) ?_
    simp only [go_sem, Nat.reduceLeDiff, Nat.reduceLT, Nat.reduceAdd, Nat.reduceMul, Nat.reduceSub, Nat.reduceEqDiff, Nat.reduceBEq, Int.reduceToNat, reduceCtorEq]
    repeat ((with_reducible refine And.intro ?_ ?_); focus (first | (with_reducible trivial) | omega | grind))
    refine condM rfl trivial (fun hc => ?_) (fun hc => ?_)
    · replace H := cond_t hc H
      refine seqM ?_
      refine draw_quiet shT_ok ctNo_ok (by kernel_rfl) (by kernel_rfl) ?_
      simp only [go_sem, Nat.reduceLeDiff, Nat.reduceLT, Nat.reduceAdd, Nat.reduceMul, Nat.reduceSub, Nat.reduceEqDiff, Nat.reduceBEq, Int.reduceToNat, reduceCtorEq]
      repeat ((with_reducible refine And.intro ?_ ?_); focus (first | (with_reducible trivial) | omega | grind))
      refine rg ctNo_ok ?_
      simp only [go_sem, Nat.reduceLeDiff, Nat.reduceLT, Nat.reduceAdd, Nat.reduceMul, Nat.reduceSub, Nat.reduceEqDiff, Nat.reduceBEq, Int.reduceToNat, reduceCtorEq]
      obtain rfl := Option.some.inj H
      first | rfl | simp only [Bool.and_false, Bool.false_and, Bool.and_true, Bool.true_and]
    replace H := cond_f hc H
    refine rg ctNo_ok ?_
    simp only [go_sem, Nat.reduceLeDiff, Nat.reduceLT, Nat.reduceAdd, Nat.reduceMul, Nat.reduceSub, Nat.reduceEqDiff, Nat.reduceBEq, Int.reduceToNat, reduceCtorEq]
    refine rg ctNo_ok ?_
    simp only [go_sem, Nat.reduceLeDiff, Nat.reduceLT, Nat.reduceAdd, Nat.reduceMul, Nat.reduceSub, Nat.reduceEqDiff, Nat.reduceBEq, Int.reduceToNat, reduceCtorEq, (by decide : wr IntKind.i64 ((3 : Int) + 1) = 4)]
    refine rndM ?_
    refine seqM ?_
    refine sq ctNo_ok ?_
    simp only [go_sem, Nat.reduceLeDiff, Nat.reduceLT, Nat.reduceAdd, Nat.reduceMul, Nat.reduceSub, Nat.reduceEqDiff, Nat.reduceBEq, Int.reduceToNat, reduceCtorEq, (by decide : bLt (4) (6) = true)]
    refine condM rfl trivial (fun hc => ?_) (fun hc => ?_)
    rotate_left
    · cases hc
    refine rg ctNo_ok ?_
    simp only [go_sem, Nat.reduceLeDiff, Nat.reduceLT, Nat.reduceAdd, Nat.reduceMul, Nat.reduceSub, Nat.reduceEqDiff, Nat.reduceBEq, Int.reduceToNat, reduceCtorEq]
    refine seqM ?_
    refine blkM ?_
    refine seqM ?_
    refine draw_quiet shT_ok ctNo_ok (by kernel_rfl) (by kernel_rfl) ?_
    simp only [go_sem, Nat.reduceLeDiff, Nat.reduceLT, Nat.reduceAdd, Nat.reduceMul, Nat.reduceSub, Nat.reduceEqDiff, Nat.reduceBEq, Int.reduceToNat, reduceCtorEq]
    repeat ((with_reducible refine And.intro ?_ ?_); focus (first | (with_reducible trivial) | omega | grind))
    refine condM rfl trivial (fun hc => ?_) (fun hc => ?_)
    · replace H := cond_t hc H
      refine seqM ?_
      refine draw_quiet shT_ok ctNo_ok (by kernel_rfl) (by kernel_rfl) ?_
      simp only [go_sem, Nat.reduceLeDiff, Nat.reduceLT, Nat.reduceAdd, Nat.reduceMul, Nat.reduceSub, Nat.reduceEqDiff, Nat.reduceBEq, Int.reduceToNat, reduceCtorEq]
      repeat ((with_reducible refine And.intro ?_ ?_); focus (first | (with_reducible trivial) | omega | grind))
      refine rg ctNo_ok ?_
      simp only [go_sem, Nat.reduceLeDiff, Nat.reduceLT, Nat.reduceAdd, Nat.reduceMul, Nat.reduceSub, Nat.reduceEqDiff, Nat.reduceBEq, Int.reduceToNat, reduceCtorEq]
      obtain rfl := Option.some.inj H
      first | rfl | simp only [Bool.and_false, Bool.false_and, Bool.and_true, Bool.true_and]
    replace H := cond_f hc H
    refine rg ctNo_ok ?_
    simp only [go_sem, Nat.reduceLeDiff, Nat.reduceLT, Nat.reduceAdd, Nat.reduceMul, Nat.reduceSub, Nat.reduceEqDiff, Nat.reduceBEq, Int.reduceToNat, reduceCtorEq]
    refine rg ctNo_ok ?_
    simp only [go_sem, Nat.reduceLeDiff, Nat.reduceLT, Nat.reduceAdd, Nat.reduceMul, Nat.reduceSub, Nat.reduceEqDiff, Nat.reduceBEq, Int.reduceToNat, reduceCtorEq, (by decide : wr IntKind.i64 ((4 : Int) + 1) = 5)]
    refine rndM ?_
    refine seqM ?_
    refine sq ctNo_ok ?_
    simp only [go_sem, Nat.reduceLeDiff, Nat.reduceLT, Nat.reduceAdd, Nat.reduceMul, Nat.reduceSub, Nat.reduceEqDiff, Nat.reduceBEq, Int.reduceToNat, reduceCtorEq, (by decide : bLt (5) (6) = true)]
    refine condM rfl trivial (fun hc => ?_) (fun hc => ?_)
    rotate_left
    · cases hc
    refine rg ctNo_ok ?_
    simp only [go_sem, Nat.reduceLeDiff, Nat.reduceLT, Nat.reduceAdd, Nat.reduceMul, Nat.reduceSub, Nat.reduceEqDiff, Nat.reduceBEq, Int.reduceToNat, reduceCtorEq]
    refine seqM ?_
    refine blkM ?_
    refine seqM ?_
    refine draw_quiet shT_ok ctNo_ok (by kernel_rfl) (by kernel_rfl) ?_
    simp only [go_sem, Nat.reduceLeDiff, Nat.reduceLT, Nat.reduceAdd, Nat.reduceMul, Nat.reduceSub, Nat.reduceEqDiff, Nat.reduceBEq, Int.reduceToNat, reduceCtorEq]
    repeat ((with_reducible refine And.intro ?_ ?_); focus (first | (with_reducible trivial) | omega | grind))
    refine condM rfl trivial (fun hc => ?_) (fun hc => ?_)
    · replace H := cond_t hc H
      refine seqM ?_
      refine draw_quiet shT_ok ctNo_ok (by kernel_rfl) (by kernel_rfl) ?_
      simp only [go_sem, Nat.reduceLeDiff, Nat.reduceLT, Nat.reduceAdd, Nat.reduceMul, Nat.reduceSub, Nat.reduceEqDiff, Nat.reduceBEq, Int.reduceToNat, reduceCtorEq]
      repeat ((with_reducible refine And.intro ?_ ?_); focus (first | (with_reducible trivial) | omega | grind))
      refine rg ctNo_ok ?_
      simp only [go_sem, Nat.reduceLeDiff, Nat.reduceLT, Nat.reduceAdd, Nat.reduceMul, Nat.reduceSub, Nat.reduceEqDiff, Nat.reduceBEq, Int.reduceToNat, reduceCtorEq]
      obtain rfl := Option.some.inj H
      first | rfl | simp only [Bool.and_false, Bool.false_and, Bool.and_true, Bool.true_and]
    replace H := cond_f hc H
    refine rg ctNo_ok ?_
    simp only [go_sem, Nat.reduceLeDiff, Nat.reduceLT, Nat.reduceAdd, Nat.reduceMul, Nat.reduceSub, Nat.reduceEqDiff, Nat.reduceBEq, Int.reduceToNat, reduceCtorEq]
    refine rg ctNo_ok ?_
    simp only [go_sem, Nat.reduceLeDiff, Nat.reduceLT, Nat.reduceAdd, Nat.reduceMul, Nat.reduceSub, Nat.reduceEqDiff, Nat.reduceBEq, Int.reduceToNat, reduceCtorEq, (by decide : wr IntKind.i64 ((5 : Int) + 1) = 6)]
    refine rndM ?_
    refine seqM ?_
    refine sq ctNo_ok ?_
    simp only [go_sem, Nat.reduceLeDiff, Nat.reduceLT, Nat.reduceAdd, Nat.reduceMul, Nat.reduceSub, Nat.reduceEqDiff, Nat.reduceBEq, Int.reduceToNat, reduceCtorEq, (by decide : bLt (6) (6) = false)]
    refine condM rfl trivial (fun hc => ?_) (fun hc => ?_)
    · cases hc
    refine rg ctNo_ok ?_
    simp only [go_sem, Nat.reduceLeDiff, Nat.reduceLT, Nat.reduceAdd, Nat.reduceMul, Nat.reduceSub, Nat.reduceEqDiff, Nat.reduceBEq, Int.reduceToNat, reduceCtorEq]
    refine sq ctNo_ok ?_
    simp only [go_sem, Nat.reduceLeDiff, Nat.reduceLT, Nat.reduceAdd, Nat.reduceMul, Nat.reduceSub, Nat.reduceEqDiff, Nat.reduceBEq, Int.reduceToNat, reduceCtorEq]
    refine rg ctNo_ok ?_
    simp only [go_sem, Nat.reduceLeDiff, Nat.reduceLT, Nat.reduceAdd, Nat.reduceMul, Nat.reduceSub, Nat.reduceEqDiff, Nat.reduceBEq, Int.reduceToNat, reduceCtorEq]
    obtain rfl := Option.some.inj H
    first | rfl | simp only [Bool.and_false, Bool.false_and, Bool.and_true, Bool.true_and]
  · cases hb
/-! hotspot/hotspotlaw28.ScanBest -/
noncomputable def ct5t0 : Ct := tab [(16, pureC body16)]
theorem ct5t0_ok : CtOk Try.prog ct5t0 := tab_cons ok16 <| tab_nil
theorem ct5t0_16 (l : List AV) (h : List ABlk) : ct5t0 16 l h = pureC body16 l h := rfl
noncomputable def ct5t1 : Ct := tab [(21, pureC body21)]
theorem ct5t1_ok : CtOk Try.prog ct5t1 := tab_cons ok21 <| tab_nil
theorem ct5t1_21 (l : List AV) (h : List ABlk) : ct5t1 21 l h = pureC body21 l h := rfl
noncomputable def ct5t2 : Ct := tab [(22, pureC body22)]
theorem ct5t2_ok : CtOk Try.prog ct5t2 := tab_cons ok22 <| tab_nil
theorem ct5t2_22 (l : List AV) (h : List ABlk) : ct5t2 22 l h = pureC body22 l h := rfl
noncomputable def F5_L1 (p0 : TCandidates) (p1 : TWanted) (p2 : Int) (r3 : TCandidate × Int) (v1_1 : Bool) (v1_2 : Int) : Option (Lp (Bool × Int) ((Bool) ⊕ (Bool))) :=
  bif (bLt v1_2 (p0.List.length : Nat)) then (need (inb v1_2 p0.List.length) <| bif (((((!sEq ((gd p0.List v1_2.toNat).Name) p1.Name) || (!bB ((gd p0.List v1_2.toNat).Secure) p1.Secure)) || (bLt ((gd p0.List v1_2.toNat).Level) p1.Floor)) || (bLt p1.Life (wr .i64 (p2 - ((gd p0.List v1_2.toNat).Heard))))) || (bLt p2 ((gd p0.List v1_2.toNat).Heard))) then (some (.next ((v1_1 || (bEq (((gd p0.List v1_2.toNat).Addr).x0) r3.1.Addr.x0 && (bEq (((gd p0.List v1_2.toNat).Addr).x1) r3.1.Addr.x1 && (bEq (((gd p0.List v1_2.toNat).Addr).x2) r3.1.Addr.x2 && (bEq (((gd p0.List v1_2.toNat).Addr).x3) r3.1.Addr.x3 && (bEq (((gd p0.List v1_2.toNat).Addr).x4) r3.1.Addr.x4 && (bEq (((gd p0.List v1_2.toNat).Addr).x5) r3.1.Addr.x5 && (bEq ((gd p0.List v1_2.toNat).Channel) r3.1.Channel && (bEq ((gd p0.List v1_2.toNat).Level) r3.1.Level && (bEq ((gd p0.List v1_2.toNat).Load) r3.1.Load && (bEq ((gd p0.List v1_2.toNat).Heard) r3.1.Heard && (bEq ((gd p0.List v1_2.toNat).Interval) r3.1.Interval && (sEq ((gd p0.List v1_2.toNat).Name) r3.1.Name && (bB ((gd p0.List v1_2.toNat).Secure) r3.1.Secure)))))))))))))), wr .i64 (v1_2 + 1)))) else (bif (((!bEq r3.2 0) || (bLt (wr .i64 (r3.1.Level - r3.1.Load)) (wr .i64 (((gd p0.List v1_2.toNat).Level) - ((gd p0.List v1_2.toNat).Load))))) || ((bEq (wr .i64 (((gd p0.List v1_2.toNat).Level) - ((gd p0.List v1_2.toNat).Load))) (wr .i64 (r3.1.Level - r3.1.Load))) && (bLt r3.1.Level ((gd p0.List v1_2.toNat).Level)))) then (some (.done (.inr false))) else (need (bif ((bEq ((gd p0.List v1_2.toNat).Level) r3.1.Level) && (bEq ((gd p0.List v1_2.toNat).Load) r3.1.Load)) then ((F22 ((gd p0.List v1_2.toNat).Addr) r3.1.Addr).isSome) else true) <| bif (((bEq ((gd p0.List v1_2.toNat).Level) r3.1.Level) && (bEq ((gd p0.List v1_2.toNat).Load) r3.1.Load)) && (gt (F22 ((gd p0.List v1_2.toNat).Addr) r3.1.Addr))) then (some (.done (.inr false))) else (some (.next ((v1_1 || (bEq (((gd p0.List v1_2.toNat).Addr).x0) r3.1.Addr.x0 && (bEq (((gd p0.List v1_2.toNat).Addr).x1) r3.1.Addr.x1 && (bEq (((gd p0.List v1_2.toNat).Addr).x2) r3.1.Addr.x2 && (bEq (((gd p0.List v1_2.toNat).Addr).x3) r3.1.Addr.x3 && (bEq (((gd p0.List v1_2.toNat).Addr).x4) r3.1.Addr.x4 && (bEq (((gd p0.List v1_2.toNat).Addr).x5) r3.1.Addr.x5 && (bEq ((gd p0.List v1_2.toNat).Channel) r3.1.Channel && (bEq ((gd p0.List v1_2.toNat).Level) r3.1.Level && (bEq ((gd p0.List v1_2.toNat).Load) r3.1.Load && (bEq ((gd p0.List v1_2.toNat).Heard) r3.1.Heard && (bEq ((gd p0.List v1_2.toNat).Interval) r3.1.Interval && (sEq ((gd p0.List v1_2.toNat).Name) r3.1.Name && (bB ((gd p0.List v1_2.toNat).Secure) r3.1.Secure)))))))))))))), wr .i64 (v1_2 + 1))))))) else (some (.done (.inl v1_1)))
noncomputable def F5 (p0 : TCandidates) (p1 : TWanted) (p2 : Int) : Option (Bool) :=
  (F16).bind fun r1 => bif (((bLt 70 (p0.List.length : Nat)) || (bLt 1000 (p1.Name.size : Nat))) || (!r1)) then (some r1) else ((F21 p0 p1 p2).bind fun r3 => bif ((!bEq r3.2 0) && (!bEq r3.2 6)) then (some (r1 && (bEq r3.1.Addr.x0 0 && (bEq r3.1.Addr.x1 0 && (bEq r3.1.Addr.x2 0 && (bEq r3.1.Addr.x3 0 && (bEq r3.1.Addr.x4 0 && (bEq r3.1.Addr.x5 0 && (bEq r3.1.Channel 0 && (bEq r3.1.Level 0 && (bEq r3.1.Load 0 && (bEq r3.1.Heard 0 && (bEq r3.1.Interval 0 && (sEq r3.1.Name (ByteArray.mk #[]) && (bB r3.1.Secure false))))))))))))))) else (bif ((bEq r3.2 0) && (((((!sEq r3.1.Name p1.Name) || (!bB r3.1.Secure p1.Secure)) || (bLt r3.1.Level p1.Floor)) || (bLt p1.Life (wr .i64 (p2 - r3.1.Heard)))) || (bLt p2 r3.1.Heard))) then (some false) else (lp (loopD (fun s => F5_L1 p0 p1 p2 r3 s.1 s.2) (false, 0)) (fun w1_3 => some (r1 && (w1_3 || (!bEq r3.2 0)))) some)))
noncomputable def body5 : List AV → AR
  | [v0, v1, v2] => .pure (aK 1 k_TCandidates v0 ∧ aK 4 k_TWanted v1 ∧ iK .i64 v2 ∧ (F5 (g_TCandidates (aL v0)) (g_TWanted (aL v1)) (iA v2)).isSome = true) (.bool (gt (F5 (g_TCandidates (aL v0)) (g_TWanted (aL v1)) (iA v2))))
  | _ => .fail
set_option maxHeartbeats 4000000 in
set_option maxRecDepth 20000 in
theorem ok5 : FnOk Try.prog 5 (pureC body5) := by
  refine pure_fnM body5 (rs := [.tmp 6]) Try.func5 (by kernel_rfl) rfl rfl ?_
  intro l ob v hb hob
  unfold body5 at hb
  split at hb
  · rename_i v0 v1 v2
    injection hb with q1 q2; subst q1 q2
    obtain ⟨hk0, hk1, hk2, hob⟩ := hob
    obtain ⟨r, H⟩ := Option.isSome_iff_exists.1 hob
    rw [H, gt_some]
    have hw0 := wA_TCandidates hk0
    have hw1 := wA_TWanted hk1
    have hw2 := iK_wk hk2
    generalize g_TCandidates (aL v0) = p0 at H hw0
    generalize g_TWanted (aL v1) = p1 at H hw1
    generalize iA v2 = p2 at H hw2
    refine ⟨[.agg [.ro 13 p0.List.length false (enR c_TCandidate p0.List)], .agg [.str p1.Name, .bool p1.Secure, .int .i64 p1.Floor, .int .i64 p1.Life], .int .i64 p2], _, (fun E vs F => FR_wk1 hw0.1 F (fun vs F => FR_wk1 hw1.1 F (fun vs F => FR_wk1 hw2.1 F (fun vs F => F)))), rfl, rfl, ?_⟩
    rw [Try.ntmps5]
    simp only [List.length_cons, List.length_nil, Nat.reduceAdd, Nat.reduceSub, List.replicate_succ, List.replicate_zero, List.cons_append, List.nil_append]
    unfold F5 at H
    try dsimp only at H
    refine sq ctNo_ok ?_
    simp only [go_sem, Nat.reduceLeDiff, Nat.reduceLT, Nat.reduceAdd, Nat.reduceMul, Nat.reduceSub, Nat.reduceEqDiff, Nat.reduceBEq, Int.reduceToNat, reduceCtorEq]
    refine seqM ?_
    obtain ⟨r1, e2, H⟩ := Option.bind_eq_some_iff.1 H
    refine rg ct5t0_ok ?_
    simp only [go_sem, Nat.reduceLeDiff, Nat.reduceLT, Nat.reduceAdd, Nat.reduceMul, Nat.reduceSub, Nat.reduceEqDiff, Nat.reduceBEq, Int.reduceToNat, reduceCtorEq, ct5t0_16, body16, e2]
    repeat ((with_reducible refine And.intro ?_ ?_); focus (first | (with_reducible trivial) | omega | (intro x y _ _; (repeat (first | exact nfR_enI | exact nfR_lit (by simp only [nrefL, nref, and_self]) | (refine nfR_app (fun x y => ?_) (fun x y => ?_)) | (refine nfR_ins (fun x y => ?_) (fun x y => ?_)) | (refine nfR_del (fun x y => ?_)) | (refine nfR_upc (fun x y => ?_) (by simp only [nrefL, nref, and_self])) | (refine nfR_ovw (fun x y => ?_) (fun x y => ?_)) | exact nfR_getL (by simp only [nrefL, nref, and_self]))); done) | (intro x hx; (repeat (first | (exfalso; omega) | (rcases x with _ | x; first | (and_intros <;> (first | exact rfl | exact trivial | exact ⟨Or.inr rfl, Fit_enI⟩ | exact Fit_enI | exact Or.inr rfl | exact Or.inl rfl | exact fun x hx => absurd hx (by omega) | exact ⟨Or.inl rfl, fun x hx => absurd hx (by omega)⟩)) | (first | exact rfl | exact trivial | exact ⟨Or.inr rfl, Fit_enI⟩ | exact Fit_enI | exact Or.inr rfl | exact Or.inl rfl | exact fun x hx => absurd hx (by omega) | exact ⟨Or.inl rfl, fun x hx => absurd hx (by omega)⟩)))); done) | (and_intros <;> first | (with_reducible trivial) | omega | assumption | (intro x y _ _; (repeat (first | exact nfR_enI | exact nfR_lit (by simp only [nrefL, nref, and_self]) | (refine nfR_app (fun x y => ?_) (fun x y => ?_)) | (refine nfR_ins (fun x y => ?_) (fun x y => ?_)) | (refine nfR_del (fun x y => ?_)) | (refine nfR_upc (fun x y => ?_) (by simp only [nrefL, nref, and_self])) | (refine nfR_ovw (fun x y => ?_) (fun x y => ?_)) | exact nfR_getL (by simp only [nrefL, nref, and_self]))); done) | (intro x hx; (repeat (first | (exfalso; omega) | (rcases x with _ | x; first | (and_intros <;> (first | exact rfl | exact trivial | exact ⟨Or.inr rfl, Fit_enI⟩ | exact Fit_enI | exact Or.inr rfl | exact Or.inl rfl | exact fun x hx => absurd hx (by omega) | exact ⟨Or.inl rfl, fun x hx => absurd hx (by omega)⟩)) | (first | exact rfl | exact trivial | exact ⟨Or.inr rfl, Fit_enI⟩ | exact Fit_enI | exact Or.inr rfl | exact Or.inl rfl | exact fun x hx => absurd hx (by omega) | exact ⟨Or.inl rfl, fun x hx => absurd hx (by omega)⟩)))); done)) | grind))
    refine seqM ?_
    refine sq ctNo_ok ?_
    simp only [go_sem, Nat.reduceLeDiff, Nat.reduceLT, Nat.reduceAdd, Nat.reduceMul, Nat.reduceSub, Nat.reduceEqDiff, Nat.reduceBEq, Int.reduceToNat, reduceCtorEq]
    repeat ((with_reducible refine And.intro ?_ ?_); focus (first | (with_reducible trivial) | omega | (intro x y _ _; (repeat (first | exact nfR_enI | exact nfR_lit (by simp only [nrefL, nref, and_self]) | (refine nfR_app (fun x y => ?_) (fun x y => ?_)) | (refine nfR_ins (fun x y => ?_) (fun x y => ?_)) | (refine nfR_del (fun x y => ?_)) | (refine nfR_upc (fun x y => ?_) (by simp only [nrefL, nref, and_self])) | (refine nfR_ovw (fun x y => ?_) (fun x y => ?_)) | exact nfR_getL (by simp only [nrefL, nref, and_self]))); done) | (intro x hx; (repeat (first | (exfalso; omega) | (rcases x with _ | x; first | (and_intros <;> (first | exact rfl | exact trivial | exact ⟨Or.inr rfl, Fit_enI⟩ | exact Fit_enI | exact Or.inr rfl | exact Or.inl rfl | exact fun x hx => absurd hx (by omega) | exact ⟨Or.inl rfl, fun x hx => absurd hx (by omega)⟩)) | (first | exact rfl | exact trivial | exact ⟨Or.inr rfl, Fit_enI⟩ | exact Fit_enI | exact Or.inr rfl | exact Or.inl rfl | exact fun x hx => absurd hx (by omega) | exact ⟨Or.inl rfl, fun x hx => absurd hx (by omega)⟩)))); done) | (and_intros <;> first | (with_reducible trivial) | omega | assumption | (intro x y _ _; (repeat (first | exact nfR_enI | exact nfR_lit (by simp only [nrefL, nref, and_self]) | (refine nfR_app (fun x y => ?_) (fun x y => ?_)) | (refine nfR_ins (fun x y => ?_) (fun x y => ?_)) | (refine nfR_del (fun x y => ?_)) | (refine nfR_upc (fun x y => ?_) (by simp only [nrefL, nref, and_self])) | (refine nfR_ovw (fun x y => ?_) (fun x y => ?_)) | exact nfR_getL (by simp only [nrefL, nref, and_self]))); done) | (intro x hx; (repeat (first | (exfalso; omega) | (rcases x with _ | x; first | (and_intros <;> (first | exact rfl | exact trivial | exact ⟨Or.inr rfl, Fit_enI⟩ | exact Fit_enI | exact Or.inr rfl | exact Or.inl rfl | exact fun x hx => absurd hx (by omega) | exact ⟨Or.inl rfl, fun x hx => absurd hx (by omega)⟩)) | (first | exact rfl | exact trivial | exact ⟨Or.inr rfl, Fit_enI⟩ | exact Fit_enI | exact Or.inr rfl | exact Or.inl rfl | exact fun x hx => absurd hx (by omega) | exact ⟨Or.inl rfl, fun x hx => absurd hx (by omega)⟩)))); done)) | grind))
    refine condM rfl trivial (fun hc => ?_) (fun hc => ?_)
    · replace H := cond_t hc H
      refine sq ctNo_ok ?_
      simp only [go_sem, Nat.reduceLeDiff, Nat.reduceLT, Nat.reduceAdd, Nat.reduceMul, Nat.reduceSub, Nat.reduceEqDiff, Nat.reduceBEq, Int.reduceToNat, reduceCtorEq]
      refine rg ctNo_ok ?_
      simp only [go_sem, Nat.reduceLeDiff, Nat.reduceLT, Nat.reduceAdd, Nat.reduceMul, Nat.reduceSub, Nat.reduceEqDiff, Nat.reduceBEq, Int.reduceToNat, reduceCtorEq]
      obtain rfl := Option.some.inj H
      first | rfl | simp only [Bool.and_false, Bool.false_and, Bool.and_true, Bool.true_and]
    replace H := cond_f hc H
    refine rg ctNo_ok ?_
    simp only [go_sem, Nat.reduceLeDiff, Nat.reduceLT, Nat.reduceAdd, Nat.reduceMul, Nat.reduceSub, Nat.reduceEqDiff, Nat.reduceBEq, Int.reduceToNat, reduceCtorEq]
    refine seqM ?_
    obtain ⟨r3, e4, H⟩ := Option.bind_eq_some_iff.1 H
    refine rg ct5t1_ok ?_
    simp only [go_sem, Nat.reduceLeDiff, Nat.reduceLT, Nat.reduceAdd, Nat.reduceMul, Nat.reduceSub, Nat.reduceEqDiff, Nat.reduceBEq, Int.reduceToNat, reduceCtorEq, ct5t1_21, body21, e4]
    repeat ((with_reducible refine And.intro ?_ ?_); focus (first | (with_reducible trivial) | omega | (intro x y _ _; (repeat (first | exact nfR_enI | exact nfR_lit (by simp only [nrefL, nref, and_self]) | (refine nfR_app (fun x y => ?_) (fun x y => ?_)) | (refine nfR_ins (fun x y => ?_) (fun x y => ?_)) | (refine nfR_del (fun x y => ?_)) | (refine nfR_upc (fun x y => ?_) (by simp only [nrefL, nref, and_self])) | (refine nfR_ovw (fun x y => ?_) (fun x y => ?_)) | exact nfR_getL (by simp only [nrefL, nref, and_self]))); done) | (intro x hx; (repeat (first | (exfalso; omega) | (rcases x with _ | x; first | (and_intros <;> (first | exact rfl | exact trivial | exact ⟨Or.inr rfl, Fit_enI⟩ | exact Fit_enI | exact Or.inr rfl | exact Or.inl rfl | exact fun x hx => absurd hx (by omega) | exact ⟨Or.inl rfl, fun x hx => absurd hx (by omega)⟩)) | (first | exact rfl | exact trivial | exact ⟨Or.inr rfl, Fit_enI⟩ | exact Fit_enI | exact Or.inr rfl | exact Or.inl rfl | exact fun x hx => absurd hx (by omega) | exact ⟨Or.inl rfl, fun x hx => absurd hx (by omega)⟩)))); done) | (and_intros <;> first | (with_reducible trivial) | omega | assumption | (intro x y _ _; (repeat (first | exact nfR_enI | exact nfR_lit (by simp only [nrefL, nref, and_self]) | (refine nfR_app (fun x y => ?_) (fun x y => ?_)) | (refine nfR_ins (fun x y => ?_) (fun x y => ?_)) | (refine nfR_del (fun x y => ?_)) | (refine nfR_upc (fun x y => ?_) (by simp only [nrefL, nref, and_self])) | (refine nfR_ovw (fun x y => ?_) (fun x y => ?_)) | exact nfR_getL (by simp only [nrefL, nref, and_self]))); done) | (intro x hx; (repeat (first | (exfalso; omega) | (rcases x with _ | x; first | (and_intros <;> (first | exact rfl | exact trivial | exact ⟨Or.inr rfl, Fit_enI⟩ | exact Fit_enI | exact Or.inr rfl | exact Or.inl rfl | exact fun x hx => absurd hx (by omega) | exact ⟨Or.inl rfl, fun x hx => absurd hx (by omega)⟩)) | (first | exact rfl | exact trivial | exact ⟨Or.inr rfl, Fit_enI⟩ | exact Fit_enI | exact Or.inr rfl | exact Or.inl rfl | exact fun x hx => absurd hx (by omega) | exact ⟨Or.inl rfl, fun x hx => absurd hx (by omega)⟩)))); done)) | grind))
    refine seqM ?_
    refine sq ctNo_ok ?_
    simp only [go_sem, Nat.reduceLeDiff, Nat.reduceLT, Nat.reduceAdd, Nat.reduceMul, Nat.reduceSub, Nat.reduceEqDiff, Nat.reduceBEq, Int.reduceToNat, reduceCtorEq]
    repeat ((with_reducible refine And.intro ?_ ?_); focus (first | (with_reducible trivial) | omega | grind))
    refine condM rfl trivial (fun hc => ?_) (fun hc => ?_)
    · replace H := cond_t hc H
      refine sq ctNo_ok ?_
      simp only [go_sem, Nat.reduceLeDiff, Nat.reduceLT, Nat.reduceAdd, Nat.reduceMul, Nat.reduceSub, Nat.reduceEqDiff, Nat.reduceBEq, Int.reduceToNat, reduceCtorEq]
      repeat ((with_reducible refine And.intro ?_ ?_); focus (first | (with_reducible trivial) | omega | grind))
      refine rg ctNo_ok ?_
      simp only [go_sem, Nat.reduceLeDiff, Nat.reduceLT, Nat.reduceAdd, Nat.reduceMul, Nat.reduceSub, Nat.reduceEqDiff, Nat.reduceBEq, Int.reduceToNat, reduceCtorEq]
      obtain rfl := Option.some.inj H
      first | rfl | simp only [Bool.and_false, Bool.false_and, Bool.and_true, Bool.true_and]
    replace H := cond_f hc H
    refine rg ctNo_ok ?_
    simp only [go_sem, Nat.reduceLeDiff, Nat.reduceLT, Nat.reduceAdd, Nat.reduceMul, Nat.reduceSub, Nat.reduceEqDiff, Nat.reduceBEq, Int.reduceToNat, reduceCtorEq]
    refine seqM ?_
    refine sq ctNo_ok ?_
    simp only [go_sem, Nat.reduceLeDiff, Nat.reduceLT, Nat.reduceAdd, Nat.reduceMul, Nat.reduceSub, Nat.reduceEqDiff, Nat.reduceBEq, Int.reduceToNat, reduceCtorEq]
    repeat ((with_reducible refine And.intro ?_ ?_); focus (first | (with_reducible trivial) | omega | grind))
    refine condM rfl trivial (fun hc => ?_) (fun hc => ?_)
    · replace H := cond_t hc H
      refine sq ctNo_ok ?_
      simp only [go_sem, Nat.reduceLeDiff, Nat.reduceLT, Nat.reduceAdd, Nat.reduceMul, Nat.reduceSub, Nat.reduceEqDiff, Nat.reduceBEq, Int.reduceToNat, reduceCtorEq]
      refine rg ctNo_ok ?_
      simp only [go_sem, Nat.reduceLeDiff, Nat.reduceLT, Nat.reduceAdd, Nat.reduceMul, Nat.reduceSub, Nat.reduceEqDiff, Nat.reduceBEq, Int.reduceToNat, reduceCtorEq]
      obtain rfl := Option.some.inj H
      first | rfl | simp only [Bool.and_false, Bool.false_and, Bool.and_true, Bool.true_and]
    replace H := cond_f hc H
    refine rg ctNo_ok ?_
    simp only [go_sem, Nat.reduceLeDiff, Nat.reduceLT, Nat.reduceAdd, Nat.reduceMul, Nat.reduceSub, Nat.reduceEqDiff, Nat.reduceBEq, Int.reduceToNat, reduceCtorEq]
    refine sq ctNo_ok ?_
    simp only [go_sem, Nat.reduceLeDiff, Nat.reduceLT, Nat.reduceAdd, Nat.reduceMul, Nat.reduceSub, Nat.reduceEqDiff, Nat.reduceBEq, Int.reduceToNat, reduceCtorEq]
    refine seqM ?_
    refine sq ctNo_ok ?_
    simp only [go_sem, Nat.reduceLeDiff, Nat.reduceLT, Nat.reduceAdd, Nat.reduceMul, Nat.reduceSub, Nat.reduceEqDiff, Nat.reduceBEq, Int.reduceToNat, reduceCtorEq]
    refine blkM ?_
    refine loop_den (fun s : Bool × Int => (.top :: .top :: .int .i64 p2 :: .ptr 0 0 0 0 :: .ptr 1 0 0 0 :: .top :: .top :: .bool r1 :: .ptr 2 0 0 0 :: .int .i64 r3.2 :: .bool s.1 :: .int .i64 s.2 :: .top :: .top :: .top :: .top :: .top :: .top :: .top :: .top :: .top :: .top :: .top :: .top :: .top :: .top :: .top :: .top :: .top :: .top :: .top :: .top :: .top :: .top :: .top :: .top :: .top :: .top :: .top :: .top :: .top :: .top :: .top :: .top :: .top :: .top :: .top :: .top :: .top :: .top :: .top :: .top :: .top :: .top :: .top :: .top :: .top :: .top :: .top :: .top :: .top :: .top :: .top :: .top :: .top :: .top :: .top :: .top :: .top :: .top :: .top :: .top :: .top :: .top :: .top :: .top :: .top :: .top :: .top :: .top :: .top :: .top :: .top :: .top :: .top :: .top :: .top :: .top :: .top :: .top :: .top :: .top :: .top :: .top :: .top :: .top :: .top :: .top :: .top :: .top :: .top :: .top :: .top :: .top :: .top :: .top :: .top :: .top :: .top :: .top :: .top :: .top :: .top :: .top :: .top :: .top :: .top :: .top :: .top :: .top :: .top :: .top :: .top :: .top :: .top :: .top :: .top :: .top :: .top :: .top :: .top :: .top :: .top :: .top :: .top :: .top :: .top :: .top :: .top :: .top :: .top :: .top :: .top :: .top :: .top :: .top :: .top :: .top :: .top :: .top :: .top :: .top :: .top :: .top :: .top :: .top :: .top :: .top :: .top :: .top :: .top :: .top :: .top :: .top :: .top :: .top :: .top :: .top :: .top :: .top :: .top :: .top :: .top :: .top :: .top :: .top :: .top :: .top :: .top :: .top :: .top :: .top :: .top :: .top :: .top :: .top :: .top :: .top :: .top :: .top :: .top :: .top :: .top :: .top :: .top :: .top :: .top :: .top :: .top :: .top :: [])) (fun s => [.lit 41 [.ro 13 p0.List.length false (enR c_TCandidate p0.List)], .lit 59 [.str p1.Name, .bool p1.Secure, .int .i64 p1.Floor, .int .i64 p1.Life], .lit 52 [.int .u8 r3.1.Addr.x0, .int .u8 r3.1.Addr.x1, .int .u8 r3.1.Addr.x2, .int .u8 r3.1.Addr.x3, .int .u8 r3.1.Addr.x4, .int .u8 r3.1.Addr.x5, .int .i64 r3.1.Channel, .int .i64 r3.1.Level, .int .i64 r3.1.Load, .int .i64 r3.1.Heard, .int .i64 r3.1.Interval, .str r3.1.Name, .bool r3.1.Secure]]) (fun e : Bool => (.top :: .top :: .top :: .top :: .top :: .top :: .top :: .bool r1 :: .top :: .int .i64 r3.2 :: .bool e :: .top :: .top :: .top :: .top :: .top :: .top :: .top :: .top :: .top :: .top :: .top :: .top :: .top :: .top :: .top :: .top :: .top :: .top :: .top :: .top :: .top :: .top :: .top :: .top :: .top :: .top :: .top :: .top :: .top :: .top :: .top :: .top :: .top :: .top :: .top :: .top :: .top :: .top :: .top :: .top :: .top :: .top :: .top :: .top :: .top :: .top :: .top :: .top :: .top :: .top :: .top :: .top :: .top :: .top :: .top :: .top :: .top :: .top :: .top :: .top :: .top :: .top :: .top :: .top :: .top :: .top :: .top :: .top :: .top :: .top :: .top :: .top :: .top :: .top :: .top :: .top :: .top :: .top :: .top :: .top :: .top :: .top :: .top :: .top :: .top :: .top :: .top :: .top :: .top :: .top :: .top :: .top :: .top :: .top :: .top :: .top :: .top :: .top :: .top :: .top :: .top :: .top :: .top :: .top :: .top :: .top :: .top :: .top :: .top :: .top :: .top :: .top :: .top :: .top :: .top :: .top :: .top :: .top :: .top :: .top :: .top :: .top :: .top :: .top :: .top :: .top :: .top :: .top :: .top :: .top :: .top :: .top :: .top :: .top :: .top :: .top :: .top :: .top :: .top :: .top :: .top :: .top :: .top :: .top :: .top :: .top :: .top :: .top :: .top :: .top :: .top :: .top :: .top :: .top :: .top :: .top :: .top :: .top :: .top :: .top :: .top :: .top :: .top :: .top :: .top :: .top :: .top :: .top :: .top :: .top :: .top :: .top :: .top :: .top :: .top :: .top :: .top :: .top :: .top :: .top :: .top :: .top :: .top :: .top :: .top :: .top :: .top :: .top :: .top :: [])) (fun e => [.dead, .dead, .dead]) H ?_ (fun s o H hn1_1 hn2_1 => ?_) (fun w1_3 H => ?_)
    · refine SubF_of ⟨[some 0, some 1, some 2], ?_, ?_, by rfl, by rfl⟩
      · simp [CvL, Cv, getM]
      · exact ⟨(by simp [CvB, CvL, Cv, blkAt, geth, getM]), (by simp [CvB, CvL, Cv, blkAt, geth, getM]), (by simp [CvB, CvL, Cv, blkAt, geth, getM]), trivial⟩
    · obtain ⟨v1_1, v1_2⟩ := s
      unfold F5_L1 at H
      try dsimp only at H ⊢
      refine seqM ?_
      refine sq ctNo_ok ?_
      simp only [go_sem, Nat.reduceLeDiff, Nat.reduceLT, Nat.reduceAdd, Nat.reduceMul, Nat.reduceSub, Nat.reduceEqDiff, Nat.reduceBEq, Int.reduceToNat, reduceCtorEq]
      repeat ((with_reducible refine And.intro ?_ ?_); focus (first | (with_reducible trivial) | omega | (intro x y _ _; (repeat (first | exact nfR_enI | exact nfR_lit (by simp only [nrefL, nref, and_self]) | (refine nfR_app (fun x y => ?_) (fun x y => ?_)) | (refine nfR_ins (fun x y => ?_) (fun x y => ?_)) | (refine nfR_del (fun x y => ?_)) | (refine nfR_upc (fun x y => ?_) (by simp only [nrefL, nref, and_self])) | (refine nfR_ovw (fun x y => ?_) (fun x y => ?_)) | exact nfR_getL (by simp only [nrefL, nref, and_self]))); done) | (intro x hx; (repeat (first | (exfalso; omega) | (rcases x with _ | x; first | (and_intros <;> (first | exact rfl | exact trivial | exact ⟨Or.inr rfl, Fit_enI⟩ | exact Fit_enI | exact Or.inr rfl | exact Or.inl rfl | exact fun x hx => absurd hx (by omega) | exact ⟨Or.inl rfl, fun x hx => absurd hx (by omega)⟩)) | (first | exact rfl | exact trivial | exact ⟨Or.inr rfl, Fit_enI⟩ | exact Fit_enI | exact Or.inr rfl | exact Or.inl rfl | exact fun x hx => absurd hx (by omega) | exact ⟨Or.inl rfl, fun x hx => absurd hx (by omega)⟩)))); done) | (and_intros <;> first | (with_reducible trivial) | omega | assumption | (intro x y _ _; (repeat (first | exact nfR_enI | exact nfR_lit (by simp only [nrefL, nref, and_self]) | (refine nfR_app (fun x y => ?_) (fun x y => ?_)) | (refine nfR_ins (fun x y => ?_) (fun x y => ?_)) | (refine nfR_del (fun x y => ?_)) | (refine nfR_upc (fun x y => ?_) (by simp only [nrefL, nref, and_self])) | (refine nfR_ovw (fun x y => ?_) (fun x y => ?_)) | exact nfR_getL (by simp only [nrefL, nref, and_self]))); done) | (intro x hx; (repeat (first | (exfalso; omega) | (rcases x with _ | x; first | (and_intros <;> (first | exact rfl | exact trivial | exact ⟨Or.inr rfl, Fit_enI⟩ | exact Fit_enI | exact Or.inr rfl | exact Or.inl rfl | exact fun x hx => absurd hx (by omega) | exact ⟨Or.inl rfl, fun x hx => absurd hx (by omega)⟩)) | (first | exact rfl | exact trivial | exact ⟨Or.inr rfl, Fit_enI⟩ | exact Fit_enI | exact Or.inr rfl | exact Or.inl rfl | exact fun x hx => absurd hx (by omega) | exact ⟨Or.inl rfl, fun x hx => absurd hx (by omega)⟩)))); done)) | grind))
      refine condM' rfl trivial (fun hc => ?_) (fun hc => ?_)
      · replace H := cond_f hc H
        refine rg ctNo_ok ?_
        simp only [go_sem, Nat.reduceLeDiff, Nat.reduceLT, Nat.reduceAdd, Nat.reduceMul, Nat.reduceSub, Nat.reduceEqDiff, Nat.reduceBEq, Int.reduceToNat, reduceCtorEq]
        refine ⟨_, (Option.some.inj H).symm, ?_⟩
        refine SubF_of ⟨[some 0, some 1, some 2], ?_, ?_, by rfl, by rfl⟩
        · simp [CvL, Cv, getM]
        · exact ⟨CvB_dead, CvB_dead, CvB_dead, trivial⟩
      replace H := cond_t hc H
      refine rg ctNo_ok ?_
      simp only [go_sem, Nat.reduceLeDiff, Nat.reduceLT, Nat.reduceAdd, Nat.reduceMul, Nat.reduceSub, Nat.reduceEqDiff, Nat.reduceBEq, Int.reduceToNat, reduceCtorEq]
      refine seqM ?_
      refine blkM ?_
      refine seqM ?_
      obtain ⟨f5, H⟩ := need_some.1 H
      replace f5 := inb_iff.1 f5
      refine rg ctNo_ok ?_
      simp only [go_sem, Nat.reduceLeDiff, Nat.reduceLT, Nat.reduceAdd, Nat.reduceMul, Nat.reduceSub, Nat.reduceEqDiff, Nat.reduceBEq, Int.reduceToNat, reduceCtorEq, f5]
      repeat ((with_reducible refine And.intro ?_ ?_); focus (first | (with_reducible trivial) | omega | grind))
      refine sq ctNo_ok ?_
      simp only [go_sem, Nat.reduceLeDiff, Nat.reduceLT, Nat.reduceAdd, Nat.reduceMul, Nat.reduceSub, Nat.reduceEqDiff, Nat.reduceBEq, Int.reduceToNat, reduceCtorEq]
      repeat ((with_reducible refine And.intro ?_ ?_); focus (first | (with_reducible trivial) | omega | grind))
      refine seqM ?_
      refine sq ctNo_ok ?_
      simp only [go_sem, Nat.reduceLeDiff, Nat.reduceLT, Nat.reduceAdd, Nat.reduceMul, Nat.reduceSub, Nat.reduceEqDiff, Nat.reduceBEq, Int.reduceToNat, reduceCtorEq]
      repeat ((with_reducible refine And.intro ?_ ?_); focus (first | (with_reducible trivial) | omega | grind))
      refine condM rfl trivial (fun hc => ?_) (fun hc => ?_)
      · replace H := cond_t hc H
        refine rg ctNo_ok ?_
        simp only [go_sem, Nat.reduceLeDiff, Nat.reduceLT, Nat.reduceAdd, Nat.reduceMul, Nat.reduceSub, Nat.reduceEqDiff, Nat.reduceBEq, Int.reduceToNat, reduceCtorEq]
        refine rg ctNo_ok ?_
        simp only [go_sem, Nat.reduceLeDiff, Nat.reduceLT, Nat.reduceAdd, Nat.reduceMul, Nat.reduceSub, Nat.reduceEqDiff, Nat.reduceBEq, Int.reduceToNat, reduceCtorEq]
        refine ⟨_, (Option.some.inj H).symm, ?_⟩
        refine SubF_of ⟨[some 0, some 1, some 2], ?_, ?_, by rfl, by rfl⟩
        · simp [CvL, Cv, getM]
        · exact ⟨(by simp [CvB, CvL, Cv, blkAt, geth, getM]), (by simp [CvB, CvL, Cv, blkAt, geth, getM]), (by simp [CvB, CvL, Cv, blkAt, geth, getM]), trivial⟩
      replace H := cond_f hc H
      refine rg ctNo_ok ?_
      simp only [go_sem, Nat.reduceLeDiff, Nat.reduceLT, Nat.reduceAdd, Nat.reduceMul, Nat.reduceSub, Nat.reduceEqDiff, Nat.reduceBEq, Int.reduceToNat, reduceCtorEq]
      refine seqM ?_
      refine sq ctNo_ok ?_
      simp only [go_sem, Nat.reduceLeDiff, Nat.reduceLT, Nat.reduceAdd, Nat.reduceMul, Nat.reduceSub, Nat.reduceEqDiff, Nat.reduceBEq, Int.reduceToNat, reduceCtorEq]
      repeat ((with_reducible refine And.intro ?_ ?_); focus (first | (with_reducible trivial) | omega | grind))
      refine condM rfl trivial (fun hc => ?_) (fun hc => ?_)
      · replace H := cond_t hc H
        refine sq ctNo_ok ?_
        simp only [go_sem, Nat.reduceLeDiff, Nat.reduceLT, Nat.reduceAdd, Nat.reduceMul, Nat.reduceSub, Nat.reduceEqDiff, Nat.reduceBEq, Int.reduceToNat, reduceCtorEq]
        refine rg ctNo_ok ?_
        simp only [go_sem, Nat.reduceLeDiff, Nat.reduceLT, Nat.reduceAdd, Nat.reduceMul, Nat.reduceSub, Nat.reduceEqDiff, Nat.reduceBEq, Int.reduceToNat, reduceCtorEq]
        have H := hn2_1 _ (Option.some.inj H).symm
        obtain rfl := Option.some.inj H
        first | rfl | simp only [Bool.and_false, Bool.false_and, Bool.and_true, Bool.true_and]
      replace H := cond_f hc H
      refine rg ctNo_ok ?_
      simp only [go_sem, Nat.reduceLeDiff, Nat.reduceLT, Nat.reduceAdd, Nat.reduceMul, Nat.reduceSub, Nat.reduceEqDiff, Nat.reduceBEq, Int.reduceToNat, reduceCtorEq]
      refine seqM ?_
      obtain ⟨f6, H⟩ := need_some.1 H
      replace f6 := g_iff.1 f6
      refine rg ct5t2_ok ?_
      simp only [go_sem, Nat.reduceLeDiff, Nat.reduceLT, Nat.reduceAdd, Nat.reduceMul, Nat.reduceSub, Nat.reduceEqDiff, Nat.reduceBEq, Int.reduceToNat, reduceCtorEq, ct5t2_22, body22]
      repeat ((with_reducible refine And.intro ?_ ?_); focus (first | (with_reducible trivial) | omega | exact f6 | (intro g; have q := f6 (by first | exact g | simpa using g); first | exact q | exact ⟨q.1, q.2.1⟩ | exact q.2.2 | omega | exact ⟨g, q⟩ | exact ⟨trivial, q⟩) | (intro x y _ _; (repeat (first | exact nfR_enI | exact nfR_lit (by simp only [nrefL, nref, and_self]) | (refine nfR_app (fun x y => ?_) (fun x y => ?_)) | (refine nfR_ins (fun x y => ?_) (fun x y => ?_)) | (refine nfR_del (fun x y => ?_)) | (refine nfR_upc (fun x y => ?_) (by simp only [nrefL, nref, and_self])) | (refine nfR_ovw (fun x y => ?_) (fun x y => ?_)) | exact nfR_getL (by simp only [nrefL, nref, and_self]))); done) | (intro x hx; (repeat (first | (exfalso; omega) | (rcases x with _ | x; first | (and_intros <;> (first | exact rfl | exact trivial | exact ⟨Or.inr rfl, Fit_enI⟩ | exact Fit_enI | exact Or.inr rfl | exact Or.inl rfl | exact fun x hx => absurd hx (by omega) | exact ⟨Or.inl rfl, fun x hx => absurd hx (by omega)⟩)) | (first | exact rfl | exact trivial | exact ⟨Or.inr rfl, Fit_enI⟩ | exact Fit_enI | exact Or.inr rfl | exact Or.inl rfl | exact fun x hx => absurd hx (by omega) | exact ⟨Or.inl rfl, fun x hx => absurd hx (by omega)⟩)))); done) | (and_intros <;> first | (with_reducible trivial) | omega | assumption | (intro x y _ _; (repeat (first | exact nfR_enI | exact nfR_lit (by simp only [nrefL, nref, and_self]) | (refine nfR_app (fun x y => ?_) (fun x y => ?_)) | (refine nfR_ins (fun x y => ?_) (fun x y => ?_)) | (refine nfR_del (fun x y => ?_)) | (refine nfR_upc (fun x y => ?_) (by simp only [nrefL, nref, and_self])) | (refine nfR_ovw (fun x y => ?_) (fun x y => ?_)) | exact nfR_getL (by simp only [nrefL, nref, and_self]))); done) | (intro x hx; (repeat (first | (exfalso; omega) | (rcases x with _ | x; first | (and_intros <;> (first | exact rfl | exact trivial | exact ⟨Or.inr rfl, Fit_enI⟩ | exact Fit_enI | exact Or.inr rfl | exact Or.inl rfl | exact fun x hx => absurd hx (by omega) | exact ⟨Or.inl rfl, fun x hx => absurd hx (by omega)⟩)) | (first | exact rfl | exact trivial | exact ⟨Or.inr rfl, Fit_enI⟩ | exact Fit_enI | exact Or.inr rfl | exact Or.inl rfl | exact fun x hx => absurd hx (by omega) | exact ⟨Or.inl rfl, fun x hx => absurd hx (by omega)⟩)))); done)) | (intro g; and_intros <;> first | (with_reducible trivial) | assumption | exact f6 g | (intro x y _ _; (repeat (first | exact nfR_enI | exact nfR_lit (by simp only [nrefL, nref, and_self]) | (refine nfR_app (fun x y => ?_) (fun x y => ?_)) | (refine nfR_ins (fun x y => ?_) (fun x y => ?_)) | (refine nfR_del (fun x y => ?_)) | (refine nfR_upc (fun x y => ?_) (by simp only [nrefL, nref, and_self])) | (refine nfR_ovw (fun x y => ?_) (fun x y => ?_)) | exact nfR_getL (by simp only [nrefL, nref, and_self]))); done) | (intro x hx; (repeat (first | (exfalso; omega) | (rcases x with _ | x; first | (and_intros <;> (first | exact rfl | exact trivial | exact ⟨Or.inr rfl, Fit_enI⟩ | exact Fit_enI | exact Or.inr rfl | exact Or.inl rfl | exact fun x hx => absurd hx (by omega) | exact ⟨Or.inl rfl, fun x hx => absurd hx (by omega)⟩)) | (first | exact rfl | exact trivial | exact ⟨Or.inr rfl, Fit_enI⟩ | exact Fit_enI | exact Or.inr rfl | exact Or.inl rfl | exact fun x hx => absurd hx (by omega) | exact ⟨Or.inl rfl, fun x hx => absurd hx (by omega)⟩)))); done) | (and_intros <;> first | (with_reducible trivial) | omega | assumption | (intro x y _ _; (repeat (first | exact nfR_enI | exact nfR_lit (by simp only [nrefL, nref, and_self]) | (refine nfR_app (fun x y => ?_) (fun x y => ?_)) | (refine nfR_ins (fun x y => ?_) (fun x y => ?_)) | (refine nfR_del (fun x y => ?_)) | (refine nfR_upc (fun x y => ?_) (by simp only [nrefL, nref, and_self])) | (refine nfR_ovw (fun x y => ?_) (fun x y => ?_)) | exact nfR_getL (by simp only [nrefL, nref, and_self]))); done) | (intro x hx; (repeat (first | (exfalso; omega) | (rcases x with _ | x; first | (and_intros <;> (first | exact rfl | exact trivial | exact ⟨Or.inr rfl, Fit_enI⟩ | exact Fit_enI | exact Or.inr rfl | exact Or.inl rfl | exact fun x hx => absurd hx (by omega) | exact ⟨Or.inl rfl, fun x hx => absurd hx (by omega)⟩)) | (first | exact rfl | exact trivial | exact ⟨Or.inr rfl, Fit_enI⟩ | exact Fit_enI | exact Or.inr rfl | exact Or.inl rfl | exact fun x hx => absurd hx (by omega) | exact ⟨Or.inl rfl, fun x hx => absurd hx (by omega)⟩)))); done))) | grind))
      refine condM rfl trivial (fun hc => ?_) (fun hc => ?_)
      · replace H := cond_t hc H
        refine sq ctNo_ok ?_
        simp only [go_sem, Nat.reduceLeDiff, Nat.reduceLT, Nat.reduceAdd, Nat.reduceMul, Nat.reduceSub, Nat.reduceEqDiff, Nat.reduceBEq, Int.reduceToNat, reduceCtorEq]
        refine rg ctNo_ok ?_
        simp only [go_sem, Nat.reduceLeDiff, Nat.reduceLT, Nat.reduceAdd, Nat.reduceMul, Nat.reduceSub, Nat.reduceEqDiff, Nat.reduceBEq, Int.reduceToNat, reduceCtorEq]
        have H := hn2_1 _ (Option.some.inj H).symm
        obtain rfl := Option.some.inj H
        first | rfl | simp only [Bool.and_false, Bool.false_and, Bool.and_true, Bool.true_and]
      replace H := cond_f hc H
      refine rg ctNo_ok ?_
      simp only [go_sem, Nat.reduceLeDiff, Nat.reduceLT, Nat.reduceAdd, Nat.reduceMul, Nat.reduceSub, Nat.reduceEqDiff, Nat.reduceBEq, Int.reduceToNat, reduceCtorEq]
      refine rg ctNo_ok ?_
      simp only [go_sem, Nat.reduceLeDiff, Nat.reduceLT, Nat.reduceAdd, Nat.reduceMul, Nat.reduceSub, Nat.reduceEqDiff, Nat.reduceBEq, Int.reduceToNat, reduceCtorEq]
      refine ⟨_, (Option.some.inj H).symm, ?_⟩
      refine SubF_of ⟨[some 0, some 1, some 2], ?_, ?_, by rfl, by rfl⟩
      · simp [CvL, Cv, getM]
      · exact ⟨(by simp [CvB, CvL, Cv, blkAt, geth, getM]), (by simp [CvB, CvL, Cv, blkAt, geth, getM]), (by simp [CvB, CvL, Cv, blkAt, geth, getM]), trivial⟩
    · try dsimp only at H ⊢
      try simp only [m_normal, k_normal, b_normal, kL_normal, r_normal]
      refine sq ctNo_ok ?_
      simp only [go_sem, Nat.reduceLeDiff, Nat.reduceLT, Nat.reduceAdd, Nat.reduceMul, Nat.reduceSub, Nat.reduceEqDiff, Nat.reduceBEq, Int.reduceToNat, reduceCtorEq]
      repeat ((with_reducible refine And.intro ?_ ?_); focus (first | (with_reducible trivial) | omega | grind))
      refine rg ctNo_ok ?_
      simp only [go_sem, Nat.reduceLeDiff, Nat.reduceLT, Nat.reduceAdd, Nat.reduceMul, Nat.reduceSub, Nat.reduceEqDiff, Nat.reduceBEq, Int.reduceToNat, reduceCtorEq]
      obtain rfl := Option.some.inj H
      first | rfl | simp only [Bool.and_false, Bool.false_and, Bool.and_true, Bool.true_and]
  · cases hb
end Go.Proofs.Ytpnhehcncljhpaa
