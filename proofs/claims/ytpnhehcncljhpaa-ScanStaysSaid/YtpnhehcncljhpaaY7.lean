/-
  What ScanStays reaches.
-/
import Derived.Test.YtpnhehcncljhpaaY7p2
namespace Go.Proofs.Ytpnhehcncljhpaa
open Go.Am
set_option linter.unusedVariables false
set_option linter.unusedSimpArgs false
attribute [local go_sem] w_skip w_label w_goto w_scope k_goto b_goto l_goto s_normal s_exit s_ret s_goto w_region w_draw w_seq w_cond w_block w_exit w_ret w_loop k_normal k_exit k_ret b_normal b_exit b_ret l_normal l_exit l_ret m_normal m_exit m_ret m_goto kL_normal kL_exit kL_ret kS_normal kS_exit kS_ret kS_goto r_normal r_ret o_nil o_cons q_nil q_cons nxt gval gvd gvl gvw dstOf evO ogOp ogC og ogL ogP ogO rho rhoO strip optOk getL setL setT absC absV absL pO hO evLoad ldB geth seth evStore stRes stB evBox evAlloc evFieldAddr evField evIndexAddr evBin2 binI binB binNR binU nilR_isEmpty nilR_t nilR_0 nilR_s evInt evStr evUn evConv cvO evPick mrg evExtract evNil evCall mapR evBuiltin evLen2 vcells vcOk atom tabF cnd retK resFin resL resA resC resCons evBuild evBuildP placeS placeA fillA fillOk putL getP nxtQ pureC_eq pureR genC_eq genR roV roL roOb roObL roW roWL roWOb roWObL nref nrefL binA binN eqSh eqRes evIndex evIndex2 evIndexS evSlice evSlice2 evSliceS evBound evConv2 cvS evAppend appRes srcOf evMake evBuildSlice repL evFn evMin evMax freshC freshR sub_enR0 evClear evClearR evCopy evCopyR lenS cutS Bool.or_false Bool.false_or Bool.or_true Bool.true_or Bool.and_false Bool.false_and Option.map_some Option.map_none Option.getD_some Option.getD_none Option.bind_some Option.bind_none Option.or_some Option.or_none Option.none_or Option.isSome_none Option.isNone_none Option.isNone_some List.nil_append List.cons_append List.append_nil cond_true cond_false List.length_cons List.length_nil beq_self_eq_true Bool.and_true Bool.true_and Bool.not_true Bool.not_false true_and and_true and_self true_implies implies_true ne_eq not_false_eq_true Bool.false_eq_true Bool.true_eq_false false_implies Nat.lt_irrefl Nat.le_refl Nat.succ_ne_self imp_self Bool.cond_false_right Bool.cond_true_left decide_true decide_false Bool.not_eq_true' Bool.not_eq_false' Bool.not_not Nat.zero_mul Nat.zero_add Nat.add_zero Nat.mul_one Nat.one_mul Bool.cond_self tsz3 tby3 tagg3 tslice3 tarr3 tzero3 tzn3 tplaces3 tint3 tstr3 tnoint3 tbool3 tany3 tintk3 tbytes3 tsz4 tby4 tagg4 tslice4 tarr4 tzero4 tzn4 tplaces4 tint4 tstr4 tnoint4 tbool4 tany4 tintk4 tbytes4 tsz5 tby5 tagg5 tslice5 tarr5 tzero5 tzn5 tplaces5 tint5 tstr5 tnoint5 tbool5 tany5 tintk5 tbytes5 tsz9 tby9 tagg9 tslice9 tarr9 tzero9 tzn9 tplaces9 tint9 tstr9 tnoint9 tbool9 tany9 tintk9 tbytes9 tsz22 tby22 tagg22 tslice22 tarr22 tzero22 tzn22 tplaces22 tint22 tstr22 tnoint22 tbool22 tany22 tintk22 tbytes22 tsz23 tby23 tagg23 tslice23 tarr23 tzero23 tzn23 tplaces23 tint23 tstr23 tnoint23 tbool23 tany23 tintk23 tbytes23 tsz25 tby25 tagg25 tslice25 tarr25 tzero25 tzn25 tplaces25 tint25 tstr25 tnoint25 tbool25 tany25 tintk25 tbytes25 tsz26 tby26 tagg26 tslice26 tarr26 tzero26 tzn26 tplaces26 tint26 tstr26 tnoint26 tbool26 tany26 tintk26 tbytes26 tsz35 tby35 tagg35 tslice35 tarr35 tzero35 tzn35 tplaces35 tint35 tstr35 tnoint35 tbool35 tany35 tintk35 tbytes35 tsz37 tby37 tagg37 tslice37 tarr37 tzero37 tzn37 tplaces37 tint37 tstr37 tnoint37 tbool37 tany37 tintk37 tbytes37 tfld37_0 tfld37_1 tfld37_2 tfld37_3 tsz39 tby39 tagg39 tslice39 tarr39 tzero39 tzn39 tplaces39 tint39 tstr39 tnoint39 tbool39 tany39 tintk39 tbytes39 tsz41 tby41 tagg41 tslice41 tarr41 tzero41 tzn41 tplaces41 tint41 tstr41 tnoint41 tbool41 tany41 tintk41 tbytes41 tfld41_0 tsz43 tby43 tagg43 tslice43 tarr43 tzero43 tzn43 tplaces43 tint43 tstr43 tnoint43 tbool43 tany43 tintk43 tbytes43 tsz44 tby44 tagg44 tslice44 tarr44 tzero44 tzn44 tplaces44 tint44 tstr44 tnoint44 tbool44 tany44 tintk44 tbytes44 tsz45 tby45 tagg45 tslice45 tarr45 tzero45 tzn45 tplaces45 tint45 tstr45 tnoint45 tbool45 tany45 tintk45 tbytes45 tsz47 tby47 tagg47 tslice47 tarr47 tzero47 tzn47 tplaces47 tint47 tstr47 tnoint47 tbool47 tany47 tintk47 tbytes47 tfld47_0 tfld47_1 tfld47_2 tfld47_3 tsz52 tby52 tagg52 tslice52 tarr52 tzero52 tzn52 tplaces52 tint52 tstr52 tnoint52 tbool52 tany52 tintk52 tbytes52 tfld52_0 tfld52_1 tfld52_2 tfld52_3 tfld52_4 tfld52_5 tfld52_6 tfld52_7 tsz59 tby59 tagg59 tslice59 tarr59 tzero59 tzn59 tplaces59 tint59 tstr59 tnoint59 tbool59 tany59 tintk59 tbytes59 tfld59_0 tfld59_1 tfld59_2 tfld59_3 tsz65 tby65 tagg65 tslice65 tarr65 tzero65 tzn65 tplaces65 tint65 tstr65 tnoint65 tbool65 tany65 tintk65 tbytes65 tfld65_0 tfld65_1 tfld65_2 tfld65_3 tsz74 tby74 tagg74 tslice74 tarr74 tzero74 tzn74 tplaces74 tint74 tstr74 tnoint74 tbool74 tany74 tintk74 tbytes74 tsz79 tby79 tagg79 tslice79 tarr79 tzero79 tzn79 tplaces79 tint79 tstr79 tnoint79 tbool79 tany79 tintk79 tbytes79 tsz81 tby81 tagg81 tslice81 tarr81 tzero81 tzn81 tplaces81 tint81 tstr81 tnoint81 tbool81 tany81 tintk81 tbytes81 tsz88 tby88 tagg88 tslice88 tarr88 tzero88 tzn88 tplaces88 tint88 tstr88 tnoint88 tbool88 tany88 tintk88 tbytes88 tsz94 tby94 tagg94 tslice94 tarr94 tzero94 tzn94 tplaces94 tint94 tstr94 tnoint94 tbool94 tany94 tintk94 tbytes94 tsz95 tby95 tagg95 tslice95 tarr95 tzero95 tzn95 tplaces95 tint95 tstr95 tnoint95 tbool95 tany95 tintk95 tbytes95 e_u8_0 fit_u8 de_u8 g_u8 k_u8 e_i64_0 fit_i64 de_i64 g_i64 k_i64 e_b_0 fit_b de_b g_b k_b e_s_0 fit_s de_s g_s k_s e_li64_0 fit_li64 de_li64 g_li64 k_li64 e_lu8_0 fit_lu8 de_lu8 g_lu8 k_lu8 e_U4_0 e_U4_1 e_U4_2 e_U4_3 fit_U4 de_U4 g_U4 k_U4 e_lU4_0 fit_lU4 de_lU4 g_lU4 k_lU4 e_TElement_0 e_TElement_1 e_TElement_2 e_TElement_3 fit_TElement de_TElement g_TElement k_TElement eta_TElement e_lTElement_0 fit_lTElement de_lTElement g_lTElement k_lTElement e_TVisit_0 e_TVisit_1 e_TVisit_2 e_TVisit_3 fit_TVisit de_TVisit g_TVisit k_TVisit eta_TVisit e_lTVisit_0 fit_lTVisit de_lTVisit g_lTVisit k_lTVisit e_A6u8_0 e_A6u8_1 e_A6u8_2 e_A6u8_3 e_A6u8_4 e_A6u8_5 fit_A6u8 de_A6u8 g_A6u8 k_A6u8 eta_A6u8 e_TCandidate_0 e_TCandidate_1 e_TCandidate_2 e_TCandidate_3 e_TCandidate_4 e_TCandidate_5 e_TCandidate_6 e_TCandidate_7 e_TCandidate_8 e_TCandidate_9 e_TCandidate_10 e_TCandidate_11 e_TCandidate_12 fit_TCandidate de_TCandidate g_TCandidate k_TCandidate eta_TCandidate e_lTCandidate_0 fit_lTCandidate de_lTCandidate g_lTCandidate k_lTCandidate e_TCandidates_0 fit_TCandidates de_TCandidates g_TCandidates k_TCandidates eta_TCandidates e_u64_0 fit_u64 de_u64 g_u64 k_u64 e_u16_0 fit_u16 de_u16 g_u16 k_u16 e_TBeacon_0 e_TBeacon_1 e_TBeacon_2 e_TBeacon_3 fit_TBeacon de_TBeacon g_TBeacon k_TBeacon eta_TBeacon e_TWanted_0 e_TWanted_1 e_TWanted_2 e_TWanted_3 fit_TWanted de_TWanted g_TWanted k_TWanted eta_TWanted deR_0 deR_1 deR_2 deR_3 deR_4 deR_5 deR_6 deR_7 deR_8 deR_9 deR_10 deR_11 deR_12 litC_x0 litC_x1 litC_x2 litC_x3 litC_x4 litC_x5 litC_x6 litC_x7 litC_x8 litC_x9 litC_x10 litC_x11 strE_u8 Fit_0 Option.isSome_some gt_some gd_one rK rG aL aK iK bK sK lK iA bA sA lA or_true true_or Int.toNat_natCast shT_43 shT_52 shT_59 shT_65 Int.toNat_zero Int.cast_ofNat_Int
/-! hotspot/hotspotlaw28.ScanStays -/
noncomputable def ct7t0 : Ct := tab [(16, pureC body16)]
theorem ct7t0_ok : CtOk Try.prog ct7t0 := tab_cons ok16 <| tab_nil
theorem ct7t0_16 (l : List AV) (h : List ABlk) : ct7t0 16 l h = pureC body16 l h := rfl
noncomputable def ct7t1 : Ct := tab [(9, pureC body9)]
theorem ct7t1_ok : CtOk Try.prog ct7t1 := tab_cons ok9 <| tab_nil
theorem ct7t1_9 (l : List AV) (h : List ABlk) : ct7t1 9 l h = pureC body9 l h := rfl
noncomputable def ct7t2 : Ct := tab [(21, pureC body21)]
theorem ct7t2_ok : CtOk Try.prog ct7t2 := tab_cons ok21 <| tab_nil
theorem ct7t2_21 (l : List AV) (h : List ABlk) : ct7t2 21 l h = pureC body21 l h := rfl
noncomputable def ct7t3 : Ct := tab [(23, genC body23)]
theorem ct7t3_ok : CtOk Try.prog ct7t3 := tab_cons ok23 <| tab_nil
theorem ct7t3_23 (l : List AV) (h : List ABlk) : ct7t3 23 l h = genC body23 l h := rfl
noncomputable def ct7t4 : Ct := tab [(17, genC body17)]
theorem ct7t4_ok : CtOk Try.prog ct7t4 := tab_cons ok17 <| tab_nil
theorem ct7t4_17 (l : List AV) (h : List ABlk) : ct7t4 17 l h = genC body17 l h := rfl
noncomputable def ct7t5 : Ct := tab [(18, pureC body18)]
theorem ct7t5_ok : CtOk Try.prog ct7t5 := tab_cons ok18 <| tab_nil
theorem ct7t5_18 (l : List AV) (h : List ABlk) : ct7t5 18 l h = pureC body18 l h := rfl
noncomputable def ct7t6 : Ct := tab [(24, pureC body24), (25, pureC body25)]
theorem ct7t6_ok : CtOk Try.prog ct7t6 := tab_cons ok24 <| tab_cons ok25 <| tab_nil
theorem ct7t6_24 (l : List AV) (h : List ABlk) : ct7t6 24 l h = pureC body24 l h := rfl
theorem ct7t6_25 (l : List AV) (h : List ABlk) : ct7t6 25 l h = pureC body25 l h := rfl
noncomputable def F7 (p0 : TCandidates) (p1 : TWanted) (p2 : A6u8) (p3 : TBeacon) (p4 : Int) (p5 : Int) (p6 : Int) : Option (Bool) :=
  (F16).bind fun r1 => need (bif (!(bLt 63 (p0.List.length : Nat))) then ((F9 p3.Elems).isSome) else true) <| bif ((((bLt 63 (p0.List.length : Nat)) || (gt (F9 p3.Elems))) || (bLt 1000 (p1.Name.size : Nat))) || (!r1)) then (some r1) else ((F21 p0 p1 p6).bind fun r4 => bif ((!bEq r4.2 0) || (bEq r4.1.Addr.x0 p2.x0 && (bEq r4.1.Addr.x1 p2.x1 && (bEq r4.1.Addr.x2 p2.x2 && (bEq r4.1.Addr.x3 p2.x3 && (bEq r4.1.Addr.x4 p2.x4 && (bEq r4.1.Addr.x5 p2.x5))))))) then (some r1) else (bif (bLe p1.Life 1099511627776) then ((F23 p0 p6 p1.Life).bind fun r6 => (F21 r6.1 p1 p6).bind fun r8 => bif (((!bEq r6.2 0) || (!bEq r8.2 0)) || (!(bEq r8.1.Addr.x0 r4.1.Addr.x0 && (bEq r8.1.Addr.x1 r4.1.Addr.x1 && (bEq r8.1.Addr.x2 r4.1.Addr.x2 && (bEq r8.1.Addr.x3 r4.1.Addr.x3 && (bEq r8.1.Addr.x4 r4.1.Addr.x4 && (bEq r8.1.Addr.x5 r4.1.Addr.x5 && (bEq r8.1.Channel r4.1.Channel && (bEq r8.1.Level r4.1.Level && (bEq r8.1.Load r4.1.Load && (bEq r8.1.Heard r4.1.Heard && (bEq r8.1.Interval r4.1.Interval && (sEq r8.1.Name r4.1.Name && (bB r8.1.Secure r4.1.Secure))))))))))))))) then (some false) else ((F17 p0 p2 p3 p4 p5 p6).bind fun r10 => bif (!bEq r10.2 0) then (some r1) else ((F18 r10.1 p2).bind fun r12 => (F21 r10.1 p1 p6).bind fun r14 => bif ((!r12.2) || (!bEq r14.2 0)) then (some false) else ((F24 r12.1 p1 p6).bind fun r16 => need (bif r16 then ((F25 r12.1 r4.1).isSome) else true) <| bif (r16 && (gt (F25 r12.1 r4.1))) then (some (r1 && (bEq r14.1.Addr.x0 r12.1.Addr.x0 && (bEq r14.1.Addr.x1 r12.1.Addr.x1 && (bEq r14.1.Addr.x2 r12.1.Addr.x2 && (bEq r14.1.Addr.x3 r12.1.Addr.x3 && (bEq r14.1.Addr.x4 r12.1.Addr.x4 && (bEq r14.1.Addr.x5 r12.1.Addr.x5 && (bEq r14.1.Channel r12.1.Channel && (bEq r14.1.Level r12.1.Level && (bEq r14.1.Load r12.1.Load && (bEq r14.1.Heard r12.1.Heard && (bEq r14.1.Interval r12.1.Interval && (sEq r14.1.Name r12.1.Name && (bB r14.1.Secure r12.1.Secure))))))))))))))) else (some (r1 && (bEq r14.1.Addr.x0 r4.1.Addr.x0 && (bEq r14.1.Addr.x1 r4.1.Addr.x1 && (bEq r14.1.Addr.x2 r4.1.Addr.x2 && (bEq r14.1.Addr.x3 r4.1.Addr.x3 && (bEq r14.1.Addr.x4 r4.1.Addr.x4 && (bEq r14.1.Addr.x5 r4.1.Addr.x5 && (bEq r14.1.Channel r4.1.Channel && (bEq r14.1.Level r4.1.Level && (bEq r14.1.Load r4.1.Load && (bEq r14.1.Heard r4.1.Heard && (bEq r14.1.Interval r4.1.Interval && (sEq r14.1.Name r4.1.Name && (bB r14.1.Secure r4.1.Secure))))))))))))))))))) else ((F17 p0 p2 p3 p4 p5 p6).bind fun r19 => bif (!bEq r19.2 0) then (some r1) else ((F18 r19.1 p2).bind fun r21 => (F21 r19.1 p1 p6).bind fun r23 => bif ((!r21.2) || (!bEq r23.2 0)) then (some false) else ((F24 r21.1 p1 p6).bind fun r25 => need (bif r25 then ((F25 r21.1 r4.1).isSome) else true) <| bif (r25 && (gt (F25 r21.1 r4.1))) then (some (r1 && (bEq r23.1.Addr.x0 r21.1.Addr.x0 && (bEq r23.1.Addr.x1 r21.1.Addr.x1 && (bEq r23.1.Addr.x2 r21.1.Addr.x2 && (bEq r23.1.Addr.x3 r21.1.Addr.x3 && (bEq r23.1.Addr.x4 r21.1.Addr.x4 && (bEq r23.1.Addr.x5 r21.1.Addr.x5 && (bEq r23.1.Channel r21.1.Channel && (bEq r23.1.Level r21.1.Level && (bEq r23.1.Load r21.1.Load && (bEq r23.1.Heard r21.1.Heard && (bEq r23.1.Interval r21.1.Interval && (sEq r23.1.Name r21.1.Name && (bB r23.1.Secure r21.1.Secure))))))))))))))) else (some (r1 && (bEq r23.1.Addr.x0 r4.1.Addr.x0 && (bEq r23.1.Addr.x1 r4.1.Addr.x1 && (bEq r23.1.Addr.x2 r4.1.Addr.x2 && (bEq r23.1.Addr.x3 r4.1.Addr.x3 && (bEq r23.1.Addr.x4 r4.1.Addr.x4 && (bEq r23.1.Addr.x5 r4.1.Addr.x5 && (bEq r23.1.Channel r4.1.Channel && (bEq r23.1.Level r4.1.Level && (bEq r23.1.Load r4.1.Load && (bEq r23.1.Heard r4.1.Heard && (bEq r23.1.Interval r4.1.Interval && (sEq r23.1.Name r4.1.Name && (bB r23.1.Secure r4.1.Secure))))))))))))))))))))
noncomputable def body7 : List AV → AR
  | [v0, v1, v2, v3, v4, v5, v6] => .pure (aK 1 k_TCandidates v0 ∧ aK 4 k_TWanted v1 ∧ aK 6 k_A6u8 v2 ∧ aK 4 k_TBeacon v3 ∧ iK .i64 v4 ∧ iK .i64 v5 ∧ iK .i64 v6 ∧ (F7 (g_TCandidates (aL v0)) (g_TWanted (aL v1)) (g_A6u8 (aL v2)) (g_TBeacon (aL v3)) (iA v4) (iA v5) (iA v6)).isSome = true) (.bool (gt (F7 (g_TCandidates (aL v0)) (g_TWanted (aL v1)) (g_A6u8 (aL v2)) (g_TBeacon (aL v3)) (iA v4) (iA v5) (iA v6))))
  | _ => .fail
set_option maxHeartbeats 4000000 in
set_option maxRecDepth 20000 in
theorem ok7 : FnOk Try.prog 7 (pureC body7) := by
  refine pure_fnM body7 (rs := [.tmp 14]) Try.func7 (by kernel_rfl) rfl rfl ?_
  intro l ob v hb hob
  unfold body7 at hb
  split at hb
  · rename_i v0 v1 v2 v3 v4 v5 v6
    injection hb with q1 q2; subst q1 q2
    obtain ⟨hk0, hk1, hk2, hk3, hk4, hk5, hk6, hob⟩ := hob
    obtain ⟨r, H⟩ := Option.isSome_iff_exists.1 hob
    rw [H, gt_some]
    have hw0 := wA_TCandidates hk0
    have hw1 := wA_TWanted hk1
    have hw2 := wA_A6u8 hk2
    have hw3 := wA_TBeacon hk3
    have hw4 := iK_wk hk4
    have hw5 := iK_wk hk5
    have hw6 := iK_wk hk6
    generalize g_TCandidates (aL v0) = p0 at H hw0
    generalize g_TWanted (aL v1) = p1 at H hw1
    generalize g_A6u8 (aL v2) = p2 at H hw2
    generalize g_TBeacon (aL v3) = p3 at H hw3
    generalize iA v4 = p4 at H hw4
    generalize iA v5 = p5 at H hw5
    generalize iA v6 = p6 at H hw6
    refine ⟨[.agg [.ro 13 p0.List.length false (enR c_TCandidate p0.List)], .agg [.str p1.Name, .bool p1.Secure, .int .i64 p1.Floor, .int .i64 p1.Life], .agg [.int .u8 p2.x0, .int .u8 p2.x1, .int .u8 p2.x2, .int .u8 p2.x3, .int .u8 p2.x4, .int .u8 p2.x5], .agg [.int .u64 p3.Time, .int .u16 p3.Interval, .int .u16 p3.Caps, .ro 4 p3.Elems.length false (enR c_TElement p3.Elems)], .int .i64 p4, .int .i64 p5, .int .i64 p6], _, (fun E vs F => FR_wk1 hw0.1 F (fun vs F => FR_wk1 hw1.1 F (fun vs F => FR_wk1 hw2.1 F (fun vs F => FR_wk1 hw3.1 F (fun vs F => FR_wk1 hw4.1 F (fun vs F => FR_wk1 hw5.1 F (fun vs F => FR_wk1 hw6.1 F (fun vs F => F)))))))), rfl, rfl, ?_⟩
    rw [Try.ntmps7]
    simp only [List.length_cons, List.length_nil, Nat.reduceAdd, Nat.reduceSub, List.replicate_succ, List.replicate_zero, List.cons_append, List.nil_append]
    unfold F7 at H
    try dsimp only at H
    refine sq ctNo_ok ?_
    simp only [go_sem, Nat.reduceLeDiff, Nat.reduceLT, Nat.reduceAdd, Nat.reduceMul, Nat.reduceSub, Nat.reduceEqDiff, Nat.reduceBEq, Int.reduceToNat, reduceCtorEq]
    refine seqM ?_
    obtain ⟨r1, e2, H⟩ := Option.bind_eq_some_iff.1 H
    refine rg ct7t0_ok ?_
    simp only [go_sem, Nat.reduceLeDiff, Nat.reduceLT, Nat.reduceAdd, Nat.reduceMul, Nat.reduceSub, Nat.reduceEqDiff, Nat.reduceBEq, Int.reduceToNat, reduceCtorEq, ct7t0_16, body16, e2]
    repeat ((with_reducible refine And.intro ?_ ?_); focus (first | (with_reducible trivial) | omega | (and_intros <;> first | (with_reducible trivial) | omega | assumption | exact nfc | first | exact rfl | exact trivial | exact fitI | exact Or.inr rfl | exact Or.inl rfl | exact fun x hx => absurd hx (by omega) | (intro x hx; (repeat (first | (and_intros <;> (first | exact rfl | exact trivial | exact fitI | exact Or.inr rfl | exact Or.inl rfl | exact fun x hx => absurd hx (by omega))) | (exfalso; omega) | (rcases x with _ | x))); done)) | grind))
    refine seqM ?_
    refine seqM ?_
    obtain ⟨f3, H⟩ := need_some.1 H
    replace f3 := g_iff.1 f3
    refine rg ct7t1_ok ?_
    simp only [go_sem, Nat.reduceLeDiff, Nat.reduceLT, Nat.reduceAdd, Nat.reduceMul, Nat.reduceSub, Nat.reduceEqDiff, Nat.reduceBEq, Int.reduceToNat, reduceCtorEq, ct7t1_9, body9]
    repeat ((with_reducible refine And.intro ?_ ?_); focus (first | (with_reducible trivial) | omega | exact f3 | (intro g; have q := f3 (by first | exact g | simpa using g); first | exact q | exact ⟨q.1, q.2.1⟩ | exact q.2.2 | omega | exact ⟨g, q⟩ | exact ⟨trivial, q⟩) | (intro g; and_intros <;> first | (with_reducible trivial) | assumption | exact f3 g | exact nfc) | (and_intros <;> first | (with_reducible trivial) | omega | assumption | exact nfc | first | exact rfl | exact trivial | exact fitI | exact Or.inr rfl | exact Or.inl rfl | exact fun x hx => absurd hx (by omega) | (intro x hx; (repeat (first | (and_intros <;> (first | exact rfl | exact trivial | exact fitI | exact Or.inr rfl | exact Or.inl rfl | exact fun x hx => absurd hx (by omega))) | (exfalso; omega) | (rcases x with _ | x))); done)) | grind))
    refine condM rfl trivial (fun hc => ?_) (fun hc => ?_)
    · replace H := cond_t hc H
      refine sq ctNo_ok ?_
      simp only [go_sem, Nat.reduceLeDiff, Nat.reduceLT, Nat.reduceAdd, Nat.reduceMul, Nat.reduceSub, Nat.reduceEqDiff, Nat.reduceBEq, Int.reduceToNat, reduceCtorEq]
      refine rg ctNo_ok ?_
      simp only [go_sem, Nat.reduceLeDiff, Nat.reduceLT, Nat.reduceAdd, Nat.reduceMul, Nat.reduceSub, Nat.reduceEqDiff, Nat.reduceBEq, Int.reduceToNat, reduceCtorEq]
      obtain rfl := Option.some.inj H
      first | rfl | simp only [Bool.and_false, Bool.false_and, Bool.and_true, Bool.true_and]
    replace H := cond_f hc H
    refine rg ctNo_ok ?_
    simp only [go_sem, Nat.reduceLeDiff, Nat.reduceLT, Nat.reduceAdd, Nat.reduceMul, Nat.reduceSub, Nat.reduceEqDiff, Nat.reduceBEq, Int.reduceToNat, reduceCtorEq]
    refine seqM ?_
    obtain ⟨r4, e5, H⟩ := Option.bind_eq_some_iff.1 H
    refine rg ct7t2_ok ?_
    simp only [go_sem, Nat.reduceLeDiff, Nat.reduceLT, Nat.reduceAdd, Nat.reduceMul, Nat.reduceSub, Nat.reduceEqDiff, Nat.reduceBEq, Int.reduceToNat, reduceCtorEq, ct7t2_21, body21, e5]
    repeat ((with_reducible refine And.intro ?_ ?_); focus (first | (with_reducible trivial) | omega | (and_intros <;> first | (with_reducible trivial) | omega | assumption | exact nfc | first | exact rfl | exact trivial | exact fitI | exact Or.inr rfl | exact Or.inl rfl | exact fun x hx => absurd hx (by omega) | (intro x hx; (repeat (first | (and_intros <;> (first | exact rfl | exact trivial | exact fitI | exact Or.inr rfl | exact Or.inl rfl | exact fun x hx => absurd hx (by omega))) | (exfalso; omega) | (rcases x with _ | x))); done)) | grind))
    refine seqM ?_
    refine sq ctNo_ok ?_
    simp only [go_sem, Nat.reduceLeDiff, Nat.reduceLT, Nat.reduceAdd, Nat.reduceMul, Nat.reduceSub, Nat.reduceEqDiff, Nat.reduceBEq, Int.reduceToNat, reduceCtorEq]
    repeat ((with_reducible refine And.intro ?_ ?_); focus (first | (with_reducible trivial) | omega | grind))
    refine condM rfl trivial (fun hc => ?_) (fun hc => ?_)
    · replace H := cond_t hc H
      refine sq ctNo_ok ?_
      simp only [go_sem, Nat.reduceLeDiff, Nat.reduceLT, Nat.reduceAdd, Nat.reduceMul, Nat.reduceSub, Nat.reduceEqDiff, Nat.reduceBEq, Int.reduceToNat, reduceCtorEq]
      refine rg ctNo_ok ?_
      simp only [go_sem, Nat.reduceLeDiff, Nat.reduceLT, Nat.reduceAdd, Nat.reduceMul, Nat.reduceSub, Nat.reduceEqDiff, Nat.reduceBEq, Int.reduceToNat, reduceCtorEq]
      obtain rfl := Option.some.inj H
      first | rfl | simp only [Bool.and_false, Bool.false_and, Bool.and_true, Bool.true_and]
    replace H := cond_f hc H
    refine rg ctNo_ok ?_
    simp only [go_sem, Nat.reduceLeDiff, Nat.reduceLT, Nat.reduceAdd, Nat.reduceMul, Nat.reduceSub, Nat.reduceEqDiff, Nat.reduceBEq, Int.reduceToNat, reduceCtorEq]
    refine seqM ?_
    refine sq ctNo_ok ?_
    simp only [go_sem, Nat.reduceLeDiff, Nat.reduceLT, Nat.reduceAdd, Nat.reduceMul, Nat.reduceSub, Nat.reduceEqDiff, Nat.reduceBEq, Int.reduceToNat, reduceCtorEq]
    refine condM' rfl trivial (fun hc => ?_) (fun hc => ?_)
    · replace H := cond_f hc H
      refine rg ctNo_ok ?_
      simp only [go_sem, Nat.reduceLeDiff, Nat.reduceLT, Nat.reduceAdd, Nat.reduceMul, Nat.reduceSub, Nat.reduceEqDiff, Nat.reduceBEq, Int.reduceToNat, reduceCtorEq]
      refine seqM ?_
      obtain ⟨r19, e20, H⟩ := Option.bind_eq_some_iff.1 H
      refine rg ct7t4_ok ?_
      simp only [go_sem, Nat.reduceLeDiff, Nat.reduceLT, Nat.reduceAdd, Nat.reduceMul, Nat.reduceSub, Nat.reduceEqDiff, Nat.reduceBEq, Int.reduceToNat, reduceCtorEq, ct7t4_17, body17, e20]
      repeat ((with_reducible refine And.intro ?_ ?_); focus (first | (with_reducible trivial) | omega | (and_intros <;> first | (with_reducible trivial) | omega | assumption | exact nfc | first | exact rfl | exact trivial | exact fitI | exact Or.inr rfl | exact Or.inl rfl | exact fun x hx => absurd hx (by omega) | (intro x hx; (repeat (first | (and_intros <;> (first | exact rfl | exact trivial | exact fitI | exact Or.inr rfl | exact Or.inl rfl | exact fun x hx => absurd hx (by omega))) | (exfalso; omega) | (rcases x with _ | x))); done)) | grind))
      refine seqM ?_
      refine sq ctNo_ok ?_
      simp only [go_sem, Nat.reduceLeDiff, Nat.reduceLT, Nat.reduceAdd, Nat.reduceMul, Nat.reduceSub, Nat.reduceEqDiff, Nat.reduceBEq, Int.reduceToNat, reduceCtorEq]
      refine condM rfl trivial (fun hc => ?_) (fun hc => ?_)
      · replace H := cond_t hc H
        refine sq ctNo_ok ?_
        simp only [go_sem, Nat.reduceLeDiff, Nat.reduceLT, Nat.reduceAdd, Nat.reduceMul, Nat.reduceSub, Nat.reduceEqDiff, Nat.reduceBEq, Int.reduceToNat, reduceCtorEq]
        refine rg ctNo_ok ?_
        simp only [go_sem, Nat.reduceLeDiff, Nat.reduceLT, Nat.reduceAdd, Nat.reduceMul, Nat.reduceSub, Nat.reduceEqDiff, Nat.reduceBEq, Int.reduceToNat, reduceCtorEq]
        obtain rfl := Option.some.inj H
        first | rfl | simp only [Bool.and_false, Bool.false_and, Bool.and_true, Bool.true_and]
      replace H := cond_f hc H
      refine rg ctNo_ok ?_
      simp only [go_sem, Nat.reduceLeDiff, Nat.reduceLT, Nat.reduceAdd, Nat.reduceMul, Nat.reduceSub, Nat.reduceEqDiff, Nat.reduceBEq, Int.reduceToNat, reduceCtorEq]
      refine seqM ?_
      obtain ⟨r21, e22, H⟩ := Option.bind_eq_some_iff.1 H
      refine rg ct7t5_ok ?_
      simp only [go_sem, Nat.reduceLeDiff, Nat.reduceLT, Nat.reduceAdd, Nat.reduceMul, Nat.reduceSub, Nat.reduceEqDiff, Nat.reduceBEq, Int.reduceToNat, reduceCtorEq, ct7t5_18, body18, e22]
      repeat ((with_reducible refine And.intro ?_ ?_); focus (first | (with_reducible trivial) | omega | (and_intros <;> first | (with_reducible trivial) | omega | assumption | exact nfc | first | exact rfl | exact trivial | exact fitI | exact Or.inr rfl | exact Or.inl rfl | exact fun x hx => absurd hx (by omega) | (intro x hx; (repeat (first | (and_intros <;> (first | exact rfl | exact trivial | exact fitI | exact Or.inr rfl | exact Or.inl rfl | exact fun x hx => absurd hx (by omega))) | (exfalso; omega) | (rcases x with _ | x))); done)) | grind))
      refine seqM ?_
      obtain ⟨r23, e24, H⟩ := Option.bind_eq_some_iff.1 H
      refine rg ct7t2_ok ?_
      simp only [go_sem, Nat.reduceLeDiff, Nat.reduceLT, Nat.reduceAdd, Nat.reduceMul, Nat.reduceSub, Nat.reduceEqDiff, Nat.reduceBEq, Int.reduceToNat, reduceCtorEq, ct7t2_21, body21, e24]
      repeat ((with_reducible refine And.intro ?_ ?_); focus (first | (with_reducible trivial) | omega | (and_intros <;> first | (with_reducible trivial) | omega | assumption | exact nfc | first | exact rfl | exact trivial | exact fitI | exact Or.inr rfl | exact Or.inl rfl | exact fun x hx => absurd hx (by omega) | (intro x hx; (repeat (first | (and_intros <;> (first | exact rfl | exact trivial | exact fitI | exact Or.inr rfl | exact Or.inl rfl | exact fun x hx => absurd hx (by omega))) | (exfalso; omega) | (rcases x with _ | x))); done)) | grind))
      refine seqM ?_
      refine sq ctNo_ok ?_
      simp only [go_sem, Nat.reduceLeDiff, Nat.reduceLT, Nat.reduceAdd, Nat.reduceMul, Nat.reduceSub, Nat.reduceEqDiff, Nat.reduceBEq, Int.reduceToNat, reduceCtorEq]
      repeat ((with_reducible refine And.intro ?_ ?_); focus (first | (with_reducible trivial) | omega | grind))
      refine condM rfl trivial (fun hc => ?_) (fun hc => ?_)
      · replace H := cond_t hc H
        refine sq ctNo_ok ?_
        simp only [go_sem, Nat.reduceLeDiff, Nat.reduceLT, Nat.reduceAdd, Nat.reduceMul, Nat.reduceSub, Nat.reduceEqDiff, Nat.reduceBEq, Int.reduceToNat, reduceCtorEq]
        refine rg ctNo_ok ?_
        simp only [go_sem, Nat.reduceLeDiff, Nat.reduceLT, Nat.reduceAdd, Nat.reduceMul, Nat.reduceSub, Nat.reduceEqDiff, Nat.reduceBEq, Int.reduceToNat, reduceCtorEq]
        obtain rfl := Option.some.inj H
        first | rfl | simp only [Bool.and_false, Bool.false_and, Bool.and_true, Bool.true_and]
      replace H := cond_f hc H
      refine rg ctNo_ok ?_
      simp only [go_sem, Nat.reduceLeDiff, Nat.reduceLT, Nat.reduceAdd, Nat.reduceMul, Nat.reduceSub, Nat.reduceEqDiff, Nat.reduceBEq, Int.reduceToNat, reduceCtorEq]
      refine seqM ?_
      refine seqM ?_
      obtain ⟨r25, e26, H⟩ := Option.bind_eq_some_iff.1 H
      obtain ⟨f27, H⟩ := need_some.1 H
      replace f27 := g_iff.1 f27
      refine rg ct7t6_ok ?_
      simp only [go_sem, Nat.reduceLeDiff, Nat.reduceLT, Nat.reduceAdd, Nat.reduceMul, Nat.reduceSub, Nat.reduceEqDiff, Nat.reduceBEq, Int.reduceToNat, reduceCtorEq, ct7t6_24, body24, ct7t6_25, body25, e26]
      repeat ((with_reducible refine And.intro ?_ ?_); focus (first | (with_reducible trivial) | omega | exact f27 | (intro g; have q := f27 (by first | exact g | simpa using g); first | exact q | exact ⟨q.1, q.2.1⟩ | exact q.2.2 | omega | exact ⟨g, q⟩ | exact ⟨trivial, q⟩) | (intro g; and_intros <;> first | (with_reducible trivial) | assumption | exact f27 g | exact nfc) | (and_intros <;> first | (with_reducible trivial) | omega | assumption | exact nfc | first | exact rfl | exact trivial | exact fitI | exact Or.inr rfl | exact Or.inl rfl | exact fun x hx => absurd hx (by omega) | (intro x hx; (repeat (first | (and_intros <;> (first | exact rfl | exact trivial | exact fitI | exact Or.inr rfl | exact Or.inl rfl | exact fun x hx => absurd hx (by omega))) | (exfalso; omega) | (rcases x with _ | x))); done)) | grind))
      refine condM rfl trivial (fun hc => ?_) (fun hc => ?_)
      · replace H := cond_t hc H
        refine sq ctNo_ok ?_
        simp only [go_sem, Nat.reduceLeDiff, Nat.reduceLT, Nat.reduceAdd, Nat.reduceMul, Nat.reduceSub, Nat.reduceEqDiff, Nat.reduceBEq, Int.reduceToNat, reduceCtorEq]
        repeat ((with_reducible refine And.intro ?_ ?_); focus (first | (with_reducible trivial) | omega | grind))
        refine rg ctNo_ok ?_
        simp only [go_sem, Nat.reduceLeDiff, Nat.reduceLT, Nat.reduceAdd, Nat.reduceMul, Nat.reduceSub, Nat.reduceEqDiff, Nat.reduceBEq, Int.reduceToNat, reduceCtorEq]
        obtain rfl := Option.some.inj H
        first | rfl | simp only [Bool.and_false, Bool.false_and, Bool.and_true, Bool.true_and]
      replace H := cond_f hc H
      refine rg ctNo_ok ?_
      simp only [go_sem, Nat.reduceLeDiff, Nat.reduceLT, Nat.reduceAdd, Nat.reduceMul, Nat.reduceSub, Nat.reduceEqDiff, Nat.reduceBEq, Int.reduceToNat, reduceCtorEq]
      refine sq ctNo_ok ?_
      simp only [go_sem, Nat.reduceLeDiff, Nat.reduceLT, Nat.reduceAdd, Nat.reduceMul, Nat.reduceSub, Nat.reduceEqDiff, Nat.reduceBEq, Int.reduceToNat, reduceCtorEq]
      repeat ((with_reducible refine And.intro ?_ ?_); focus (first | (with_reducible trivial) | omega | grind))
      refine rg ctNo_ok ?_
      simp only [go_sem, Nat.reduceLeDiff, Nat.reduceLT, Nat.reduceAdd, Nat.reduceMul, Nat.reduceSub, Nat.reduceEqDiff, Nat.reduceBEq, Int.reduceToNat, reduceCtorEq]
      obtain rfl := Option.some.inj H
      first | rfl | simp only [Bool.and_false, Bool.false_and, Bool.and_true, Bool.true_and]
    replace H := cond_t hc H
    refine seqM ?_
    obtain ⟨r6, e7, H⟩ := Option.bind_eq_some_iff.1 H
    refine rg ct7t3_ok ?_
    simp only [go_sem, Nat.reduceLeDiff, Nat.reduceLT, Nat.reduceAdd, Nat.reduceMul, Nat.reduceSub, Nat.reduceEqDiff, Nat.reduceBEq, Int.reduceToNat, reduceCtorEq, ct7t3_23, body23, e7]
    repeat ((with_reducible refine And.intro ?_ ?_); focus (first | (with_reducible trivial) | omega | (and_intros <;> first | (with_reducible trivial) | omega | assumption | exact nfc | first | exact rfl | exact trivial | exact fitI | exact Or.inr rfl | exact Or.inl rfl | exact fun x hx => absurd hx (by omega) | (intro x hx; (repeat (first | (and_intros <;> (first | exact rfl | exact trivial | exact fitI | exact Or.inr rfl | exact Or.inl rfl | exact fun x hx => absurd hx (by omega))) | (exfalso; omega) | (rcases x with _ | x))); done)) | grind))
    refine seqM ?_
    obtain ⟨r8, e9, H⟩ := Option.bind_eq_some_iff.1 H
    refine rg ct7t2_ok ?_
    simp only [go_sem, Nat.reduceLeDiff, Nat.reduceLT, Nat.reduceAdd, Nat.reduceMul, Nat.reduceSub, Nat.reduceEqDiff, Nat.reduceBEq, Int.reduceToNat, reduceCtorEq, ct7t2_21, body21, e9]
    repeat ((with_reducible refine And.intro ?_ ?_); focus (first | (with_reducible trivial) | omega | (and_intros <;> first | (with_reducible trivial) | omega | assumption | exact nfc | first | exact rfl | exact trivial | exact fitI | exact Or.inr rfl | exact Or.inl rfl | exact fun x hx => absurd hx (by omega) | (intro x hx; (repeat (first | (and_intros <;> (first | exact rfl | exact trivial | exact fitI | exact Or.inr rfl | exact Or.inl rfl | exact fun x hx => absurd hx (by omega))) | (exfalso; omega) | (rcases x with _ | x))); done)) | grind))
    refine sq ctNo_ok ?_
    simp only [go_sem, Nat.reduceLeDiff, Nat.reduceLT, Nat.reduceAdd, Nat.reduceMul, Nat.reduceSub, Nat.reduceEqDiff, Nat.reduceBEq, Int.reduceToNat, reduceCtorEq]
    repeat ((with_reducible refine And.intro ?_ ?_); focus (first | (with_reducible trivial) | omega | grind))
    refine condM rfl trivial (fun hc => ?_) (fun hc => ?_)
    · replace H := cond_t hc H
      refine sq ctNo_ok ?_
      simp only [go_sem, Nat.reduceLeDiff, Nat.reduceLT, Nat.reduceAdd, Nat.reduceMul, Nat.reduceSub, Nat.reduceEqDiff, Nat.reduceBEq, Int.reduceToNat, reduceCtorEq]
      refine rg ctNo_ok ?_
      simp only [go_sem, Nat.reduceLeDiff, Nat.reduceLT, Nat.reduceAdd, Nat.reduceMul, Nat.reduceSub, Nat.reduceEqDiff, Nat.reduceBEq, Int.reduceToNat, reduceCtorEq]
      obtain rfl := Option.some.inj H
      first | rfl | simp only [Bool.and_false, Bool.false_and, Bool.and_true, Bool.true_and]
    replace H := cond_f hc H
    refine rg ctNo_ok ?_
    simp only [go_sem, Nat.reduceLeDiff, Nat.reduceLT, Nat.reduceAdd, Nat.reduceMul, Nat.reduceSub, Nat.reduceEqDiff, Nat.reduceBEq, Int.reduceToNat, reduceCtorEq]
    refine seqM ?_
    obtain ⟨r10, e11, H⟩ := Option.bind_eq_some_iff.1 H
    refine rg ct7t4_ok ?_
    simp only [go_sem, Nat.reduceLeDiff, Nat.reduceLT, Nat.reduceAdd, Nat.reduceMul, Nat.reduceSub, Nat.reduceEqDiff, Nat.reduceBEq, Int.reduceToNat, reduceCtorEq, ct7t4_17, body17, e11]
    repeat ((with_reducible refine And.intro ?_ ?_); focus (first | (with_reducible trivial) | omega | (and_intros <;> first | (with_reducible trivial) | omega | assumption | exact nfc | first | exact rfl | exact trivial | exact fitI | exact Or.inr rfl | exact Or.inl rfl | exact fun x hx => absurd hx (by omega) | (intro x hx; (repeat (first | (and_intros <;> (first | exact rfl | exact trivial | exact fitI | exact Or.inr rfl | exact Or.inl rfl | exact fun x hx => absurd hx (by omega))) | (exfalso; omega) | (rcases x with _ | x))); done)) | grind))
    refine seqM ?_
    refine sq ctNo_ok ?_
    simp only [go_sem, Nat.reduceLeDiff, Nat.reduceLT, Nat.reduceAdd, Nat.reduceMul, Nat.reduceSub, Nat.reduceEqDiff, Nat.reduceBEq, Int.reduceToNat, reduceCtorEq]
    refine condM rfl trivial (fun hc => ?_) (fun hc => ?_)
    · replace H := cond_t hc H
      refine sq ctNo_ok ?_
      simp only [go_sem, Nat.reduceLeDiff, Nat.reduceLT, Nat.reduceAdd, Nat.reduceMul, Nat.reduceSub, Nat.reduceEqDiff, Nat.reduceBEq, Int.reduceToNat, reduceCtorEq]
      refine rg ctNo_ok ?_
      simp only [go_sem, Nat.reduceLeDiff, Nat.reduceLT, Nat.reduceAdd, Nat.reduceMul, Nat.reduceSub, Nat.reduceEqDiff, Nat.reduceBEq, Int.reduceToNat, reduceCtorEq]
      obtain rfl := Option.some.inj H
      first | rfl | simp only [Bool.and_false, Bool.false_and, Bool.and_true, Bool.true_and]
    replace H := cond_f hc H
    refine rg ctNo_ok ?_
    simp only [go_sem, Nat.reduceLeDiff, Nat.reduceLT, Nat.reduceAdd, Nat.reduceMul, Nat.reduceSub, Nat.reduceEqDiff, Nat.reduceBEq, Int.reduceToNat, reduceCtorEq]
    refine seqM ?_
    obtain ⟨r12, e13, H⟩ := Option.bind_eq_some_iff.1 H
    refine rg ct7t5_ok ?_
    simp only [go_sem, Nat.reduceLeDiff, Nat.reduceLT, Nat.reduceAdd, Nat.reduceMul, Nat.reduceSub, Nat.reduceEqDiff, Nat.reduceBEq, Int.reduceToNat, reduceCtorEq, ct7t5_18, body18, e13]
    repeat ((with_reducible refine And.intro ?_ ?_); focus (first | (with_reducible trivial) | omega | (and_intros <;> first | (with_reducible trivial) | omega | assumption | exact nfc | first | exact rfl | exact trivial | exact fitI | exact Or.inr rfl | exact Or.inl rfl | exact fun x hx => absurd hx (by omega) | (intro x hx; (repeat (first | (and_intros <;> (first | exact rfl | exact trivial | exact fitI | exact Or.inr rfl | exact Or.inl rfl | exact fun x hx => absurd hx (by omega))) | (exfalso; omega) | (rcases x with _ | x))); done)) | grind))
    refine seqM ?_
    obtain ⟨r14, e15, H⟩ := Option.bind_eq_some_iff.1 H
    refine rg ct7t2_ok ?_
    simp only [go_sem, Nat.reduceLeDiff, Nat.reduceLT, Nat.reduceAdd, Nat.reduceMul, Nat.reduceSub, Nat.reduceEqDiff, Nat.reduceBEq, Int.reduceToNat, reduceCtorEq, ct7t2_21, body21, e15]
    repeat ((with_reducible refine And.intro ?_ ?_); focus (first | (with_reducible trivial) | omega | (and_intros <;> first | (with_reducible trivial) | omega | assumption | exact nfc | first | exact rfl | exact trivial | exact fitI | exact Or.inr rfl | exact Or.inl rfl | exact fun x hx => absurd hx (by omega) | (intro x hx; (repeat (first | (and_intros <;> (first | exact rfl | exact trivial | exact fitI | exact Or.inr rfl | exact Or.inl rfl | exact fun x hx => absurd hx (by omega))) | (exfalso; omega) | (rcases x with _ | x))); done)) | grind))
    refine seqM ?_
    refine sq ctNo_ok ?_
    simp only [go_sem, Nat.reduceLeDiff, Nat.reduceLT, Nat.reduceAdd, Nat.reduceMul, Nat.reduceSub, Nat.reduceEqDiff, Nat.reduceBEq, Int.reduceToNat, reduceCtorEq]
    repeat ((with_reducible refine And.intro ?_ ?_); focus (first | (with_reducible trivial) | omega | grind))
    refine condM rfl trivial (fun hc => ?_) (fun hc => ?_)
    · replace H := cond_t hc H
      refine sq ctNo_ok ?_
      simp only [go_sem, Nat.reduceLeDiff, Nat.reduceLT, Nat.reduceAdd, Nat.reduceMul, Nat.reduceSub, Nat.reduceEqDiff, Nat.reduceBEq, Int.reduceToNat, reduceCtorEq]
      refine rg ctNo_ok ?_
      simp only [go_sem, Nat.reduceLeDiff, Nat.reduceLT, Nat.reduceAdd, Nat.reduceMul, Nat.reduceSub, Nat.reduceEqDiff, Nat.reduceBEq, Int.reduceToNat, reduceCtorEq]
      obtain rfl := Option.some.inj H
      first | rfl | simp only [Bool.and_false, Bool.false_and, Bool.and_true, Bool.true_and]
    replace H := cond_f hc H
    refine rg ctNo_ok ?_
    simp only [go_sem, Nat.reduceLeDiff, Nat.reduceLT, Nat.reduceAdd, Nat.reduceMul, Nat.reduceSub, Nat.reduceEqDiff, Nat.reduceBEq, Int.reduceToNat, reduceCtorEq]
    refine seqM ?_
    refine seqM ?_
    obtain ⟨r16, e17, H⟩ := Option.bind_eq_some_iff.1 H
    obtain ⟨f18, H⟩ := need_some.1 H
    replace f18 := g_iff.1 f18
    refine rg ct7t6_ok ?_
    simp only [go_sem, Nat.reduceLeDiff, Nat.reduceLT, Nat.reduceAdd, Nat.reduceMul, Nat.reduceSub, Nat.reduceEqDiff, Nat.reduceBEq, Int.reduceToNat, reduceCtorEq, ct7t6_24, body24, ct7t6_25, body25, e17]
    repeat ((with_reducible refine And.intro ?_ ?_); focus (first | (with_reducible trivial) | omega | exact f18 | (intro g; have q := f18 (by first | exact g | simpa using g); first | exact q | exact ⟨q.1, q.2.1⟩ | exact q.2.2 | omega | exact ⟨g, q⟩ | exact ⟨trivial, q⟩) | (intro g; and_intros <;> first | (with_reducible trivial) | assumption | exact f18 g | exact nfc) | (and_intros <;> first | (with_reducible trivial) | omega | assumption | exact nfc | first | exact rfl | exact trivial | exact fitI | exact Or.inr rfl | exact Or.inl rfl | exact fun x hx => absurd hx (by omega) | (intro x hx; (repeat (first | (and_intros <;> (first | exact rfl | exact trivial | exact fitI | exact Or.inr rfl | exact Or.inl rfl | exact fun x hx => absurd hx (by omega))) | (exfalso; omega) | (rcases x with _ | x))); done)) | grind))
    refine condM rfl trivial (fun hc => ?_) (fun hc => ?_)
    · replace H := cond_t hc H
      refine sq ctNo_ok ?_
      simp only [go_sem, Nat.reduceLeDiff, Nat.reduceLT, Nat.reduceAdd, Nat.reduceMul, Nat.reduceSub, Nat.reduceEqDiff, Nat.reduceBEq, Int.reduceToNat, reduceCtorEq]
      repeat ((with_reducible refine And.intro ?_ ?_); focus (first | (with_reducible trivial) | omega | grind))
      refine rg ctNo_ok ?_
      simp only [go_sem, Nat.reduceLeDiff, Nat.reduceLT, Nat.reduceAdd, Nat.reduceMul, Nat.reduceSub, Nat.reduceEqDiff, Nat.reduceBEq, Int.reduceToNat, reduceCtorEq]
      obtain rfl := Option.some.inj H
      first | rfl | simp only [Bool.and_false, Bool.false_and, Bool.and_true, Bool.true_and]
    replace H := cond_f hc H
    refine rg ctNo_ok ?_
    simp only [go_sem, Nat.reduceLeDiff, Nat.reduceLT, Nat.reduceAdd, Nat.reduceMul, Nat.reduceSub, Nat.reduceEqDiff, Nat.reduceBEq, Int.reduceToNat, reduceCtorEq]
    refine sq ctNo_ok ?_
    simp only [go_sem, Nat.reduceLeDiff, Nat.reduceLT, Nat.reduceAdd, Nat.reduceMul, Nat.reduceSub, Nat.reduceEqDiff, Nat.reduceBEq, Int.reduceToNat, reduceCtorEq]
    repeat ((with_reducible refine And.intro ?_ ?_); focus (first | (with_reducible trivial) | omega | grind))
    refine rg ctNo_ok ?_
    simp only [go_sem, Nat.reduceLeDiff, Nat.reduceLT, Nat.reduceAdd, Nat.reduceMul, Nat.reduceSub, Nat.reduceEqDiff, Nat.reduceBEq, Int.reduceToNat, reduceCtorEq]
    obtain rfl := Option.some.inj H
    first | rfl | simp only [Bool.and_false, Bool.false_and, Bool.and_true, Bool.true_and]
  · cases hb
end Go.Proofs.Ytpnhehcncljhpaa
