/-
  What ScanKeeps reaches.
-/
import Derived.Test.YtpnhehcncljhpaaY4p1
namespace Go.Proofs.Ytpnhehcncljhpaa
open Go.Am
set_option linter.unusedVariables false
set_option linter.unusedSimpArgs false
attribute [local go_sem] w_skip w_label w_goto w_scope k_goto b_goto l_goto s_normal s_exit s_ret s_goto w_region w_draw w_seq w_cond w_block w_exit w_ret w_loop k_normal k_exit k_ret b_normal b_exit b_ret l_normal l_exit l_ret m_normal m_exit m_ret m_goto kL_normal kL_exit kL_ret kS_normal kS_exit kS_ret kS_goto r_normal r_ret o_nil o_cons q_nil q_cons nxt gval gvd gvl gvw dstOf evO ogOp ogC og ogL ogP ogO rho rhoO strip optOk getL setL setT absC absV absL pO hO evLoad ldB geth seth evStore stRes stB evBox evAlloc evFieldAddr evField evIndexAddr evBin2 binI binB binNR binU nilR_isEmpty nilR_t nilR_0 nilR_s evInt evStr evUn evConv cvO evPick mrg evExtract evNil evCall mapR evBuiltin evLen2 vcells vcOk atom tabF cnd retK resFin resL resA resC resCons evBuild evBuildP placeS placeA fillA fillOk putL getP nxtQ pureC_eq pureR genC_eq genR roV roL roOb roObL roW roWL roWOb roWObL nref nrefL binA binN eqSh eqRes evIndex evIndex2 evIndexS evSlice evSlice2 evSliceS evBound evConv2 cvS evAppend appRes srcOf evMake evBuildSlice repL evFn evMin evMax freshC freshR sub_enR0 evClear evClearR evCopy evCopyR lenS cutS Bool.or_false Bool.false_or Bool.or_true Bool.true_or Bool.and_false Bool.false_and Option.map_some Option.map_none Option.getD_some Option.getD_none Option.bind_some Option.bind_none Option.or_some Option.or_none Option.none_or Option.isSome_none Option.isNone_none Option.isNone_some List.nil_append List.cons_append List.append_nil cond_true cond_false List.length_cons List.length_nil beq_self_eq_true Bool.and_true Bool.true_and Bool.not_true Bool.not_false true_and and_true and_self true_implies implies_true ne_eq not_false_eq_true Bool.false_eq_true Bool.true_eq_false false_implies Nat.lt_irrefl Nat.le_refl Nat.succ_ne_self imp_self Bool.cond_false_right Bool.cond_true_left decide_true decide_false Bool.not_eq_true' Bool.not_eq_false' Bool.not_not Nat.zero_mul Nat.zero_add Nat.add_zero Nat.mul_one Nat.one_mul Bool.cond_self tsz3 tby3 tagg3 tslice3 tarr3 tzero3 tzn3 tplaces3 tint3 tstr3 tnoint3 tbool3 tany3 tintk3 tbytes3 tsz4 tby4 tagg4 tslice4 tarr4 tzero4 tzn4 tplaces4 tint4 tstr4 tnoint4 tbool4 tany4 tintk4 tbytes4 tsz5 tby5 tagg5 tslice5 tarr5 tzero5 tzn5 tplaces5 tint5 tstr5 tnoint5 tbool5 tany5 tintk5 tbytes5 tsz9 tby9 tagg9 tslice9 tarr9 tzero9 tzn9 tplaces9 tint9 tstr9 tnoint9 tbool9 tany9 tintk9 tbytes9 tsz22 tby22 tagg22 tslice22 tarr22 tzero22 tzn22 tplaces22 tint22 tstr22 tnoint22 tbool22 tany22 tintk22 tbytes22 tsz23 tby23 tagg23 tslice23 tarr23 tzero23 tzn23 tplaces23 tint23 tstr23 tnoint23 tbool23 tany23 tintk23 tbytes23 tsz25 tby25 tagg25 tslice25 tarr25 tzero25 tzn25 tplaces25 tint25 tstr25 tnoint25 tbool25 tany25 tintk25 tbytes25 tsz26 tby26 tagg26 tslice26 tarr26 tzero26 tzn26 tplaces26 tint26 tstr26 tnoint26 tbool26 tany26 tintk26 tbytes26 tsz35 tby35 tagg35 tslice35 tarr35 tzero35 tzn35 tplaces35 tint35 tstr35 tnoint35 tbool35 tany35 tintk35 tbytes35 tsz37 tby37 tagg37 tslice37 tarr37 tzero37 tzn37 tplaces37 tint37 tstr37 tnoint37 tbool37 tany37 tintk37 tbytes37 tfld37_0 tfld37_1 tfld37_2 tfld37_3 tsz39 tby39 tagg39 tslice39 tarr39 tzero39 tzn39 tplaces39 tint39 tstr39 tnoint39 tbool39 tany39 tintk39 tbytes39 tsz41 tby41 tagg41 tslice41 tarr41 tzero41 tzn41 tplaces41 tint41 tstr41 tnoint41 tbool41 tany41 tintk41 tbytes41 tfld41_0 tsz43 tby43 tagg43 tslice43 tarr43 tzero43 tzn43 tplaces43 tint43 tstr43 tnoint43 tbool43 tany43 tintk43 tbytes43 tsz44 tby44 tagg44 tslice44 tarr44 tzero44 tzn44 tplaces44 tint44 tstr44 tnoint44 tbool44 tany44 tintk44 tbytes44 tsz45 tby45 tagg45 tslice45 tarr45 tzero45 tzn45 tplaces45 tint45 tstr45 tnoint45 tbool45 tany45 tintk45 tbytes45 tsz47 tby47 tagg47 tslice47 tarr47 tzero47 tzn47 tplaces47 tint47 tstr47 tnoint47 tbool47 tany47 tintk47 tbytes47 tfld47_0 tfld47_1 tfld47_2 tfld47_3 tsz52 tby52 tagg52 tslice52 tarr52 tzero52 tzn52 tplaces52 tint52 tstr52 tnoint52 tbool52 tany52 tintk52 tbytes52 tfld52_0 tfld52_1 tfld52_2 tfld52_3 tfld52_4 tfld52_5 tfld52_6 tfld52_7 tsz59 tby59 tagg59 tslice59 tarr59 tzero59 tzn59 tplaces59 tint59 tstr59 tnoint59 tbool59 tany59 tintk59 tbytes59 tfld59_0 tfld59_1 tfld59_2 tfld59_3 tsz65 tby65 tagg65 tslice65 tarr65 tzero65 tzn65 tplaces65 tint65 tstr65 tnoint65 tbool65 tany65 tintk65 tbytes65 tfld65_0 tfld65_1 tfld65_2 tfld65_3 tsz74 tby74 tagg74 tslice74 tarr74 tzero74 tzn74 tplaces74 tint74 tstr74 tnoint74 tbool74 tany74 tintk74 tbytes74 tsz79 tby79 tagg79 tslice79 tarr79 tzero79 tzn79 tplaces79 tint79 tstr79 tnoint79 tbool79 tany79 tintk79 tbytes79 tsz81 tby81 tagg81 tslice81 tarr81 tzero81 tzn81 tplaces81 tint81 tstr81 tnoint81 tbool81 tany81 tintk81 tbytes81 tsz88 tby88 tagg88 tslice88 tarr88 tzero88 tzn88 tplaces88 tint88 tstr88 tnoint88 tbool88 tany88 tintk88 tbytes88 tsz94 tby94 tagg94 tslice94 tarr94 tzero94 tzn94 tplaces94 tint94 tstr94 tnoint94 tbool94 tany94 tintk94 tbytes94 tsz95 tby95 tagg95 tslice95 tarr95 tzero95 tzn95 tplaces95 tint95 tstr95 tnoint95 tbool95 tany95 tintk95 tbytes95 e_u8_0 fit_u8 de_u8 g_u8 k_u8 e_i64_0 fit_i64 de_i64 g_i64 k_i64 e_b_0 fit_b de_b g_b k_b e_s_0 fit_s de_s g_s k_s e_li64_0 fit_li64 de_li64 g_li64 k_li64 e_lu8_0 fit_lu8 de_lu8 g_lu8 k_lu8 e_U4_0 e_U4_1 e_U4_2 e_U4_3 fit_U4 de_U4 g_U4 k_U4 e_lU4_0 fit_lU4 de_lU4 g_lU4 k_lU4 e_TElement_0 e_TElement_1 e_TElement_2 e_TElement_3 fit_TElement de_TElement g_TElement k_TElement eta_TElement e_lTElement_0 fit_lTElement de_lTElement g_lTElement k_lTElement e_TVisit_0 e_TVisit_1 e_TVisit_2 e_TVisit_3 fit_TVisit de_TVisit g_TVisit k_TVisit eta_TVisit e_lTVisit_0 fit_lTVisit de_lTVisit g_lTVisit k_lTVisit e_A6u8_0 e_A6u8_1 e_A6u8_2 e_A6u8_3 e_A6u8_4 e_A6u8_5 fit_A6u8 de_A6u8 g_A6u8 k_A6u8 eta_A6u8 e_TCandidate_0 e_TCandidate_1 e_TCandidate_2 e_TCandidate_3 e_TCandidate_4 e_TCandidate_5 e_TCandidate_6 e_TCandidate_7 e_TCandidate_8 e_TCandidate_9 e_TCandidate_10 e_TCandidate_11 e_TCandidate_12 fit_TCandidate de_TCandidate g_TCandidate k_TCandidate eta_TCandidate e_lTCandidate_0 fit_lTCandidate de_lTCandidate g_lTCandidate k_lTCandidate e_TCandidates_0 fit_TCandidates de_TCandidates g_TCandidates k_TCandidates eta_TCandidates e_u64_0 fit_u64 de_u64 g_u64 k_u64 e_u16_0 fit_u16 de_u16 g_u16 k_u16 e_TBeacon_0 e_TBeacon_1 e_TBeacon_2 e_TBeacon_3 fit_TBeacon de_TBeacon g_TBeacon k_TBeacon eta_TBeacon e_TWanted_0 e_TWanted_1 e_TWanted_2 e_TWanted_3 fit_TWanted de_TWanted g_TWanted k_TWanted eta_TWanted deR_0 deR_1 deR_2 deR_3 deR_4 deR_5 deR_6 deR_7 deR_8 deR_9 deR_10 deR_11 deR_12 litC_x0 litC_x1 litC_x2 litC_x3 litC_x4 litC_x5 litC_x6 litC_x7 litC_x8 litC_x9 litC_x10 litC_x11 strE_u8 Fit_0 Option.isSome_some gt_some gd_one evCopyL tabR sub_enR List.drop_zero xrD xoD roEq minL rK rM rG aL aK iK bK sK lK iA bA sA lA or_true true_or Int.toNat_natCast shT_43 shT_52 shT_59 shT_65 Int.toNat_zero Int.cast_ofNat_Int
/-! hotspot/scan.Learn -/
noncomputable def ct17t0 : Ct := tab [(19, pureC body19)]
theorem ct17t0_ok : CtOk Try.prog ct17t0 := tab_cons ok19 <| tab_nil
theorem ct17t0_19 (l : List AV) (h : List ABlk) : ct17t0 19 l h = pureC body19 l h := rfl
noncomputable def ct17t1 : Ct := tab [(34, pureC body34)]
theorem ct17t1_ok : CtOk Try.prog ct17t1 := tab_cons ok34 <| tab_nil
theorem ct17t1_34 (l : List AV) (h : List ABlk) : ct17t1 34 l h = pureC body34 l h := rfl
noncomputable def ct17t2 : Ct := tab [(35, edC body35_0)]
theorem ct17t2_ok : CtOk Try.prog ct17t2 := tab_cons ok35_0 <| tab_nil
theorem ct17t2_35 (l : List AV) (h : List ABlk) : ct17t2 35 l h = edC body35_0 l h := rfl
noncomputable def ct17t3 : Ct := tab [(36, genC body36)]
theorem ct17t3_ok : CtOk Try.prog ct17t3 := tab_cons ok36 <| tab_nil
theorem ct17t3_36 (l : List AV) (h : List ABlk) : ct17t3 36 l h = genC body36 l h := rfl
noncomputable def ct17t4 : Ct := tab [(37, pureC body37_0)]
theorem ct17t4_ok : CtOk Try.prog ct17t4 := tab_cons ok37_0 <| tab_nil
theorem ct17t4_37 (l : List AV) (h : List ABlk) : ct17t4 37 l h = pureC body37_0 l h := rfl
noncomputable def ct17t5 : Ct := tab [(40, insN 52 13)]
theorem ct17t5_ok : CtOk Try.prog ct17t5 := tab_cons ok40 <| tab_nil
theorem ct17t5_40 (l : List AV) (h : List ABlk) : ct17t5 40 l h = insN 52 13 l h := rfl
noncomputable def ct17t6 : Ct := tab [(41, pureC body41_0)]
theorem ct17t6_ok : CtOk Try.prog ct17t6 := tab_cons ok41_0 <| tab_nil
theorem ct17t6_41 (l : List AV) (h : List ABlk) : ct17t6 41 l h = pureC body41_0 l h := rfl
noncomputable def ct17t7 : Ct := tab [(44, edC body44_0)]
theorem ct17t7_ok : CtOk Try.prog ct17t7 := tab_cons ok44_0 <| tab_nil
theorem ct17t7_44 (l : List AV) (h : List ABlk) : ct17t7 44 l h = edC body44_0 l h := rfl
noncomputable def F17 (p0 : TCandidates) (p1 : A6u8) (p2 : TBeacon) (p3 : Int) (p4 : Int) (p5 : Int) : Option (TCandidates × Int) :=
  (F19 p0).bind fun r1 => bif (!bEq r1 0) then (some ((TCandidates.mk []), r1)) else (need (bif (!(bEq (andI .u8 p1.x0 1) 1)) then ((F34 (TCandidate.mk (A6u8.mk p1.x0 p1.x1 p1.x2 p1.x3 p1.x4 p1.x5) p3 p4 0 p5 1 (ByteArray.mk #[]) false)).isSome) else true) <| bif ((bEq (andI .u8 p1.x0 1) 1) || (!(gt (F34 (TCandidate.mk (A6u8.mk p1.x0 p1.x1 p1.x2 p1.x3 p1.x4 p1.x5) p3 p4 0 p5 1 (ByteArray.mk #[]) false))))) then (some ((TCandidates.mk []), 2)) else ((F35_0 (TCandidate.mk (A6u8.mk p1.x0 p1.x1 p1.x2 p1.x3 p1.x4 p1.x5) p3 p4 0 p5 1 (ByteArray.mk #[]) false) p2).bind fun r4 => bif (!r4.1) then (some ((TCandidates.mk []), 12)) else ((F36 p0.List).bind fun r6 => (F37_0 (r6.length : Nat) r6 p1).bind fun r8 => need (bif (bLt r8 (r6.length : Nat)) then inb r8 r6.length else true) <| bif ((bLt r8 (r6.length : Nat)) && (bEq (((gd r6 r8.toNat).Addr).x0) p1.x0 && (bEq (((gd r6 r8.toNat).Addr).x1) p1.x1 && (bEq (((gd r6 r8.toNat).Addr).x2) p1.x2 && (bEq (((gd r6 r8.toNat).Addr).x3) p1.x3 && (bEq (((gd r6 r8.toNat).Addr).x4) p1.x4 && (bEq (((gd r6 r8.toNat).Addr).x5) p1.x5))))))) then (need (inb r8 r6.length) <| some ((TCandidates.mk (r6.set r8.toNat r4.2)), 0)) else (need (insb r8 r6.length) <| (some [r4.2]).bind fun w13 => (some (insL r6 r8 [r4.2])).bind fun w15 => bif (bLt 64 (w15.length : Nat)) then ((F41_0 w15).bind fun r17 => (F44_0 w15 r17).bind fun r19 => some ((TCandidates.mk r19), 0)) else (some ((TCandidates.mk w15), 0))))))
noncomputable def body17 : List AV → Nat → AR
  | [v0, v1, v2, v3, v4, v5], _ => .pure (aK 1 k_TCandidates v0 ∧ aK 6 k_A6u8 v1 ∧ aK 4 k_TBeacon v2 ∧ iK .i64 v3 ∧ iK .i64 v4 ∧ iK .i64 v5 ∧ (F17 (g_TCandidates (aL v0)) (g_A6u8 (aL v1)) (g_TBeacon (aL v2)) (iA v3) (iA v4) (iA v5)).isSome = true) (.tup [.agg [.ro 13 ((((gt (F17 (g_TCandidates (aL v0)) (g_A6u8 (aL v1)) (g_TBeacon (aL v2)) (iA v3) (iA v4) (iA v5))).1).List).length) false (enR c_TCandidate (((gt (F17 (g_TCandidates (aL v0)) (g_A6u8 (aL v1)) (g_TBeacon (aL v2)) (iA v3) (iA v4) (iA v5))).1).List))], .int .i64 ((gt (F17 (g_TCandidates (aL v0)) (g_A6u8 (aL v1)) (g_TBeacon (aL v2)) (iA v3) (iA v4) (iA v5))).2)])
  | _, _ => .fail
set_option maxHeartbeats 4000000 in
set_option maxRecDepth 20000 in
theorem ok17 : FnOk Try.prog 17 (genC body17) := by
  refine gen_fn body17 (rs := [.cell 12 41, .tmp 13]) Try.func17 (by kernel_rfl) rfl rfl ?_
  intro l s ob v ns hb hob
  rcases hb with ⟨hb, rfl⟩ | hb
  · unfold body17 at hb
    split at hb
    · rename_i v0 v1 v2 v3 v4 v5
      injection hb with q1 q2; subst q1 q2
      obtain ⟨hk0_0, hk1_0, hk2_0, hk3_0, hk4_0, hk5_0, hob⟩ := hob
      obtain ⟨r, H⟩ := Option.isSome_iff_exists.1 hob
      rw [H, gt_some]
      have hw0 := wA_TCandidates hk0_0
      have hw1 := wA_A6u8 hk1_0
      have hw2 := wA_TBeacon hk2_0
      have hw3 := iK_wk hk3_0
      have hw4 := iK_wk hk4_0
      have hw5 := iK_wk hk5_0
      generalize g_TCandidates (aL v0) = p0 at H hw0
      generalize g_A6u8 (aL v1) = p1 at H hw1
      generalize g_TBeacon (aL v2) = p2 at H hw2
      generalize iA v3 = p3 at H hw3
      generalize iA v4 = p4 at H hw4
      generalize iA v5 = p5 at H hw5
      refine ⟨[.agg [.ro 13 p0.List.length false (enR c_TCandidate p0.List)], .agg [.int .u8 p1.x0, .int .u8 p1.x1, .int .u8 p1.x2, .int .u8 p1.x3, .int .u8 p1.x4, .int .u8 p1.x5], .agg [.int .u64 p2.Time, .int .u16 p2.Interval, .int .u16 p2.Caps, .ro 4 p2.Elems.length false (enR c_TElement p2.Elems)], .int .i64 p3, .int .i64 p4, .int .i64 p5], .tup [.agg [.ro 13 r.1.List.length false (enR c_TCandidate r.1.List)], .int .i64 r.2], [], (fun E vs F => FR_wk1 hw0.1 F (fun vs F => FR_wk1 hw1.1 F (fun vs F => FR_wk1 hw2.1 F (fun vs F => FR_wk1 hw3.1 F (fun vs F => FR_wk1 hw4.1 F (fun vs F => FR_wk1 hw5.1 F (fun vs F => F))))))), by simp only [ren, renL], trivial, ?_⟩
      rw [Try.ntmps17]
      simp only [List.length_cons, List.length_nil, Nat.reduceAdd, Nat.reduceSub, List.replicate_succ, List.replicate_zero, List.cons_append, List.nil_append]
      unfold F17 at H
      try dsimp only at H
      refine sq ctNo_ok ?_
      simp only [go_sem, Nat.reduceLeDiff, Nat.reduceLT, Nat.reduceAdd, Nat.reduceMul, Nat.reduceSub, Nat.reduceEqDiff, Nat.reduceBEq, Int.reduceToNat, reduceCtorEq]
      refine seqM ?_
      refine seqM ?_
      obtain ⟨r1, e2, H⟩ := Option.bind_eq_some_iff.1 H
      refine rg ct17t0_ok ?_
      simp only [go_sem, Nat.reduceLeDiff, Nat.reduceLT, Nat.reduceAdd, Nat.reduceMul, Nat.reduceSub, Nat.reduceEqDiff, Nat.reduceBEq, Int.reduceToNat, reduceCtorEq, ct17t0_19, body19, e2]
      repeat ((with_reducible refine And.intro ?_ ?_); focus (first | (with_reducible trivial) | omega | (and_intros <;> first | (with_reducible trivial) | omega | assumption | exact nfc | first | exact rfl | exact trivial | exact fitI | exact Or.inr rfl | exact Or.inl rfl | exact fun x hx => absurd hx (by omega) | (intro x hx; (repeat (first | (and_intros <;> (first | exact rfl | exact trivial | exact fitI | exact Or.inr rfl | exact Or.inl rfl | exact fun x hx => absurd hx (by omega))) | (exfalso; omega) | (rcases x with _ | x))); done)) | grind))
      refine sq ctNo_ok ?_
      simp only [go_sem, Nat.reduceLeDiff, Nat.reduceLT, Nat.reduceAdd, Nat.reduceMul, Nat.reduceSub, Nat.reduceEqDiff, Nat.reduceBEq, Int.reduceToNat, reduceCtorEq]
      refine condM rfl trivial (fun hc => ?_) (fun hc => ?_)
      · replace H := cond_t hc H
        refine sq ctNo_ok ?_
        simp only [go_sem, Nat.reduceLeDiff, Nat.reduceLT, Nat.reduceAdd, Nat.reduceMul, Nat.reduceSub, Nat.reduceEqDiff, Nat.reduceBEq, Int.reduceToNat, reduceCtorEq]
        repeat ((with_reducible refine And.intro ?_ ?_); focus (first | (with_reducible trivial) | omega | grind))
        refine rg ctNo_ok ?_
        simp only [go_sem, Nat.reduceLeDiff, Nat.reduceLT, Nat.reduceAdd, Nat.reduceMul, Nat.reduceSub, Nat.reduceEqDiff, Nat.reduceBEq, Int.reduceToNat, reduceCtorEq]
        obtain rfl := Option.some.inj H
        refine ⟨[0, 1, 2, 3], ?_, ?_, [], ?_, ?_, rfl⟩
        · simp only [List.length_cons, List.length_nil, Nat.zero_mul, Nat.add_zero, fzV, fzL, fzOb, fzObL, fzH, fzHF, fzB, fzObB, fzObH, inL, rowOb, geth, cond_true, cond_false, Bool.or_false, Bool.or_true, Bool.false_or, Bool.true_or, and_self, true_and, and_true, Nat.reduceEqDiff, Nat.reduceBEq, beq_self_eq_true, sub_enR0, Nat.reduceAdd, Nat.zero_add, Nat.le_refl, List.nil_append]
          try (and_intros <;> first | trivial | omega | exact nfc)
        · simp only [List.length_cons, List.length_nil, Nat.zero_mul, Nat.add_zero, fzV, fzL, fzOb, fzObL, fzH, fzHF, fzB, fzObB, fzObH, inL, rowOb, geth, cond_true, cond_false, Bool.or_false, Bool.or_true, Bool.false_or, Bool.true_or, and_self, true_and, and_true, Nat.reduceEqDiff, Nat.reduceBEq, beq_self_eq_true, sub_enR0, Nat.reduceAdd, Nat.zero_add, Nat.le_refl, List.nil_append]
          try (and_intros <;> first | trivial | omega | exact nfc)
        · simp only [List.length_cons, List.length_nil, Nat.zero_mul, Nat.add_zero, fzV, fzL, fzOb, fzObL, fzH, fzHF, fzB, fzObB, fzObH, inL, rowOb, geth, cond_true, cond_false, Bool.or_false, Bool.or_true, Bool.false_or, Bool.true_or, and_self, true_and, and_true, Nat.reduceEqDiff, Nat.reduceBEq, beq_self_eq_true, sub_enR0, Nat.reduceAdd, Nat.zero_add, Nat.le_refl, List.nil_append]
          exact Cv_tup (CvL_cons (Cv_agg (CvL_cons (Cv_ronil (α := TCandidate)) CvL_nil)) (CvL_cons Cv_int CvL_nil))
        · simp only [List.length_cons, List.length_nil, Nat.zero_mul, Nat.add_zero, fzV, fzL, fzOb, fzObL, fzH, fzHF, fzB, fzObB, fzObH, inL, rowOb, geth, cond_true, cond_false, Bool.or_false, Bool.or_true, Bool.false_or, Bool.true_or, and_self, true_and, and_true, Nat.reduceEqDiff, Nat.reduceBEq, beq_self_eq_true, sub_enR0, Nat.reduceAdd, Nat.zero_add, Nat.le_refl, List.nil_append, CvH]
      replace H := cond_f hc H
      refine rg ctNo_ok ?_
      simp only [go_sem, Nat.reduceLeDiff, Nat.reduceLT, Nat.reduceAdd, Nat.reduceMul, Nat.reduceSub, Nat.reduceEqDiff, Nat.reduceBEq, Int.reduceToNat, reduceCtorEq]
      refine sq ctNo_ok ?_
      simp only [go_sem, Nat.reduceLeDiff, Nat.reduceLT, Nat.reduceAdd, Nat.reduceMul, Nat.reduceSub, Nat.reduceEqDiff, Nat.reduceBEq, Int.reduceToNat, reduceCtorEq]
      repeat ((with_reducible refine And.intro ?_ ?_); focus (first | (with_reducible trivial) | omega | grind))
      refine seqM ?_
      refine seqM ?_
      obtain ⟨f3, H⟩ := need_some.1 H
      replace f3 := g_iff.1 f3
      refine rg ct17t1_ok ?_
      simp only [go_sem, Nat.reduceLeDiff, Nat.reduceLT, Nat.reduceAdd, Nat.reduceMul, Nat.reduceSub, Nat.reduceEqDiff, Nat.reduceBEq, Int.reduceToNat, reduceCtorEq, ct17t1_34, body34]
      repeat ((with_reducible refine And.intro ?_ ?_); focus (first | (with_reducible trivial) | omega | exact f3 | (intro g; have q := f3 (by first | exact g | (rw [g]; rfl) | simpa using g); first | exact q | exact ⟨q.1, q.2.1⟩ | exact q.2.2 | omega | exact ⟨g, q⟩ | exact ⟨trivial, q⟩ | exact ⟨g, q.1, q.2.1⟩ | exact ⟨g, q.2.2⟩) | (intro g; (try have q0 := f3 (by first | exact g | (rw [g]; rfl) | simpa using g)); and_intros <;> first | (with_reducible trivial) | assumption | exact nfc | (intro g2; rw [g, g2]; rfl) | (intro g2; assumption) | (simp only [g, Bool.true_and, Bool.and_true, Bool.not_false, Bool.not_true]; assumption) | grind) | (and_intros <;> first | (with_reducible trivial) | omega | assumption | exact nfc | first | exact rfl | exact trivial | exact fitI | exact Or.inr rfl | exact Or.inl rfl | exact fun x hx => absurd hx (by omega) | (intro x hx; (repeat (first | (and_intros <;> (first | exact rfl | exact trivial | exact fitI | exact Or.inr rfl | exact Or.inl rfl | exact fun x hx => absurd hx (by omega))) | (exfalso; omega) | (rcases x with _ | x))); done)) | grind))
      refine condM rfl trivial (fun hc => ?_) (fun hc => ?_)
      · replace H := cond_t hc H
        refine sq ctNo_ok ?_
        simp only [go_sem, Nat.reduceLeDiff, Nat.reduceLT, Nat.reduceAdd, Nat.reduceMul, Nat.reduceSub, Nat.reduceEqDiff, Nat.reduceBEq, Int.reduceToNat, reduceCtorEq]
        repeat ((with_reducible refine And.intro ?_ ?_); focus (first | (with_reducible trivial) | omega | grind))
        refine rg ctNo_ok ?_
        simp only [go_sem, Nat.reduceLeDiff, Nat.reduceLT, Nat.reduceAdd, Nat.reduceMul, Nat.reduceSub, Nat.reduceEqDiff, Nat.reduceBEq, Int.reduceToNat, reduceCtorEq]
        obtain rfl := Option.some.inj H
        refine ⟨[0, 1, 2, 3, 4], ?_, ?_, [], ?_, ?_, rfl⟩
        · simp only [List.length_cons, List.length_nil, Nat.zero_mul, Nat.add_zero, fzV, fzL, fzOb, fzObL, fzH, fzHF, fzB, fzObB, fzObH, inL, rowOb, geth, cond_true, cond_false, Bool.or_false, Bool.or_true, Bool.false_or, Bool.true_or, and_self, true_and, and_true, Nat.reduceEqDiff, Nat.reduceBEq, beq_self_eq_true, sub_enR0, Nat.reduceAdd, Nat.zero_add, Nat.le_refl, List.nil_append]
          try (and_intros <;> first | trivial | omega | exact nfc)
        · simp only [List.length_cons, List.length_nil, Nat.zero_mul, Nat.add_zero, fzV, fzL, fzOb, fzObL, fzH, fzHF, fzB, fzObB, fzObH, inL, rowOb, geth, cond_true, cond_false, Bool.or_false, Bool.or_true, Bool.false_or, Bool.true_or, and_self, true_and, and_true, Nat.reduceEqDiff, Nat.reduceBEq, beq_self_eq_true, sub_enR0, Nat.reduceAdd, Nat.zero_add, Nat.le_refl, List.nil_append]
          try (and_intros <;> first | trivial | omega | exact nfc)
        · simp only [List.length_cons, List.length_nil, Nat.zero_mul, Nat.add_zero, fzV, fzL, fzOb, fzObL, fzH, fzHF, fzB, fzObB, fzObH, inL, rowOb, geth, cond_true, cond_false, Bool.or_false, Bool.or_true, Bool.false_or, Bool.true_or, and_self, true_and, and_true, Nat.reduceEqDiff, Nat.reduceBEq, beq_self_eq_true, sub_enR0, Nat.reduceAdd, Nat.zero_add, Nat.le_refl, List.nil_append]
          exact Cv_tup (CvL_cons (Cv_agg (CvL_cons (Cv_ronil (α := TCandidate)) CvL_nil)) (CvL_cons Cv_int CvL_nil))
        · simp only [List.length_cons, List.length_nil, Nat.zero_mul, Nat.add_zero, fzV, fzL, fzOb, fzObL, fzH, fzHF, fzB, fzObB, fzObH, inL, rowOb, geth, cond_true, cond_false, Bool.or_false, Bool.or_true, Bool.false_or, Bool.true_or, and_self, true_and, and_true, Nat.reduceEqDiff, Nat.reduceBEq, beq_self_eq_true, sub_enR0, Nat.reduceAdd, Nat.zero_add, Nat.le_refl, List.nil_append, CvH]
      replace H := cond_f hc H
      refine rg ctNo_ok ?_
      simp only [go_sem, Nat.reduceLeDiff, Nat.reduceLT, Nat.reduceAdd, Nat.reduceMul, Nat.reduceSub, Nat.reduceEqDiff, Nat.reduceBEq, Int.reduceToNat, reduceCtorEq]
      refine seqM ?_
      refine seqM ?_
      obtain ⟨r4, e5, H⟩ := Option.bind_eq_some_iff.1 H
      refine rg ct17t2_ok ?_
      simp only [go_sem, Nat.reduceLeDiff, Nat.reduceLT, Nat.reduceAdd, Nat.reduceMul, Nat.reduceSub, Nat.reduceEqDiff, Nat.reduceBEq, Int.reduceToNat, reduceCtorEq, aLs, roD, roDOb, deadL, edC, edR, nodupB, rnm, rnmL, rnmB, rnmH, rnm_bif, rnmB_bif, putH, dropH, rhoN, ptB, slN, litL, celL, pK, isLit, oS, isRow, inL, ct17t2_35, body35_0, e5]
      repeat ((with_reducible refine And.intro ?_ ?_); focus (first | (with_reducible trivial) | omega | (and_intros <;> first | (with_reducible trivial) | omega | assumption | exact nfc | first | exact rfl | exact trivial | exact fitI | exact Or.inr rfl | exact Or.inl rfl | exact fun x hx => absurd hx (by omega) | (intro x hx; (repeat (first | (and_intros <;> (first | exact rfl | exact trivial | exact fitI | exact Or.inr rfl | exact Or.inl rfl | exact fun x hx => absurd hx (by omega))) | (exfalso; omega) | (rcases x with _ | x))); done)) | grind))
      refine condM rfl trivial (fun hc => ?_) (fun hc => ?_)
      · replace H := cond_t hc H
        refine sq ctNo_ok ?_
        simp only [go_sem, Nat.reduceLeDiff, Nat.reduceLT, Nat.reduceAdd, Nat.reduceMul, Nat.reduceSub, Nat.reduceEqDiff, Nat.reduceBEq, Int.reduceToNat, reduceCtorEq]
        repeat ((with_reducible refine And.intro ?_ ?_); focus (first | (with_reducible trivial) | omega | grind))
        refine rg ctNo_ok ?_
        simp only [go_sem, Nat.reduceLeDiff, Nat.reduceLT, Nat.reduceAdd, Nat.reduceMul, Nat.reduceSub, Nat.reduceEqDiff, Nat.reduceBEq, Int.reduceToNat, reduceCtorEq]
        obtain rfl := Option.some.inj H
        refine ⟨[0, 1, 2, 3, 4], ?_, ?_, [], ?_, ?_, rfl⟩
        · simp only [List.length_cons, List.length_nil, Nat.zero_mul, Nat.add_zero, fzV, fzL, fzOb, fzObL, fzH, fzHF, fzB, fzObB, fzObH, inL, rowOb, geth, cond_true, cond_false, Bool.or_false, Bool.or_true, Bool.false_or, Bool.true_or, and_self, true_and, and_true, Nat.reduceEqDiff, Nat.reduceBEq, beq_self_eq_true, sub_enR0, Nat.reduceAdd, Nat.zero_add, Nat.le_refl, List.nil_append]
          try (and_intros <;> first | trivial | omega | exact nfc)
        · simp only [List.length_cons, List.length_nil, Nat.zero_mul, Nat.add_zero, fzV, fzL, fzOb, fzObL, fzH, fzHF, fzB, fzObB, fzObH, inL, rowOb, geth, cond_true, cond_false, Bool.or_false, Bool.or_true, Bool.false_or, Bool.true_or, and_self, true_and, and_true, Nat.reduceEqDiff, Nat.reduceBEq, beq_self_eq_true, sub_enR0, Nat.reduceAdd, Nat.zero_add, Nat.le_refl, List.nil_append]
          try (and_intros <;> first | trivial | omega | exact nfc)
        · simp only [List.length_cons, List.length_nil, Nat.zero_mul, Nat.add_zero, fzV, fzL, fzOb, fzObL, fzH, fzHF, fzB, fzObB, fzObH, inL, rowOb, geth, cond_true, cond_false, Bool.or_false, Bool.or_true, Bool.false_or, Bool.true_or, and_self, true_and, and_true, Nat.reduceEqDiff, Nat.reduceBEq, beq_self_eq_true, sub_enR0, Nat.reduceAdd, Nat.zero_add, Nat.le_refl, List.nil_append]
          exact Cv_tup (CvL_cons (Cv_agg (CvL_cons (Cv_ronil (α := TCandidate)) CvL_nil)) (CvL_cons Cv_int CvL_nil))
        · simp only [List.length_cons, List.length_nil, Nat.zero_mul, Nat.add_zero, fzV, fzL, fzOb, fzObL, fzH, fzHF, fzB, fzObB, fzObH, inL, rowOb, geth, cond_true, cond_false, Bool.or_false, Bool.or_true, Bool.false_or, Bool.true_or, and_self, true_and, and_true, Nat.reduceEqDiff, Nat.reduceBEq, beq_self_eq_true, sub_enR0, Nat.reduceAdd, Nat.zero_add, Nat.le_refl, List.nil_append, CvH]
      replace H := cond_f hc H
      refine rg ctNo_ok ?_
      simp only [go_sem, Nat.reduceLeDiff, Nat.reduceLT, Nat.reduceAdd, Nat.reduceMul, Nat.reduceSub, Nat.reduceEqDiff, Nat.reduceBEq, Int.reduceToNat, reduceCtorEq]
      refine seqM ?_
      obtain ⟨r6, e7, H⟩ := Option.bind_eq_some_iff.1 H
      refine rg ct17t3_ok ?_
      simp only [go_sem, Nat.reduceLeDiff, Nat.reduceLT, Nat.reduceAdd, Nat.reduceMul, Nat.reduceSub, Nat.reduceEqDiff, Nat.reduceBEq, Int.reduceToNat, reduceCtorEq, ct17t3_36, body36, e7]
      repeat ((with_reducible refine And.intro ?_ ?_); focus (first | (with_reducible trivial) | omega | (and_intros <;> first | (with_reducible trivial) | omega | assumption | exact nfc | first | exact rfl | exact trivial | exact fitI | exact Or.inr rfl | exact Or.inl rfl | exact fun x hx => absurd hx (by omega) | (intro x hx; (repeat (first | (and_intros <;> (first | exact rfl | exact trivial | exact fitI | exact Or.inr rfl | exact Or.inl rfl | exact fun x hx => absurd hx (by omega))) | (exfalso; omega) | (rcases x with _ | x))); done)) | grind))
      refine seqM ?_
      obtain ⟨r8, e9, H⟩ := Option.bind_eq_some_iff.1 H
      refine rg ct17t4_ok ?_
      simp only [go_sem, Nat.reduceLeDiff, Nat.reduceLT, Nat.reduceAdd, Nat.reduceMul, Nat.reduceSub, Nat.reduceEqDiff, Nat.reduceBEq, Int.reduceToNat, reduceCtorEq, ct17t4_37, body37_0, e9]
      repeat ((with_reducible refine And.intro ?_ ?_); focus (first | (with_reducible trivial) | omega | (and_intros <;> first | (with_reducible trivial) | omega | assumption | exact nfc | first | exact rfl | exact trivial | exact fitI | exact Or.inr rfl | exact Or.inl rfl | exact fun x hx => absurd hx (by omega) | (intro x hx; (repeat (first | (and_intros <;> (first | exact rfl | exact trivial | exact fitI | exact Or.inr rfl | exact Or.inl rfl | exact fun x hx => absurd hx (by omega))) | (exfalso; omega) | (rcases x with _ | x))); done)) | grind))
      refine seqM ?_
      refine seqM ?_
      obtain ⟨f10, H⟩ := need_some.1 H
      replace f10 := g_iff.1 f10
      replace f10 := fun g => inb_iff.1 (f10 g)
      refine draw_quiet shT_ok ctNo_ok (by kernel_rfl) (by kernel_rfl) ?_
      simp only [go_sem, Nat.reduceLeDiff, Nat.reduceLT, Nat.reduceAdd, Nat.reduceMul, Nat.reduceSub, Nat.reduceEqDiff, Nat.reduceBEq, Int.reduceToNat, reduceCtorEq]
      repeat ((with_reducible refine And.intro ?_ ?_); focus (first | (with_reducible trivial) | omega | exact f10 | (intro g; have q := f10 (by first | exact g | (rw [g]; rfl) | simpa using g); first | exact q | exact ⟨q.1, q.2.1⟩ | exact q.2.2 | omega | exact ⟨g, q⟩ | exact ⟨trivial, q⟩ | exact ⟨g, q.1, q.2.1⟩ | exact ⟨g, q.2.2⟩) | (intro g; (try have q0 := f10 (by first | exact g | (rw [g]; rfl) | simpa using g)); and_intros <;> first | (with_reducible trivial) | assumption | exact nfc | (intro g2; rw [g, g2]; rfl) | (intro g2; assumption) | (simp only [g, Bool.true_and, Bool.and_true, Bool.not_false, Bool.not_true]; assumption) | grind) | (and_intros <;> first | (with_reducible trivial) | omega | assumption | exact nfc | first | exact rfl | exact trivial | exact fitI | exact Or.inr rfl | exact Or.inl rfl | exact fun x hx => absurd hx (by omega) | (intro x hx; (repeat (first | (and_intros <;> (first | exact rfl | exact trivial | exact fitI | exact Or.inr rfl | exact Or.inl rfl | exact fun x hx => absurd hx (by omega))) | (exfalso; omega) | (rcases x with _ | x))); done)) | grind))
      refine condM rfl trivial (fun hc => ?_) (fun hc => ?_)
      · replace H := cond_t hc H
        refine seqM ?_
        obtain ⟨f11, H⟩ := need_some.1 H
        replace f11 := inb_iff.1 f11
        refine rg ctNo_ok ?_
        simp only [go_sem, Nat.reduceLeDiff, Nat.reduceLT, Nat.reduceAdd, Nat.reduceMul, Nat.reduceSub, Nat.reduceEqDiff, Nat.reduceBEq, Int.reduceToNat, reduceCtorEq, f11]
        repeat ((with_reducible refine And.intro ?_ ?_); focus (first | (with_reducible trivial) | omega | grind))
        refine sq ctNo_ok ?_
        simp only [go_sem, Nat.reduceLeDiff, Nat.reduceLT, Nat.reduceAdd, Nat.reduceMul, Nat.reduceSub, Nat.reduceEqDiff, Nat.reduceBEq, Int.reduceToNat, reduceCtorEq]
        repeat ((with_reducible refine And.intro ?_ ?_); focus (first | (with_reducible trivial) | omega | grind))
        refine rg ctNo_ok ?_
        simp only [go_sem, Nat.reduceLeDiff, Nat.reduceLT, Nat.reduceAdd, Nat.reduceMul, Nat.reduceSub, Nat.reduceEqDiff, Nat.reduceBEq, Int.reduceToNat, reduceCtorEq]
        obtain rfl := Option.some.inj H
        refine ⟨[5, 0, 1, 2, 3, 4, 6], ?_, ?_, [], ?_, ?_, rfl⟩
        · simp only [List.length_cons, List.length_nil, Nat.zero_mul, Nat.add_zero, fzV, fzL, fzOb, fzObL, fzH, fzHF, fzB, fzObB, fzObH, inL, rowOb, geth, cond_true, cond_false, Bool.or_false, Bool.or_true, Bool.false_or, Bool.true_or, and_self, true_and, and_true, Nat.reduceEqDiff, Nat.reduceBEq, beq_self_eq_true, sub_enR0, Nat.reduceAdd, Nat.zero_add, Nat.le_refl, List.nil_append]
          try (and_intros <;> first | trivial | omega | exact nfc)
        · simp only [List.length_cons, List.length_nil, Nat.zero_mul, Nat.add_zero, fzV, fzL, fzOb, fzObL, fzH, fzHF, fzB, fzObB, fzObH, inL, rowOb, geth, cond_true, cond_false, Bool.or_false, Bool.or_true, Bool.false_or, Bool.true_or, and_self, true_and, and_true, Nat.reduceEqDiff, Nat.reduceBEq, beq_self_eq_true, sub_enR0, Nat.reduceAdd, Nat.zero_add, Nat.le_refl, List.nil_append]
          try (and_intros <;> first | trivial | omega | exact nfc)
        · simp only [List.length_cons, List.length_nil, Nat.zero_mul, Nat.add_zero, fzV, fzL, fzOb, fzObL, fzH, fzHF, fzB, fzObB, fzObH, inL, rowOb, geth, cond_true, cond_false, Bool.or_false, Bool.or_true, Bool.false_or, Bool.true_or, and_self, true_and, and_true, Nat.reduceEqDiff, Nat.reduceBEq, beq_self_eq_true, sub_enR0, Nat.reduceAdd, Nat.zero_add, Nat.le_refl, List.nil_append]
          exact Cv_tup (CvL_cons (Cv_agg (CvL_cons (ro_row (by first | rfl | simp) (upc_row (f := c_TCandidate) r6 r8.toNat 0 r4.2 (fun _ _ _ _ => rfl) (fun y hy => match y, hy with | 0, _ => rfl | 1, _ => rfl | 2, _ => rfl | 3, _ => rfl | 4, _ => rfl | 5, _ => rfl | 6, _ => rfl | 7, _ => rfl | 8, _ => rfl | 9, _ => rfl | 10, _ => rfl | 11, _ => rfl | 12, _ => rfl | (y+13), h => absurd h (by omega)))) CvL_nil)) (CvL_cons Cv_int CvL_nil))
        · simp only [List.length_cons, List.length_nil, Nat.zero_mul, Nat.add_zero, fzV, fzL, fzOb, fzObL, fzH, fzHF, fzB, fzObB, fzObH, inL, rowOb, geth, cond_true, cond_false, Bool.or_false, Bool.or_true, Bool.false_or, Bool.true_or, and_self, true_and, and_true, Nat.reduceEqDiff, Nat.reduceBEq, beq_self_eq_true, sub_enR0, Nat.reduceAdd, Nat.zero_add, Nat.le_refl, List.nil_append, CvH]
      replace H := cond_f hc H
      refine rg ctNo_ok ?_
      simp only [go_sem, Nat.reduceLeDiff, Nat.reduceLT, Nat.reduceAdd, Nat.reduceMul, Nat.reduceSub, Nat.reduceEqDiff, Nat.reduceBEq, Int.reduceToNat, reduceCtorEq]
      refine seqM ?_
      obtain ⟨f12, H⟩ := need_some.1 H
      replace f12 := insb_iff.1 f12
      refine rg ct17t5_ok ?_
      simp only [go_sem, Nat.reduceLeDiff, Nat.reduceLT, Nat.reduceAdd, Nat.reduceMul, Nat.reduceSub, Nat.reduceEqDiff, Nat.reduceBEq, Int.reduceToNat, reduceCtorEq, ct17t5_40, insN, f12]
      repeat ((with_reducible refine And.intro ?_ ?_); focus (first | (with_reducible trivial) | omega | (and_intros <;> first | (with_reducible trivial) | omega | assumption | exact nfc | first | exact rfl | exact trivial | exact fitI | exact Or.inr rfl | exact Or.inl rfl | exact fun x hx => absurd hx (by omega) | (intro x hx; (repeat (first | (and_intros <;> (first | exact rfl | exact trivial | exact fitI | exact Or.inr rfl | exact Or.inl rfl | exact fun x hx => absurd hx (by omega))) | (exfalso; omega) | (rcases x with _ | x))); done)) | grind))
      refine seqM ?_
      refine seqM ?_
      obtain ⟨w13, hw14, H⟩ := Option.bind_eq_some_iff.1 H
      replace hw14 := Option.some.inj hw14
      have lhw14 : w13.length = 1 := by rw [← hw14]; exact (by first | rfl | (simp; done) | (simp; omega))
      obtain ⟨w15, hw16, H⟩ := Option.bind_eq_some_iff.1 H
      replace hw16 := Option.some.inj hw16
      have lhw16 : w15.length = r6.length + 1 := by rw [← hw16]; exact (ins_len f12 (by first | rfl | (simp; done) | (simp; omega)))
      refine subF_mean (t2 := (.agg [.ro 13 p0.List.length false (enR c_TCandidate p0.List)] :: .agg [.int .u8 p1.x0, .int .u8 p1.x1, .int .u8 p1.x2, .int .u8 p1.x3, .int .u8 p1.x4, .int .u8 p1.x5] :: .agg [.int .u64 p2.Time, .int .u16 p2.Interval, .int .u16 p2.Caps, .ro 4 p2.Elems.length false (enR c_TElement p2.Elems)] :: .int .i64 p3 :: .int .i64 p4 :: .int .i64 p5 :: .ptr 0 0 0 0 :: .ptr 1 0 0 0 :: .ptr 2 0 0 0 :: .top :: .top :: .top :: .ptr 3 0 0 0 :: .int .i64 0 :: .int .i64 r1 :: .ptr 4 0 0 0 :: .ptr 6 0 0 0 :: .int .i64 r8 :: .top :: .agg [.ro 13 p0.List.length false (enR c_TCandidate p0.List)] :: .int .i64 r1 :: .int .i64 r1 :: .bool (!bEq r1 0) :: .top :: .top :: .agg [.int .u8 p1.x0, .int .u8 p1.x1, .int .u8 p1.x2, .int .u8 p1.x3, .int .u8 p1.x4, .int .u8 p1.x5] :: .int .i64 p3 :: .int .i64 p4 :: .int .i64 p5 :: .agg [.int .u8 p1.x0, .int .u8 p1.x1, .int .u8 p1.x2, .int .u8 p1.x3, .int .u8 p1.x4, .int .u8 p1.x5, .int .i64 p3, .int .i64 p4, .int .i64 0, .int .i64 p5, .int .i64 1, .str (ByteArray.mk #[]), .bool false] :: .ptr 1 0 0 0 :: .int .u8 p1.x0 :: .int .u8 (andI .u8 p1.x0 1) :: .bool (bEq (andI .u8 p1.x0 1) 1) :: .bool (bEq (andI .u8 p1.x0 1) 1) :: .opt (!(bEq (andI .u8 p1.x0 1) 1)) (.agg [.int .u8 p1.x0, .int .u8 p1.x1, .int .u8 p1.x2, .int .u8 p1.x3, .int .u8 p1.x4, .int .u8 p1.x5, .int .i64 p3, .int .i64 p4, .int .i64 0, .int .i64 p5, .int .i64 1, .str (ByteArray.mk #[]), .bool false]) :: .opt (!(bEq (andI .u8 p1.x0 1) 1)) (.bool (gt (F34 (TCandidate.mk (A6u8.mk p1.x0 p1.x1 p1.x2 p1.x3 p1.x4 p1.x5) p3 p4 0 p5 1 (ByteArray.mk #[]) false)))) :: .opt (!(bEq (andI .u8 p1.x0 1) 1)) (.bool (!(gt (F34 (TCandidate.mk (A6u8.mk p1.x0 p1.x1 p1.x2 p1.x3 p1.x4 p1.x5) p3 p4 0 p5 1 (ByteArray.mk #[]) false))))) :: .bool ((bEq (andI .u8 p1.x0 1) 1) || (!(gt (F34 (TCandidate.mk (A6u8.mk p1.x0 p1.x1 p1.x2 p1.x3 p1.x4 p1.x5) p3 p4 0 p5 1 (ByteArray.mk #[]) false))))) :: .top :: .agg [.int .u64 p2.Time, .int .u16 p2.Interval, .int .u16 p2.Caps, .ro 4 p2.Elems.length false (enR c_TElement p2.Elems)] :: .bool r4.1 :: .bool (!r4.1) :: .top :: .ptr 0 0 0 0 :: .ro 13 p0.List.length false (enR c_TCandidate p0.List) :: .sl 5 13 0 r6.length false :: .sl 5 13 0 r6.length false :: .int .i64 (r6.length : Nat) :: .fn 38 [.ptr 6 0 0 0, .ptr 1 0 0 0] :: .int .i64 r8 :: .int .i64 r8 :: .sl 5 13 0 r6.length false :: .int .i64 (r6.length : Nat) :: .bool (bLt r8 (r6.length : Nat)) :: .bool (bLt r8 (r6.length : Nat)) :: .opt (bLt r8 (r6.length : Nat)) (.sl 5 13 0 r6.length false) :: .opt (bLt r8 (r6.length : Nat)) (.int .i64 r8) :: .opt (bLt r8 (r6.length : Nat)) (.ptr 5 13 r8.toNat 0) :: .opt (bLt r8 (r6.length : Nat)) (.ptr 5 13 r8.toNat 0) :: .opt (bLt r8 (r6.length : Nat)) (.agg [.int .u8 (((gd r6 r8.toNat).Addr).x0), .int .u8 (((gd r6 r8.toNat).Addr).x1), .int .u8 (((gd r6 r8.toNat).Addr).x2), .int .u8 (((gd r6 r8.toNat).Addr).x3), .int .u8 (((gd r6 r8.toNat).Addr).x4), .int .u8 (((gd r6 r8.toNat).Addr).x5)]) :: .opt (bLt r8 (r6.length : Nat)) (.agg [.int .u8 p1.x0, .int .u8 p1.x1, .int .u8 p1.x2, .int .u8 p1.x3, .int .u8 p1.x4, .int .u8 p1.x5]) :: .opt (bLt r8 (r6.length : Nat)) (.bool (bEq (((gd r6 r8.toNat).Addr).x0) p1.x0 && (bEq (((gd r6 r8.toNat).Addr).x1) p1.x1 && (bEq (((gd r6 r8.toNat).Addr).x2) p1.x2 && (bEq (((gd r6 r8.toNat).Addr).x3) p1.x3 && (bEq (((gd r6 r8.toNat).Addr).x4) p1.x4 && (bEq (((gd r6 r8.toNat).Addr).x5) p1.x5))))))) :: .bool ((bLt r8 (r6.length : Nat)) && (bEq (((gd r6 r8.toNat).Addr).x0) p1.x0 && (bEq (((gd r6 r8.toNat).Addr).x1) p1.x1 && (bEq (((gd r6 r8.toNat).Addr).x2) p1.x2 && (bEq (((gd r6 r8.toNat).Addr).x3) p1.x3 && (bEq (((gd r6 r8.toNat).Addr).x4) p1.x4 && (bEq (((gd r6 r8.toNat).Addr).x5) p1.x5))))))) :: .top :: .top :: .top :: .top :: .top :: .top :: .sl 5 13 0 r6.length false :: .int .i64 r8 :: .agg [.int .u8 r4.2.Addr.x0, .int .u8 r4.2.Addr.x1, .int .u8 r4.2.Addr.x2, .int .u8 r4.2.Addr.x3, .int .u8 r4.2.Addr.x4, .int .u8 r4.2.Addr.x5, .int .i64 r4.2.Channel, .int .i64 r4.2.Level, .int .i64 r4.2.Load, .int .i64 r4.2.Heard, .int .i64 r4.2.Interval, .str r4.2.Name, .bool r4.2.Secure] :: .sl 7 13 0 w13.length false :: .sl 8 13 0 w15.length false :: .top :: .top :: .top :: .top :: .top :: .top :: .top :: .top :: .top :: .top :: [])) (h2 := [.lit 41 [.ro 13 p0.List.length false (enR c_TCandidate p0.List)], .lit 43 [.int .u8 p1.x0, .int .u8 p1.x1, .int .u8 p1.x2, .int .u8 p1.x3, .int .u8 p1.x4, .int .u8 p1.x5], .lit 47 [.int .u64 p2.Time, .int .u16 p2.Interval, .int .u16 p2.Caps, .ro 4 p2.Elems.length false (enR c_TElement p2.Elems)], .lit 41 [.ro 0 0 true (fun _ _ => .top)], .lit 52 [.int .u8 r4.2.Addr.x0, .int .u8 r4.2.Addr.x1, .int .u8 r4.2.Addr.x2, .int .u8 r4.2.Addr.x3, .int .u8 r4.2.Addr.x4, .int .u8 r4.2.Addr.x5, .int .i64 r4.2.Channel, .int .i64 r4.2.Level, .int .i64 r4.2.Load, .int .i64 r4.2.Heard, .int .i64 r4.2.Interval, .str r4.2.Name, .bool r4.2.Secure], .dead, .lit 39 [.sl 8 13 0 w15.length false], .row 52 13 w13.length (enR c_TCandidate w13), .row 52 13 w15.length (enR c_TCandidate w15)]) ?_ ?_
      · refine SubF_of ⟨[some 0, some 1, some 2, some 3, some 4, some 5, some 6, some 7, some 8], ?_, ?_, by rfl, by rfl⟩
        · simp [CvL, Cv, getM, lhw14, lhw16]
        · exact ⟨(by simp [CvB, CvL, Cv, blkAt, geth, getM, lhw14, lhw16]), (by simp [CvB, CvL, Cv, blkAt, geth, getM, lhw14, lhw16]), (by simp [CvB, CvL, Cv, blkAt, geth, getM, lhw14, lhw16]), (by simp [CvB, CvL, Cv, blkAt, geth, getM, lhw14, lhw16]), (by simp [CvB, CvL, Cv, blkAt, geth, getM, lhw14, lhw16]), CvB_dead, (by simp [CvB, CvL, Cv, blkAt, geth, getM, lhw14, lhw16]), CvB_row nr_TCandidate lhw14 (hw14 ▸ (lit_row (f := c_TCandidate) [r4.2] (fun _ _ => rfl) rfl)), CvB_row nr_TCandidate lhw16 (hw16 ▸ (ins_row f12 (by first | rfl | (simp; done) | (simp; omega)) (fun _ _ _ _ => rfl) (lit_row (f := c_TCandidate) [r4.2] (fun _ _ => rfl) rfl))), trivial⟩
      refine rg ctNo_ok ?_
      simp only [go_sem, Nat.reduceLeDiff, Nat.reduceLT, Nat.reduceAdd, Nat.reduceMul, Nat.reduceSub, Nat.reduceEqDiff, Nat.reduceBEq, Int.reduceToNat, reduceCtorEq]
      repeat ((with_reducible refine And.intro ?_ ?_); focus (first | (with_reducible trivial) | omega | (and_intros <;> first | (with_reducible trivial) | omega | assumption | exact nfc | first | exact rfl | exact trivial | exact fitI | exact Or.inr rfl | exact Or.inl rfl | exact fun x hx => absurd hx (by omega) | (intro x hx; (repeat (first | (and_intros <;> (first | exact rfl | exact trivial | exact fitI | exact Or.inr rfl | exact Or.inl rfl | exact fun x hx => absurd hx (by omega))) | (exfalso; omega) | (rcases x with _ | x))); done)) | grind))
      refine condM' rfl trivial (fun hc => ?_) (fun hc => ?_)
      · replace H := cond_f hc H
        refine rg ctNo_ok ?_
        simp only [go_sem, Nat.reduceLeDiff, Nat.reduceLT, Nat.reduceAdd, Nat.reduceMul, Nat.reduceSub, Nat.reduceEqDiff, Nat.reduceBEq, Int.reduceToNat, reduceCtorEq]
        refine sq ctNo_ok ?_
        simp only [go_sem, Nat.reduceLeDiff, Nat.reduceLT, Nat.reduceAdd, Nat.reduceMul, Nat.reduceSub, Nat.reduceEqDiff, Nat.reduceBEq, Int.reduceToNat, reduceCtorEq]
        repeat ((with_reducible refine And.intro ?_ ?_); focus (first | (with_reducible trivial) | omega | grind))
        refine rg ctNo_ok ?_
        simp only [go_sem, Nat.reduceLeDiff, Nat.reduceLT, Nat.reduceAdd, Nat.reduceMul, Nat.reduceSub, Nat.reduceEqDiff, Nat.reduceBEq, Int.reduceToNat, reduceCtorEq]
        obtain rfl := Option.some.inj H
        refine ⟨[8, 0, 1, 2, 3, 4, 6], ?_, ?_, [], ?_, ?_, rfl⟩
        · simp only [List.length_cons, List.length_nil, Nat.zero_mul, Nat.add_zero, fzV, fzL, fzOb, fzObL, fzH, fzHF, fzB, fzObB, fzObH, inL, rowOb, geth, cond_true, cond_false, Bool.or_false, Bool.or_true, Bool.false_or, Bool.true_or, and_self, true_and, and_true, Nat.reduceEqDiff, Nat.reduceBEq, beq_self_eq_true, sub_enR0, Nat.reduceAdd, Nat.zero_add, Nat.le_refl, List.nil_append]
          try (and_intros <;> first | trivial | omega | exact nfc)
        · simp only [List.length_cons, List.length_nil, Nat.zero_mul, Nat.add_zero, fzV, fzL, fzOb, fzObL, fzH, fzHF, fzB, fzObB, fzObH, inL, rowOb, geth, cond_true, cond_false, Bool.or_false, Bool.or_true, Bool.false_or, Bool.true_or, and_self, true_and, and_true, Nat.reduceEqDiff, Nat.reduceBEq, beq_self_eq_true, sub_enR0, Nat.reduceAdd, Nat.zero_add, Nat.le_refl, List.nil_append]
          try (and_intros <;> first | trivial | omega | exact nfc)
        · simp only [List.length_cons, List.length_nil, Nat.zero_mul, Nat.add_zero, fzV, fzL, fzOb, fzObL, fzH, fzHF, fzB, fzObB, fzObH, inL, rowOb, geth, cond_true, cond_false, Bool.or_false, Bool.or_true, Bool.false_or, Bool.true_or, and_self, true_and, and_true, Nat.reduceEqDiff, Nat.reduceBEq, beq_self_eq_true, sub_enR0, Nat.reduceAdd, Nat.zero_add, Nat.le_refl, List.nil_append]
          exact Cv_tup (CvL_cons (Cv_agg (CvL_cons (ro_row (by first | rfl | simp) (fun _ _ _ _ => rfl)) CvL_nil)) (CvL_cons Cv_int CvL_nil))
        · simp only [List.length_cons, List.length_nil, Nat.zero_mul, Nat.add_zero, fzV, fzL, fzOb, fzObL, fzH, fzHF, fzB, fzObB, fzObH, inL, rowOb, geth, cond_true, cond_false, Bool.or_false, Bool.or_true, Bool.false_or, Bool.true_or, and_self, true_and, and_true, Nat.reduceEqDiff, Nat.reduceBEq, beq_self_eq_true, sub_enR0, Nat.reduceAdd, Nat.zero_add, Nat.le_refl, List.nil_append, CvH]
      replace H := cond_t hc H
      refine seqM ?_
      obtain ⟨r17, e18, H⟩ := Option.bind_eq_some_iff.1 H
      refine rg ct17t6_ok ?_
      simp only [go_sem, Nat.reduceLeDiff, Nat.reduceLT, Nat.reduceAdd, Nat.reduceMul, Nat.reduceSub, Nat.reduceEqDiff, Nat.reduceBEq, Int.reduceToNat, reduceCtorEq, ct17t6_41, body41_0, e18]
      repeat ((with_reducible refine And.intro ?_ ?_); focus (first | (with_reducible trivial) | omega | (and_intros <;> first | (with_reducible trivial) | omega | assumption | exact nfc | first | exact rfl | exact trivial | exact fitI | exact Or.inr rfl | exact Or.inl rfl | exact fun x hx => absurd hx (by omega) | (intro x hx; (repeat (first | (and_intros <;> (first | exact rfl | exact trivial | exact fitI | exact Or.inr rfl | exact Or.inl rfl | exact fun x hx => absurd hx (by omega))) | (exfalso; omega) | (rcases x with _ | x))); done)) | grind))
      refine fz_mean [9] ?_ ?_
      · simp only [List.length_cons, List.length_nil, Nat.zero_mul, Nat.add_zero, fzV, fzL, fzOb, fzObL, fzH, fzHF, fzB, fzObB, fzObH, inL, rowOb, geth, cond_true, cond_false, Bool.or_false, Bool.or_true, Bool.false_or, Bool.true_or, and_self, true_and, and_true, Nat.reduceEqDiff, Nat.reduceBEq, beq_self_eq_true, sub_enR0, Nat.reduceAdd, Nat.zero_add, Nat.le_refl, List.nil_append]
        try (and_intros <;> first | trivial | omega | exact nfc)
      simp only [List.length_cons, List.length_nil, Nat.zero_mul, Nat.add_zero, fzV, fzL, fzOb, fzObL, fzH, fzHF, fzB, fzObB, fzObH, inL, rowOb, geth, cond_true, cond_false, Bool.or_false, Bool.or_true, Bool.false_or, Bool.true_or, and_self, true_and, and_true, Nat.reduceEqDiff, Nat.reduceBEq, beq_self_eq_true, sub_enR0, Nat.reduceAdd, Nat.zero_add, Nat.le_refl, List.nil_append]
      obtain ⟨r19, e20, H⟩ := Option.bind_eq_some_iff.1 H
      refine rg ct17t7_ok ?_
      simp only [go_sem, Nat.reduceLeDiff, Nat.reduceLT, Nat.reduceAdd, Nat.reduceMul, Nat.reduceSub, Nat.reduceEqDiff, Nat.reduceBEq, Int.reduceToNat, reduceCtorEq, aLs, roD, roDOb, deadL, edC, edR, nodupB, rnm, rnmL, rnmB, rnmH, rnm_bif, rnmB_bif, putH, dropH, rhoN, ptB, slN, litL, celL, pK, isLit, oS, isRow, inL, ct17t7_44, body44_0, e20]
      repeat ((with_reducible refine And.intro ?_ ?_); focus (first | (with_reducible trivial) | omega | (and_intros <;> first | (with_reducible trivial) | omega | assumption | exact nfc | first | exact rfl | exact trivial | exact fitI | exact Or.inr rfl | exact Or.inl rfl | exact fun x hx => absurd hx (by omega) | (intro x hx; (repeat (first | (and_intros <;> (first | exact rfl | exact trivial | exact fitI | exact Or.inr rfl | exact Or.inl rfl | exact fun x hx => absurd hx (by omega))) | (exfalso; omega) | (rcases x with _ | x))); done)) | grind))
      refine sq ctNo_ok ?_
      simp only [go_sem, Nat.reduceLeDiff, Nat.reduceLT, Nat.reduceAdd, Nat.reduceMul, Nat.reduceSub, Nat.reduceEqDiff, Nat.reduceBEq, Int.reduceToNat, reduceCtorEq]
      repeat ((with_reducible refine And.intro ?_ ?_); focus (first | (with_reducible trivial) | omega | grind))
      refine rg ctNo_ok ?_
      simp only [go_sem, Nat.reduceLeDiff, Nat.reduceLT, Nat.reduceAdd, Nat.reduceMul, Nat.reduceSub, Nat.reduceEqDiff, Nat.reduceBEq, Int.reduceToNat, reduceCtorEq]
      obtain rfl := Option.some.inj H
      refine ⟨[10, 0, 1, 2, 3, 4, 6], ?_, ?_, [], ?_, ?_, rfl⟩
      · simp only [List.length_cons, List.length_nil, Nat.zero_mul, Nat.add_zero, fzV, fzL, fzOb, fzObL, fzH, fzHF, fzB, fzObB, fzObH, inL, rowOb, geth, cond_true, cond_false, Bool.or_false, Bool.or_true, Bool.false_or, Bool.true_or, and_self, true_and, and_true, Nat.reduceEqDiff, Nat.reduceBEq, beq_self_eq_true, sub_enR0, Nat.reduceAdd, Nat.zero_add, Nat.le_refl, List.nil_append]
        try (and_intros <;> first | trivial | omega | exact nfc)
      · simp only [List.length_cons, List.length_nil, Nat.zero_mul, Nat.add_zero, fzV, fzL, fzOb, fzObL, fzH, fzHF, fzB, fzObB, fzObH, inL, rowOb, geth, cond_true, cond_false, Bool.or_false, Bool.or_true, Bool.false_or, Bool.true_or, and_self, true_and, and_true, Nat.reduceEqDiff, Nat.reduceBEq, beq_self_eq_true, sub_enR0, Nat.reduceAdd, Nat.zero_add, Nat.le_refl, List.nil_append]
        try (and_intros <;> first | trivial | omega | exact nfc)
      · simp only [List.length_cons, List.length_nil, Nat.zero_mul, Nat.add_zero, fzV, fzL, fzOb, fzObL, fzH, fzHF, fzB, fzObB, fzObH, inL, rowOb, geth, cond_true, cond_false, Bool.or_false, Bool.or_true, Bool.false_or, Bool.true_or, and_self, true_and, and_true, Nat.reduceEqDiff, Nat.reduceBEq, beq_self_eq_true, sub_enR0, Nat.reduceAdd, Nat.zero_add, Nat.le_refl, List.nil_append]
        exact Cv_tup (CvL_cons (Cv_agg (CvL_cons (ro_row (by first | rfl | simp) (fun _ _ _ _ => rfl)) CvL_nil)) (CvL_cons Cv_int CvL_nil))
      · simp only [List.length_cons, List.length_nil, Nat.zero_mul, Nat.add_zero, fzV, fzL, fzOb, fzObL, fzH, fzHF, fzB, fzObB, fzObH, inL, rowOb, geth, cond_true, cond_false, Bool.or_false, Bool.or_true, Bool.false_or, Bool.true_or, and_self, true_and, and_true, Nat.reduceEqDiff, Nat.reduceBEq, beq_self_eq_true, sub_enR0, Nat.reduceAdd, Nat.zero_add, Nat.le_refl, List.nil_append, CvH]
    · cases hb
  · unfold body17 at hb
    split at hb <;> cases hb
/-! hotspot/hotspotlaw28.two -/
noncomputable def ct26t0 : Ct := tab [(17, genC body17), (27, genC body27)]
theorem ct26t0_ok : CtOk Try.prog ct26t0 := tab_cons ok17 <| tab_cons ok27 <| tab_nil
theorem ct26t0_17 (l : List AV) (h : List ABlk) : ct26t0 17 l h = genC body17 l h := rfl
theorem ct26t0_27 (l : List AV) (h : List ABlk) : ct26t0 27 l h = genC body27 l h := rfl
noncomputable def F26 : Option (TCandidates × Int) :=
  (F27 (ByteArray.mk #[110, 101, 116]) 60 true).bind fun r1 => (F17 (TCandidates.mk []) (A6u8.mk 4 0 0 0 0 0) r1 6 (-450) 1000).bind fun r3 => bif (!bEq r3.2 0) then (some (r3.1, r3.2)) else ((F27 (ByteArray.mk #[110, 101, 116]) 0 true).bind fun r5 => (F17 r3.1 (A6u8.mk 2 0 0 0 0 0) r5 1 (-500) 2000).bind fun r7 => some (r7.1, r7.2))
noncomputable def body26 : List AV → Nat → AR
  | [], _ => .pure ((F26).isSome = true) (.tup [.agg [.ro 13 ((((gt F26).1).List).length) false (enR c_TCandidate (((gt F26).1).List))], .int .i64 ((gt F26).2)])
  | _, _ => .fail
set_option maxHeartbeats 4000000 in
set_option maxRecDepth 20000 in
theorem ok26 : FnOk Try.prog 26 (genC body26) := by
  refine gen_fn body26 (rs := [.cell 0 41, .tmp 1]) Try.func26 (by kernel_rfl) rfl rfl ?_
  intro l s ob v ns hb hob
  rcases hb with ⟨hb, rfl⟩ | hb
  · unfold body26 at hb
    split at hb
    · injection hb with q1 q2; subst q1 q2
      obtain ⟨r, H⟩ := Option.isSome_iff_exists.1 hob
      rw [H, gt_some]
      refine ⟨[], .tup [.agg [.ro 13 r.1.List.length false (enR c_TCandidate r.1.List)], .int .i64 r.2], [], (fun E vs F => F), by simp only [ren, renL], trivial, ?_⟩
      rw [Try.ntmps26]
      simp only [List.length_cons, List.length_nil, Nat.reduceAdd, Nat.reduceSub, List.replicate_succ, List.replicate_zero, List.cons_append, List.nil_append]
      unfold F26 at H
      try dsimp only at H
      refine sq ctNo_ok ?_
      simp only [go_sem, Nat.reduceLeDiff, Nat.reduceLT, Nat.reduceAdd, Nat.reduceMul, Nat.reduceSub, Nat.reduceEqDiff, Nat.reduceBEq, Int.reduceToNat, reduceCtorEq]
      refine seqM ?_
      obtain ⟨r1, e2, H⟩ := Option.bind_eq_some_iff.1 H
      obtain ⟨r3, e4, H⟩ := Option.bind_eq_some_iff.1 H
      refine rg ct26t0_ok ?_
      simp only [go_sem, Nat.reduceLeDiff, Nat.reduceLT, Nat.reduceAdd, Nat.reduceMul, Nat.reduceSub, Nat.reduceEqDiff, Nat.reduceBEq, Int.reduceToNat, reduceCtorEq, ct26t0_17, body17, ct26t0_27, body27, e2, e4]
      repeat ((with_reducible refine And.intro ?_ ?_); focus (first | (with_reducible trivial) | omega | (and_intros <;> first | (with_reducible trivial) | omega | assumption | exact nfc | first | exact rfl | exact trivial | exact fitI | exact Or.inr rfl | exact Or.inl rfl | exact fun x hx => absurd hx (by omega) | (intro x hx; (repeat (first | (and_intros <;> (first | exact rfl | exact trivial | exact fitI | exact Or.inr rfl | exact Or.inl rfl | exact fun x hx => absurd hx (by omega))) | (exfalso; omega) | (rcases x with _ | x))); done)) | grind))
      refine seqM ?_
      refine sq ctNo_ok ?_
      simp only [go_sem, Nat.reduceLeDiff, Nat.reduceLT, Nat.reduceAdd, Nat.reduceMul, Nat.reduceSub, Nat.reduceEqDiff, Nat.reduceBEq, Int.reduceToNat, reduceCtorEq]
      refine condM rfl trivial (fun hc => ?_) (fun hc => ?_)
      · replace H := cond_t hc H
        refine sq ctNo_ok ?_
        simp only [go_sem, Nat.reduceLeDiff, Nat.reduceLT, Nat.reduceAdd, Nat.reduceMul, Nat.reduceSub, Nat.reduceEqDiff, Nat.reduceBEq, Int.reduceToNat, reduceCtorEq]
        repeat ((with_reducible refine And.intro ?_ ?_); focus (first | (with_reducible trivial) | omega | grind))
        refine rg ctNo_ok ?_
        simp only [go_sem, Nat.reduceLeDiff, Nat.reduceLT, Nat.reduceAdd, Nat.reduceMul, Nat.reduceSub, Nat.reduceEqDiff, Nat.reduceBEq, Int.reduceToNat, reduceCtorEq]
        obtain rfl := Option.some.inj H
        refine ⟨[0, 1], ?_, ?_, [], ?_, ?_, rfl⟩
        · simp only [List.length_cons, List.length_nil, Nat.zero_mul, Nat.add_zero, fzV, fzL, fzOb, fzObL, fzH, fzHF, fzB, fzObB, fzObH, inL, rowOb, geth, cond_true, cond_false, Bool.or_false, Bool.or_true, Bool.false_or, Bool.true_or, and_self, true_and, and_true, Nat.reduceEqDiff, Nat.reduceBEq, beq_self_eq_true, sub_enR0, Nat.reduceAdd, Nat.zero_add, Nat.le_refl, List.nil_append]
          try (and_intros <;> first | trivial | omega | exact nfc)
        · simp only [List.length_cons, List.length_nil, Nat.zero_mul, Nat.add_zero, fzV, fzL, fzOb, fzObL, fzH, fzHF, fzB, fzObB, fzObH, inL, rowOb, geth, cond_true, cond_false, Bool.or_false, Bool.or_true, Bool.false_or, Bool.true_or, and_self, true_and, and_true, Nat.reduceEqDiff, Nat.reduceBEq, beq_self_eq_true, sub_enR0, Nat.reduceAdd, Nat.zero_add, Nat.le_refl, List.nil_append]
          try (and_intros <;> first | trivial | omega | exact nfc)
        · simp only [List.length_cons, List.length_nil, Nat.zero_mul, Nat.add_zero, fzV, fzL, fzOb, fzObL, fzH, fzHF, fzB, fzObB, fzObH, inL, rowOb, geth, cond_true, cond_false, Bool.or_false, Bool.or_true, Bool.false_or, Bool.true_or, and_self, true_and, and_true, Nat.reduceEqDiff, Nat.reduceBEq, beq_self_eq_true, sub_enR0, Nat.reduceAdd, Nat.zero_add, Nat.le_refl, List.nil_append]
          exact Cv_tup (CvL_cons (Cv_agg (CvL_cons (Cv_nf (by simp only [nref])) CvL_nil)) (CvL_cons Cv_int CvL_nil))
        · simp only [List.length_cons, List.length_nil, Nat.zero_mul, Nat.add_zero, fzV, fzL, fzOb, fzObL, fzH, fzHF, fzB, fzObB, fzObH, inL, rowOb, geth, cond_true, cond_false, Bool.or_false, Bool.or_true, Bool.false_or, Bool.true_or, and_self, true_and, and_true, Nat.reduceEqDiff, Nat.reduceBEq, beq_self_eq_true, sub_enR0, Nat.reduceAdd, Nat.zero_add, Nat.le_refl, List.nil_append, CvH]
      replace H := cond_f hc H
      refine rg ctNo_ok ?_
      simp only [go_sem, Nat.reduceLeDiff, Nat.reduceLT, Nat.reduceAdd, Nat.reduceMul, Nat.reduceSub, Nat.reduceEqDiff, Nat.reduceBEq, Int.reduceToNat, reduceCtorEq]
      refine seqM ?_
      obtain ⟨r5, e6, H⟩ := Option.bind_eq_some_iff.1 H
      obtain ⟨r7, e8, H⟩ := Option.bind_eq_some_iff.1 H
      refine draw_rule shT_ok ct26t0_ok 0 (by kernel_rfl) (by kernel_rfl) ?_
      intro an han
      simp only [d_nil, d_cons, nxtD, xrD, xoD, roEq, minL, List.append_nil, refsOp, refs, refsL, mask, maskF, place, placeF, okLog, pairOk, hit, inL, slotsF, ren, renL, rnN, nrH, nrB, nrL, nr, dead0, deadS, List.replicate_zero, List.replicate_succ, Nat.sub_self, Nat.add_zero, Nat.zero_add, Nat.reduceSub, Nat.not_lt_zero, Nat.zero_le, Nat.lt_add_one, go_sem, Nat.reduceLeDiff, Nat.reduceLT, Nat.reduceAdd, Nat.reduceMul, Nat.reduceSub, Nat.reduceEqDiff, Nat.reduceBEq, Int.reduceToNat, reduceCtorEq, ct26t0_17, body17, ct26t0_27, body27, e6, e8]
      repeat ((with_reducible refine And.intro ?_ ?_); focus (and_intros <;> first | (with_reducible trivial) | (show anB _ _ _ = true; subst han; kernel_rfl) | (show (anB _ _ _ && _) = true; subst han; kernel_rfl) | omega | assumption | exact nrc | exact nfc | first | exact rfl | exact trivial | exact fitI | exact Or.inr rfl | exact Or.inl rfl | exact fun x hx => absurd hx (by omega) | (intro x hx; (repeat (first | (and_intros <;> (first | exact rfl | exact trivial | exact fitI | exact Or.inr rfl | exact Or.inl rfl | exact fun x hx => absurd hx (by omega))) | (exfalso; omega) | (rcases x with _ | x))); done)))
      refine rg ctNo_ok ?_
      simp only [go_sem, Nat.reduceLeDiff, Nat.reduceLT, Nat.reduceAdd, Nat.reduceMul, Nat.reduceSub, Nat.reduceEqDiff, Nat.reduceBEq, Int.reduceToNat, reduceCtorEq]
      obtain rfl := Option.some.inj H
      refine ⟨[0, 1], ?_, ?_, [], ?_, ?_, rfl⟩
      · simp only [List.length_cons, List.length_nil, Nat.zero_mul, Nat.add_zero, fzV, fzL, fzOb, fzObL, fzH, fzHF, fzB, fzObB, fzObH, inL, rowOb, geth, cond_true, cond_false, Bool.or_false, Bool.or_true, Bool.false_or, Bool.true_or, and_self, true_and, and_true, Nat.reduceEqDiff, Nat.reduceBEq, beq_self_eq_true, sub_enR0, Nat.reduceAdd, Nat.zero_add, Nat.le_refl, List.nil_append]
        try (and_intros <;> first | trivial | omega | exact nfc)
      · simp only [List.length_cons, List.length_nil, Nat.zero_mul, Nat.add_zero, fzV, fzL, fzOb, fzObL, fzH, fzHF, fzB, fzObB, fzObH, inL, rowOb, geth, cond_true, cond_false, Bool.or_false, Bool.or_true, Bool.false_or, Bool.true_or, and_self, true_and, and_true, Nat.reduceEqDiff, Nat.reduceBEq, beq_self_eq_true, sub_enR0, Nat.reduceAdd, Nat.zero_add, Nat.le_refl, List.nil_append]
        try (and_intros <;> first | trivial | omega | exact nfc)
      · simp only [List.length_cons, List.length_nil, Nat.zero_mul, Nat.add_zero, fzV, fzL, fzOb, fzObL, fzH, fzHF, fzB, fzObB, fzObH, inL, rowOb, geth, cond_true, cond_false, Bool.or_false, Bool.or_true, Bool.false_or, Bool.true_or, and_self, true_and, and_true, Nat.reduceEqDiff, Nat.reduceBEq, beq_self_eq_true, sub_enR0, Nat.reduceAdd, Nat.zero_add, Nat.le_refl, List.nil_append]
        exact Cv_tup (CvL_cons (Cv_agg (CvL_cons (Cv_nf (by simp only [nref])) CvL_nil)) (CvL_cons Cv_int CvL_nil))
      · simp only [List.length_cons, List.length_nil, Nat.zero_mul, Nat.add_zero, fzV, fzL, fzOb, fzObL, fzH, fzHF, fzB, fzObB, fzObH, inL, rowOb, geth, cond_true, cond_false, Bool.or_false, Bool.or_true, Bool.false_or, Bool.true_or, and_self, true_and, and_true, Nat.reduceEqDiff, Nat.reduceBEq, beq_self_eq_true, sub_enR0, Nat.reduceAdd, Nat.zero_add, Nat.le_refl, List.nil_append, CvH]
    · cases hb
  · unfold body26 at hb
    split at hb <;> cases hb
/-! hotspot/scan.asked -/
noncomputable def ct46t0 : Ct := tab [(19, pureC body19)]
theorem ct46t0_ok : CtOk Try.prog ct46t0 := tab_cons ok19 <| tab_nil
theorem ct46t0_19 (l : List AV) (h : List ABlk) : ct46t0 19 l h = pureC body19 l h := rfl
noncomputable def ct46t1 : Ct := tab [(29, pureC body29)]
theorem ct46t1_ok : CtOk Try.prog ct46t1 := tab_cons ok29 <| tab_nil
theorem ct46t1_29 (l : List AV) (h : List ABlk) : ct46t1 29 l h = pureC body29 l h := rfl
noncomputable def F46 (p0 : TCandidates) (p1 : Int) : Option (Int) :=
  (F19 p0).bind fun r1 => bif (!bEq r1 0) then (some r1) else ((F29 p1 0 1099511627776).bind fun r3 => bif (!r3) then (some 2) else (some 0))
noncomputable def body46 : List AV → AR
  | [v0, v1] => .pure (aK 1 k_TCandidates v0 ∧ iK .i64 v1 ∧ (F46 (g_TCandidates (aL v0)) (iA v1)).isSome = true) (.int .i64 (gt (F46 (g_TCandidates (aL v0)) (iA v1))))
  | _ => .fail
set_option maxHeartbeats 4000000 in
set_option maxRecDepth 20000 in
theorem ok46 : FnOk Try.prog 46 (pureC body46) := by
  refine pure_fnM body46 (rs := [.tmp 4]) Try.func46 (by kernel_rfl) rfl rfl ?_
  intro l ob v hb hob
  unfold body46 at hb
  split at hb
  · rename_i v0 v1
    injection hb with q1 q2; subst q1 q2
    obtain ⟨hk0_0, hk1_0, hob⟩ := hob
    obtain ⟨r, H⟩ := Option.isSome_iff_exists.1 hob
    rw [H, gt_some]
    have hw0 := wA_TCandidates hk0_0
    have hw1 := iK_wk hk1_0
    generalize g_TCandidates (aL v0) = p0 at H hw0
    generalize iA v1 = p1 at H hw1
    refine ⟨[.agg [.ro 13 p0.List.length false (enR c_TCandidate p0.List)], .int .i64 p1], _, (fun E vs F => FR_wk1 hw0.1 F (fun vs F => FR_wk1 hw1.1 F (fun vs F => F))), rfl, rfl, ?_⟩
    rw [Try.ntmps46]
    simp only [List.length_cons, List.length_nil, Nat.reduceAdd, Nat.reduceSub, List.replicate_succ, List.replicate_zero, List.cons_append, List.nil_append]
    unfold F46 at H
    try dsimp only at H
    refine sq ctNo_ok ?_
    simp only [go_sem, Nat.reduceLeDiff, Nat.reduceLT, Nat.reduceAdd, Nat.reduceMul, Nat.reduceSub, Nat.reduceEqDiff, Nat.reduceBEq, Int.reduceToNat, reduceCtorEq]
    refine seqM ?_
    refine seqM ?_
    obtain ⟨r1, e2, H⟩ := Option.bind_eq_some_iff.1 H
    refine rg ct46t0_ok ?_
    simp only [go_sem, Nat.reduceLeDiff, Nat.reduceLT, Nat.reduceAdd, Nat.reduceMul, Nat.reduceSub, Nat.reduceEqDiff, Nat.reduceBEq, Int.reduceToNat, reduceCtorEq, ct46t0_19, body19, e2]
    repeat ((with_reducible refine And.intro ?_ ?_); focus (first | (with_reducible trivial) | omega | (and_intros <;> first | (with_reducible trivial) | omega | assumption | exact nfc | first | exact rfl | exact trivial | exact fitI | exact Or.inr rfl | exact Or.inl rfl | exact fun x hx => absurd hx (by omega) | (intro x hx; (repeat (first | (and_intros <;> (first | exact rfl | exact trivial | exact fitI | exact Or.inr rfl | exact Or.inl rfl | exact fun x hx => absurd hx (by omega))) | (exfalso; omega) | (rcases x with _ | x))); done)) | grind))
    refine sq ctNo_ok ?_
    simp only [go_sem, Nat.reduceLeDiff, Nat.reduceLT, Nat.reduceAdd, Nat.reduceMul, Nat.reduceSub, Nat.reduceEqDiff, Nat.reduceBEq, Int.reduceToNat, reduceCtorEq]
    refine condM rfl trivial (fun hc => ?_) (fun hc => ?_)
    · replace H := cond_t hc H
      refine sq ctNo_ok ?_
      simp only [go_sem, Nat.reduceLeDiff, Nat.reduceLT, Nat.reduceAdd, Nat.reduceMul, Nat.reduceSub, Nat.reduceEqDiff, Nat.reduceBEq, Int.reduceToNat, reduceCtorEq]
      refine rg ctNo_ok ?_
      simp only [go_sem, Nat.reduceLeDiff, Nat.reduceLT, Nat.reduceAdd, Nat.reduceMul, Nat.reduceSub, Nat.reduceEqDiff, Nat.reduceBEq, Int.reduceToNat, reduceCtorEq]
      obtain rfl := Option.some.inj H
      first | rfl | simp only [Bool.and_false, Bool.false_and, Bool.and_true, Bool.true_and]
    replace H := cond_f hc H
    refine rg ctNo_ok ?_
    simp only [go_sem, Nat.reduceLeDiff, Nat.reduceLT, Nat.reduceAdd, Nat.reduceMul, Nat.reduceSub, Nat.reduceEqDiff, Nat.reduceBEq, Int.reduceToNat, reduceCtorEq]
    refine seqM ?_
    refine seqM ?_
    obtain ⟨r3, e4, H⟩ := Option.bind_eq_some_iff.1 H
    refine rg ct46t1_ok ?_
    simp only [go_sem, Nat.reduceLeDiff, Nat.reduceLT, Nat.reduceAdd, Nat.reduceMul, Nat.reduceSub, Nat.reduceEqDiff, Nat.reduceBEq, Int.reduceToNat, reduceCtorEq, ct46t1_29, body29, e4]
    repeat ((with_reducible refine And.intro ?_ ?_); focus (first | (with_reducible trivial) | omega | (and_intros <;> first | (with_reducible trivial) | omega | assumption | exact nfc | first | exact rfl | exact trivial | exact fitI | exact Or.inr rfl | exact Or.inl rfl | exact fun x hx => absurd hx (by omega) | (intro x hx; (repeat (first | (and_intros <;> (first | exact rfl | exact trivial | exact fitI | exact Or.inr rfl | exact Or.inl rfl | exact fun x hx => absurd hx (by omega))) | (exfalso; omega) | (rcases x with _ | x))); done)) | grind))
    refine condM rfl trivial (fun hc => ?_) (fun hc => ?_)
    · replace H := cond_t hc H
      refine sq ctNo_ok ?_
      simp only [go_sem, Nat.reduceLeDiff, Nat.reduceLT, Nat.reduceAdd, Nat.reduceMul, Nat.reduceSub, Nat.reduceEqDiff, Nat.reduceBEq, Int.reduceToNat, reduceCtorEq]
      refine rg ctNo_ok ?_
      simp only [go_sem, Nat.reduceLeDiff, Nat.reduceLT, Nat.reduceAdd, Nat.reduceMul, Nat.reduceSub, Nat.reduceEqDiff, Nat.reduceBEq, Int.reduceToNat, reduceCtorEq]
      obtain rfl := Option.some.inj H
      first | rfl | simp only [Bool.and_false, Bool.false_and, Bool.and_true, Bool.true_and]
    replace H := cond_f hc H
    refine rg ctNo_ok ?_
    simp only [go_sem, Nat.reduceLeDiff, Nat.reduceLT, Nat.reduceAdd, Nat.reduceMul, Nat.reduceSub, Nat.reduceEqDiff, Nat.reduceBEq, Int.reduceToNat, reduceCtorEq]
    refine sq ctNo_ok ?_
    simp only [go_sem, Nat.reduceLeDiff, Nat.reduceLT, Nat.reduceAdd, Nat.reduceMul, Nat.reduceSub, Nat.reduceEqDiff, Nat.reduceBEq, Int.reduceToNat, reduceCtorEq]
    refine rg ctNo_ok ?_
    simp only [go_sem, Nat.reduceLeDiff, Nat.reduceLT, Nat.reduceAdd, Nat.reduceMul, Nat.reduceSub, Nat.reduceEqDiff, Nat.reduceBEq, Int.reduceToNat, reduceCtorEq]
    obtain rfl := Option.some.inj H
    first | rfl | simp only [Bool.and_false, Bool.false_and, Bool.and_true, Bool.true_and]
  · cases hb
/-! cmp.Or[int] -/
noncomputable def F48_L1 (p0 : List Int) (v1_1 : Int) : Option (Lp (Int) ((Unit) ⊕ (Int))) :=
  bif (bLt v1_1 (p0.length : Nat)) then (need (inb v1_1 p0.length) <| bif (!bEq (gd p0 v1_1.toNat) 0) then (some (.done (.inr (gd p0 v1_1.toNat)))) else (some (.next (wr .i64 (v1_1 + 1))))) else (some (.done (.inl ())))
noncomputable def F48 (p0 : List Int) : Option (Int) :=
  lp (loopD (fun s => F48_L1 p0 s) 0) (fun e => some 0) some
noncomputable def body48 : List AV → AR
  | [v0] => .pure (lK k_i64 1 v0 ∧ (F48 (lA g_i64 v0)).isSome = true) (.int .i64 (gt (F48 (lA g_i64 v0))))
  | _ => .fail
set_option maxHeartbeats 4000000 in
set_option maxRecDepth 20000 in
theorem ok48 : FnOk Try.prog 48 (pureC body48) := by
  refine pure_fnM body48 (rs := [.tmp 2]) Try.func48 (by kernel_rfl) rfl rfl ?_
  intro l ob v hb hob
  unfold body48 at hb
  split at hb
  · rename_i v0
    injection hb with q1 q2; subst q1 q2
    obtain ⟨hk0_0, hob⟩ := hob
    obtain ⟨r, H⟩ := Option.isSome_iff_exists.1 hob
    rw [H, gt_some]
    have hw0 := lK_wk (fun r h => w_i64 h) hk0_0
    generalize lA g_i64 v0 = p0 at H hw0
    refine ⟨[.ro 1 p0.length false (enR c_i64 p0)], _, (fun E vs F => FR_wk1 hw0.1 F (fun vs F => F)), rfl, rfl, ?_⟩
    rw [Try.ntmps48]
    simp only [List.length_cons, List.length_nil, Nat.reduceAdd, Nat.reduceSub, List.replicate_succ, List.replicate_zero, List.cons_append, List.nil_append]
    unfold F48 at H
    try dsimp only at H
    refine sq ctNo_ok ?_
    simp only [go_sem, Nat.reduceLeDiff, Nat.reduceLT, Nat.reduceAdd, Nat.reduceMul, Nat.reduceSub, Nat.reduceEqDiff, Nat.reduceBEq, Int.reduceToNat, reduceCtorEq]
    refine sq ctNo_ok ?_
    simp only [go_sem, Nat.reduceLeDiff, Nat.reduceLT, Nat.reduceAdd, Nat.reduceMul, Nat.reduceSub, Nat.reduceEqDiff, Nat.reduceBEq, Int.reduceToNat, reduceCtorEq]
    refine seqM ?_
    refine sq ctNo_ok ?_
    simp only [go_sem, Nat.reduceLeDiff, Nat.reduceLT, Nat.reduceAdd, Nat.reduceMul, Nat.reduceSub, Nat.reduceEqDiff, Nat.reduceBEq, Int.reduceToNat, reduceCtorEq]
    repeat ((with_reducible refine And.intro ?_ ?_); focus (first | (with_reducible trivial) | omega | (and_intros <;> first | (with_reducible trivial) | omega | assumption | exact nfc | first | exact rfl | exact trivial | exact fitI | exact Or.inr rfl | exact Or.inl rfl | exact fun x hx => absurd hx (by omega) | (intro x hx; (repeat (first | (and_intros <;> (first | exact rfl | exact trivial | exact fitI | exact Or.inr rfl | exact Or.inl rfl | exact fun x hx => absurd hx (by omega))) | (exfalso; omega) | (rcases x with _ | x))); done)) | grind))
    refine blkM ?_
    refine loop_den (fun s : Int => [.top, .top, .top, .int .i64 0, .top, .top, .ro 1 p0.length false (enR c_i64 p0), .int .i64 (p0.length : Nat), .int .i64 s, .top, .top, .top, .top, .top, .top, .top, .top, .top]) (fun s => []) (fun e : Unit => [.top, .top, .top, .int .i64 0, .top, .top, .top, .top, .top, .top, .top, .top, .top, .top, .top, .top, .top, .top]) (fun e => []) H ?_ (fun v1_1 o H hn1_1 hn2_1 => ?_) (fun e H => ?_)
    · refine SubF_of ⟨[], ?_, ?_, by rfl, by rfl⟩
      · simp [CvL, Cv, getM]
      · trivial
    · unfold F48_L1 at H
      try dsimp only at H ⊢
      refine sq ctNo_ok ?_
      simp only [go_sem, Nat.reduceLeDiff, Nat.reduceLT, Nat.reduceAdd, Nat.reduceMul, Nat.reduceSub, Nat.reduceEqDiff, Nat.reduceBEq, Int.reduceToNat, reduceCtorEq]
      refine seqM ?_
      refine condM' rfl trivial (fun hc => ?_) (fun hc => ?_)
      · replace H := cond_f hc H
        refine rg ctNo_ok ?_
        simp only [go_sem, Nat.reduceLeDiff, Nat.reduceLT, Nat.reduceAdd, Nat.reduceMul, Nat.reduceSub, Nat.reduceEqDiff, Nat.reduceBEq, Int.reduceToNat, reduceCtorEq]
        refine ⟨_, (Option.some.inj H).symm, ?_⟩
        refine SubF_of ⟨[], ?_, ?_, by rfl, by rfl⟩
        · simp [CvL, Cv, getM]
        · trivial
      replace H := cond_t hc H
      refine rg ctNo_ok ?_
      simp only [go_sem, Nat.reduceLeDiff, Nat.reduceLT, Nat.reduceAdd, Nat.reduceMul, Nat.reduceSub, Nat.reduceEqDiff, Nat.reduceBEq, Int.reduceToNat, reduceCtorEq]
      refine seqM ?_
      refine blkM ?_
      refine seqM ?_
      obtain ⟨f1, H⟩ := need_some.1 H
      replace f1 := inb_iff.1 f1
      refine rg ctNo_ok ?_
      simp only [go_sem, Nat.reduceLeDiff, Nat.reduceLT, Nat.reduceAdd, Nat.reduceMul, Nat.reduceSub, Nat.reduceEqDiff, Nat.reduceBEq, Int.reduceToNat, reduceCtorEq, f1]
      repeat ((with_reducible refine And.intro ?_ ?_); focus (first | (with_reducible trivial) | omega | grind))
      refine sq ctNo_ok ?_
      simp only [go_sem, Nat.reduceLeDiff, Nat.reduceLT, Nat.reduceAdd, Nat.reduceMul, Nat.reduceSub, Nat.reduceEqDiff, Nat.reduceBEq, Int.reduceToNat, reduceCtorEq]
      refine condM rfl trivial (fun hc => ?_) (fun hc => ?_)
      · replace H := cond_t hc H
        refine sq ctNo_ok ?_
        simp only [go_sem, Nat.reduceLeDiff, Nat.reduceLT, Nat.reduceAdd, Nat.reduceMul, Nat.reduceSub, Nat.reduceEqDiff, Nat.reduceBEq, Int.reduceToNat, reduceCtorEq]
        refine rg ctNo_ok ?_
        simp only [go_sem, Nat.reduceLeDiff, Nat.reduceLT, Nat.reduceAdd, Nat.reduceMul, Nat.reduceSub, Nat.reduceEqDiff, Nat.reduceBEq, Int.reduceToNat, reduceCtorEq]
        have H := hn2_1 _ (Option.some.inj H).symm
        obtain rfl := Option.some.inj H
        first | rfl | simp only [Bool.and_false, Bool.false_and, Bool.and_true, Bool.true_and]
      replace H := cond_f hc H
      refine rg ctNo_ok ?_
      simp only [go_sem, Nat.reduceLeDiff, Nat.reduceLT, Nat.reduceAdd, Nat.reduceMul, Nat.reduceSub, Nat.reduceEqDiff, Nat.reduceBEq, Int.reduceToNat, reduceCtorEq]
      refine rg ctNo_ok ?_
      simp only [go_sem, Nat.reduceLeDiff, Nat.reduceLT, Nat.reduceAdd, Nat.reduceMul, Nat.reduceSub, Nat.reduceEqDiff, Nat.reduceBEq, Int.reduceToNat, reduceCtorEq]
      refine ⟨_, (Option.some.inj H).symm, ?_⟩
      refine SubF_of ⟨[], ?_, ?_, by rfl, by rfl⟩
      · simp [CvL, Cv, getM]
      · trivial
    · try dsimp only at H ⊢
      try simp only [m_normal, k_normal, b_normal, kL_normal, r_normal]
      refine sq ctNo_ok ?_
      simp only [go_sem, Nat.reduceLeDiff, Nat.reduceLT, Nat.reduceAdd, Nat.reduceMul, Nat.reduceSub, Nat.reduceEqDiff, Nat.reduceBEq, Int.reduceToNat, reduceCtorEq]
      refine rg ctNo_ok ?_
      simp only [go_sem, Nat.reduceLeDiff, Nat.reduceLT, Nat.reduceAdd, Nat.reduceMul, Nat.reduceSub, Nat.reduceEqDiff, Nat.reduceBEq, Int.reduceToNat, reduceCtorEq]
      obtain rfl := Option.some.inj H
      first | rfl | simp only [Bool.and_false, Bool.false_and, Bool.and_true, Bool.true_and]
  · cases hb
/-! hotspot/scan.Choose$1 -/
noncomputable def ct47_0t0 : Ct := tab [(43, pureC body43)]
theorem ct47_0t0_ok : CtOk Try.prog ct47_0t0 := tab_cons ok43 <| tab_nil
theorem ct47_0t0_43 (l : List AV) (h : List ABlk) : ct47_0t0 43 l h = pureC body43 l h := rfl
noncomputable def ct47_0t1 : Ct := tab [(43, pureC body43), (48, pureC body48)]
theorem ct47_0t1_ok : CtOk Try.prog ct47_0t1 := tab_cons ok43 <| tab_cons ok48 <| tab_nil
theorem ct47_0t1_43 (l : List AV) (h : List ABlk) : ct47_0t1 43 l h = pureC body43 l h := rfl
theorem ct47_0t1_48 (l : List AV) (h : List ABlk) : ct47_0t1 48 l h = pureC body48 l h := rfl
noncomputable def F47_0 (p0 : TCandidate) (p1 : Bool) (p2 : TCandidate) : Option (Bool) :=
  need (bif (!(!p1)) then ((F43 (wr .i64 (p0.Level - p0.Load)) (wr .i64 (p2.Level - p2.Load))).isSome) else true) <| need (bif (!(!p1)) then ((F43 p0.Level p2.Level).isSome) else true) <| bif (!p1) then (some true) else ((F48 [(gt (F43 (wr .i64 (p0.Level - p0.Load)) (wr .i64 (p2.Level - p2.Load)))), (gt (F43 p0.Level p2.Level))]).bind fun r3 => some (bLt 0 r3))
noncomputable def body47_0 : List AV → AR
  | [v0, v1, v2] => .pure (aK 13 k_TCandidate v0 ∧ rK 1 k_b v1 ∧ rK 13 k_TCandidate v2 ∧ (F47_0 (g_TCandidate (aL v0)) (g_b (rG v1)) (g_TCandidate (rG v2))).isSome = true) (.bool (gt (F47_0 (g_TCandidate (aL v0)) (g_b (rG v1)) (g_TCandidate (rG v2)))))
  | _ => .fail
set_option maxHeartbeats 4000000 in
set_option maxRecDepth 20000 in
theorem ok47_0 : FnOk Try.prog 47 (pureC body47_0) := by
  refine pure_fnM body47_0 (rs := [.tmp 4]) Try.func47 (by kernel_rfl) rfl rfl ?_
  intro l ob v hb hob
  unfold body47_0 at hb
  split at hb
  · rename_i v0 v1 v2
    injection hb with q1 q2; subst q1 q2
    obtain ⟨hk0_0, hk1_0, hk2_0, hob⟩ := hob
    obtain ⟨r, H⟩ := Option.isSome_iff_exists.1 hob
    rw [H, gt_some]
    have hw0 := wA_TCandidate hk0_0
    have hw1 := rK_wk (f := c_b) (g := g_b) (fun r h => w_b h) hk1_0
    have hw2 := rK_wk (f := c_TCandidate) (g := g_TCandidate) (fun r h => w_TCandidate h) hk2_0
    generalize g_TCandidate (aL v0) = p0 at H hw0
    generalize g_b (rG v1) = p1 at H hw1
    generalize g_TCandidate (rG v2) = p2 at H hw2
    refine ⟨[.agg [.int .u8 p0.Addr.x0, .int .u8 p0.Addr.x1, .int .u8 p0.Addr.x2, .int .u8 p0.Addr.x3, .int .u8 p0.Addr.x4, .int .u8 p0.Addr.x5, .int .i64 p0.Channel, .int .i64 p0.Level, .int .i64 p0.Load, .int .i64 p0.Heard, .int .i64 p0.Interval, .str p0.Name, .bool p0.Secure], .rptr 1 1 0 0 (enR c_b [p1]), .rptr 13 1 0 0 (enR c_TCandidate [p2])], _, (fun E vs F => FR_wk1 hw0.1 F (fun vs F => FR_wk1 hw1.1 F (fun vs F => FR_wk1 hw2.1 F (fun vs F => F)))), rfl, rfl, ?_⟩
    rw [Try.ntmps47]
    simp only [List.length_cons, List.length_nil, Nat.reduceAdd, Nat.reduceSub, List.replicate_succ, List.replicate_zero, List.cons_append, List.nil_append]
    unfold F47_0 at H
    try dsimp only at H
    refine sq ctNo_ok ?_
    simp only [go_sem, Nat.reduceLeDiff, Nat.reduceLT, Nat.reduceAdd, Nat.reduceMul, Nat.reduceSub, Nat.reduceEqDiff, Nat.reduceBEq, Int.reduceToNat, reduceCtorEq]
    refine seqM ?_
    obtain ⟨f1, H⟩ := need_some.1 H
    replace f1 := g_iff.1 f1
    obtain ⟨f2, H⟩ := need_some.1 H
    replace f2 := g_iff.1 f2
    refine bif_split (c := (!p1)) (fun hg5 => ?_) (fun hg5 => ?_)
    · replace H := cond_t hg5 H
      try replace f1 := f1 (by first | exact hg5 | simpa using hg5)
      try replace f2 := f2 (by first | exact hg5 | simpa using hg5)
      refine draw_quiet shT_ok ct47_0t1_ok (by kernel_rfl) (by kernel_rfl) ?_
      simp only [go_sem, Nat.reduceLeDiff, Nat.reduceLT, Nat.reduceAdd, Nat.reduceMul, Nat.reduceSub, Nat.reduceEqDiff, Nat.reduceBEq, Int.reduceToNat, reduceCtorEq, ct47_0t1_43, body43, ct47_0t1_48, body48, hg5]
      repeat ((with_reducible refine And.intro ?_ ?_); focus (first | (with_reducible trivial) | omega | exact f1 | exact f2 | (intro g; have q := f1 (by first | exact g | (rw [g]; rfl) | simpa using g); first | exact q | exact ⟨q.1, q.2.1⟩ | exact q.2.2 | omega | exact ⟨g, q⟩ | exact ⟨trivial, q⟩ | exact ⟨g, q.1, q.2.1⟩ | exact ⟨g, q.2.2⟩) | (intro g; have q := f2 (by first | exact g | (rw [g]; rfl) | simpa using g); first | exact q | exact ⟨q.1, q.2.1⟩ | exact q.2.2 | omega | exact ⟨g, q⟩ | exact ⟨trivial, q⟩ | exact ⟨g, q.1, q.2.1⟩ | exact ⟨g, q.2.2⟩) | (intro g; (try have q0 := f1 (by first | exact g | (rw [g]; rfl) | simpa using g)); (try have q1 := f2 (by first | exact g | (rw [g]; rfl) | simpa using g)); and_intros <;> first | (with_reducible trivial) | assumption | exact nfc | (intro g2; rw [g, g2]; rfl) | (intro g2; assumption) | (simp only [g, Bool.true_and, Bool.and_true, Bool.not_false, Bool.not_true]; assumption) | grind) | (and_intros <;> first | (with_reducible trivial) | omega | assumption | exact nfc | first | exact rfl | exact trivial | exact fitI | exact Or.inr rfl | exact Or.inl rfl | exact fun x hx => absurd hx (by omega) | (intro x hx; (repeat (first | (and_intros <;> (first | exact rfl | exact trivial | exact fitI | exact Or.inr rfl | exact Or.inl rfl | exact fun x hx => absurd hx (by omega))) | (exfalso; omega) | (rcases x with _ | x))); done)) | grind))
      refine rg ctNo_ok ?_
      simp only [go_sem, Nat.reduceLeDiff, Nat.reduceLT, Nat.reduceAdd, Nat.reduceMul, Nat.reduceSub, Nat.reduceEqDiff, Nat.reduceBEq, Int.reduceToNat, reduceCtorEq]
      obtain rfl := Option.some.inj H
      first | rfl | simp only [Bool.and_false, Bool.false_and, Bool.and_true, Bool.true_and]
    replace H := cond_f hg5 H
    try replace f1 := f1 (by first | exact hg5 | simpa using hg5)
    try replace f2 := f2 (by first | exact hg5 | simpa using hg5)
    obtain ⟨r3, e4, H⟩ := Option.bind_eq_some_iff.1 H
    refine draw_rule shT_ok ct47_0t1_ok 1 (by kernel_rfl) (by kernel_rfl) ?_
    intro an han
    simp only [d_nil, d_cons, nxtD, xrD, xoD, roEq, minL, List.append_nil, refsOp, refs, refsL, mask, maskF, place, placeF, okLog, pairOk, hit, inL, slotsF, ren, renL, rnN, nrH, nrB, nrL, nr, dead0, deadS, List.replicate_zero, List.replicate_succ, Nat.sub_self, Nat.add_zero, Nat.zero_add, Nat.reduceSub, Nat.not_lt_zero, Nat.zero_le, Nat.lt_add_one, go_sem, Nat.reduceLeDiff, Nat.reduceLT, Nat.reduceAdd, Nat.reduceMul, Nat.reduceSub, Nat.reduceEqDiff, Nat.reduceBEq, Int.reduceToNat, reduceCtorEq, ct47_0t1_43, body43, ct47_0t1_48, body48, hg5, e4]
    repeat ((with_reducible refine And.intro ?_ ?_); focus (and_intros <;> first | (with_reducible trivial) | (show anB _ _ _ = true; subst han; kernel_rfl) | (show (anB _ _ _ && _) = true; subst han; kernel_rfl) | omega | exact f1 | exact f2 | (intro g; have q := f1 (by first | exact g | (rw [g]; rfl) | simpa using g); first | exact q | exact ⟨q.1, q.2.1⟩ | exact q.2.2 | omega | exact ⟨g, q⟩ | exact ⟨trivial, q⟩ | exact ⟨g, q.1, q.2.1⟩ | exact ⟨g, q.2.2⟩) | (intro g; have q := f2 (by first | exact g | (rw [g]; rfl) | simpa using g); first | exact q | exact ⟨q.1, q.2.1⟩ | exact q.2.2 | omega | exact ⟨g, q⟩ | exact ⟨trivial, q⟩ | exact ⟨g, q.1, q.2.1⟩ | exact ⟨g, q.2.2⟩) | assumption | exact nrc | exact nfc | first | exact rfl | exact trivial | exact fitI | exact Or.inr rfl | exact Or.inl rfl | exact fun x hx => absurd hx (by omega) | (intro x hx; (repeat (first | (and_intros <;> (first | exact rfl | exact trivial | exact fitI | exact Or.inr rfl | exact Or.inl rfl | exact fun x hx => absurd hx (by omega))) | (exfalso; omega) | (rcases x with _ | x))); done)))
    refine rg ctNo_ok ?_
    simp only [go_sem, Nat.reduceLeDiff, Nat.reduceLT, Nat.reduceAdd, Nat.reduceMul, Nat.reduceSub, Nat.reduceEqDiff, Nat.reduceBEq, Int.reduceToNat, reduceCtorEq]
    obtain rfl := Option.some.inj H
    first | rfl | simp only [Bool.and_false, Bool.false_and, Bool.and_true, Bool.true_and]
  · cases hb
/-! hotspot/scan.Choose -/
noncomputable def ct21t0 : Ct := tab [(46, pureC body46)]
theorem ct21t0_ok : CtOk Try.prog ct21t0 := tab_cons ok46 <| tab_nil
theorem ct21t0_46 (l : List AV) (h : List ABlk) : ct21t0 46 l h = pureC body46 l h := rfl
noncomputable def ct21t1 : Ct := tab [(47, pureC body47_0)]
theorem ct21t1_ok : CtOk Try.prog ct21t1 := tab_cons ok47_0 <| tab_nil
theorem ct21t1_47 (l : List AV) (h : List ABlk) : ct21t1 47 l h = pureC body47_0 l h := rfl
noncomputable def F21_L1 (p0 : TCandidates) (p1 : TWanted) (p2 : Int) (v1_1 : Int) (v1_2 : Int) (v1_3 : Int) (v1_4 : Int) (v1_5 : Int) (v1_6 : Int) (v1_7 : Int) (v1_8 : Int) (v1_9 : Int) (v1_10 : Int) (v1_11 : Int) (v1_12 : Int) (v1_13 : ByteArray) (v1_14 : Bool) (v1_15 : Bool) : Option (Lp (Int × Int × Int × Int × Int × Int × Int × Int × Int × Int × Int × Int × ByteArray × Bool × Bool) ((Int × Int × Int × Int × Int × Int × Int × Int × Int × Int × Int × ByteArray × Bool × Bool) ⊕ (TCandidate × Int))) :=
  bif (bLt v1_1 (p0.List.length : Nat)) then (need (inb v1_1 p0.List.length) <| need (bif (((((sEq ((gd p0.List v1_1.toNat).Name) p1.Name) && (bB ((gd p0.List v1_1.toNat).Secure) p1.Secure)) && (bLe p1.Floor ((gd p0.List v1_1.toNat).Level))) && (bLe 0 (wr .i64 (p2 - ((gd p0.List v1_1.toNat).Heard))))) && (bLe (wr .i64 (p2 - ((gd p0.List v1_1.toNat).Heard))) p1.Life)) then ((F47_0 (TCandidate.mk (A6u8.mk (((gd p0.List v1_1.toNat).Addr).x0) (((gd p0.List v1_1.toNat).Addr).x1) (((gd p0.List v1_1.toNat).Addr).x2) (((gd p0.List v1_1.toNat).Addr).x3) (((gd p0.List v1_1.toNat).Addr).x4) (((gd p0.List v1_1.toNat).Addr).x5)) ((gd p0.List v1_1.toNat).Channel) ((gd p0.List v1_1.toNat).Level) ((gd p0.List v1_1.toNat).Load) ((gd p0.List v1_1.toNat).Heard) ((gd p0.List v1_1.toNat).Interval) ((gd p0.List v1_1.toNat).Name) ((gd p0.List v1_1.toNat).Secure)) v1_15 (TCandidate.mk (A6u8.mk v1_2 v1_3 v1_4 v1_5 v1_6 v1_7) v1_8 v1_9 v1_10 v1_11 v1_12 v1_13 v1_14)).isSome) else true) <| bif ((((((sEq ((gd p0.List v1_1.toNat).Name) p1.Name) && (bB ((gd p0.List v1_1.toNat).Secure) p1.Secure)) && (bLe p1.Floor ((gd p0.List v1_1.toNat).Level))) && (bLe 0 (wr .i64 (p2 - ((gd p0.List v1_1.toNat).Heard))))) && (bLe (wr .i64 (p2 - ((gd p0.List v1_1.toNat).Heard))) p1.Life)) && (gt (F47_0 (TCandidate.mk (A6u8.mk (((gd p0.List v1_1.toNat).Addr).x0) (((gd p0.List v1_1.toNat).Addr).x1) (((gd p0.List v1_1.toNat).Addr).x2) (((gd p0.List v1_1.toNat).Addr).x3) (((gd p0.List v1_1.toNat).Addr).x4) (((gd p0.List v1_1.toNat).Addr).x5)) ((gd p0.List v1_1.toNat).Channel) ((gd p0.List v1_1.toNat).Level) ((gd p0.List v1_1.toNat).Load) ((gd p0.List v1_1.toNat).Heard) ((gd p0.List v1_1.toNat).Interval) ((gd p0.List v1_1.toNat).Name) ((gd p0.List v1_1.toNat).Secure)) v1_15 (TCandidate.mk (A6u8.mk v1_2 v1_3 v1_4 v1_5 v1_6 v1_7) v1_8 v1_9 v1_10 v1_11 v1_12 v1_13 v1_14)))) then (some (.next (wr .i64 (v1_1 + 1), ((gd p0.List v1_1.toNat).Addr).x0, ((gd p0.List v1_1.toNat).Addr).x1, ((gd p0.List v1_1.toNat).Addr).x2, ((gd p0.List v1_1.toNat).Addr).x3, ((gd p0.List v1_1.toNat).Addr).x4, ((gd p0.List v1_1.toNat).Addr).x5, (gd p0.List v1_1.toNat).Channel, (gd p0.List v1_1.toNat).Level, (gd p0.List v1_1.toNat).Load, (gd p0.List v1_1.toNat).Heard, (gd p0.List v1_1.toNat).Interval, (gd p0.List v1_1.toNat).Name, (gd p0.List v1_1.toNat).Secure, true))) else (some (.next (wr .i64 (v1_1 + 1), v1_2, v1_3, v1_4, v1_5, v1_6, v1_7, v1_8, v1_9, v1_10, v1_11, v1_12, v1_13, v1_14, v1_15)))) else (some (.done (.inl (v1_2, v1_3, v1_4, v1_5, v1_6, v1_7, v1_8, v1_9, v1_10, v1_11, v1_12, v1_13, v1_14, v1_15))))
noncomputable def F21 (p0 : TCandidates) (p1 : TWanted) (p2 : Int) : Option (TCandidate × Int) :=
  (F46 p0 p2).bind fun r1 => bif (!bEq r1 0) then (some ((TCandidate.mk (A6u8.mk 0 0 0 0 0 0) 0 0 0 0 0 (ByteArray.mk #[]) false), r1)) else (lp (loopD (fun s => F21_L1 p0 p1 p2 s.1 s.2.1 s.2.2.1 s.2.2.2.1 s.2.2.2.2.1 s.2.2.2.2.2.1 s.2.2.2.2.2.2.1 s.2.2.2.2.2.2.2.1 s.2.2.2.2.2.2.2.2.1 s.2.2.2.2.2.2.2.2.2.1 s.2.2.2.2.2.2.2.2.2.2.1 s.2.2.2.2.2.2.2.2.2.2.2.1 s.2.2.2.2.2.2.2.2.2.2.2.2.1 s.2.2.2.2.2.2.2.2.2.2.2.2.2.1 s.2.2.2.2.2.2.2.2.2.2.2.2.2.2) (0, 0, 0, 0, 0, 0, 0, 0, 0, 0, 0, 0, (ByteArray.mk #[]), false, false)) (fun e => bif (!e.2.2.2.2.2.2.2.2.2.2.2.2.2) then (some ((TCandidate.mk (A6u8.mk e.1 e.2.1 e.2.2.1 e.2.2.2.1 e.2.2.2.2.1 e.2.2.2.2.2.1) e.2.2.2.2.2.2.1 e.2.2.2.2.2.2.2.1 e.2.2.2.2.2.2.2.2.1 e.2.2.2.2.2.2.2.2.2.1 e.2.2.2.2.2.2.2.2.2.2.1 e.2.2.2.2.2.2.2.2.2.2.2.1 e.2.2.2.2.2.2.2.2.2.2.2.2.1), 6)) else (some ((TCandidate.mk (A6u8.mk e.1 e.2.1 e.2.2.1 e.2.2.2.1 e.2.2.2.2.1 e.2.2.2.2.2.1) e.2.2.2.2.2.2.1 e.2.2.2.2.2.2.2.1 e.2.2.2.2.2.2.2.2.1 e.2.2.2.2.2.2.2.2.2.1 e.2.2.2.2.2.2.2.2.2.2.1 e.2.2.2.2.2.2.2.2.2.2.2.1 e.2.2.2.2.2.2.2.2.2.2.2.2.1), 0))) some)
noncomputable def body21 : List AV → AR
  | [v0, v1, v2] => .pure (aK 1 k_TCandidates v0 ∧ aK 4 k_TWanted v1 ∧ iK .i64 v2 ∧ (F21 (g_TCandidates (aL v0)) (g_TWanted (aL v1)) (iA v2)).isSome = true) (.tup [.agg [.int .u8 ((((gt (F21 (g_TCandidates (aL v0)) (g_TWanted (aL v1)) (iA v2))).1).Addr).x0), .int .u8 ((((gt (F21 (g_TCandidates (aL v0)) (g_TWanted (aL v1)) (iA v2))).1).Addr).x1), .int .u8 ((((gt (F21 (g_TCandidates (aL v0)) (g_TWanted (aL v1)) (iA v2))).1).Addr).x2), .int .u8 ((((gt (F21 (g_TCandidates (aL v0)) (g_TWanted (aL v1)) (iA v2))).1).Addr).x3), .int .u8 ((((gt (F21 (g_TCandidates (aL v0)) (g_TWanted (aL v1)) (iA v2))).1).Addr).x4), .int .u8 ((((gt (F21 (g_TCandidates (aL v0)) (g_TWanted (aL v1)) (iA v2))).1).Addr).x5), .int .i64 (((gt (F21 (g_TCandidates (aL v0)) (g_TWanted (aL v1)) (iA v2))).1).Channel), .int .i64 (((gt (F21 (g_TCandidates (aL v0)) (g_TWanted (aL v1)) (iA v2))).1).Level), .int .i64 (((gt (F21 (g_TCandidates (aL v0)) (g_TWanted (aL v1)) (iA v2))).1).Load), .int .i64 (((gt (F21 (g_TCandidates (aL v0)) (g_TWanted (aL v1)) (iA v2))).1).Heard), .int .i64 (((gt (F21 (g_TCandidates (aL v0)) (g_TWanted (aL v1)) (iA v2))).1).Interval), .str (((gt (F21 (g_TCandidates (aL v0)) (g_TWanted (aL v1)) (iA v2))).1).Name), .bool (((gt (F21 (g_TCandidates (aL v0)) (g_TWanted (aL v1)) (iA v2))).1).Secure)], .int .i64 ((gt (F21 (g_TCandidates (aL v0)) (g_TWanted (aL v1)) (iA v2))).2)])
  | _ => .fail
set_option maxHeartbeats 4000000 in
set_option maxRecDepth 20000 in
theorem ok21 : FnOk Try.prog 21 (pureC body21) := by
  refine pure_fnM body21 (rs := [.cell 6 52, .tmp 7]) Try.func21 (by kernel_rfl) rfl rfl ?_
  intro l ob v hb hob
  unfold body21 at hb
  split at hb
  · rename_i v0 v1 v2
    injection hb with q1 q2; subst q1 q2
    obtain ⟨hk0_0, hk1_0, hk2_0, hob⟩ := hob
    obtain ⟨r, H⟩ := Option.isSome_iff_exists.1 hob
    rw [H, gt_some]
    have hw0 := wA_TCandidates hk0_0
    have hw1 := wA_TWanted hk1_0
    have hw2 := iK_wk hk2_0
    generalize g_TCandidates (aL v0) = p0 at H hw0
    generalize g_TWanted (aL v1) = p1 at H hw1
    generalize iA v2 = p2 at H hw2
    refine ⟨[.agg [.ro 13 p0.List.length false (enR c_TCandidate p0.List)], .agg [.str p1.Name, .bool p1.Secure, .int .i64 p1.Floor, .int .i64 p1.Life], .int .i64 p2], _, (fun E vs F => FR_wk1 hw0.1 F (fun vs F => FR_wk1 hw1.1 F (fun vs F => FR_wk1 hw2.1 F (fun vs F => F)))), rfl, rfl, ?_⟩
    rw [Try.ntmps21]
    simp only [List.length_cons, List.length_nil, Nat.reduceAdd, Nat.reduceSub, List.replicate_succ, List.replicate_zero, List.cons_append, List.nil_append]
    unfold F21 at H
    try dsimp only at H
    refine sq ctNo_ok ?_
    simp only [go_sem, Nat.reduceLeDiff, Nat.reduceLT, Nat.reduceAdd, Nat.reduceMul, Nat.reduceSub, Nat.reduceEqDiff, Nat.reduceBEq, Int.reduceToNat, reduceCtorEq]
    refine seqM ?_
    refine seqM ?_
    obtain ⟨r1, e2, H⟩ := Option.bind_eq_some_iff.1 H
    refine rg ct21t0_ok ?_
    simp only [go_sem, Nat.reduceLeDiff, Nat.reduceLT, Nat.reduceAdd, Nat.reduceMul, Nat.reduceSub, Nat.reduceEqDiff, Nat.reduceBEq, Int.reduceToNat, reduceCtorEq, ct21t0_46, body46, e2]
    repeat ((with_reducible refine And.intro ?_ ?_); focus (first | (with_reducible trivial) | omega | (and_intros <;> first | (with_reducible trivial) | omega | assumption | exact nfc | first | exact rfl | exact trivial | exact fitI | exact Or.inr rfl | exact Or.inl rfl | exact fun x hx => absurd hx (by omega) | (intro x hx; (repeat (first | (and_intros <;> (first | exact rfl | exact trivial | exact fitI | exact Or.inr rfl | exact Or.inl rfl | exact fun x hx => absurd hx (by omega))) | (exfalso; omega) | (rcases x with _ | x))); done)) | grind))
    refine sq ctNo_ok ?_
    simp only [go_sem, Nat.reduceLeDiff, Nat.reduceLT, Nat.reduceAdd, Nat.reduceMul, Nat.reduceSub, Nat.reduceEqDiff, Nat.reduceBEq, Int.reduceToNat, reduceCtorEq]
    refine condM rfl trivial (fun hc => ?_) (fun hc => ?_)
    · replace H := cond_t hc H
      refine sq ctNo_ok ?_
      simp only [go_sem, Nat.reduceLeDiff, Nat.reduceLT, Nat.reduceAdd, Nat.reduceMul, Nat.reduceSub, Nat.reduceEqDiff, Nat.reduceBEq, Int.reduceToNat, reduceCtorEq]
      repeat ((with_reducible refine And.intro ?_ ?_); focus (first | (with_reducible trivial) | omega | grind))
      refine rg ctNo_ok ?_
      simp only [go_sem, Nat.reduceLeDiff, Nat.reduceLT, Nat.reduceAdd, Nat.reduceMul, Nat.reduceSub, Nat.reduceEqDiff, Nat.reduceBEq, Int.reduceToNat, reduceCtorEq]
      obtain rfl := Option.some.inj H
      first | rfl | simp only [Bool.and_false, Bool.false_and, Bool.and_true, Bool.true_and]
    replace H := cond_f hc H
    refine rg ctNo_ok ?_
    simp only [go_sem, Nat.reduceLeDiff, Nat.reduceLT, Nat.reduceAdd, Nat.reduceMul, Nat.reduceSub, Nat.reduceEqDiff, Nat.reduceBEq, Int.reduceToNat, reduceCtorEq]
    refine sq ctNo_ok ?_
    simp only [go_sem, Nat.reduceLeDiff, Nat.reduceLT, Nat.reduceAdd, Nat.reduceMul, Nat.reduceSub, Nat.reduceEqDiff, Nat.reduceBEq, Int.reduceToNat, reduceCtorEq]
    repeat ((with_reducible refine And.intro ?_ ?_); focus (first | (with_reducible trivial) | omega | grind))
    refine sq ctNo_ok ?_
    simp only [go_sem, Nat.reduceLeDiff, Nat.reduceLT, Nat.reduceAdd, Nat.reduceMul, Nat.reduceSub, Nat.reduceEqDiff, Nat.reduceBEq, Int.reduceToNat, reduceCtorEq]
    refine seqM ?_
    refine sq ctNo_ok ?_
    simp only [go_sem, Nat.reduceLeDiff, Nat.reduceLT, Nat.reduceAdd, Nat.reduceMul, Nat.reduceSub, Nat.reduceEqDiff, Nat.reduceBEq, Int.reduceToNat, reduceCtorEq]
    repeat ((with_reducible refine And.intro ?_ ?_); focus (first | (with_reducible trivial) | omega | (and_intros <;> first | (with_reducible trivial) | omega | assumption | exact nfc | first | exact rfl | exact trivial | exact fitI | exact Or.inr rfl | exact Or.inl rfl | exact fun x hx => absurd hx (by omega) | (intro x hx; (repeat (first | (and_intros <;> (first | exact rfl | exact trivial | exact fitI | exact Or.inr rfl | exact Or.inl rfl | exact fun x hx => absurd hx (by omega))) | (exfalso; omega) | (rcases x with _ | x))); done)) | grind))
    refine blkM ?_
    refine loop_den (fun s : Int × Int × Int × Int × Int × Int × Int × Int × Int × Int × Int × Int × ByteArray × Bool × Bool => (.top :: .top :: .int .i64 p2 :: .top :: .ptr 1 0 0 0 :: .top :: .ptr 2 0 0 0 :: .top :: .top :: .ptr 3 0 0 0 :: .fn 47 [.ptr 3 0 0 0, .ptr 2 0 0 0] :: .top :: .top :: .top :: .top :: .top :: .top :: .top :: .top :: .top :: .top :: .top :: .top :: .ro 13 p0.List.length false (enR c_TCandidate p0.List) :: .int .i64 (p0.List.length : Nat) :: .int .i64 s.1 :: .top :: .top :: .top :: .top :: .top :: .top :: .top :: .top :: .top :: .top :: .top :: .top :: .top :: .top :: .top :: .top :: .top :: .top :: .top :: .top :: .top :: .top :: .top :: .top :: .top :: .top :: .top :: .top :: .top :: .top :: .top :: .top :: .top :: .top :: .top :: .top :: .top :: .top :: .top :: .top :: .top :: .top :: .top :: .top :: .top :: .top :: .top :: [])) (fun s => [.dead, .lit 59 [.str p1.Name, .bool p1.Secure, .int .i64 p1.Floor, .int .i64 p1.Life], .lit 52 [.int .u8 s.2.1, .int .u8 s.2.2.1, .int .u8 s.2.2.2.1, .int .u8 s.2.2.2.2.1, .int .u8 s.2.2.2.2.2.1, .int .u8 s.2.2.2.2.2.2.1, .int .i64 s.2.2.2.2.2.2.2.1, .int .i64 s.2.2.2.2.2.2.2.2.1, .int .i64 s.2.2.2.2.2.2.2.2.2.1, .int .i64 s.2.2.2.2.2.2.2.2.2.2.1, .int .i64 s.2.2.2.2.2.2.2.2.2.2.2.1, .str s.2.2.2.2.2.2.2.2.2.2.2.2.1, .bool s.2.2.2.2.2.2.2.2.2.2.2.2.2.1], .lit 4 [.bool s.2.2.2.2.2.2.2.2.2.2.2.2.2.2]]) (fun e : Int × Int × Int × Int × Int × Int × Int × Int × Int × Int × Int × ByteArray × Bool × Bool => (.top :: .top :: .top :: .top :: .top :: .top :: .ptr 2 0 0 0 :: .top :: .top :: .ptr 3 0 0 0 :: .top :: .top :: .top :: .top :: .top :: .top :: .top :: .top :: .top :: .top :: .top :: .top :: .top :: .top :: .top :: .top :: .top :: .top :: .top :: .top :: .top :: .top :: .top :: .top :: .top :: .top :: .top :: .top :: .top :: .top :: .top :: .top :: .top :: .top :: .top :: .top :: .top :: .top :: .top :: .top :: .top :: .top :: .top :: .top :: .top :: .top :: .top :: .top :: .top :: .top :: .top :: .top :: .top :: .top :: .top :: .top :: .top :: .top :: .top :: .top :: .top :: .top :: .top :: [])) (fun e => [.dead, .dead, .lit 52 [.int .u8 e.1, .int .u8 e.2.1, .int .u8 e.2.2.1, .int .u8 e.2.2.2.1, .int .u8 e.2.2.2.2.1, .int .u8 e.2.2.2.2.2.1, .int .i64 e.2.2.2.2.2.2.1, .int .i64 e.2.2.2.2.2.2.2.1, .int .i64 e.2.2.2.2.2.2.2.2.1, .int .i64 e.2.2.2.2.2.2.2.2.2.1, .int .i64 e.2.2.2.2.2.2.2.2.2.2.1, .str e.2.2.2.2.2.2.2.2.2.2.2.1, .bool e.2.2.2.2.2.2.2.2.2.2.2.2.1], .lit 4 [.bool e.2.2.2.2.2.2.2.2.2.2.2.2.2]]) H ?_ (fun s o H hn1_1 hn2_1 => ?_) (fun e H => ?_)
    · refine SubF_of ⟨[some 0, some 1, some 2, some 3], ?_, ?_, by rfl, by rfl⟩
      · simp [CvL, Cv, getM]
      · exact ⟨CvB_dead, (by simp [CvB, CvL, Cv, blkAt, geth, getM]), (by simp [CvB, CvL, Cv, blkAt, geth, getM]), (by simp [CvB, CvL, Cv, blkAt, geth, getM]), trivial⟩
    · obtain ⟨v1_1, v1_2, v1_3, v1_4, v1_5, v1_6, v1_7, v1_8, v1_9, v1_10, v1_11, v1_12, v1_13, v1_14, v1_15⟩ := s
      unfold F21_L1 at H
      try dsimp only at H ⊢
      refine sq ctNo_ok ?_
      simp only [go_sem, Nat.reduceLeDiff, Nat.reduceLT, Nat.reduceAdd, Nat.reduceMul, Nat.reduceSub, Nat.reduceEqDiff, Nat.reduceBEq, Int.reduceToNat, reduceCtorEq]
      refine seqM ?_
      refine condM' rfl trivial (fun hc => ?_) (fun hc => ?_)
      · replace H := cond_f hc H
        refine rg ctNo_ok ?_
        simp only [go_sem, Nat.reduceLeDiff, Nat.reduceLT, Nat.reduceAdd, Nat.reduceMul, Nat.reduceSub, Nat.reduceEqDiff, Nat.reduceBEq, Int.reduceToNat, reduceCtorEq]
        refine ⟨_, (Option.some.inj H).symm, ?_⟩
        refine SubF_of ⟨[some 0, some 1, some 2, some 3], ?_, ?_, by rfl, by rfl⟩
        · simp [CvL, Cv, getM]
        · exact ⟨CvB_dead, CvB_dead, (by simp [CvB, CvL, Cv, blkAt, geth, getM]), (by simp [CvB, CvL, Cv, blkAt, geth, getM]), trivial⟩
      replace H := cond_t hc H
      refine rg ctNo_ok ?_
      simp only [go_sem, Nat.reduceLeDiff, Nat.reduceLT, Nat.reduceAdd, Nat.reduceMul, Nat.reduceSub, Nat.reduceEqDiff, Nat.reduceBEq, Int.reduceToNat, reduceCtorEq]
      refine seqM ?_
      refine blkM ?_
      refine seqM ?_
      obtain ⟨f3, H⟩ := need_some.1 H
      replace f3 := inb_iff.1 f3
      refine rg ctNo_ok ?_
      simp only [go_sem, Nat.reduceLeDiff, Nat.reduceLT, Nat.reduceAdd, Nat.reduceMul, Nat.reduceSub, Nat.reduceEqDiff, Nat.reduceBEq, Int.reduceToNat, reduceCtorEq, f3]
      repeat ((with_reducible refine And.intro ?_ ?_); focus (first | (with_reducible trivial) | omega | grind))
      refine sq ctNo_ok ?_
      simp only [go_sem, Nat.reduceLeDiff, Nat.reduceLT, Nat.reduceAdd, Nat.reduceMul, Nat.reduceSub, Nat.reduceEqDiff, Nat.reduceBEq, Int.reduceToNat, reduceCtorEq]
      refine seqM ?_
      obtain ⟨f4, H⟩ := need_some.1 H
      replace f4 := g_iff.1 f4
      refine rg ct21t1_ok ?_
      simp only [go_sem, Nat.reduceLeDiff, Nat.reduceLT, Nat.reduceAdd, Nat.reduceMul, Nat.reduceSub, Nat.reduceEqDiff, Nat.reduceBEq, Int.reduceToNat, reduceCtorEq, ct21t1_47, body47_0]
      repeat ((with_reducible refine And.intro ?_ ?_); focus (first | (with_reducible trivial) | omega | exact f4 | (intro g; have q := f4 (by first | exact g | (rw [g]; rfl) | simpa using g); first | exact q | exact ⟨q.1, q.2.1⟩ | exact q.2.2 | omega | exact ⟨g, q⟩ | exact ⟨trivial, q⟩ | exact ⟨g, q.1, q.2.1⟩ | exact ⟨g, q.2.2⟩) | (intro g; (try have q0 := f4 (by first | exact g | (rw [g]; rfl) | simpa using g)); and_intros <;> first | (with_reducible trivial) | assumption | exact nfc | (intro g2; rw [g, g2]; rfl) | (intro g2; assumption) | (simp only [g, Bool.true_and, Bool.and_true, Bool.not_false, Bool.not_true]; assumption) | grind) | (and_intros <;> first | (with_reducible trivial) | omega | assumption | exact nfc | first | exact rfl | exact trivial | exact fitI | exact Or.inr rfl | exact Or.inl rfl | exact fun x hx => absurd hx (by omega) | (intro x hx; (repeat (first | (and_intros <;> (first | exact rfl | exact trivial | exact fitI | exact Or.inr rfl | exact Or.inl rfl | exact fun x hx => absurd hx (by omega))) | (exfalso; omega) | (rcases x with _ | x))); done)) | grind))
      refine condM' rfl trivial (fun hc => ?_) (fun hc => ?_)
      · replace H := cond_f hc H
        refine rg ctNo_ok ?_
        simp only [go_sem, Nat.reduceLeDiff, Nat.reduceLT, Nat.reduceAdd, Nat.reduceMul, Nat.reduceSub, Nat.reduceEqDiff, Nat.reduceBEq, Int.reduceToNat, reduceCtorEq]
        refine rg ctNo_ok ?_
        simp only [go_sem, Nat.reduceLeDiff, Nat.reduceLT, Nat.reduceAdd, Nat.reduceMul, Nat.reduceSub, Nat.reduceEqDiff, Nat.reduceBEq, Int.reduceToNat, reduceCtorEq]
        refine ⟨_, (Option.some.inj H).symm, ?_⟩
        refine SubF_of ⟨[some 0, some 1, some 2, some 3], ?_, ?_, by rfl, by rfl⟩
        · simp [CvL, Cv, getM]
        · exact ⟨CvB_dead, (by simp [CvB, CvL, Cv, blkAt, geth, getM]), (by simp [CvB, CvL, Cv, blkAt, geth, getM]), (by simp [CvB, CvL, Cv, blkAt, geth, getM]), trivial⟩
      replace H := cond_t hc H
      refine rg ctNo_ok ?_
      simp only [go_sem, Nat.reduceLeDiff, Nat.reduceLT, Nat.reduceAdd, Nat.reduceMul, Nat.reduceSub, Nat.reduceEqDiff, Nat.reduceBEq, Int.reduceToNat, reduceCtorEq]
      repeat ((with_reducible refine And.intro ?_ ?_); focus (first | (with_reducible trivial) | omega | grind))
      refine rg ctNo_ok ?_
      simp only [go_sem, Nat.reduceLeDiff, Nat.reduceLT, Nat.reduceAdd, Nat.reduceMul, Nat.reduceSub, Nat.reduceEqDiff, Nat.reduceBEq, Int.reduceToNat, reduceCtorEq]
      refine ⟨_, (Option.some.inj H).symm, ?_⟩
      refine SubF_of ⟨[some 0, some 1, some 2, some 3], ?_, ?_, by rfl, by rfl⟩
      · simp [CvL, Cv, getM]
      · exact ⟨CvB_dead, (by simp [CvB, CvL, Cv, blkAt, geth, getM]), (by simp [CvB, CvL, Cv, blkAt, geth, getM]), (by simp [CvB, CvL, Cv, blkAt, geth, getM]), trivial⟩
    · obtain ⟨w1_16, w1_17, w1_18, w1_19, w1_20, w1_21, w1_22, w1_23, w1_24, w1_25, w1_26, w1_27, w1_28, w1_29⟩ := e
      try dsimp only at H ⊢
      try simp only [m_normal, k_normal, b_normal, kL_normal, r_normal]
      refine seqM ?_
      refine sq ctNo_ok ?_
      simp only [go_sem, Nat.reduceLeDiff, Nat.reduceLT, Nat.reduceAdd, Nat.reduceMul, Nat.reduceSub, Nat.reduceEqDiff, Nat.reduceBEq, Int.reduceToNat, reduceCtorEq]
      refine condM rfl trivial (fun hc => ?_) (fun hc => ?_)
      · replace H := cond_t hc H
        refine sq ctNo_ok ?_
        simp only [go_sem, Nat.reduceLeDiff, Nat.reduceLT, Nat.reduceAdd, Nat.reduceMul, Nat.reduceSub, Nat.reduceEqDiff, Nat.reduceBEq, Int.reduceToNat, reduceCtorEq]
        repeat ((with_reducible refine And.intro ?_ ?_); focus (first | (with_reducible trivial) | omega | grind))
        refine rg ctNo_ok ?_
        simp only [go_sem, Nat.reduceLeDiff, Nat.reduceLT, Nat.reduceAdd, Nat.reduceMul, Nat.reduceSub, Nat.reduceEqDiff, Nat.reduceBEq, Int.reduceToNat, reduceCtorEq]
        obtain rfl := Option.some.inj H
        first | rfl | simp only [Bool.and_false, Bool.false_and, Bool.and_true, Bool.true_and]
      replace H := cond_f hc H
      refine rg ctNo_ok ?_
      simp only [go_sem, Nat.reduceLeDiff, Nat.reduceLT, Nat.reduceAdd, Nat.reduceMul, Nat.reduceSub, Nat.reduceEqDiff, Nat.reduceBEq, Int.reduceToNat, reduceCtorEq]
      refine sq ctNo_ok ?_
      simp only [go_sem, Nat.reduceLeDiff, Nat.reduceLT, Nat.reduceAdd, Nat.reduceMul, Nat.reduceSub, Nat.reduceEqDiff, Nat.reduceBEq, Int.reduceToNat, reduceCtorEq]
      repeat ((with_reducible refine And.intro ?_ ?_); focus (first | (with_reducible trivial) | omega | grind))
      refine rg ctNo_ok ?_
      simp only [go_sem, Nat.reduceLeDiff, Nat.reduceLT, Nat.reduceAdd, Nat.reduceMul, Nat.reduceSub, Nat.reduceEqDiff, Nat.reduceBEq, Int.reduceToNat, reduceCtorEq]
      obtain rfl := Option.some.inj H
      first | rfl | simp only [Bool.and_false, Bool.false_and, Bool.and_true, Bool.true_and]
  · cases hb
/-! hotspot/hotspotref28.SameVisits -/
noncomputable def F13_L1 (p0 : List TVisit) (p1 : List TVisit) (v1_1 : Int) : Option (Lp (Int) ((Unit) ⊕ (Bool))) :=
  bif (bLt v1_1 (p0.length : Nat)) then (need (inb v1_1 p0.length) <| need (inb v1_1 p1.length) <| bif (!(bEq ((gd p0 v1_1.toNat).Channel) ((gd p1 v1_1.toNat).Channel) && (bEq ((gd p0 v1_1.toNat).From) ((gd p1 v1_1.toNat).From) && (bEq ((gd p0 v1_1.toNat).To) ((gd p1 v1_1.toNat).To) && (bB ((gd p0 v1_1.toNat).Probe) ((gd p1 v1_1.toNat).Probe)))))) then (some (.done (.inr false))) else (some (.next (wr .i64 (v1_1 + 1))))) else (some (.done (.inl ())))
noncomputable def F13 (p0 : List TVisit) (p1 : List TVisit) : Option (Bool) :=
  bif (!bEq (p0.length : Nat) (p1.length : Nat)) then (some false) else (lp (loopD (fun s => F13_L1 p0 p1 s) 0) (fun e => some true) some)
noncomputable def body13 : List AV → AR
  | [v0, v1] => .pure (lK k_TVisit 4 v0 ∧ lK k_TVisit 4 v1 ∧ (F13 (lA g_TVisit v0) (lA g_TVisit v1)).isSome = true) (.bool (gt (F13 (lA g_TVisit v0) (lA g_TVisit v1))))
  | _ => .fail
set_option maxHeartbeats 4000000 in
set_option maxRecDepth 20000 in
theorem ok13 : FnOk Try.prog 13 (pureC body13) := by
  refine pure_fnM body13 (rs := [.tmp 4]) Try.func13 (by kernel_rfl) rfl rfl ?_
  intro l ob v hb hob
  unfold body13 at hb
  split at hb
  · rename_i v0 v1
    injection hb with q1 q2; subst q1 q2
    obtain ⟨hk0_0, hk1_0, hob⟩ := hob
    obtain ⟨r, H⟩ := Option.isSome_iff_exists.1 hob
    rw [H, gt_some]
    have hw0 := lK_wk (fun r h => w_TVisit h) hk0_0
    have hw1 := lK_wk (fun r h => w_TVisit h) hk1_0
    generalize lA g_TVisit v0 = p0 at H hw0
    generalize lA g_TVisit v1 = p1 at H hw1
    refine ⟨[.ro 4 p0.length false (enR c_TVisit p0), .ro 4 p1.length false (enR c_TVisit p1)], _, (fun E vs F => FR_wk1 hw0.1 F (fun vs F => FR_wk1 hw1.1 F (fun vs F => F))), rfl, rfl, ?_⟩
    rw [Try.ntmps13]
    simp only [List.length_cons, List.length_nil, Nat.reduceAdd, Nat.reduceSub, List.replicate_succ, List.replicate_zero, List.cons_append, List.nil_append]
    unfold F13 at H
    try dsimp only at H
    refine sq ctNo_ok ?_
    simp only [go_sem, Nat.reduceLeDiff, Nat.reduceLT, Nat.reduceAdd, Nat.reduceMul, Nat.reduceSub, Nat.reduceEqDiff, Nat.reduceBEq, Int.reduceToNat, reduceCtorEq]
    refine seqM ?_
    refine sq ctNo_ok ?_
    simp only [go_sem, Nat.reduceLeDiff, Nat.reduceLT, Nat.reduceAdd, Nat.reduceMul, Nat.reduceSub, Nat.reduceEqDiff, Nat.reduceBEq, Int.reduceToNat, reduceCtorEq]
    repeat ((with_reducible refine And.intro ?_ ?_); focus (first | (with_reducible trivial) | omega | (and_intros <;> first | (with_reducible trivial) | omega | assumption | exact nfc | first | exact rfl | exact trivial | exact fitI | exact Or.inr rfl | exact Or.inl rfl | exact fun x hx => absurd hx (by omega) | (intro x hx; (repeat (first | (and_intros <;> (first | exact rfl | exact trivial | exact fitI | exact Or.inr rfl | exact Or.inl rfl | exact fun x hx => absurd hx (by omega))) | (exfalso; omega) | (rcases x with _ | x))); done)) | grind))
    refine condM rfl trivial (fun hc => ?_) (fun hc => ?_)
    · replace H := cond_t hc H
      refine sq ctNo_ok ?_
      simp only [go_sem, Nat.reduceLeDiff, Nat.reduceLT, Nat.reduceAdd, Nat.reduceMul, Nat.reduceSub, Nat.reduceEqDiff, Nat.reduceBEq, Int.reduceToNat, reduceCtorEq]
      refine rg ctNo_ok ?_
      simp only [go_sem, Nat.reduceLeDiff, Nat.reduceLT, Nat.reduceAdd, Nat.reduceMul, Nat.reduceSub, Nat.reduceEqDiff, Nat.reduceBEq, Int.reduceToNat, reduceCtorEq]
      obtain rfl := Option.some.inj H
      first | rfl | simp only [Bool.and_false, Bool.false_and, Bool.and_true, Bool.true_and]
    replace H := cond_f hc H
    refine rg ctNo_ok ?_
    simp only [go_sem, Nat.reduceLeDiff, Nat.reduceLT, Nat.reduceAdd, Nat.reduceMul, Nat.reduceSub, Nat.reduceEqDiff, Nat.reduceBEq, Int.reduceToNat, reduceCtorEq]
    refine seqM ?_
    refine sq ctNo_ok ?_
    simp only [go_sem, Nat.reduceLeDiff, Nat.reduceLT, Nat.reduceAdd, Nat.reduceMul, Nat.reduceSub, Nat.reduceEqDiff, Nat.reduceBEq, Int.reduceToNat, reduceCtorEq]
    refine blkM ?_
    refine loop_den (fun s : Int => [.ro 4 p0.length false (enR c_TVisit p0), .ro 4 p1.length false (enR c_TVisit p1), .top, .top, .top, .int .i64 s, .top, .top, .top, .top, .top, .top, .top, .top, .top, .top, .top, .top, .top, .top, .top, .top, .top, .top, .top, .top]) (fun s => []) (fun e : Unit => [.top, .top, .top, .top, .top, .top, .top, .top, .top, .top, .top, .top, .top, .top, .top, .top, .top, .top, .top, .top, .top, .top, .top, .top, .top, .top]) (fun e => []) H ?_ (fun v1_1 o H hn1_1 hn2_1 => ?_) (fun e H => ?_)
    · refine SubF_of ⟨[], ?_, ?_, by rfl, by rfl⟩
      · simp [CvL, Cv, getM]
      · trivial
    · unfold F13_L1 at H
      try dsimp only at H ⊢
      refine seqM ?_
      refine sq ctNo_ok ?_
      simp only [go_sem, Nat.reduceLeDiff, Nat.reduceLT, Nat.reduceAdd, Nat.reduceMul, Nat.reduceSub, Nat.reduceEqDiff, Nat.reduceBEq, Int.reduceToNat, reduceCtorEq]
      repeat ((with_reducible refine And.intro ?_ ?_); focus (first | (with_reducible trivial) | omega | (and_intros <;> first | (with_reducible trivial) | omega | assumption | exact nfc | first | exact rfl | exact trivial | exact fitI | exact Or.inr rfl | exact Or.inl rfl | exact fun x hx => absurd hx (by omega) | (intro x hx; (repeat (first | (and_intros <;> (first | exact rfl | exact trivial | exact fitI | exact Or.inr rfl | exact Or.inl rfl | exact fun x hx => absurd hx (by omega))) | (exfalso; omega) | (rcases x with _ | x))); done)) | grind))
      refine condM' rfl trivial (fun hc => ?_) (fun hc => ?_)
      · replace H := cond_f hc H
        refine rg ctNo_ok ?_
        simp only [go_sem, Nat.reduceLeDiff, Nat.reduceLT, Nat.reduceAdd, Nat.reduceMul, Nat.reduceSub, Nat.reduceEqDiff, Nat.reduceBEq, Int.reduceToNat, reduceCtorEq]
        refine ⟨_, (Option.some.inj H).symm, ?_⟩
        refine SubF_of ⟨[], ?_, ?_, by rfl, by rfl⟩
        · simp [CvL, Cv, getM]
        · trivial
      replace H := cond_t hc H
      refine rg ctNo_ok ?_
      simp only [go_sem, Nat.reduceLeDiff, Nat.reduceLT, Nat.reduceAdd, Nat.reduceMul, Nat.reduceSub, Nat.reduceEqDiff, Nat.reduceBEq, Int.reduceToNat, reduceCtorEq]
      refine seqM ?_
      refine blkM ?_
      refine seqM ?_
      obtain ⟨f1, H⟩ := need_some.1 H
      replace f1 := inb_iff.1 f1
      obtain ⟨f2, H⟩ := need_some.1 H
      replace f2 := inb_iff.1 f2
      refine draw_quiet shT_ok ctNo_ok (by kernel_rfl) (by kernel_rfl) ?_
      simp only [go_sem, Nat.reduceLeDiff, Nat.reduceLT, Nat.reduceAdd, Nat.reduceMul, Nat.reduceSub, Nat.reduceEqDiff, Nat.reduceBEq, Int.reduceToNat, reduceCtorEq, f1, f2]
      repeat ((with_reducible refine And.intro ?_ ?_); focus (first | (with_reducible trivial) | omega | grind))
      refine condM rfl trivial (fun hc => ?_) (fun hc => ?_)
      · replace H := cond_t hc H
        refine sq ctNo_ok ?_
        simp only [go_sem, Nat.reduceLeDiff, Nat.reduceLT, Nat.reduceAdd, Nat.reduceMul, Nat.reduceSub, Nat.reduceEqDiff, Nat.reduceBEq, Int.reduceToNat, reduceCtorEq]
        refine rg ctNo_ok ?_
        simp only [go_sem, Nat.reduceLeDiff, Nat.reduceLT, Nat.reduceAdd, Nat.reduceMul, Nat.reduceSub, Nat.reduceEqDiff, Nat.reduceBEq, Int.reduceToNat, reduceCtorEq]
        have H := hn2_1 _ (Option.some.inj H).symm
        obtain rfl := Option.some.inj H
        first | rfl | simp only [Bool.and_false, Bool.false_and, Bool.and_true, Bool.true_and]
      replace H := cond_f hc H
      refine rg ctNo_ok ?_
      simp only [go_sem, Nat.reduceLeDiff, Nat.reduceLT, Nat.reduceAdd, Nat.reduceMul, Nat.reduceSub, Nat.reduceEqDiff, Nat.reduceBEq, Int.reduceToNat, reduceCtorEq]
      refine rg ctNo_ok ?_
      simp only [go_sem, Nat.reduceLeDiff, Nat.reduceLT, Nat.reduceAdd, Nat.reduceMul, Nat.reduceSub, Nat.reduceEqDiff, Nat.reduceBEq, Int.reduceToNat, reduceCtorEq]
      refine ⟨_, (Option.some.inj H).symm, ?_⟩
      refine SubF_of ⟨[], ?_, ?_, by rfl, by rfl⟩
      · simp [CvL, Cv, getM]
      · trivial
    · try dsimp only at H ⊢
      try simp only [m_normal, k_normal, b_normal, kL_normal, r_normal]
      refine sq ctNo_ok ?_
      simp only [go_sem, Nat.reduceLeDiff, Nat.reduceLT, Nat.reduceAdd, Nat.reduceMul, Nat.reduceSub, Nat.reduceEqDiff, Nat.reduceBEq, Int.reduceToNat, reduceCtorEq]
      refine rg ctNo_ok ?_
      simp only [go_sem, Nat.reduceLeDiff, Nat.reduceLT, Nat.reduceAdd, Nat.reduceMul, Nat.reduceSub, Nat.reduceEqDiff, Nat.reduceBEq, Int.reduceToNat, reduceCtorEq]
      obtain rfl := Option.some.inj H
      first | rfl | simp only [Bool.and_false, Bool.false_and, Bool.and_true, Bool.true_and]
  · cases hb
/-! hotspot/hotspotlaw28.alive -/
noncomputable def ct16t0 : Ct := tab [(10, frC (genC body10))]
theorem ct16t0_ok : CtOk Try.prog ct16t0 := tab_cons (fr_ok ok10) <| tab_nil
theorem ct16t0_10 (l : List AV) (h : List ABlk) : ct16t0 10 l h = frC (genC body10) l h := rfl
noncomputable def ct16t1 : Ct := tab [(26, genC body26)]
theorem ct16t1_ok : CtOk Try.prog ct16t1 := tab_cons ok26 <| tab_nil
theorem ct16t1_26 (l : List AV) (h : List ABlk) : ct16t1 26 l h = genC body26 l h := rfl
noncomputable def ct16t2 : Ct := tab [(21, pureC body21)]
theorem ct16t2_ok : CtOk Try.prog ct16t2 := tab_cons ok21 <| tab_nil
theorem ct16t2_21 (l : List AV) (h : List ABlk) : ct16t2 21 l h = pureC body21 l h := rfl
noncomputable def ct16t3 : Ct := tab [(13, pureC body13)]
theorem ct16t3_ok : CtOk Try.prog ct16t3 := tab_cons ok13 <| tab_nil
theorem ct16t3_13 (l : List AV) (h : List ABlk) : ct16t3 13 l h = pureC body13 l h := rfl
noncomputable def F16 : Option (Bool) :=
  (F10 [1, 6] 100 50 true).bind fun r1 => (F26).bind fun r3 => (F21 r3.1 (TWanted.mk (ByteArray.mk #[110, 101, 116]) true (-600) 5000) 2000).bind fun r5 => bif (bEq r1.2 0) then ((F13 r1.1 [(TVisit.mk 1 100 150 true), (TVisit.mk 6 150 200 true)]).bind fun r7 => some ((((r7 && (bEq r3.2 0)) && (bEq (r3.1.List.length : Nat) 2)) && (bEq r5.2 0)) && (bEq r5.1.Addr.x0 2 && (bEq r5.1.Addr.x1 0 && (bEq r5.1.Addr.x2 0 && (bEq r5.1.Addr.x3 0 && (bEq r5.1.Addr.x4 0 && (bEq r5.1.Addr.x5 0 && (bEq r5.1.Channel 1 && (bEq r5.1.Level (-500) && (bEq r5.1.Load 0 && (bEq r5.1.Heard 2000 && (bEq r5.1.Interval 100 && (sEq r5.1.Name (ByteArray.mk #[110, 101, 116]) && (bB r5.1.Secure true))))))))))))))) else (some false)
noncomputable def body16 : List AV → AR
  | [] => .pure ((F16).isSome = true) (.bool (gt F16))
  | _ => .fail
set_option maxHeartbeats 4000000 in
set_option maxRecDepth 20000 in
theorem ok16 : FnOk Try.prog 16 (pureC body16) := by
  refine pure_fnM body16 (rs := [.tmp 0]) Try.func16 (by kernel_rfl) rfl rfl ?_
  intro l ob v hb hob
  unfold body16 at hb
  split at hb
  · injection hb with q1 q2; subst q1 q2
    obtain ⟨r, H⟩ := Option.isSome_iff_exists.1 hob
    rw [H, gt_some]
    refine ⟨[], _, (fun E vs F => F), rfl, rfl, ?_⟩
    rw [Try.ntmps16]
    simp only [List.length_cons, List.length_nil, Nat.reduceAdd, Nat.reduceSub, List.replicate_succ, List.replicate_zero, List.cons_append, List.nil_append]
    unfold F16 at H
    try dsimp only at H
    refine sq ctNo_ok ?_
    simp only [go_sem, Nat.reduceLeDiff, Nat.reduceLT, Nat.reduceAdd, Nat.reduceMul, Nat.reduceSub, Nat.reduceEqDiff, Nat.reduceBEq, Int.reduceToNat, reduceCtorEq]
    refine seqM ?_
    obtain ⟨r1, e2, H⟩ := Option.bind_eq_some_iff.1 H
    refine rg ct16t0_ok ?_
    simp only [go_sem, Nat.reduceLeDiff, Nat.reduceLT, Nat.reduceAdd, Nat.reduceMul, Nat.reduceSub, Nat.reduceEqDiff, Nat.reduceBEq, Int.reduceToNat, reduceCtorEq, frC, obR, fzL, fzV, fzH, fzHF, fzB, fzOb, fzObL, fzObH, fzObB, rowOb, refsL, refs, inL, ct16t0_10, body10, e2]
    repeat ((with_reducible refine And.intro ?_ ?_); focus (first | (with_reducible trivial) | omega | (and_intros <;> first | (with_reducible trivial) | omega | assumption | exact nfc | first | exact rfl | exact trivial | exact fitI | exact Or.inr rfl | exact Or.inl rfl | exact fun x hx => absurd hx (by omega) | (intro x hx; (repeat (first | (and_intros <;> (first | exact rfl | exact trivial | exact fitI | exact Or.inr rfl | exact Or.inl rfl | exact fun x hx => absurd hx (by omega))) | (exfalso; omega) | (rcases x with _ | x))); done)) | grind))
    refine seqM ?_
    obtain ⟨r3, e4, H⟩ := Option.bind_eq_some_iff.1 H
    refine rg ct16t1_ok ?_
    simp only [go_sem, Nat.reduceLeDiff, Nat.reduceLT, Nat.reduceAdd, Nat.reduceMul, Nat.reduceSub, Nat.reduceEqDiff, Nat.reduceBEq, Int.reduceToNat, reduceCtorEq, ct16t1_26, body26, e4]
    repeat ((with_reducible refine And.intro ?_ ?_); focus (first | (with_reducible trivial) | omega | (and_intros <;> first | (with_reducible trivial) | omega | assumption | exact nfc | first | exact rfl | exact trivial | exact fitI | exact Or.inr rfl | exact Or.inl rfl | exact fun x hx => absurd hx (by omega) | (intro x hx; (repeat (first | (and_intros <;> (first | exact rfl | exact trivial | exact fitI | exact Or.inr rfl | exact Or.inl rfl | exact fun x hx => absurd hx (by omega))) | (exfalso; omega) | (rcases x with _ | x))); done)) | grind))
    refine seqM ?_
    obtain ⟨r5, e6, H⟩ := Option.bind_eq_some_iff.1 H
    refine rg ct16t2_ok ?_
    simp only [go_sem, Nat.reduceLeDiff, Nat.reduceLT, Nat.reduceAdd, Nat.reduceMul, Nat.reduceSub, Nat.reduceEqDiff, Nat.reduceBEq, Int.reduceToNat, reduceCtorEq, ct16t2_21, body21, e6]
    repeat ((with_reducible refine And.intro ?_ ?_); focus (first | (with_reducible trivial) | omega | (and_intros <;> first | (with_reducible trivial) | omega | assumption | exact nfc | first | exact rfl | exact trivial | exact fitI | exact Or.inr rfl | exact Or.inl rfl | exact fun x hx => absurd hx (by omega) | (intro x hx; (repeat (first | (and_intros <;> (first | exact rfl | exact trivial | exact fitI | exact Or.inr rfl | exact Or.inl rfl | exact fun x hx => absurd hx (by omega))) | (exfalso; omega) | (rcases x with _ | x))); done)) | grind))
    refine sq ctNo_ok ?_
    simp only [go_sem, Nat.reduceLeDiff, Nat.reduceLT, Nat.reduceAdd, Nat.reduceMul, Nat.reduceSub, Nat.reduceEqDiff, Nat.reduceBEq, Int.reduceToNat, reduceCtorEq]
    repeat ((with_reducible refine And.intro ?_ ?_); focus (first | (with_reducible trivial) | omega | grind))
    refine seqM ?_
    refine bif_split (c := (bEq r1.2 0)) (fun hg7 => ?_) (fun hg7 => ?_)
    · replace H := cond_t hg7 H
      obtain ⟨r7, e8, H⟩ := Option.bind_eq_some_iff.1 H
      refine rg ct16t3_ok ?_
      simp only [go_sem, Nat.reduceLeDiff, Nat.reduceLT, Nat.reduceAdd, Nat.reduceMul, Nat.reduceSub, Nat.reduceEqDiff, Nat.reduceBEq, Int.reduceToNat, reduceCtorEq, ct16t3_13, body13, hg7, e8]
      repeat ((with_reducible refine And.intro ?_ ?_); focus (first | (with_reducible trivial) | omega | (intro g; and_intros <;> first | (with_reducible trivial) | assumption | exact nfc | (intro g2; rw [g, g2]; rfl) | (intro g2; assumption) | (simp only [g, Bool.true_and, Bool.and_true, Bool.not_false, Bool.not_true]; assumption) | grind) | (and_intros <;> first | (with_reducible trivial) | omega | assumption | exact nfc | first | exact rfl | exact trivial | exact fitI | exact Or.inr rfl | exact Or.inl rfl | exact fun x hx => absurd hx (by omega) | (intro x hx; (repeat (first | (and_intros <;> (first | exact rfl | exact trivial | exact fitI | exact Or.inr rfl | exact Or.inl rfl | exact fun x hx => absurd hx (by omega))) | (exfalso; omega) | (rcases x with _ | x))); done)) | grind))
      refine rg ctNo_ok ?_
      simp only [go_sem, Nat.reduceLeDiff, Nat.reduceLT, Nat.reduceAdd, Nat.reduceMul, Nat.reduceSub, Nat.reduceEqDiff, Nat.reduceBEq, Int.reduceToNat, reduceCtorEq]
      obtain rfl := Option.some.inj H
      first | rfl | simp only [Bool.and_false, Bool.false_and, Bool.and_true, Bool.true_and]
    replace H := cond_f hg7 H
    refine rg ct16t3_ok ?_
    simp only [go_sem, Nat.reduceLeDiff, Nat.reduceLT, Nat.reduceAdd, Nat.reduceMul, Nat.reduceSub, Nat.reduceEqDiff, Nat.reduceBEq, Int.reduceToNat, reduceCtorEq, ct16t3_13, body13, hg7]
    repeat ((with_reducible refine And.intro ?_ ?_); focus (first | (with_reducible trivial) | omega | (intro g; and_intros <;> first | (with_reducible trivial) | assumption | exact nfc | (intro g2; rw [g, g2]; rfl) | (intro g2; assumption) | (simp only [g, Bool.true_and, Bool.and_true, Bool.not_false, Bool.not_true]; assumption) | grind) | (and_intros <;> first | (with_reducible trivial) | omega | assumption | exact nfc | first | exact rfl | exact trivial | exact fitI | exact Or.inr rfl | exact Or.inl rfl | exact fun x hx => absurd hx (by omega) | (intro x hx; (repeat (first | (and_intros <;> (first | exact rfl | exact trivial | exact fitI | exact Or.inr rfl | exact Or.inl rfl | exact fun x hx => absurd hx (by omega))) | (exfalso; omega) | (rcases x with _ | x))); done)) | grind))
    refine rg ctNo_ok ?_
    simp only [go_sem, Nat.reduceLeDiff, Nat.reduceLT, Nat.reduceAdd, Nat.reduceMul, Nat.reduceSub, Nat.reduceEqDiff, Nat.reduceBEq, Int.reduceToNat, reduceCtorEq]
    obtain rfl := Option.some.inj H
    first | rfl | simp only [Bool.and_false, Bool.false_and, Bool.and_true, Bool.true_and]
  · cases hb
/-! hotspot/hotspotref28.Great -/
noncomputable def F9_L1 (p0 : List TElement) (v1_1 : Int) : Option (Lp (Int) ((Unit) ⊕ (Bool))) :=
  bif (bLt v1_1 (p0.length : Nat)) then (need (inb v1_1 p0.length) <| bif (bLt 1000 (((gd p0 v1_1.toNat).Data).length : Nat)) then (some (.done (.inr true))) else (some (.next (wr .i64 (v1_1 + 1))))) else (some (.done (.inl ())))
noncomputable def F9 (p0 : List TElement) : Option (Bool) :=
  bif (bLt 100 (p0.length : Nat)) then (some true) else (lp (loopD (fun s => F9_L1 p0 s) 0) (fun e => some false) some)
noncomputable def body9 : List AV → AR
  | [v0] => .pure (lK k_TElement 4 v0 ∧ (F9 (lA g_TElement v0)).isSome = true) (.bool (gt (F9 (lA g_TElement v0))))
  | _ => .fail
set_option maxHeartbeats 4000000 in
set_option maxRecDepth 20000 in
theorem ok9 : FnOk Try.prog 9 (pureC body9) := by
  refine pure_fnM body9 (rs := [.tmp 2]) Try.func9 (by kernel_rfl) rfl rfl ?_
  intro l ob v hb hob
  unfold body9 at hb
  split at hb
  · rename_i v0
    injection hb with q1 q2; subst q1 q2
    obtain ⟨hk0_0, hob⟩ := hob
    obtain ⟨r, H⟩ := Option.isSome_iff_exists.1 hob
    rw [H, gt_some]
    have hw0 := lK_wk (fun r h => w_TElement h) hk0_0
    generalize lA g_TElement v0 = p0 at H hw0
    refine ⟨[.ro 4 p0.length false (enR c_TElement p0)], _, (fun E vs F => FR_wk1 hw0.1 F (fun vs F => F)), rfl, rfl, ?_⟩
    rw [Try.ntmps9]
    simp only [List.length_cons, List.length_nil, Nat.reduceAdd, Nat.reduceSub, List.replicate_succ, List.replicate_zero, List.cons_append, List.nil_append]
    unfold F9 at H
    try dsimp only at H
    refine sq ctNo_ok ?_
    simp only [go_sem, Nat.reduceLeDiff, Nat.reduceLT, Nat.reduceAdd, Nat.reduceMul, Nat.reduceSub, Nat.reduceEqDiff, Nat.reduceBEq, Int.reduceToNat, reduceCtorEq]
    refine seqM ?_
    refine sq ctNo_ok ?_
    simp only [go_sem, Nat.reduceLeDiff, Nat.reduceLT, Nat.reduceAdd, Nat.reduceMul, Nat.reduceSub, Nat.reduceEqDiff, Nat.reduceBEq, Int.reduceToNat, reduceCtorEq]
    repeat ((with_reducible refine And.intro ?_ ?_); focus (first | (with_reducible trivial) | omega | (and_intros <;> first | (with_reducible trivial) | omega | assumption | exact nfc | first | exact rfl | exact trivial | exact fitI | exact Or.inr rfl | exact Or.inl rfl | exact fun x hx => absurd hx (by omega) | (intro x hx; (repeat (first | (and_intros <;> (first | exact rfl | exact trivial | exact fitI | exact Or.inr rfl | exact Or.inl rfl | exact fun x hx => absurd hx (by omega))) | (exfalso; omega) | (rcases x with _ | x))); done)) | grind))
    refine condM rfl trivial (fun hc => ?_) (fun hc => ?_)
    · replace H := cond_t hc H
      refine sq ctNo_ok ?_
      simp only [go_sem, Nat.reduceLeDiff, Nat.reduceLT, Nat.reduceAdd, Nat.reduceMul, Nat.reduceSub, Nat.reduceEqDiff, Nat.reduceBEq, Int.reduceToNat, reduceCtorEq]
      refine rg ctNo_ok ?_
      simp only [go_sem, Nat.reduceLeDiff, Nat.reduceLT, Nat.reduceAdd, Nat.reduceMul, Nat.reduceSub, Nat.reduceEqDiff, Nat.reduceBEq, Int.reduceToNat, reduceCtorEq]
      obtain rfl := Option.some.inj H
      first | rfl | simp only [Bool.and_false, Bool.false_and, Bool.and_true, Bool.true_and]
    replace H := cond_f hc H
    refine rg ctNo_ok ?_
    simp only [go_sem, Nat.reduceLeDiff, Nat.reduceLT, Nat.reduceAdd, Nat.reduceMul, Nat.reduceSub, Nat.reduceEqDiff, Nat.reduceBEq, Int.reduceToNat, reduceCtorEq]
    refine seqM ?_
    refine sq ctNo_ok ?_
    simp only [go_sem, Nat.reduceLeDiff, Nat.reduceLT, Nat.reduceAdd, Nat.reduceMul, Nat.reduceSub, Nat.reduceEqDiff, Nat.reduceBEq, Int.reduceToNat, reduceCtorEq]
    refine blkM ?_
    refine loop_den (fun s : Int => [.ro 4 p0.length false (enR c_TElement p0), .top, .top, .int .i64 s, .top, .top, .top, .top, .top, .top, .top, .top, .top, .top, .top, .top, .top, .top, .top, .top]) (fun s => []) (fun e : Unit => [.top, .top, .top, .top, .top, .top, .top, .top, .top, .top, .top, .top, .top, .top, .top, .top, .top, .top, .top, .top]) (fun e => []) H ?_ (fun v1_1 o H hn1_1 hn2_1 => ?_) (fun e H => ?_)
    · refine SubF_of ⟨[], ?_, ?_, by rfl, by rfl⟩
      · simp [CvL, Cv, getM]
      · trivial
    · unfold F9_L1 at H
      try dsimp only at H ⊢
      refine seqM ?_
      refine sq ctNo_ok ?_
      simp only [go_sem, Nat.reduceLeDiff, Nat.reduceLT, Nat.reduceAdd, Nat.reduceMul, Nat.reduceSub, Nat.reduceEqDiff, Nat.reduceBEq, Int.reduceToNat, reduceCtorEq]
      repeat ((with_reducible refine And.intro ?_ ?_); focus (first | (with_reducible trivial) | omega | (and_intros <;> first | (with_reducible trivial) | omega | assumption | exact nfc | first | exact rfl | exact trivial | exact fitI | exact Or.inr rfl | exact Or.inl rfl | exact fun x hx => absurd hx (by omega) | (intro x hx; (repeat (first | (and_intros <;> (first | exact rfl | exact trivial | exact fitI | exact Or.inr rfl | exact Or.inl rfl | exact fun x hx => absurd hx (by omega))) | (exfalso; omega) | (rcases x with _ | x))); done)) | grind))
      refine condM' rfl trivial (fun hc => ?_) (fun hc => ?_)
      · replace H := cond_f hc H
        refine rg ctNo_ok ?_
        simp only [go_sem, Nat.reduceLeDiff, Nat.reduceLT, Nat.reduceAdd, Nat.reduceMul, Nat.reduceSub, Nat.reduceEqDiff, Nat.reduceBEq, Int.reduceToNat, reduceCtorEq]
        refine ⟨_, (Option.some.inj H).symm, ?_⟩
        refine SubF_of ⟨[], ?_, ?_, by rfl, by rfl⟩
        · simp [CvL, Cv, getM]
        · trivial
      replace H := cond_t hc H
      refine rg ctNo_ok ?_
      simp only [go_sem, Nat.reduceLeDiff, Nat.reduceLT, Nat.reduceAdd, Nat.reduceMul, Nat.reduceSub, Nat.reduceEqDiff, Nat.reduceBEq, Int.reduceToNat, reduceCtorEq]
      refine seqM ?_
      refine blkM ?_
      refine seqM ?_
      obtain ⟨f1, H⟩ := need_some.1 H
      replace f1 := inb_iff.1 f1
      refine rg ctNo_ok ?_
      simp only [go_sem, Nat.reduceLeDiff, Nat.reduceLT, Nat.reduceAdd, Nat.reduceMul, Nat.reduceSub, Nat.reduceEqDiff, Nat.reduceBEq, Int.reduceToNat, reduceCtorEq, f1]
      repeat ((with_reducible refine And.intro ?_ ?_); focus (first | (with_reducible trivial) | omega | (and_intros <;> first | (with_reducible trivial) | omega | assumption | exact nfc | first | exact rfl | exact trivial | exact fitI | exact Or.inr rfl | exact Or.inl rfl | exact fun x hx => absurd hx (by omega) | (intro x hx; (repeat (first | (and_intros <;> (first | exact rfl | exact trivial | exact fitI | exact Or.inr rfl | exact Or.inl rfl | exact fun x hx => absurd hx (by omega))) | (exfalso; omega) | (rcases x with _ | x))); done)) | grind))
      refine condM rfl trivial (fun hc => ?_) (fun hc => ?_)
      · replace H := cond_t hc H
        refine sq ctNo_ok ?_
        simp only [go_sem, Nat.reduceLeDiff, Nat.reduceLT, Nat.reduceAdd, Nat.reduceMul, Nat.reduceSub, Nat.reduceEqDiff, Nat.reduceBEq, Int.reduceToNat, reduceCtorEq]
        refine rg ctNo_ok ?_
        simp only [go_sem, Nat.reduceLeDiff, Nat.reduceLT, Nat.reduceAdd, Nat.reduceMul, Nat.reduceSub, Nat.reduceEqDiff, Nat.reduceBEq, Int.reduceToNat, reduceCtorEq]
        have H := hn2_1 _ (Option.some.inj H).symm
        obtain rfl := Option.some.inj H
        first | rfl | simp only [Bool.and_false, Bool.false_and, Bool.and_true, Bool.true_and]
      replace H := cond_f hc H
      refine rg ctNo_ok ?_
      simp only [go_sem, Nat.reduceLeDiff, Nat.reduceLT, Nat.reduceAdd, Nat.reduceMul, Nat.reduceSub, Nat.reduceEqDiff, Nat.reduceBEq, Int.reduceToNat, reduceCtorEq]
      refine rg ctNo_ok ?_
      simp only [go_sem, Nat.reduceLeDiff, Nat.reduceLT, Nat.reduceAdd, Nat.reduceMul, Nat.reduceSub, Nat.reduceEqDiff, Nat.reduceBEq, Int.reduceToNat, reduceCtorEq]
      refine ⟨_, (Option.some.inj H).symm, ?_⟩
      refine SubF_of ⟨[], ?_, ?_, by rfl, by rfl⟩
      · simp [CvL, Cv, getM]
      · trivial
    · try dsimp only at H ⊢
      try simp only [m_normal, k_normal, b_normal, kL_normal, r_normal]
      refine sq ctNo_ok ?_
      simp only [go_sem, Nat.reduceLeDiff, Nat.reduceLT, Nat.reduceAdd, Nat.reduceMul, Nat.reduceSub, Nat.reduceEqDiff, Nat.reduceBEq, Int.reduceToNat, reduceCtorEq]
      refine rg ctNo_ok ?_
      simp only [go_sem, Nat.reduceLeDiff, Nat.reduceLT, Nat.reduceAdd, Nat.reduceMul, Nat.reduceSub, Nat.reduceEqDiff, Nat.reduceBEq, Int.reduceToNat, reduceCtorEq]
      obtain rfl := Option.some.inj H
      first | rfl | simp only [Bool.and_false, Bool.false_and, Bool.and_true, Bool.true_and]
  · cases hb
/-! hotspot/hotspotlaw28.find -/
noncomputable def F18_L1 (p0 : TCandidates) (p1 : A6u8) (v1_1 : Int) : Option (Lp (Int) ((Unit) ⊕ (TCandidate × Bool))) :=
  bif (bLt v1_1 (p0.List.length : Nat)) then (need (inb v1_1 p0.List.length) <| bif (bEq (((gd p0.List v1_1.toNat).Addr).x0) p1.x0 && (bEq (((gd p0.List v1_1.toNat).Addr).x1) p1.x1 && (bEq (((gd p0.List v1_1.toNat).Addr).x2) p1.x2 && (bEq (((gd p0.List v1_1.toNat).Addr).x3) p1.x3 && (bEq (((gd p0.List v1_1.toNat).Addr).x4) p1.x4 && (bEq (((gd p0.List v1_1.toNat).Addr).x5) p1.x5)))))) then (need (inb v1_1 p0.List.length) <| some (.done (.inr ((TCandidate.mk (A6u8.mk (((gd p0.List v1_1.toNat).Addr).x0) (((gd p0.List v1_1.toNat).Addr).x1) (((gd p0.List v1_1.toNat).Addr).x2) (((gd p0.List v1_1.toNat).Addr).x3) (((gd p0.List v1_1.toNat).Addr).x4) (((gd p0.List v1_1.toNat).Addr).x5)) ((gd p0.List v1_1.toNat).Channel) ((gd p0.List v1_1.toNat).Level) ((gd p0.List v1_1.toNat).Load) ((gd p0.List v1_1.toNat).Heard) ((gd p0.List v1_1.toNat).Interval) ((gd p0.List v1_1.toNat).Name) ((gd p0.List v1_1.toNat).Secure)), true)))) else (some (.next (wr .i64 (v1_1 + 1))))) else (some (.done (.inl ())))
noncomputable def F18 (p0 : TCandidates) (p1 : A6u8) : Option (TCandidate × Bool) :=
  lp (loopD (fun s => F18_L1 p0 p1 s) 0) (fun e => some ((TCandidate.mk (A6u8.mk 0 0 0 0 0 0) 0 0 0 0 0 (ByteArray.mk #[]) false), false)) some
noncomputable def body18 : List AV → AR
  | [v0, v1] => .pure (aK 1 k_TCandidates v0 ∧ aK 6 k_A6u8 v1 ∧ (F18 (g_TCandidates (aL v0)) (g_A6u8 (aL v1))).isSome = true) (.tup [.agg [.int .u8 ((((gt (F18 (g_TCandidates (aL v0)) (g_A6u8 (aL v1)))).1).Addr).x0), .int .u8 ((((gt (F18 (g_TCandidates (aL v0)) (g_A6u8 (aL v1)))).1).Addr).x1), .int .u8 ((((gt (F18 (g_TCandidates (aL v0)) (g_A6u8 (aL v1)))).1).Addr).x2), .int .u8 ((((gt (F18 (g_TCandidates (aL v0)) (g_A6u8 (aL v1)))).1).Addr).x3), .int .u8 ((((gt (F18 (g_TCandidates (aL v0)) (g_A6u8 (aL v1)))).1).Addr).x4), .int .u8 ((((gt (F18 (g_TCandidates (aL v0)) (g_A6u8 (aL v1)))).1).Addr).x5), .int .i64 (((gt (F18 (g_TCandidates (aL v0)) (g_A6u8 (aL v1)))).1).Channel), .int .i64 (((gt (F18 (g_TCandidates (aL v0)) (g_A6u8 (aL v1)))).1).Level), .int .i64 (((gt (F18 (g_TCandidates (aL v0)) (g_A6u8 (aL v1)))).1).Load), .int .i64 (((gt (F18 (g_TCandidates (aL v0)) (g_A6u8 (aL v1)))).1).Heard), .int .i64 (((gt (F18 (g_TCandidates (aL v0)) (g_A6u8 (aL v1)))).1).Interval), .str (((gt (F18 (g_TCandidates (aL v0)) (g_A6u8 (aL v1)))).1).Name), .bool (((gt (F18 (g_TCandidates (aL v0)) (g_A6u8 (aL v1)))).1).Secure)], .bool ((gt (F18 (g_TCandidates (aL v0)) (g_A6u8 (aL v1)))).2)])
  | _ => .fail
set_option maxHeartbeats 4000000 in
set_option maxRecDepth 20000 in
theorem ok18 : FnOk Try.prog 18 (pureC body18) := by
  refine pure_fnM body18 (rs := [.cell 4 52, .tmp 5]) Try.func18 (by kernel_rfl) rfl rfl ?_
  intro l ob v hb hob
  unfold body18 at hb
  split at hb
  · rename_i v0 v1
    injection hb with q1 q2; subst q1 q2
    obtain ⟨hk0_0, hk1_0, hob⟩ := hob
    obtain ⟨r, H⟩ := Option.isSome_iff_exists.1 hob
    rw [H, gt_some]
    have hw0 := wA_TCandidates hk0_0
    have hw1 := wA_A6u8 hk1_0
    generalize g_TCandidates (aL v0) = p0 at H hw0
    generalize g_A6u8 (aL v1) = p1 at H hw1
    refine ⟨[.agg [.ro 13 p0.List.length false (enR c_TCandidate p0.List)], .agg [.int .u8 p1.x0, .int .u8 p1.x1, .int .u8 p1.x2, .int .u8 p1.x3, .int .u8 p1.x4, .int .u8 p1.x5]], _, (fun E vs F => FR_wk1 hw0.1 F (fun vs F => FR_wk1 hw1.1 F (fun vs F => F))), rfl, rfl, ?_⟩
    rw [Try.ntmps18]
    simp only [List.length_cons, List.length_nil, Nat.reduceAdd, Nat.reduceSub, List.replicate_succ, List.replicate_zero, List.cons_append, List.nil_append]
    unfold F18 at H
    try dsimp only at H
    refine sq ctNo_ok ?_
    simp only [go_sem, Nat.reduceLeDiff, Nat.reduceLT, Nat.reduceAdd, Nat.reduceMul, Nat.reduceSub, Nat.reduceEqDiff, Nat.reduceBEq, Int.reduceToNat, reduceCtorEq]
    refine seqM ?_
    refine sq ctNo_ok ?_
    simp only [go_sem, Nat.reduceLeDiff, Nat.reduceLT, Nat.reduceAdd, Nat.reduceMul, Nat.reduceSub, Nat.reduceEqDiff, Nat.reduceBEq, Int.reduceToNat, reduceCtorEq]
    refine blkM ?_
    refine loop_den (fun s : Int => [.top, .top, .ptr 0 0 0 0, .ptr 1 0 0 0, .ptr 2 0 0 0, .top, .int .i64 s, .top, .top, .top, .top, .top, .top, .top, .top, .top, .top, .top, .top, .top, .top, .top, .top, .top, .top, .top, .top, .top]) (fun s => [.lit 41 [.ro 13 p0.List.length false (enR c_TCandidate p0.List)], .lit 43 [.int .u8 p1.x0, .int .u8 p1.x1, .int .u8 p1.x2, .int .u8 p1.x3, .int .u8 p1.x4, .int .u8 p1.x5], .lit 52 [.int .u8 0, .int .u8 0, .int .u8 0, .int .u8 0, .int .u8 0, .int .u8 0, .int .i64 0, .int .i64 0, .int .i64 0, .int .i64 0, .int .i64 0, .str (ByteArray.mk #[]), .bool false]]) (fun e : Unit => [.top, .top, .top, .top, .ptr 2 0 0 0, .top, .top, .top, .top, .top, .top, .top, .top, .top, .top, .top, .top, .top, .top, .top, .top, .top, .top, .top, .top, .top, .top, .top]) (fun e => [.dead, .dead, .lit 52 [.int .u8 0, .int .u8 0, .int .u8 0, .int .u8 0, .int .u8 0, .int .u8 0, .int .i64 0, .int .i64 0, .int .i64 0, .int .i64 0, .int .i64 0, .str (ByteArray.mk #[]), .bool false]]) H ?_ (fun v1_1 o H hn1_1 hn2_1 => ?_) (fun e H => ?_)
    · refine SubF_of ⟨[some 0, some 1, some 2], ?_, ?_, by rfl, by rfl⟩
      · simp [CvL, Cv, getM]
      · exact ⟨(by simp [CvB, CvL, Cv, blkAt, geth, getM]), (by simp [CvB, CvL, Cv, blkAt, geth, getM]), (by simp [CvB, CvL, Cv, blkAt, geth, getM]), trivial⟩
    · unfold F18_L1 at H
      try dsimp only at H ⊢
      refine seqM ?_
      refine sq ctNo_ok ?_
      simp only [go_sem, Nat.reduceLeDiff, Nat.reduceLT, Nat.reduceAdd, Nat.reduceMul, Nat.reduceSub, Nat.reduceEqDiff, Nat.reduceBEq, Int.reduceToNat, reduceCtorEq]
      repeat ((with_reducible refine And.intro ?_ ?_); focus (first | (with_reducible trivial) | omega | (and_intros <;> first | (with_reducible trivial) | omega | assumption | exact nfc | first | exact rfl | exact trivial | exact fitI | exact Or.inr rfl | exact Or.inl rfl | exact fun x hx => absurd hx (by omega) | (intro x hx; (repeat (first | (and_intros <;> (first | exact rfl | exact trivial | exact fitI | exact Or.inr rfl | exact Or.inl rfl | exact fun x hx => absurd hx (by omega))) | (exfalso; omega) | (rcases x with _ | x))); done)) | grind))
      refine condM' rfl trivial (fun hc => ?_) (fun hc => ?_)
      · replace H := cond_f hc H
        refine rg ctNo_ok ?_
        simp only [go_sem, Nat.reduceLeDiff, Nat.reduceLT, Nat.reduceAdd, Nat.reduceMul, Nat.reduceSub, Nat.reduceEqDiff, Nat.reduceBEq, Int.reduceToNat, reduceCtorEq]
        refine ⟨_, (Option.some.inj H).symm, ?_⟩
        refine SubF_of ⟨[some 0, some 1, some 2], ?_, ?_, by rfl, by rfl⟩
        · simp [CvL, Cv, getM]
        · exact ⟨CvB_dead, CvB_dead, (by simp [CvB, CvL, Cv, blkAt, geth, getM]), trivial⟩
      replace H := cond_t hc H
      refine rg ctNo_ok ?_
      simp only [go_sem, Nat.reduceLeDiff, Nat.reduceLT, Nat.reduceAdd, Nat.reduceMul, Nat.reduceSub, Nat.reduceEqDiff, Nat.reduceBEq, Int.reduceToNat, reduceCtorEq]
      refine seqM ?_
      refine blkM ?_
      refine seqM ?_
      obtain ⟨f1, H⟩ := need_some.1 H
      replace f1 := inb_iff.1 f1
      refine draw_quiet shT_ok ctNo_ok (by kernel_rfl) (by kernel_rfl) ?_
      simp only [go_sem, Nat.reduceLeDiff, Nat.reduceLT, Nat.reduceAdd, Nat.reduceMul, Nat.reduceSub, Nat.reduceEqDiff, Nat.reduceBEq, Int.reduceToNat, reduceCtorEq, f1]
      repeat ((with_reducible refine And.intro ?_ ?_); focus (first | (with_reducible trivial) | omega | grind))
      refine condM' rfl trivial (fun hc => ?_) (fun hc => ?_)
      · replace H := cond_f hc H
        refine rg ctNo_ok ?_
        simp only [go_sem, Nat.reduceLeDiff, Nat.reduceLT, Nat.reduceAdd, Nat.reduceMul, Nat.reduceSub, Nat.reduceEqDiff, Nat.reduceBEq, Int.reduceToNat, reduceCtorEq]
        refine rg ctNo_ok ?_
        simp only [go_sem, Nat.reduceLeDiff, Nat.reduceLT, Nat.reduceAdd, Nat.reduceMul, Nat.reduceSub, Nat.reduceEqDiff, Nat.reduceBEq, Int.reduceToNat, reduceCtorEq]
        refine ⟨_, (Option.some.inj H).symm, ?_⟩
        refine SubF_of ⟨[some 0, some 1, some 2], ?_, ?_, by rfl, by rfl⟩
        · simp [CvL, Cv, getM]
        · exact ⟨(by simp [CvB, CvL, Cv, blkAt, geth, getM]), (by simp [CvB, CvL, Cv, blkAt, geth, getM]), (by simp [CvB, CvL, Cv, blkAt, geth, getM]), trivial⟩
      replace H := cond_t hc H
      refine seqM ?_
      obtain ⟨f2, H⟩ := need_some.1 H
      replace f2 := inb_iff.1 f2
      refine rg ctNo_ok ?_
      simp only [go_sem, Nat.reduceLeDiff, Nat.reduceLT, Nat.reduceAdd, Nat.reduceMul, Nat.reduceSub, Nat.reduceEqDiff, Nat.reduceBEq, Int.reduceToNat, reduceCtorEq, f2]
      repeat ((with_reducible refine And.intro ?_ ?_); focus (first | (with_reducible trivial) | omega | grind))
      refine rg ctNo_ok ?_
      simp only [go_sem, Nat.reduceLeDiff, Nat.reduceLT, Nat.reduceAdd, Nat.reduceMul, Nat.reduceSub, Nat.reduceEqDiff, Nat.reduceBEq, Int.reduceToNat, reduceCtorEq]
      have H := hn2_1 _ (Option.some.inj H).symm
      obtain rfl := Option.some.inj H
      first | rfl | simp only [Bool.and_false, Bool.false_and, Bool.and_true, Bool.true_and]
    · try dsimp only at H ⊢
      try simp only [m_normal, k_normal, b_normal, kL_normal, r_normal]
      refine sq ctNo_ok ?_
      simp only [go_sem, Nat.reduceLeDiff, Nat.reduceLT, Nat.reduceAdd, Nat.reduceMul, Nat.reduceSub, Nat.reduceEqDiff, Nat.reduceBEq, Int.reduceToNat, reduceCtorEq]
      repeat ((with_reducible refine And.intro ?_ ?_); focus (first | (with_reducible trivial) | omega | grind))
      refine rg ctNo_ok ?_
      simp only [go_sem, Nat.reduceLeDiff, Nat.reduceLT, Nat.reduceAdd, Nat.reduceMul, Nat.reduceSub, Nat.reduceEqDiff, Nat.reduceBEq, Int.reduceToNat, reduceCtorEq]
      obtain rfl := Option.some.inj H
      first | rfl | simp only [Bool.and_false, Bool.false_and, Bool.and_true, Bool.true_and]
  · cases hb
/-! hotspot/hotspotref28.Same -/
noncomputable def F20_L1 (p0 : TCandidates) (p1 : TCandidates) (v1_1 : Int) : Option (Lp (Int) ((Unit) ⊕ (Bool))) :=
  bif (bLt v1_1 (p0.List.length : Nat)) then (need (inb v1_1 p0.List.length) <| need (inb v1_1 p1.List.length) <| bif (!(bEq (((gd p0.List v1_1.toNat).Addr).x0) (((gd p1.List v1_1.toNat).Addr).x0) && (bEq (((gd p0.List v1_1.toNat).Addr).x1) (((gd p1.List v1_1.toNat).Addr).x1) && (bEq (((gd p0.List v1_1.toNat).Addr).x2) (((gd p1.List v1_1.toNat).Addr).x2) && (bEq (((gd p0.List v1_1.toNat).Addr).x3) (((gd p1.List v1_1.toNat).Addr).x3) && (bEq (((gd p0.List v1_1.toNat).Addr).x4) (((gd p1.List v1_1.toNat).Addr).x4) && (bEq (((gd p0.List v1_1.toNat).Addr).x5) (((gd p1.List v1_1.toNat).Addr).x5) && (bEq ((gd p0.List v1_1.toNat).Channel) ((gd p1.List v1_1.toNat).Channel) && (bEq ((gd p0.List v1_1.toNat).Level) ((gd p1.List v1_1.toNat).Level) && (bEq ((gd p0.List v1_1.toNat).Load) ((gd p1.List v1_1.toNat).Load) && (bEq ((gd p0.List v1_1.toNat).Heard) ((gd p1.List v1_1.toNat).Heard) && (bEq ((gd p0.List v1_1.toNat).Interval) ((gd p1.List v1_1.toNat).Interval) && (sEq ((gd p0.List v1_1.toNat).Name) ((gd p1.List v1_1.toNat).Name) && (bB ((gd p0.List v1_1.toNat).Secure) ((gd p1.List v1_1.toNat).Secure))))))))))))))) then (some (.done (.inr false))) else (some (.next (wr .i64 (v1_1 + 1))))) else (some (.done (.inl ())))
noncomputable def F20 (p0 : TCandidates) (p1 : TCandidates) : Option (Bool) :=
  bif (!bEq (p0.List.length : Nat) (p1.List.length : Nat)) then (some false) else (lp (loopD (fun s => F20_L1 p0 p1 s) 0) (fun e => some true) some)
noncomputable def body20 : List AV → AR
  | [v0, v1] => .pure (aK 1 k_TCandidates v0 ∧ aK 1 k_TCandidates v1 ∧ (F20 (g_TCandidates (aL v0)) (g_TCandidates (aL v1))).isSome = true) (.bool (gt (F20 (g_TCandidates (aL v0)) (g_TCandidates (aL v1)))))
  | _ => .fail
set_option maxHeartbeats 4000000 in
set_option maxRecDepth 20000 in
theorem ok20 : FnOk Try.prog 20 (pureC body20) := by
  refine pure_fnM body20 (rs := [.tmp 4]) Try.func20 (by kernel_rfl) rfl rfl ?_
  intro l ob v hb hob
  unfold body20 at hb
  split at hb
  · rename_i v0 v1
    injection hb with q1 q2; subst q1 q2
    obtain ⟨hk0_0, hk1_0, hob⟩ := hob
    obtain ⟨r, H⟩ := Option.isSome_iff_exists.1 hob
    rw [H, gt_some]
    have hw0 := wA_TCandidates hk0_0
    have hw1 := wA_TCandidates hk1_0
    generalize g_TCandidates (aL v0) = p0 at H hw0
    generalize g_TCandidates (aL v1) = p1 at H hw1
    refine ⟨[.agg [.ro 13 p0.List.length false (enR c_TCandidate p0.List)], .agg [.ro 13 p1.List.length false (enR c_TCandidate p1.List)]], _, (fun E vs F => FR_wk1 hw0.1 F (fun vs F => FR_wk1 hw1.1 F (fun vs F => F))), rfl, rfl, ?_⟩
    rw [Try.ntmps20]
    simp only [List.length_cons, List.length_nil, Nat.reduceAdd, Nat.reduceSub, List.replicate_succ, List.replicate_zero, List.cons_append, List.nil_append]
    unfold F20 at H
    try dsimp only at H
    refine sq ctNo_ok ?_
    simp only [go_sem, Nat.reduceLeDiff, Nat.reduceLT, Nat.reduceAdd, Nat.reduceMul, Nat.reduceSub, Nat.reduceEqDiff, Nat.reduceBEq, Int.reduceToNat, reduceCtorEq]
    refine seqM ?_
    refine sq ctNo_ok ?_
    simp only [go_sem, Nat.reduceLeDiff, Nat.reduceLT, Nat.reduceAdd, Nat.reduceMul, Nat.reduceSub, Nat.reduceEqDiff, Nat.reduceBEq, Int.reduceToNat, reduceCtorEq]
    repeat ((with_reducible refine And.intro ?_ ?_); focus (first | (with_reducible trivial) | omega | (and_intros <;> first | (with_reducible trivial) | omega | assumption | exact nfc | first | exact rfl | exact trivial | exact fitI | exact Or.inr rfl | exact Or.inl rfl | exact fun x hx => absurd hx (by omega) | (intro x hx; (repeat (first | (and_intros <;> (first | exact rfl | exact trivial | exact fitI | exact Or.inr rfl | exact Or.inl rfl | exact fun x hx => absurd hx (by omega))) | (exfalso; omega) | (rcases x with _ | x))); done)) | grind))
    refine condM rfl trivial (fun hc => ?_) (fun hc => ?_)
    · replace H := cond_t hc H
      refine sq ctNo_ok ?_
      simp only [go_sem, Nat.reduceLeDiff, Nat.reduceLT, Nat.reduceAdd, Nat.reduceMul, Nat.reduceSub, Nat.reduceEqDiff, Nat.reduceBEq, Int.reduceToNat, reduceCtorEq]
      refine rg ctNo_ok ?_
      simp only [go_sem, Nat.reduceLeDiff, Nat.reduceLT, Nat.reduceAdd, Nat.reduceMul, Nat.reduceSub, Nat.reduceEqDiff, Nat.reduceBEq, Int.reduceToNat, reduceCtorEq]
      obtain rfl := Option.some.inj H
      first | rfl | simp only [Bool.and_false, Bool.false_and, Bool.and_true, Bool.true_and]
    replace H := cond_f hc H
    refine rg ctNo_ok ?_
    simp only [go_sem, Nat.reduceLeDiff, Nat.reduceLT, Nat.reduceAdd, Nat.reduceMul, Nat.reduceSub, Nat.reduceEqDiff, Nat.reduceBEq, Int.reduceToNat, reduceCtorEq]
    refine seqM ?_
    refine sq ctNo_ok ?_
    simp only [go_sem, Nat.reduceLeDiff, Nat.reduceLT, Nat.reduceAdd, Nat.reduceMul, Nat.reduceSub, Nat.reduceEqDiff, Nat.reduceBEq, Int.reduceToNat, reduceCtorEq]
    refine blkM ?_
    refine loop_den (fun s : Int => (.top :: .top :: .ptr 0 0 0 0 :: .ptr 1 0 0 0 :: .top :: .int .i64 s :: .top :: .top :: .top :: .top :: .top :: .top :: .top :: .top :: .top :: .top :: .top :: .top :: .top :: .top :: .top :: .top :: .top :: .top :: .top :: .top :: .top :: .top :: .top :: .top :: .top :: [])) (fun s => [.lit 41 [.ro 13 p0.List.length false (enR c_TCandidate p0.List)], .lit 41 [.ro 13 p1.List.length false (enR c_TCandidate p1.List)]]) (fun e : Unit => (.top :: .top :: .top :: .top :: .top :: .top :: .top :: .top :: .top :: .top :: .top :: .top :: .top :: .top :: .top :: .top :: .top :: .top :: .top :: .top :: .top :: .top :: .top :: .top :: .top :: .top :: .top :: .top :: .top :: .top :: .top :: [])) (fun e => [.dead, .dead]) H ?_ (fun v1_1 o H hn1_1 hn2_1 => ?_) (fun e H => ?_)
    · refine SubF_of ⟨[some 0, some 1], ?_, ?_, by rfl, by rfl⟩
      · simp [CvL, Cv, getM]
      · exact ⟨(by simp [CvB, CvL, Cv, blkAt, geth, getM]), (by simp [CvB, CvL, Cv, blkAt, geth, getM]), trivial⟩
    · unfold F20_L1 at H
      try dsimp only at H ⊢
      refine seqM ?_
      refine sq ctNo_ok ?_
      simp only [go_sem, Nat.reduceLeDiff, Nat.reduceLT, Nat.reduceAdd, Nat.reduceMul, Nat.reduceSub, Nat.reduceEqDiff, Nat.reduceBEq, Int.reduceToNat, reduceCtorEq]
      repeat ((with_reducible refine And.intro ?_ ?_); focus (first | (with_reducible trivial) | omega | (and_intros <;> first | (with_reducible trivial) | omega | assumption | exact nfc | first | exact rfl | exact trivial | exact fitI | exact Or.inr rfl | exact Or.inl rfl | exact fun x hx => absurd hx (by omega) | (intro x hx; (repeat (first | (and_intros <;> (first | exact rfl | exact trivial | exact fitI | exact Or.inr rfl | exact Or.inl rfl | exact fun x hx => absurd hx (by omega))) | (exfalso; omega) | (rcases x with _ | x))); done)) | grind))
      refine condM' rfl trivial (fun hc => ?_) (fun hc => ?_)
      · replace H := cond_f hc H
        refine rg ctNo_ok ?_
        simp only [go_sem, Nat.reduceLeDiff, Nat.reduceLT, Nat.reduceAdd, Nat.reduceMul, Nat.reduceSub, Nat.reduceEqDiff, Nat.reduceBEq, Int.reduceToNat, reduceCtorEq]
        refine ⟨_, (Option.some.inj H).symm, ?_⟩
        refine SubF_of ⟨[some 0, some 1], ?_, ?_, by rfl, by rfl⟩
        · simp [CvL, Cv, getM]
        · exact ⟨CvB_dead, CvB_dead, trivial⟩
      replace H := cond_t hc H
      refine rg ctNo_ok ?_
      simp only [go_sem, Nat.reduceLeDiff, Nat.reduceLT, Nat.reduceAdd, Nat.reduceMul, Nat.reduceSub, Nat.reduceEqDiff, Nat.reduceBEq, Int.reduceToNat, reduceCtorEq]
      refine seqM ?_
      refine blkM ?_
      refine seqM ?_
      obtain ⟨f1, H⟩ := need_some.1 H
      replace f1 := inb_iff.1 f1
      obtain ⟨f2, H⟩ := need_some.1 H
      replace f2 := inb_iff.1 f2
      refine draw_quiet shT_ok ctNo_ok (by kernel_rfl) (by kernel_rfl) ?_
      simp only [go_sem, Nat.reduceLeDiff, Nat.reduceLT, Nat.reduceAdd, Nat.reduceMul, Nat.reduceSub, Nat.reduceEqDiff, Nat.reduceBEq, Int.reduceToNat, reduceCtorEq, f1, f2]
      repeat ((with_reducible refine And.intro ?_ ?_); focus (first | (with_reducible trivial) | omega | grind))
      refine condM rfl trivial (fun hc => ?_) (fun hc => ?_)
      · replace H := cond_t hc H
        refine sq ctNo_ok ?_
        simp only [go_sem, Nat.reduceLeDiff, Nat.reduceLT, Nat.reduceAdd, Nat.reduceMul, Nat.reduceSub, Nat.reduceEqDiff, Nat.reduceBEq, Int.reduceToNat, reduceCtorEq]
        refine rg ctNo_ok ?_
        simp only [go_sem, Nat.reduceLeDiff, Nat.reduceLT, Nat.reduceAdd, Nat.reduceMul, Nat.reduceSub, Nat.reduceEqDiff, Nat.reduceBEq, Int.reduceToNat, reduceCtorEq]
        have H := hn2_1 _ (Option.some.inj H).symm
        obtain rfl := Option.some.inj H
        first | rfl | simp only [Bool.and_false, Bool.false_and, Bool.and_true, Bool.true_and]
      replace H := cond_f hc H
      refine rg ctNo_ok ?_
      simp only [go_sem, Nat.reduceLeDiff, Nat.reduceLT, Nat.reduceAdd, Nat.reduceMul, Nat.reduceSub, Nat.reduceEqDiff, Nat.reduceBEq, Int.reduceToNat, reduceCtorEq]
      refine rg ctNo_ok ?_
      simp only [go_sem, Nat.reduceLeDiff, Nat.reduceLT, Nat.reduceAdd, Nat.reduceMul, Nat.reduceSub, Nat.reduceEqDiff, Nat.reduceBEq, Int.reduceToNat, reduceCtorEq]
      refine ⟨_, (Option.some.inj H).symm, ?_⟩
      refine SubF_of ⟨[some 0, some 1], ?_, ?_, by rfl, by rfl⟩
      · simp [CvL, Cv, getM]
      · exact ⟨(by simp [CvB, CvL, Cv, blkAt, geth, getM]), (by simp [CvB, CvL, Cv, blkAt, geth, getM]), trivial⟩
    · try dsimp only at H ⊢
      try simp only [m_normal, k_normal, b_normal, kL_normal, r_normal]
      refine sq ctNo_ok ?_
      simp only [go_sem, Nat.reduceLeDiff, Nat.reduceLT, Nat.reduceAdd, Nat.reduceMul, Nat.reduceSub, Nat.reduceEqDiff, Nat.reduceBEq, Int.reduceToNat, reduceCtorEq]
      refine rg ctNo_ok ?_
      simp only [go_sem, Nat.reduceLeDiff, Nat.reduceLT, Nat.reduceAdd, Nat.reduceMul, Nat.reduceSub, Nat.reduceEqDiff, Nat.reduceBEq, Int.reduceToNat, reduceCtorEq]
      obtain rfl := Option.some.inj H
      first | rfl | simp only [Bool.and_false, Bool.false_and, Bool.and_true, Bool.true_and]
  · cases hb
/-! hotspot/hotspotlaw28.ScanKeeps -/
noncomputable def ct4t0 : Ct := tab [(16, pureC body16)]
theorem ct4t0_ok : CtOk Try.prog ct4t0 := tab_cons ok16 <| tab_nil
theorem ct4t0_16 (l : List AV) (h : List ABlk) : ct4t0 16 l h = pureC body16 l h := rfl
noncomputable def ct4t1 : Ct := tab [(9, pureC body9)]
theorem ct4t1_ok : CtOk Try.prog ct4t1 := tab_cons ok9 <| tab_nil
theorem ct4t1_9 (l : List AV) (h : List ABlk) : ct4t1 9 l h = pureC body9 l h := rfl
noncomputable def ct4t2 : Ct := tab [(17, genC body17)]
theorem ct4t2_ok : CtOk Try.prog ct4t2 := tab_cons ok17 <| tab_nil
theorem ct4t2_17 (l : List AV) (h : List ABlk) : ct4t2 17 l h = genC body17 l h := rfl
noncomputable def ct4t3 : Ct := tab [(18, pureC body18)]
theorem ct4t3_ok : CtOk Try.prog ct4t3 := tab_cons ok18 <| tab_nil
theorem ct4t3_18 (l : List AV) (h : List ABlk) : ct4t3 18 l h = pureC body18 l h := rfl
noncomputable def ct4t4 : Ct := tab [(19, pureC body19)]
theorem ct4t4_ok : CtOk Try.prog ct4t4 := tab_cons ok19 <| tab_nil
theorem ct4t4_19 (l : List AV) (h : List ABlk) : ct4t4 19 l h = pureC body19 l h := rfl
noncomputable def ct4t5 : Ct := tab [(20, pureC body20)]
theorem ct4t5_ok : CtOk Try.prog ct4t5 := tab_cons ok20 <| tab_nil
theorem ct4t5_20 (l : List AV) (h : List ABlk) : ct4t5 20 l h = pureC body20 l h := rfl
noncomputable def F4_L2 (p0 : TCandidates) (r4 : TCandidates × Int) (v1_2 : Int) (v2_1 : Int) : Option (Lp (Int) ((Unit) ⊕ (Bool))) :=
  bif (bLt v2_1 (r4.1.List.length : Nat)) then (need (inb v2_1 r4.1.List.length) <| need (inb v1_2 p0.List.length) <| bif (bLt ((gd r4.1.List v2_1.toNat).Heard) ((gd p0.List v1_2.toNat).Heard)) then (some (.done (.inr false))) else (some (.next (wr .i64 (v2_1 + 1))))) else (some (.done (.inl ())))
noncomputable def F4_L1 (p0 : TCandidates) (p1 : A6u8) (r4 : TCandidates × Int) (v1_1 : Int) (v1_2 : Int) : Option (Lp (Int × Int) ((Int) ⊕ (Bool))) :=
  bif (bLt v1_2 (p0.List.length : Nat)) then (need (inb v1_2 p0.List.length) <| (F18 r4.1 ((gd p0.List v1_2.toNat).Addr)).bind fun r13 => need (inb v1_2 p0.List.length) <| bif ((!(bEq (((gd p0.List v1_2.toNat).Addr).x0) p1.x0 && (bEq (((gd p0.List v1_2.toNat).Addr).x1) p1.x1 && (bEq (((gd p0.List v1_2.toNat).Addr).x2) p1.x2 && (bEq (((gd p0.List v1_2.toNat).Addr).x3) p1.x3 && (bEq (((gd p0.List v1_2.toNat).Addr).x4) p1.x4 && (bEq (((gd p0.List v1_2.toNat).Addr).x5) p1.x5))))))) && (!r13.2)) then (lp (loopD (fun s => F4_L2 p0 r4 v1_2 s) 0) (fun e => need (inb v1_2 p0.List.length) <| need (bif ((!(bEq (((gd p0.List v1_2.toNat).Addr).x0) p1.x0 && (bEq (((gd p0.List v1_2.toNat).Addr).x1) p1.x1 && (bEq (((gd p0.List v1_2.toNat).Addr).x2) p1.x2 && (bEq (((gd p0.List v1_2.toNat).Addr).x3) p1.x3 && (bEq (((gd p0.List v1_2.toNat).Addr).x4) p1.x4 && (bEq (((gd p0.List v1_2.toNat).Addr).x5) p1.x5))))))) && r13.2) then inb v1_2 p0.List.length else true) <| bif (((!(bEq (((gd p0.List v1_2.toNat).Addr).x0) p1.x0 && (bEq (((gd p0.List v1_2.toNat).Addr).x1) p1.x1 && (bEq (((gd p0.List v1_2.toNat).Addr).x2) p1.x2 && (bEq (((gd p0.List v1_2.toNat).Addr).x3) p1.x3 && (bEq (((gd p0.List v1_2.toNat).Addr).x4) p1.x4 && (bEq (((gd p0.List v1_2.toNat).Addr).x5) p1.x5))))))) && r13.2) && (!(bEq r13.1.Addr.x0 (((gd p0.List v1_2.toNat).Addr).x0) && (bEq r13.1.Addr.x1 (((gd p0.List v1_2.toNat).Addr).x1) && (bEq r13.1.Addr.x2 (((gd p0.List v1_2.toNat).Addr).x2) && (bEq r13.1.Addr.x3 (((gd p0.List v1_2.toNat).Addr).x3) && (bEq r13.1.Addr.x4 (((gd p0.List v1_2.toNat).Addr).x4) && (bEq r13.1.Addr.x5 (((gd p0.List v1_2.toNat).Addr).x5) && (bEq r13.1.Channel ((gd p0.List v1_2.toNat).Channel) && (bEq r13.1.Level ((gd p0.List v1_2.toNat).Level) && (bEq r13.1.Load ((gd p0.List v1_2.toNat).Load) && (bEq r13.1.Heard ((gd p0.List v1_2.toNat).Heard) && (bEq r13.1.Interval ((gd p0.List v1_2.toNat).Interval) && (sEq r13.1.Name ((gd p0.List v1_2.toNat).Name) && (bB r13.1.Secure ((gd p0.List v1_2.toNat).Secure)))))))))))))))) then (some (.done (.inr false))) else (some (.next (wr .i64 (v1_1 + 1), wr .i64 (v1_2 + 1))))) (fun r => some (.done (.inr r)))) else (need (inb v1_2 p0.List.length) <| need (bif ((!(bEq (((gd p0.List v1_2.toNat).Addr).x0) p1.x0 && (bEq (((gd p0.List v1_2.toNat).Addr).x1) p1.x1 && (bEq (((gd p0.List v1_2.toNat).Addr).x2) p1.x2 && (bEq (((gd p0.List v1_2.toNat).Addr).x3) p1.x3 && (bEq (((gd p0.List v1_2.toNat).Addr).x4) p1.x4 && (bEq (((gd p0.List v1_2.toNat).Addr).x5) p1.x5))))))) && r13.2) then inb v1_2 p0.List.length else true) <| bif (((!(bEq (((gd p0.List v1_2.toNat).Addr).x0) p1.x0 && (bEq (((gd p0.List v1_2.toNat).Addr).x1) p1.x1 && (bEq (((gd p0.List v1_2.toNat).Addr).x2) p1.x2 && (bEq (((gd p0.List v1_2.toNat).Addr).x3) p1.x3 && (bEq (((gd p0.List v1_2.toNat).Addr).x4) p1.x4 && (bEq (((gd p0.List v1_2.toNat).Addr).x5) p1.x5))))))) && r13.2) && (!(bEq r13.1.Addr.x0 (((gd p0.List v1_2.toNat).Addr).x0) && (bEq r13.1.Addr.x1 (((gd p0.List v1_2.toNat).Addr).x1) && (bEq r13.1.Addr.x2 (((gd p0.List v1_2.toNat).Addr).x2) && (bEq r13.1.Addr.x3 (((gd p0.List v1_2.toNat).Addr).x3) && (bEq r13.1.Addr.x4 (((gd p0.List v1_2.toNat).Addr).x4) && (bEq r13.1.Addr.x5 (((gd p0.List v1_2.toNat).Addr).x5) && (bEq r13.1.Channel ((gd p0.List v1_2.toNat).Channel) && (bEq r13.1.Level ((gd p0.List v1_2.toNat).Level) && (bEq r13.1.Load ((gd p0.List v1_2.toNat).Load) && (bEq r13.1.Heard ((gd p0.List v1_2.toNat).Heard) && (bEq r13.1.Interval ((gd p0.List v1_2.toNat).Interval) && (sEq r13.1.Name ((gd p0.List v1_2.toNat).Name) && (bB r13.1.Secure ((gd p0.List v1_2.toNat).Secure)))))))))))))))) then (some (.done (.inr false))) else (some (.next (v1_1, wr .i64 (v1_2 + 1)))))) else (some (.done (.inl v1_1)))
noncomputable def F4_L4 (p0 : TCandidates) (r4 : TCandidates × Int) (v3_2 : Int) (v4_1 : Int) : Option (Lp (Int) ((Unit) ⊕ (Bool))) :=
  bif (bLt v4_1 (r4.1.List.length : Nat)) then (need (inb v4_1 r4.1.List.length) <| need (inb v3_2 p0.List.length) <| bif (bLt ((gd r4.1.List v4_1.toNat).Heard) ((gd p0.List v3_2.toNat).Heard)) then (some (.done (.inr false))) else (some (.next (wr .i64 (v4_1 + 1))))) else (some (.done (.inl ())))
noncomputable def F4_L3 (p0 : TCandidates) (p1 : A6u8) (r4 : TCandidates × Int) (v3_1 : Int) (v3_2 : Int) : Option (Lp (Int × Int) ((Int) ⊕ (Bool))) :=
  bif (bLt v3_2 (p0.List.length : Nat)) then (need (inb v3_2 p0.List.length) <| (F18 r4.1 ((gd p0.List v3_2.toNat).Addr)).bind fun r28 => need (inb v3_2 p0.List.length) <| bif ((!(bEq (((gd p0.List v3_2.toNat).Addr).x0) p1.x0 && (bEq (((gd p0.List v3_2.toNat).Addr).x1) p1.x1 && (bEq (((gd p0.List v3_2.toNat).Addr).x2) p1.x2 && (bEq (((gd p0.List v3_2.toNat).Addr).x3) p1.x3 && (bEq (((gd p0.List v3_2.toNat).Addr).x4) p1.x4 && (bEq (((gd p0.List v3_2.toNat).Addr).x5) p1.x5))))))) && (!r28.2)) then (lp (loopD (fun s => F4_L4 p0 r4 v3_2 s) 0) (fun e => need (inb v3_2 p0.List.length) <| need (bif ((!(bEq (((gd p0.List v3_2.toNat).Addr).x0) p1.x0 && (bEq (((gd p0.List v3_2.toNat).Addr).x1) p1.x1 && (bEq (((gd p0.List v3_2.toNat).Addr).x2) p1.x2 && (bEq (((gd p0.List v3_2.toNat).Addr).x3) p1.x3 && (bEq (((gd p0.List v3_2.toNat).Addr).x4) p1.x4 && (bEq (((gd p0.List v3_2.toNat).Addr).x5) p1.x5))))))) && r28.2) then inb v3_2 p0.List.length else true) <| bif (((!(bEq (((gd p0.List v3_2.toNat).Addr).x0) p1.x0 && (bEq (((gd p0.List v3_2.toNat).Addr).x1) p1.x1 && (bEq (((gd p0.List v3_2.toNat).Addr).x2) p1.x2 && (bEq (((gd p0.List v3_2.toNat).Addr).x3) p1.x3 && (bEq (((gd p0.List v3_2.toNat).Addr).x4) p1.x4 && (bEq (((gd p0.List v3_2.toNat).Addr).x5) p1.x5))))))) && r28.2) && (!(bEq r28.1.Addr.x0 (((gd p0.List v3_2.toNat).Addr).x0) && (bEq r28.1.Addr.x1 (((gd p0.List v3_2.toNat).Addr).x1) && (bEq r28.1.Addr.x2 (((gd p0.List v3_2.toNat).Addr).x2) && (bEq r28.1.Addr.x3 (((gd p0.List v3_2.toNat).Addr).x3) && (bEq r28.1.Addr.x4 (((gd p0.List v3_2.toNat).Addr).x4) && (bEq r28.1.Addr.x5 (((gd p0.List v3_2.toNat).Addr).x5) && (bEq r28.1.Channel ((gd p0.List v3_2.toNat).Channel) && (bEq r28.1.Level ((gd p0.List v3_2.toNat).Level) && (bEq r28.1.Load ((gd p0.List v3_2.toNat).Load) && (bEq r28.1.Heard ((gd p0.List v3_2.toNat).Heard) && (bEq r28.1.Interval ((gd p0.List v3_2.toNat).Interval) && (sEq r28.1.Name ((gd p0.List v3_2.toNat).Name) && (bB r28.1.Secure ((gd p0.List v3_2.toNat).Secure)))))))))))))))) then (some (.done (.inr false))) else (some (.next (wr .i64 (v3_1 + 1), wr .i64 (v3_2 + 1))))) (fun r => some (.done (.inr r)))) else (need (inb v3_2 p0.List.length) <| need (bif ((!(bEq (((gd p0.List v3_2.toNat).Addr).x0) p1.x0 && (bEq (((gd p0.List v3_2.toNat).Addr).x1) p1.x1 && (bEq (((gd p0.List v3_2.toNat).Addr).x2) p1.x2 && (bEq (((gd p0.List v3_2.toNat).Addr).x3) p1.x3 && (bEq (((gd p0.List v3_2.toNat).Addr).x4) p1.x4 && (bEq (((gd p0.List v3_2.toNat).Addr).x5) p1.x5))))))) && r28.2) then inb v3_2 p0.List.length else true) <| bif (((!(bEq (((gd p0.List v3_2.toNat).Addr).x0) p1.x0 && (bEq (((gd p0.List v3_2.toNat).Addr).x1) p1.x1 && (bEq (((gd p0.List v3_2.toNat).Addr).x2) p1.x2 && (bEq (((gd p0.List v3_2.toNat).Addr).x3) p1.x3 && (bEq (((gd p0.List v3_2.toNat).Addr).x4) p1.x4 && (bEq (((gd p0.List v3_2.toNat).Addr).x5) p1.x5))))))) && r28.2) && (!(bEq r28.1.Addr.x0 (((gd p0.List v3_2.toNat).Addr).x0) && (bEq r28.1.Addr.x1 (((gd p0.List v3_2.toNat).Addr).x1) && (bEq r28.1.Addr.x2 (((gd p0.List v3_2.toNat).Addr).x2) && (bEq r28.1.Addr.x3 (((gd p0.List v3_2.toNat).Addr).x3) && (bEq r28.1.Addr.x4 (((gd p0.List v3_2.toNat).Addr).x4) && (bEq r28.1.Addr.x5 (((gd p0.List v3_2.toNat).Addr).x5) && (bEq r28.1.Channel ((gd p0.List v3_2.toNat).Channel) && (bEq r28.1.Level ((gd p0.List v3_2.toNat).Level) && (bEq r28.1.Load ((gd p0.List v3_2.toNat).Load) && (bEq r28.1.Heard ((gd p0.List v3_2.toNat).Heard) && (bEq r28.1.Interval ((gd p0.List v3_2.toNat).Interval) && (sEq r28.1.Name ((gd p0.List v3_2.toNat).Name) && (bB r28.1.Secure ((gd p0.List v3_2.toNat).Secure)))))))))))))))) then (some (.done (.inr false))) else (some (.next (v3_1, wr .i64 (v3_2 + 1)))))) else (some (.done (.inl v3_1)))
noncomputable def F4 (p0 : TCandidates) (p1 : A6u8) (p2 : TBeacon) (p3 : Int) (p4 : Int) (p5 : Int) : Option (Bool) :=
  (F16).bind fun r1 => need (bif (!(bLt 64 (p0.List.length : Nat))) then ((F9 p2.Elems).isSome) else true) <| bif (((bLt 64 (p0.List.length : Nat)) || (gt (F9 p2.Elems))) || (!r1)) then (some r1) else ((F17 p0 p1 p2 p3 p4 p5).bind fun r4 => bif (!bEq r4.2 0) then (some (r1 && (bEq (r4.1.List.length : Nat) 0))) else ((F18 r4.1 p1).bind fun r6 => (F18 p0 p1).bind fun r8 => bif (!r8.2) then ((F19 r4.1).bind fun r10 => bif ((((!bEq r10 0) || (!bEq (r4.1.List.length : Nat) (minI (wr .i64 ((p0.List.length : Nat) + 1)) 64))) || (r6.2 && ((((!bEq r6.1.Channel p3) || (!bEq r6.1.Level p4)) || (!bEq r6.1.Heard p5)) || (!bEq r6.1.Interval (wr .i64 p2.Interval))))) || ((!r6.2) && (bLt (p0.List.length : Nat) 64))) then (some false) else (lp (loopD (fun s => F4_L1 p0 p1 r4 s.1 s.2) (0, 0)) (fun w1_3 => (F17 r4.1 p1 p2 p3 p4 p5).bind fun r22 => need (bif (((r1 && (bLe w1_3 1)) && (bEq r22.2 0)) && (!(!r6.2))) then ((F20 r22.1 r4.1).isSome) else true) <| some (((r1 && (bLe w1_3 1)) && (bEq r22.2 0)) && ((!r6.2) || (gt (F20 r22.1 r4.1))))) some)) else ((F19 r4.1).bind fun r25 => bif ((((!bEq r25 0) || (!bEq (r4.1.List.length : Nat) (p0.List.length : Nat))) || (r6.2 && ((((!bEq r6.1.Channel p3) || (!bEq r6.1.Level p4)) || (!bEq r6.1.Heard p5)) || (!bEq r6.1.Interval (wr .i64 p2.Interval))))) || ((!r6.2) && (bLt (p0.List.length : Nat) 64))) then (some false) else (lp (loopD (fun s => F4_L3 p0 p1 r4 s.1 s.2) (0, 0)) (fun w3_3 => (F17 r4.1 p1 p2 p3 p4 p5).bind fun r37 => need (bif (((r1 && (bLe w3_3 1)) && (bEq r37.2 0)) && (!(!r6.2))) then ((F20 r37.1 r4.1).isSome) else true) <| some (((r1 && (bLe w3_3 1)) && (bEq r37.2 0)) && ((!r6.2) || (gt (F20 r37.1 r4.1))))) some))))
noncomputable def body4 : List AV → AR
  | [v0, v1, v2, v3, v4, v5] => .pure (aK 1 k_TCandidates v0 ∧ aK 6 k_A6u8 v1 ∧ aK 4 k_TBeacon v2 ∧ iK .i64 v3 ∧ iK .i64 v4 ∧ iK .i64 v5 ∧ (F4 (g_TCandidates (aL v0)) (g_A6u8 (aL v1)) (g_TBeacon (aL v2)) (iA v3) (iA v4) (iA v5)).isSome = true) (.bool (gt (F4 (g_TCandidates (aL v0)) (g_A6u8 (aL v1)) (g_TBeacon (aL v2)) (iA v3) (iA v4) (iA v5))))
  | _ => .fail
set_option maxHeartbeats 4000000 in
set_option maxRecDepth 20000 in
theorem ok4 : FnOk Try.prog 4 (pureC body4) := by
  refine pure_fnM body4 (rs := [.tmp 12]) Try.func4 (by kernel_rfl) rfl rfl ?_
  intro l ob v hb hob
  unfold body4 at hb
  split at hb
  · rename_i v0 v1 v2 v3 v4 v5
    injection hb with q1 q2; subst q1 q2
    obtain ⟨hk0_0, hk1_0, hk2_0, hk3_0, hk4_0, hk5_0, hob⟩ := hob
    obtain ⟨r, H⟩ := Option.isSome_iff_exists.1 hob
    rw [H, gt_some]
    have hw0 := wA_TCandidates hk0_0
    have hw1 := wA_A6u8 hk1_0
    have hw2 := wA_TBeacon hk2_0
    have hw3 := iK_wk hk3_0
    have hw4 := iK_wk hk4_0
    have hw5 := iK_wk hk5_0
    generalize g_TCandidates (aL v0) = p0 at H hw0
    generalize g_A6u8 (aL v1) = p1 at H hw1
    generalize g_TBeacon (aL v2) = p2 at H hw2
    generalize iA v3 = p3 at H hw3
    generalize iA v4 = p4 at H hw4
    generalize iA v5 = p5 at H hw5
    refine ⟨[.agg [.ro 13 p0.List.length false (enR c_TCandidate p0.List)], .agg [.int .u8 p1.x0, .int .u8 p1.x1, .int .u8 p1.x2, .int .u8 p1.x3, .int .u8 p1.x4, .int .u8 p1.x5], .agg [.int .u64 p2.Time, .int .u16 p2.Interval, .int .u16 p2.Caps, .ro 4 p2.Elems.length false (enR c_TElement p2.Elems)], .int .i64 p3, .int .i64 p4, .int .i64 p5], _, (fun E vs F => FR_wk1 hw0.1 F (fun vs F => FR_wk1 hw1.1 F (fun vs F => FR_wk1 hw2.1 F (fun vs F => FR_wk1 hw3.1 F (fun vs F => FR_wk1 hw4.1 F (fun vs F => FR_wk1 hw5.1 F (fun vs F => F))))))), rfl, rfl, ?_⟩
    rw [Try.ntmps4]
    simp only [List.length_cons, List.length_nil, Nat.reduceAdd, Nat.reduceSub, List.replicate_succ, List.replicate_zero, List.cons_append, List.nil_append]
    unfold F4 at H
    try dsimp only at H
    refine sq ctNo_ok ?_
    simp only [go_sem, Nat.reduceLeDiff, Nat.reduceLT, Nat.reduceAdd, Nat.reduceMul, Nat.reduceSub, Nat.reduceEqDiff, Nat.reduceBEq, Int.reduceToNat, reduceCtorEq]
    refine seqM ?_
    obtain ⟨r1, e2, H⟩ := Option.bind_eq_some_iff.1 H
    refine rg ct4t0_ok ?_
    simp only [go_sem, Nat.reduceLeDiff, Nat.reduceLT, Nat.reduceAdd, Nat.reduceMul, Nat.reduceSub, Nat.reduceEqDiff, Nat.reduceBEq, Int.reduceToNat, reduceCtorEq, ct4t0_16, body16, e2]
    repeat ((with_reducible refine And.intro ?_ ?_); focus (first | (with_reducible trivial) | omega | (and_intros <;> first | (with_reducible trivial) | omega | assumption | exact nfc | first | exact rfl | exact trivial | exact fitI | exact Or.inr rfl | exact Or.inl rfl | exact fun x hx => absurd hx (by omega) | (intro x hx; (repeat (first | (and_intros <;> (first | exact rfl | exact trivial | exact fitI | exact Or.inr rfl | exact Or.inl rfl | exact fun x hx => absurd hx (by omega))) | (exfalso; omega) | (rcases x with _ | x))); done)) | grind))
    refine seqM ?_
    refine seqM ?_
    obtain ⟨f3, H⟩ := need_some.1 H
    replace f3 := g_iff.1 f3
    refine rg ct4t1_ok ?_
    simp only [go_sem, Nat.reduceLeDiff, Nat.reduceLT, Nat.reduceAdd, Nat.reduceMul, Nat.reduceSub, Nat.reduceEqDiff, Nat.reduceBEq, Int.reduceToNat, reduceCtorEq, ct4t1_9, body9]
    repeat ((with_reducible refine And.intro ?_ ?_); focus (first | (with_reducible trivial) | omega | exact f3 | (intro g; have q := f3 (by first | exact g | (rw [g]; rfl) | simpa using g); first | exact q | exact ⟨q.1, q.2.1⟩ | exact q.2.2 | omega | exact ⟨g, q⟩ | exact ⟨trivial, q⟩ | exact ⟨g, q.1, q.2.1⟩ | exact ⟨g, q.2.2⟩) | (intro g; (try have q0 := f3 (by first | exact g | (rw [g]; rfl) | simpa using g)); and_intros <;> first | (with_reducible trivial) | assumption | exact nfc | (intro g2; rw [g, g2]; rfl) | (intro g2; assumption) | (simp only [g, Bool.true_and, Bool.and_true, Bool.not_false, Bool.not_true]; assumption) | grind) | (and_intros <;> first | (with_reducible trivial) | omega | assumption | exact nfc | first | exact rfl | exact trivial | exact fitI | exact Or.inr rfl | exact Or.inl rfl | exact fun x hx => absurd hx (by omega) | (intro x hx; (repeat (first | (and_intros <;> (first | exact rfl | exact trivial | exact fitI | exact Or.inr rfl | exact Or.inl rfl | exact fun x hx => absurd hx (by omega))) | (exfalso; omega) | (rcases x with _ | x))); done)) | grind))
    refine condM rfl trivial (fun hc => ?_) (fun hc => ?_)
    · replace H := cond_t hc H
      refine sq ctNo_ok ?_
      simp only [go_sem, Nat.reduceLeDiff, Nat.reduceLT, Nat.reduceAdd, Nat.reduceMul, Nat.reduceSub, Nat.reduceEqDiff, Nat.reduceBEq, Int.reduceToNat, reduceCtorEq]
      refine rg ctNo_ok ?_
      simp only [go_sem, Nat.reduceLeDiff, Nat.reduceLT, Nat.reduceAdd, Nat.reduceMul, Nat.reduceSub, Nat.reduceEqDiff, Nat.reduceBEq, Int.reduceToNat, reduceCtorEq]
      obtain rfl := Option.some.inj H
      first | rfl | simp only [Bool.and_false, Bool.false_and, Bool.and_true, Bool.true_and]
    replace H := cond_f hc H
    refine rg ctNo_ok ?_
    simp only [go_sem, Nat.reduceLeDiff, Nat.reduceLT, Nat.reduceAdd, Nat.reduceMul, Nat.reduceSub, Nat.reduceEqDiff, Nat.reduceBEq, Int.reduceToNat, reduceCtorEq]
    refine seqM ?_
    obtain ⟨r4, e5, H⟩ := Option.bind_eq_some_iff.1 H
    refine rg ct4t2_ok ?_
    simp only [go_sem, Nat.reduceLeDiff, Nat.reduceLT, Nat.reduceAdd, Nat.reduceMul, Nat.reduceSub, Nat.reduceEqDiff, Nat.reduceBEq, Int.reduceToNat, reduceCtorEq, ct4t2_17, body17, e5]
    repeat ((with_reducible refine And.intro ?_ ?_); focus (first | (with_reducible trivial) | omega | (and_intros <;> first | (with_reducible trivial) | omega | assumption | exact nfc | first | exact rfl | exact trivial | exact fitI | exact Or.inr rfl | exact Or.inl rfl | exact fun x hx => absurd hx (by omega) | (intro x hx; (repeat (first | (and_intros <;> (first | exact rfl | exact trivial | exact fitI | exact Or.inr rfl | exact Or.inl rfl | exact fun x hx => absurd hx (by omega))) | (exfalso; omega) | (rcases x with _ | x))); done)) | grind))
    refine seqM ?_
    refine sq ctNo_ok ?_
    simp only [go_sem, Nat.reduceLeDiff, Nat.reduceLT, Nat.reduceAdd, Nat.reduceMul, Nat.reduceSub, Nat.reduceEqDiff, Nat.reduceBEq, Int.reduceToNat, reduceCtorEq]
    refine condM rfl trivial (fun hc => ?_) (fun hc => ?_)
    · replace H := cond_t hc H
      refine sq ctNo_ok ?_
      simp only [go_sem, Nat.reduceLeDiff, Nat.reduceLT, Nat.reduceAdd, Nat.reduceMul, Nat.reduceSub, Nat.reduceEqDiff, Nat.reduceBEq, Int.reduceToNat, reduceCtorEq]
      repeat ((with_reducible refine And.intro ?_ ?_); focus (first | (with_reducible trivial) | omega | (intro g; and_intros <;> first | (with_reducible trivial) | assumption | exact nfc | (intro g2; rw [g, g2]; rfl) | (intro g2; assumption) | (simp only [g, Bool.true_and, Bool.and_true, Bool.not_false, Bool.not_true]; assumption) | grind) | (and_intros <;> first | (with_reducible trivial) | omega | assumption | exact nfc | first | exact rfl | exact trivial | exact fitI | exact Or.inr rfl | exact Or.inl rfl | exact fun x hx => absurd hx (by omega) | (intro x hx; (repeat (first | (and_intros <;> (first | exact rfl | exact trivial | exact fitI | exact Or.inr rfl | exact Or.inl rfl | exact fun x hx => absurd hx (by omega))) | (exfalso; omega) | (rcases x with _ | x))); done)) | grind))
      refine rg ctNo_ok ?_
      simp only [go_sem, Nat.reduceLeDiff, Nat.reduceLT, Nat.reduceAdd, Nat.reduceMul, Nat.reduceSub, Nat.reduceEqDiff, Nat.reduceBEq, Int.reduceToNat, reduceCtorEq]
      obtain rfl := Option.some.inj H
      first | rfl | simp only [Bool.and_false, Bool.false_and, Bool.and_true, Bool.true_and]
    replace H := cond_f hc H
    refine rg ctNo_ok ?_
    simp only [go_sem, Nat.reduceLeDiff, Nat.reduceLT, Nat.reduceAdd, Nat.reduceMul, Nat.reduceSub, Nat.reduceEqDiff, Nat.reduceBEq, Int.reduceToNat, reduceCtorEq]
    refine seqM ?_
    obtain ⟨r6, e7, H⟩ := Option.bind_eq_some_iff.1 H
    refine rg ct4t3_ok ?_
    simp only [go_sem, Nat.reduceLeDiff, Nat.reduceLT, Nat.reduceAdd, Nat.reduceMul, Nat.reduceSub, Nat.reduceEqDiff, Nat.reduceBEq, Int.reduceToNat, reduceCtorEq, ct4t3_18, body18, e7]
    repeat ((with_reducible refine And.intro ?_ ?_); focus (first | (with_reducible trivial) | omega | (and_intros <;> first | (with_reducible trivial) | omega | assumption | exact nfc | first | exact rfl | exact trivial | exact fitI | exact Or.inr rfl | exact Or.inl rfl | exact fun x hx => absurd hx (by omega) | (intro x hx; (repeat (first | (and_intros <;> (first | exact rfl | exact trivial | exact fitI | exact Or.inr rfl | exact Or.inl rfl | exact fun x hx => absurd hx (by omega))) | (exfalso; omega) | (rcases x with _ | x))); done)) | grind))
    refine seqM ?_
    obtain ⟨r8, e9, H⟩ := Option.bind_eq_some_iff.1 H
    refine rg ct4t3_ok ?_
    simp only [go_sem, Nat.reduceLeDiff, Nat.reduceLT, Nat.reduceAdd, Nat.reduceMul, Nat.reduceSub, Nat.reduceEqDiff, Nat.reduceBEq, Int.reduceToNat, reduceCtorEq, ct4t3_18, body18, e9]
    repeat ((with_reducible refine And.intro ?_ ?_); focus (first | (with_reducible trivial) | omega | (and_intros <;> first | (with_reducible trivial) | omega | assumption | exact nfc | first | exact rfl | exact trivial | exact fitI | exact Or.inr rfl | exact Or.inl rfl | exact fun x hx => absurd hx (by omega) | (intro x hx; (repeat (first | (and_intros <;> (first | exact rfl | exact trivial | exact fitI | exact Or.inr rfl | exact Or.inl rfl | exact fun x hx => absurd hx (by omega))) | (exfalso; omega) | (rcases x with _ | x))); done)) | grind))
    refine sq ctNo_ok ?_
    simp only [go_sem, Nat.reduceLeDiff, Nat.reduceLT, Nat.reduceAdd, Nat.reduceMul, Nat.reduceSub, Nat.reduceEqDiff, Nat.reduceBEq, Int.reduceToNat, reduceCtorEq]
    repeat ((with_reducible refine And.intro ?_ ?_); focus (first | (with_reducible trivial) | omega | (and_intros <;> first | (with_reducible trivial) | omega | assumption | exact nfc | first | exact rfl | exact trivial | exact fitI | exact Or.inr rfl | exact Or.inl rfl | exact fun x hx => absurd hx (by omega) | (intro x hx; (repeat (first | (and_intros <;> (first | exact rfl | exact trivial | exact fitI | exact Or.inr rfl | exact Or.inl rfl | exact fun x hx => absurd hx (by omega))) | (exfalso; omega) | (rcases x with _ | x))); done)) | grind))
    refine seqM ?_
    refine sq ctNo_ok ?_
    simp only [go_sem, Nat.reduceLeDiff, Nat.reduceLT, Nat.reduceAdd, Nat.reduceMul, Nat.reduceSub, Nat.reduceEqDiff, Nat.reduceBEq, Int.reduceToNat, reduceCtorEq]
    refine condM' rfl trivial (fun hc => ?_) (fun hc => ?_)
    · replace H := cond_f hc H
      refine rg ctNo_ok ?_
      simp only [go_sem, Nat.reduceLeDiff, Nat.reduceLT, Nat.reduceAdd, Nat.reduceMul, Nat.reduceSub, Nat.reduceEqDiff, Nat.reduceBEq, Int.reduceToNat, reduceCtorEq]
      refine seqM ?_
      refine seqM ?_
      obtain ⟨r25, e26, H⟩ := Option.bind_eq_some_iff.1 H
      refine rg ct4t4_ok ?_
      simp only [go_sem, Nat.reduceLeDiff, Nat.reduceLT, Nat.reduceAdd, Nat.reduceMul, Nat.reduceSub, Nat.reduceEqDiff, Nat.reduceBEq, Int.reduceToNat, reduceCtorEq, ct4t4_19, body19, e26]
      repeat ((with_reducible refine And.intro ?_ ?_); focus (first | (with_reducible trivial) | omega | (intro g; and_intros <;> first | (with_reducible trivial) | assumption | exact nfc | (intro g2; rw [g, g2]; rfl) | (intro g2; assumption) | (simp only [g, Bool.true_and, Bool.and_true, Bool.not_false, Bool.not_true]; assumption) | grind) | (and_intros <;> first | (with_reducible trivial) | omega | assumption | exact nfc | first | exact rfl | exact trivial | exact fitI | exact Or.inr rfl | exact Or.inl rfl | exact fun x hx => absurd hx (by omega) | (intro x hx; (repeat (first | (and_intros <;> (first | exact rfl | exact trivial | exact fitI | exact Or.inr rfl | exact Or.inl rfl | exact fun x hx => absurd hx (by omega))) | (exfalso; omega) | (rcases x with _ | x))); done)) | grind))
      refine condM rfl trivial (fun hc => ?_) (fun hc => ?_)
      · replace H := cond_t hc H
        refine sq ctNo_ok ?_
        simp only [go_sem, Nat.reduceLeDiff, Nat.reduceLT, Nat.reduceAdd, Nat.reduceMul, Nat.reduceSub, Nat.reduceEqDiff, Nat.reduceBEq, Int.reduceToNat, reduceCtorEq]
        refine rg ctNo_ok ?_
        simp only [go_sem, Nat.reduceLeDiff, Nat.reduceLT, Nat.reduceAdd, Nat.reduceMul, Nat.reduceSub, Nat.reduceEqDiff, Nat.reduceBEq, Int.reduceToNat, reduceCtorEq]
        obtain rfl := Option.some.inj H
        first | rfl | simp only [Bool.and_false, Bool.false_and, Bool.and_true, Bool.true_and]
      replace H := cond_f hc H
      refine rg ctNo_ok ?_
      simp only [go_sem, Nat.reduceLeDiff, Nat.reduceLT, Nat.reduceAdd, Nat.reduceMul, Nat.reduceSub, Nat.reduceEqDiff, Nat.reduceBEq, Int.reduceToNat, reduceCtorEq]
      refine sq ctNo_ok ?_
      simp only [go_sem, Nat.reduceLeDiff, Nat.reduceLT, Nat.reduceAdd, Nat.reduceMul, Nat.reduceSub, Nat.reduceEqDiff, Nat.reduceBEq, Int.reduceToNat, reduceCtorEq]
      refine seqM ?_
      refine sq ctNo_ok ?_
      simp only [go_sem, Nat.reduceLeDiff, Nat.reduceLT, Nat.reduceAdd, Nat.reduceMul, Nat.reduceSub, Nat.reduceEqDiff, Nat.reduceBEq, Int.reduceToNat, reduceCtorEq]
      refine blkM ?_
      refine loop_den (fun s : Int × Int => (.top :: .top :: .top :: .int .i64 p3 :: .int .i64 p4 :: .int .i64 p5 :: .ptr 0 0 0 0 :: .ptr 1 0 0 0 :: .ptr 2 0 0 0 :: .top :: .top :: .top :: .top :: .bool r1 :: .ptr 3 0 0 0 :: .top :: .top :: .bool r6.2 :: .top :: .top :: .top :: .int .i64 s.1 :: .int .i64 s.2 :: .top :: .top :: .top :: .top :: .top :: .top :: .top :: .top :: .top :: .top :: .top :: .top :: .top :: .top :: .top :: .top :: .top :: .top :: .top :: .top :: .top :: .top :: .top :: .top :: .top :: .top :: .top :: .top :: .top :: .top :: .top :: .top :: .top :: .top :: .top :: .top :: .top :: .top :: .top :: .top :: .top :: .top :: .top :: .top :: .top :: .top :: .top :: .top :: .top :: .top :: .top :: .top :: .top :: .top :: .top :: .top :: .top :: .top :: .top :: .top :: .top :: .top :: .top :: .top :: .top :: .top :: .top :: .top :: .top :: .top :: .top :: .top :: .top :: .top :: .top :: .top :: .top :: .top :: .top :: .top :: .top :: .top :: .top :: .top :: .top :: .top :: .top :: .top :: .top :: .top :: .top :: .top :: .top :: .top :: .top :: .top :: .top :: .top :: .top :: .top :: .top :: .top :: .top :: .top :: .top :: .top :: .top :: .top :: .top :: .top :: .top :: .top :: .top :: .top :: .top :: .top :: .top :: .top :: .top :: .top :: .top :: .top :: .top :: .top :: .top :: .top :: .top :: .top :: .top :: .top :: .top :: .top :: .top :: .top :: .top :: .top :: .top :: .top :: .top :: .top :: .top :: .top :: .top :: .top :: .top :: .top :: .top :: .top :: .top :: .top :: .top :: .top :: .top :: .top :: .top :: .top :: .top :: .top :: .top :: .top :: .top :: .top :: .top :: .top :: .top :: .top :: .top :: .top :: .top :: .top :: .top :: .top :: .top :: .top :: .top :: .top :: .top :: .top :: .top :: .top :: .top :: .top :: .top :: .top :: .top :: .top :: .top :: .top :: .top :: .top :: .top :: .top :: .top :: .top :: .top :: .top :: .top :: .top :: .top :: .top :: .top :: .top :: .top :: .top :: .top :: .top :: .top :: .top :: [])) (fun s => [.lit 41 [.ro 13 p0.List.length false (enR c_TCandidate p0.List)], .lit 43 [.int .u8 p1.x0, .int .u8 p1.x1, .int .u8 p1.x2, .int .u8 p1.x3, .int .u8 p1.x4, .int .u8 p1.x5], .lit 47 [.int .u64 p2.Time, .int .u16 p2.Interval, .int .u16 p2.Caps, .ro 4 p2.Elems.length false (enR c_TElement p2.Elems)], .lit 41 [.ro 13 r4.1.List.length false (enR c_TCandidate r4.1.List)], .dead, .dead]) (fun e : Int => (.top :: .top :: .top :: .int .i64 p3 :: .int .i64 p4 :: .int .i64 p5 :: .top :: .ptr 1 0 0 0 :: .ptr 2 0 0 0 :: .top :: .top :: .top :: .top :: .bool r1 :: .ptr 3 0 0 0 :: .top :: .top :: .bool r6.2 :: .top :: .top :: .top :: .int .i64 e :: .top :: .top :: .top :: .top :: .top :: .top :: .top :: .top :: .top :: .top :: .top :: .top :: .top :: .top :: .top :: .top :: .top :: .top :: .top :: .top :: .top :: .top :: .top :: .top :: .top :: .top :: .top :: .top :: .top :: .top :: .top :: .top :: .top :: .top :: .top :: .top :: .top :: .top :: .top :: .top :: .top :: .top :: .top :: .top :: .top :: .top :: .top :: .top :: .top :: .top :: .top :: .top :: .top :: .top :: .top :: .top :: .top :: .top :: .top :: .top :: .top :: .top :: .top :: .top :: .top :: .top :: .top :: .top :: .top :: .top :: .top :: .top :: .top :: .top :: .top :: .top :: .top :: .top :: .top :: .top :: .top :: .top :: .top :: .top :: .top :: .top :: .top :: .top :: .top :: .top :: .top :: .top :: .top :: .top :: .top :: .top :: .top :: .top :: .top :: .top :: .top :: .top :: .top :: .top :: .top :: .top :: .top :: .top :: .top :: .top :: .top :: .top :: .top :: .top :: .top :: .top :: .top :: .top :: .top :: .top :: .top :: .top :: .top :: .top :: .top :: .top :: .top :: .top :: .top :: .top :: .top :: .top :: .top :: .top :: .top :: .top :: .top :: .top :: .top :: .top :: .top :: .top :: .top :: .top :: .top :: .top :: .top :: .top :: .top :: .top :: .top :: .top :: .top :: .top :: .top :: .top :: .top :: .top :: .top :: .top :: .top :: .top :: .top :: .top :: .top :: .top :: .top :: .top :: .top :: .top :: .top :: .top :: .top :: .top :: .top :: .top :: .top :: .top :: .top :: .top :: .top :: .top :: .top :: .top :: .top :: .top :: .top :: .top :: .top :: .top :: .top :: .top :: .top :: .top :: .top :: .top :: .top :: .top :: .top :: .top :: .top :: .top :: .top :: .top :: .top :: .top :: .top :: .top :: .top :: [])) (fun e => [.dead, .lit 43 [.int .u8 p1.x0, .int .u8 p1.x1, .int .u8 p1.x2, .int .u8 p1.x3, .int .u8 p1.x4, .int .u8 p1.x5], .lit 47 [.int .u64 p2.Time, .int .u16 p2.Interval, .int .u16 p2.Caps, .ro 4 p2.Elems.length false (enR c_TElement p2.Elems)], .lit 41 [.ro 13 r4.1.List.length false (enR c_TCandidate r4.1.List)], .dead, .dead]) H ?_ (fun s o H hn1_3 hn2_3 => ?_) (fun w3_3 H => ?_)
      · refine SubF_of ⟨[some 0, some 1, some 2, some 3, some 4, some 5], ?_, ?_, by rfl, by rfl⟩
        · simp [CvL, Cv, getM]
        · exact ⟨(by simp [CvB, CvL, Cv, blkAt, geth, getM]), (by simp [CvB, CvL, Cv, blkAt, geth, getM]), (by simp [CvB, CvL, Cv, blkAt, geth, getM]), (by simp [CvB, CvL, Cv, blkAt, geth, getM]), CvB_dead, CvB_dead, trivial⟩
      · obtain ⟨v3_1, v3_2⟩ := s
        unfold F4_L3 at H
        try dsimp only at H ⊢
        refine seqM ?_
        refine sq ctNo_ok ?_
        simp only [go_sem, Nat.reduceLeDiff, Nat.reduceLT, Nat.reduceAdd, Nat.reduceMul, Nat.reduceSub, Nat.reduceEqDiff, Nat.reduceBEq, Int.reduceToNat, reduceCtorEq]
        repeat ((with_reducible refine And.intro ?_ ?_); focus (first | (with_reducible trivial) | omega | (and_intros <;> first | (with_reducible trivial) | omega | assumption | exact nfc | first | exact rfl | exact trivial | exact fitI | exact Or.inr rfl | exact Or.inl rfl | exact fun x hx => absurd hx (by omega) | (intro x hx; (repeat (first | (and_intros <;> (first | exact rfl | exact trivial | exact fitI | exact Or.inr rfl | exact Or.inl rfl | exact fun x hx => absurd hx (by omega))) | (exfalso; omega) | (rcases x with _ | x))); done)) | grind))
        refine condM' rfl trivial (fun hc => ?_) (fun hc => ?_)
        · replace H := cond_f hc H
          refine rg ctNo_ok ?_
          simp only [go_sem, Nat.reduceLeDiff, Nat.reduceLT, Nat.reduceAdd, Nat.reduceMul, Nat.reduceSub, Nat.reduceEqDiff, Nat.reduceBEq, Int.reduceToNat, reduceCtorEq]
          refine ⟨_, (Option.some.inj H).symm, ?_⟩
          refine SubF_of ⟨[some 0, some 1, some 2, some 3, some 4, some 5], ?_, ?_, by rfl, by rfl⟩
          · simp [CvL, Cv, getM]
          · exact ⟨CvB_dead, (by simp [CvB, CvL, Cv, blkAt, geth, getM]), (by simp [CvB, CvL, Cv, blkAt, geth, getM]), (by simp [CvB, CvL, Cv, blkAt, geth, getM]), CvB_dead, CvB_dead, trivial⟩
        replace H := cond_t hc H
        refine rg ctNo_ok ?_
        simp only [go_sem, Nat.reduceLeDiff, Nat.reduceLT, Nat.reduceAdd, Nat.reduceMul, Nat.reduceSub, Nat.reduceEqDiff, Nat.reduceBEq, Int.reduceToNat, reduceCtorEq]
        refine seqM ?_
        refine blkM ?_
        refine seqM ?_
        obtain ⟨f27, H⟩ := need_some.1 H
        replace f27 := inb_iff.1 f27
        obtain ⟨r28, e29, H⟩ := Option.bind_eq_some_iff.1 H
        refine draw_rule shT_ok ct4t3_ok 1 (by kernel_rfl) (by kernel_rfl) ?_
        intro an han
        simp only [d_nil, d_cons, nxtD, xrD, xoD, roEq, minL, List.append_nil, refsOp, refs, refsL, mask, maskF, place, placeF, okLog, pairOk, hit, inL, slotsF, ren, renL, rnN, nrH, nrB, nrL, nr, dead0, deadS, List.replicate_zero, List.replicate_succ, Nat.sub_self, Nat.add_zero, Nat.zero_add, Nat.reduceSub, Nat.not_lt_zero, Nat.zero_le, Nat.lt_add_one, go_sem, Nat.reduceLeDiff, Nat.reduceLT, Nat.reduceAdd, Nat.reduceMul, Nat.reduceSub, Nat.reduceEqDiff, Nat.reduceBEq, Int.reduceToNat, reduceCtorEq, ct4t3_18, body18, f27, e29]
        repeat ((with_reducible refine And.intro ?_ ?_); focus (and_intros <;> first | (with_reducible trivial) | (show anB _ _ _ = true; subst han; kernel_rfl) | (show (anB _ _ _ && _) = true; subst han; kernel_rfl) | omega | assumption | exact nrc | exact nfc | first | exact rfl | exact trivial | exact fitI | exact Or.inr rfl | exact Or.inl rfl | exact fun x hx => absurd hx (by omega) | (intro x hx; (repeat (first | (and_intros <;> (first | exact rfl | exact trivial | exact fitI | exact Or.inr rfl | exact Or.inl rfl | exact fun x hx => absurd hx (by omega))) | (exfalso; omega) | (rcases x with _ | x))); done)))
        refine seqM ?_
        refine seqM ?_
        obtain ⟨f30, H⟩ := need_some.1 H
        replace f30 := inb_iff.1 f30
        refine draw_quiet shT_ok ctNo_ok (by kernel_rfl) (by kernel_rfl) ?_
        simp only [go_sem, Nat.reduceLeDiff, Nat.reduceLT, Nat.reduceAdd, Nat.reduceMul, Nat.reduceSub, Nat.reduceEqDiff, Nat.reduceBEq, Int.reduceToNat, reduceCtorEq, f30]
        repeat ((with_reducible refine And.intro ?_ ?_); focus (first | (with_reducible trivial) | omega | grind))
        refine condM' rfl trivial (fun hc => ?_) (fun hc => ?_)
        · replace H := cond_f hc H
          refine rg ctNo_ok ?_
          simp only [go_sem, Nat.reduceLeDiff, Nat.reduceLT, Nat.reduceAdd, Nat.reduceMul, Nat.reduceSub, Nat.reduceEqDiff, Nat.reduceBEq, Int.reduceToNat, reduceCtorEq]
          refine seqM ?_
          obtain ⟨f35, H⟩ := need_some.1 H
          replace f35 := inb_iff.1 f35
          obtain ⟨f36, H⟩ := need_some.1 H
          replace f36 := g_iff.1 f36
          replace f36 := fun g => inb_iff.1 (f36 g)
          refine draw_quiet shT_ok ctNo_ok (by kernel_rfl) (by kernel_rfl) ?_
          simp only [go_sem, Nat.reduceLeDiff, Nat.reduceLT, Nat.reduceAdd, Nat.reduceMul, Nat.reduceSub, Nat.reduceEqDiff, Nat.reduceBEq, Int.reduceToNat, reduceCtorEq, f35]
          repeat ((with_reducible refine And.intro ?_ ?_); focus (first | (with_reducible trivial) | omega | exact f36 | (intro g; have q := f36 (by first | exact g | (rw [g]; rfl) | simpa using g); first | exact q | exact ⟨q.1, q.2.1⟩ | exact q.2.2 | omega | exact ⟨g, q⟩ | exact ⟨trivial, q⟩ | exact ⟨g, q.1, q.2.1⟩ | exact ⟨g, q.2.2⟩) | grind))
          refine condM rfl trivial (fun hc => ?_) (fun hc => ?_)
          · replace H := cond_t hc H
            refine sq ctNo_ok ?_
            simp only [go_sem, Nat.reduceLeDiff, Nat.reduceLT, Nat.reduceAdd, Nat.reduceMul, Nat.reduceSub, Nat.reduceEqDiff, Nat.reduceBEq, Int.reduceToNat, reduceCtorEq]
            refine rg ctNo_ok ?_
            simp only [go_sem, Nat.reduceLeDiff, Nat.reduceLT, Nat.reduceAdd, Nat.reduceMul, Nat.reduceSub, Nat.reduceEqDiff, Nat.reduceBEq, Int.reduceToNat, reduceCtorEq]
            have H := hn2_3 _ (Option.some.inj H).symm
            obtain rfl := Option.some.inj H
            first | rfl | simp only [Bool.and_false, Bool.false_and, Bool.and_true, Bool.true_and]
          replace H := cond_f hc H
          refine rg ctNo_ok ?_
          simp only [go_sem, Nat.reduceLeDiff, Nat.reduceLT, Nat.reduceAdd, Nat.reduceMul, Nat.reduceSub, Nat.reduceEqDiff, Nat.reduceBEq, Int.reduceToNat, reduceCtorEq]
          refine rg ctNo_ok ?_
          simp only [go_sem, Nat.reduceLeDiff, Nat.reduceLT, Nat.reduceAdd, Nat.reduceMul, Nat.reduceSub, Nat.reduceEqDiff, Nat.reduceBEq, Int.reduceToNat, reduceCtorEq]
          refine ⟨_, (Option.some.inj H).symm, ?_⟩
          refine SubF_of ⟨[some 0, some 1, some 2, some 3, some 4, some 5], ?_, ?_, by rfl, by rfl⟩
          · simp [CvL, Cv, getM]
          · exact ⟨(by simp [CvB, CvL, Cv, blkAt, geth, getM]), (by simp [CvB, CvL, Cv, blkAt, geth, getM]), (by simp [CvB, CvL, Cv, blkAt, geth, getM]), (by simp [CvB, CvL, Cv, blkAt, geth, getM]), CvB_dead, CvB_dead, trivial⟩
        replace H := cond_t hc H
        refine sq ctNo_ok ?_
        simp only [go_sem, Nat.reduceLeDiff, Nat.reduceLT, Nat.reduceAdd, Nat.reduceMul, Nat.reduceSub, Nat.reduceEqDiff, Nat.reduceBEq, Int.reduceToNat, reduceCtorEq]
        refine sq ctNo_ok ?_
        simp only [go_sem, Nat.reduceLeDiff, Nat.reduceLT, Nat.reduceAdd, Nat.reduceMul, Nat.reduceSub, Nat.reduceEqDiff, Nat.reduceBEq, Int.reduceToNat, reduceCtorEq]
        refine blkM ?_
        refine loop_den (fun s : Int => (.top :: .top :: .top :: .int .i64 p3 :: .int .i64 p4 :: .int .i64 p5 :: .ptr 0 0 0 0 :: .ptr 1 0 0 0 :: .ptr 2 0 0 0 :: .top :: .top :: .top :: .top :: .bool r1 :: .ptr 3 0 0 0 :: .top :: .top :: .bool r6.2 :: .top :: .top :: .top :: .int .i64 (wr .i64 (v3_1 + 1)) :: .int .i64 v3_2 :: .ptr 6 0 0 0 :: .bool r28.2 :: .int .i64 s :: .top :: .top :: .top :: .top :: .top :: .top :: .top :: .top :: .top :: .top :: .top :: .top :: .top :: .top :: .top :: .top :: .top :: .top :: .top :: .top :: .top :: .top :: .top :: .top :: .top :: .top :: .top :: .top :: .top :: .top :: .top :: .top :: .top :: .top :: .top :: .top :: .top :: .top :: .top :: .top :: .top :: .top :: .top :: .top :: .top :: .top :: .top :: .top :: .top :: .top :: .top :: .top :: .top :: .top :: .top :: .top :: .top :: .top :: .top :: .top :: .top :: .top :: .top :: .top :: .top :: .top :: .top :: .top :: .top :: .top :: .top :: .top :: .top :: .top :: .top :: .top :: .top :: .top :: .top :: .top :: .top :: .top :: .top :: .top :: .top :: .top :: .top :: .top :: .top :: .top :: .top :: .top :: .top :: .top :: .top :: .top :: .top :: .top :: .top :: .top :: .top :: .top :: .top :: .top :: .top :: .top :: .top :: .top :: .top :: .top :: .top :: .top :: .top :: .top :: .top :: .top :: .top :: .top :: .top :: .top :: .top :: .top :: .top :: .top :: .top :: .top :: .top :: .top :: .top :: .top :: .top :: .top :: .top :: .top :: .top :: .top :: .top :: .top :: .top :: .top :: .top :: .top :: .top :: .top :: .top :: .top :: .top :: .top :: .top :: .top :: .top :: .top :: .top :: .top :: .top :: .top :: .top :: .top :: .top :: .top :: .top :: .top :: .top :: .top :: .top :: .top :: .top :: .top :: .top :: .top :: .top :: .top :: .top :: .top :: .top :: .top :: .top :: .top :: .top :: .top :: .top :: .top :: .top :: .top :: .top :: .top :: .top :: .top :: .top :: .top :: .top :: .top :: .top :: .top :: .top :: .top :: .top :: .top :: .top :: .top :: .top :: .top :: .top :: .top :: .top :: [])) (fun s => [.lit 41 [.ro 13 p0.List.length false (enR c_TCandidate p0.List)], .lit 43 [.int .u8 p1.x0, .int .u8 p1.x1, .int .u8 p1.x2, .int .u8 p1.x3, .int .u8 p1.x4, .int .u8 p1.x5], .lit 47 [.int .u64 p2.Time, .int .u16 p2.Interval, .int .u16 p2.Caps, .ro 4 p2.Elems.length false (enR c_TElement p2.Elems)], .lit 41 [.ro 13 r4.1.List.length false (enR c_TCandidate r4.1.List)], .dead, .dead, .lit 52 [.int .u8 r28.1.Addr.x0, .int .u8 r28.1.Addr.x1, .int .u8 r28.1.Addr.x2, .int .u8 r28.1.Addr.x3, .int .u8 r28.1.Addr.x4, .int .u8 r28.1.Addr.x5, .int .i64 r28.1.Channel, .int .i64 r28.1.Level, .int .i64 r28.1.Load, .int .i64 r28.1.Heard, .int .i64 r28.1.Interval, .str r28.1.Name, .bool r28.1.Secure]]) (fun e : Unit => (.top :: .top :: .top :: .int .i64 p3 :: .int .i64 p4 :: .int .i64 p5 :: .ptr 0 0 0 0 :: .ptr 1 0 0 0 :: .ptr 2 0 0 0 :: .top :: .top :: .top :: .top :: .bool r1 :: .ptr 3 0 0 0 :: .top :: .top :: .bool r6.2 :: .top :: .top :: .top :: .int .i64 (wr .i64 (v3_1 + 1)) :: .int .i64 v3_2 :: .ptr 6 0 0 0 :: .bool r28.2 :: .top :: .top :: .top :: .top :: .top :: .top :: .top :: .top :: .top :: .top :: .top :: .top :: .top :: .top :: .top :: .top :: .top :: .top :: .top :: .top :: .top :: .top :: .top :: .top :: .top :: .top :: .top :: .top :: .top :: .top :: .top :: .top :: .top :: .top :: .top :: .top :: .top :: .top :: .top :: .top :: .top :: .top :: .top :: .top :: .top :: .top :: .top :: .top :: .top :: .top :: .top :: .top :: .top :: .top :: .top :: .top :: .top :: .top :: .top :: .top :: .top :: .top :: .top :: .top :: .top :: .top :: .top :: .top :: .top :: .top :: .top :: .top :: .top :: .top :: .top :: .top :: .top :: .top :: .top :: .top :: .top :: .top :: .top :: .top :: .top :: .top :: .top :: .top :: .top :: .top :: .top :: .top :: .top :: .top :: .top :: .top :: .top :: .top :: .top :: .top :: .top :: .top :: .top :: .top :: .top :: .top :: .top :: .top :: .top :: .top :: .top :: .top :: .top :: .top :: .top :: .top :: .top :: .top :: .top :: .top :: .top :: .top :: .top :: .top :: .top :: .top :: .top :: .top :: .top :: .top :: .top :: .top :: .top :: .top :: .top :: .top :: .top :: .top :: .top :: .top :: .top :: .top :: .top :: .top :: .top :: .top :: .top :: .top :: .top :: .top :: .top :: .top :: .top :: .top :: .top :: .top :: .top :: .top :: .top :: .top :: .top :: .top :: .top :: .top :: .top :: .top :: .top :: .top :: .top :: .top :: .top :: .top :: .top :: .top :: .top :: .top :: .top :: .top :: .top :: .top :: .top :: .top :: .top :: .top :: .top :: .top :: .top :: .top :: .top :: .top :: .top :: .top :: .top :: .top :: .top :: .top :: .top :: .top :: .top :: .top :: .top :: .top :: .top :: .top :: .top :: .top :: [])) (fun e => [.lit 41 [.ro 13 p0.List.length false (enR c_TCandidate p0.List)], .lit 43 [.int .u8 p1.x0, .int .u8 p1.x1, .int .u8 p1.x2, .int .u8 p1.x3, .int .u8 p1.x4, .int .u8 p1.x5], .lit 47 [.int .u64 p2.Time, .int .u16 p2.Interval, .int .u16 p2.Caps, .ro 4 p2.Elems.length false (enR c_TElement p2.Elems)], .lit 41 [.ro 13 r4.1.List.length false (enR c_TCandidate r4.1.List)], .dead, .dead, .lit 52 [.int .u8 r28.1.Addr.x0, .int .u8 r28.1.Addr.x1, .int .u8 r28.1.Addr.x2, .int .u8 r28.1.Addr.x3, .int .u8 r28.1.Addr.x4, .int .u8 r28.1.Addr.x5, .int .i64 r28.1.Channel, .int .i64 r28.1.Level, .int .i64 r28.1.Load, .int .i64 r28.1.Heard, .int .i64 r28.1.Interval, .str r28.1.Name, .bool r28.1.Secure]]) H ?_ (fun v4_1 o H hn1_4 hn2_4 => ?_) (fun e H => ?_)
        · refine SubF_of ⟨[some 0, some 1, some 2, some 3, some 4, some 5, some 6], ?_, ?_, by rfl, by rfl⟩
          · simp [CvL, Cv, getM]
          · exact ⟨(by simp [CvB, CvL, Cv, blkAt, geth, getM]), (by simp [CvB, CvL, Cv, blkAt, geth, getM]), (by simp [CvB, CvL, Cv, blkAt, geth, getM]), (by simp [CvB, CvL, Cv, blkAt, geth, getM]), CvB_dead, CvB_dead, (by simp [CvB, CvL, Cv, blkAt, geth, getM]), trivial⟩
        · unfold F4_L4 at H
          try dsimp only at H ⊢
          refine seqM ?_
          refine sq ctNo_ok ?_
          simp only [go_sem, Nat.reduceLeDiff, Nat.reduceLT, Nat.reduceAdd, Nat.reduceMul, Nat.reduceSub, Nat.reduceEqDiff, Nat.reduceBEq, Int.reduceToNat, reduceCtorEq]
          repeat ((with_reducible refine And.intro ?_ ?_); focus (first | (with_reducible trivial) | omega | (and_intros <;> first | (with_reducible trivial) | omega | assumption | exact nfc | first | exact rfl | exact trivial | exact fitI | exact Or.inr rfl | exact Or.inl rfl | exact fun x hx => absurd hx (by omega) | (intro x hx; (repeat (first | (and_intros <;> (first | exact rfl | exact trivial | exact fitI | exact Or.inr rfl | exact Or.inl rfl | exact fun x hx => absurd hx (by omega))) | (exfalso; omega) | (rcases x with _ | x))); done)) | grind))
          refine condM' rfl trivial (fun hc => ?_) (fun hc => ?_)
          · replace H := cond_f hc H
            refine rg ctNo_ok ?_
            simp only [go_sem, Nat.reduceLeDiff, Nat.reduceLT, Nat.reduceAdd, Nat.reduceMul, Nat.reduceSub, Nat.reduceEqDiff, Nat.reduceBEq, Int.reduceToNat, reduceCtorEq]
            refine ⟨_, (Option.some.inj H).symm, ?_⟩
            refine SubF_of ⟨[some 0, some 1, some 2, some 3, some 4, some 5, some 6], ?_, ?_, by rfl, by rfl⟩
            · simp [CvL, Cv, getM]
            · exact ⟨(by simp [CvB, CvL, Cv, blkAt, geth, getM]), (by simp [CvB, CvL, Cv, blkAt, geth, getM]), (by simp [CvB, CvL, Cv, blkAt, geth, getM]), (by simp [CvB, CvL, Cv, blkAt, geth, getM]), CvB_dead, CvB_dead, (by simp [CvB, CvL, Cv, blkAt, geth, getM]), trivial⟩
          replace H := cond_t hc H
          refine rg ctNo_ok ?_
          simp only [go_sem, Nat.reduceLeDiff, Nat.reduceLT, Nat.reduceAdd, Nat.reduceMul, Nat.reduceSub, Nat.reduceEqDiff, Nat.reduceBEq, Int.reduceToNat, reduceCtorEq]
          refine seqM ?_
          refine blkM ?_
          refine seqM ?_
          obtain ⟨f31, H⟩ := need_some.1 H
          replace f31 := inb_iff.1 f31
          obtain ⟨f32, H⟩ := need_some.1 H
          replace f32 := inb_iff.1 f32
          refine draw_quiet shT_ok ctNo_ok (by kernel_rfl) (by kernel_rfl) ?_
          simp only [go_sem, Nat.reduceLeDiff, Nat.reduceLT, Nat.reduceAdd, Nat.reduceMul, Nat.reduceSub, Nat.reduceEqDiff, Nat.reduceBEq, Int.reduceToNat, reduceCtorEq, f31, f32]
          repeat ((with_reducible refine And.intro ?_ ?_); focus (first | (with_reducible trivial) | omega | grind))
          refine condM rfl trivial (fun hc => ?_) (fun hc => ?_)
          · replace H := cond_t hc H
            refine sq ctNo_ok ?_
            simp only [go_sem, Nat.reduceLeDiff, Nat.reduceLT, Nat.reduceAdd, Nat.reduceMul, Nat.reduceSub, Nat.reduceEqDiff, Nat.reduceBEq, Int.reduceToNat, reduceCtorEq]
            refine rg ctNo_ok ?_
            simp only [go_sem, Nat.reduceLeDiff, Nat.reduceLT, Nat.reduceAdd, Nat.reduceMul, Nat.reduceSub, Nat.reduceEqDiff, Nat.reduceBEq, Int.reduceToNat, reduceCtorEq]
            have H := hn2_4 _ (Option.some.inj H).symm
            have H := hn2_3 _ (Option.some.inj H).symm
            obtain rfl := Option.some.inj H
            first | rfl | simp only [Bool.and_false, Bool.false_and, Bool.and_true, Bool.true_and]
          replace H := cond_f hc H
          refine rg ctNo_ok ?_
          simp only [go_sem, Nat.reduceLeDiff, Nat.reduceLT, Nat.reduceAdd, Nat.reduceMul, Nat.reduceSub, Nat.reduceEqDiff, Nat.reduceBEq, Int.reduceToNat, reduceCtorEq]
          refine rg ctNo_ok ?_
          simp only [go_sem, Nat.reduceLeDiff, Nat.reduceLT, Nat.reduceAdd, Nat.reduceMul, Nat.reduceSub, Nat.reduceEqDiff, Nat.reduceBEq, Int.reduceToNat, reduceCtorEq]
          refine ⟨_, (Option.some.inj H).symm, ?_⟩
          refine SubF_of ⟨[some 0, some 1, some 2, some 3, some 4, some 5, some 6], ?_, ?_, by rfl, by rfl⟩
          · simp [CvL, Cv, getM]
          · exact ⟨(by simp [CvB, CvL, Cv, blkAt, geth, getM]), (by simp [CvB, CvL, Cv, blkAt, geth, getM]), (by simp [CvB, CvL, Cv, blkAt, geth, getM]), (by simp [CvB, CvL, Cv, blkAt, geth, getM]), CvB_dead, CvB_dead, (by simp [CvB, CvL, Cv, blkAt, geth, getM]), trivial⟩
        · try dsimp only at H ⊢
          try simp only [m_normal, k_normal, b_normal, kL_normal, r_normal]
          refine seqM ?_
          obtain ⟨f33, H⟩ := need_some.1 H
          replace f33 := inb_iff.1 f33
          obtain ⟨f34, H⟩ := need_some.1 H
          replace f34 := g_iff.1 f34
          replace f34 := fun g => inb_iff.1 (f34 g)
          refine draw_quiet shT_ok ctNo_ok (by kernel_rfl) (by kernel_rfl) ?_
          simp only [go_sem, Nat.reduceLeDiff, Nat.reduceLT, Nat.reduceAdd, Nat.reduceMul, Nat.reduceSub, Nat.reduceEqDiff, Nat.reduceBEq, Int.reduceToNat, reduceCtorEq, f33]
          repeat ((with_reducible refine And.intro ?_ ?_); focus (first | (with_reducible trivial) | omega | exact f34 | (intro g; have q := f34 (by first | exact g | (rw [g]; rfl) | simpa using g); first | exact q | exact ⟨q.1, q.2.1⟩ | exact q.2.2 | omega | exact ⟨g, q⟩ | exact ⟨trivial, q⟩ | exact ⟨g, q.1, q.2.1⟩ | exact ⟨g, q.2.2⟩) | grind))
          refine condM rfl trivial (fun hc => ?_) (fun hc => ?_)
          · replace H := cond_t hc H
            refine sq ctNo_ok ?_
            simp only [go_sem, Nat.reduceLeDiff, Nat.reduceLT, Nat.reduceAdd, Nat.reduceMul, Nat.reduceSub, Nat.reduceEqDiff, Nat.reduceBEq, Int.reduceToNat, reduceCtorEq]
            refine rg ctNo_ok ?_
            simp only [go_sem, Nat.reduceLeDiff, Nat.reduceLT, Nat.reduceAdd, Nat.reduceMul, Nat.reduceSub, Nat.reduceEqDiff, Nat.reduceBEq, Int.reduceToNat, reduceCtorEq]
            have H := hn2_3 _ (Option.some.inj H).symm
            obtain rfl := Option.some.inj H
            first | rfl | simp only [Bool.and_false, Bool.false_and, Bool.and_true, Bool.true_and]
          replace H := cond_f hc H
          refine rg ctNo_ok ?_
          simp only [go_sem, Nat.reduceLeDiff, Nat.reduceLT, Nat.reduceAdd, Nat.reduceMul, Nat.reduceSub, Nat.reduceEqDiff, Nat.reduceBEq, Int.reduceToNat, reduceCtorEq]
          refine rg ctNo_ok ?_
          simp only [go_sem, Nat.reduceLeDiff, Nat.reduceLT, Nat.reduceAdd, Nat.reduceMul, Nat.reduceSub, Nat.reduceEqDiff, Nat.reduceBEq, Int.reduceToNat, reduceCtorEq]
          refine ⟨_, (Option.some.inj H).symm, ?_⟩
          refine SubF_of ⟨[some 0, some 1, some 2, some 3, some 4, some 5], ?_, ?_, by rfl, by rfl⟩
          · simp [CvL, Cv, getM]
          · exact ⟨(by simp [CvB, CvL, Cv, blkAt, geth, getM]), (by simp [CvB, CvL, Cv, blkAt, geth, getM]), (by simp [CvB, CvL, Cv, blkAt, geth, getM]), (by simp [CvB, CvL, Cv, blkAt, geth, getM]), CvB_dead, CvB_dead, trivial⟩
      · try dsimp only at H ⊢
        try simp only [m_normal, k_normal, b_normal, kL_normal, r_normal]
        refine seqM ?_
        obtain ⟨r37, e38, H⟩ := Option.bind_eq_some_iff.1 H
        refine rg ct4t2_ok ?_
        simp only [go_sem, Nat.reduceLeDiff, Nat.reduceLT, Nat.reduceAdd, Nat.reduceMul, Nat.reduceSub, Nat.reduceEqDiff, Nat.reduceBEq, Int.reduceToNat, reduceCtorEq, ct4t2_17, body17, e38]
        repeat ((with_reducible refine And.intro ?_ ?_); focus (first | (with_reducible trivial) | omega | (and_intros <;> first | (with_reducible trivial) | omega | assumption | exact nfc | first | exact rfl | exact trivial | exact fitI | exact Or.inr rfl | exact Or.inl rfl | exact fun x hx => absurd hx (by omega) | (intro x hx; (repeat (first | (and_intros <;> (first | exact rfl | exact trivial | exact fitI | exact Or.inr rfl | exact Or.inl rfl | exact fun x hx => absurd hx (by omega))) | (exfalso; omega) | (rcases x with _ | x))); done)) | grind))
        refine seqM ?_
        obtain ⟨f39, H⟩ := need_some.1 H
        replace f39 := g_iff.1 f39
        refine rg ct4t5_ok ?_
        simp only [go_sem, Nat.reduceLeDiff, Nat.reduceLT, Nat.reduceAdd, Nat.reduceMul, Nat.reduceSub, Nat.reduceEqDiff, Nat.reduceBEq, Int.reduceToNat, reduceCtorEq, ct4t5_20, body20]
        repeat ((with_reducible refine And.intro ?_ ?_); focus (first | (with_reducible trivial) | omega | exact f39 | (intro g; have q := f39 (by first | exact g | (rw [g]; rfl) | simpa using g); first | exact q | exact ⟨q.1, q.2.1⟩ | exact q.2.2 | omega | exact ⟨g, q⟩ | exact ⟨trivial, q⟩ | exact ⟨g, q.1, q.2.1⟩ | exact ⟨g, q.2.2⟩) | (intro g; (try have q0 := f39 (by first | exact g | (rw [g]; rfl) | simpa using g)); and_intros <;> first | (with_reducible trivial) | assumption | exact nfc | (intro g2; rw [g, g2]; rfl) | (intro g2; assumption) | (simp only [g, Bool.true_and, Bool.and_true, Bool.not_false, Bool.not_true]; assumption) | grind) | (and_intros <;> first | (with_reducible trivial) | omega | assumption | exact nfc | first | exact rfl | exact trivial | exact fitI | exact Or.inr rfl | exact Or.inl rfl | exact fun x hx => absurd hx (by omega) | (intro x hx; (repeat (first | (and_intros <;> (first | exact rfl | exact trivial | exact fitI | exact Or.inr rfl | exact Or.inl rfl | exact fun x hx => absurd hx (by omega))) | (exfalso; omega) | (rcases x with _ | x))); done)) | grind))
        refine rg ctNo_ok ?_
        simp only [go_sem, Nat.reduceLeDiff, Nat.reduceLT, Nat.reduceAdd, Nat.reduceMul, Nat.reduceSub, Nat.reduceEqDiff, Nat.reduceBEq, Int.reduceToNat, reduceCtorEq]
        obtain rfl := Option.some.inj H
        first | rfl | simp only [Bool.and_false, Bool.false_and, Bool.and_true, Bool.true_and]
    replace H := cond_t hc H
    refine rg ctNo_ok ?_
    simp only [go_sem, Nat.reduceLeDiff, Nat.reduceLT, Nat.reduceAdd, Nat.reduceMul, Nat.reduceSub, Nat.reduceEqDiff, Nat.reduceBEq, Int.reduceToNat, reduceCtorEq]
    repeat ((with_reducible refine And.intro ?_ ?_); focus (first | (with_reducible trivial) | omega | (and_intros <;> first | (with_reducible trivial) | omega | assumption | exact nfc | first | exact rfl | exact trivial | exact fitI | exact Or.inr rfl | exact Or.inl rfl | exact fun x hx => absurd hx (by omega) | (intro x hx; (repeat (first | (and_intros <;> (first | exact rfl | exact trivial | exact fitI | exact Or.inr rfl | exact Or.inl rfl | exact fun x hx => absurd hx (by omega))) | (exfalso; omega) | (rcases x with _ | x))); done)) | grind))
    refine seqM ?_
    refine seqM ?_
    obtain ⟨r10, e11, H⟩ := Option.bind_eq_some_iff.1 H
    refine rg ct4t4_ok ?_
    simp only [go_sem, Nat.reduceLeDiff, Nat.reduceLT, Nat.reduceAdd, Nat.reduceMul, Nat.reduceSub, Nat.reduceEqDiff, Nat.reduceBEq, Int.reduceToNat, reduceCtorEq, ct4t4_19, body19, e11]
    repeat ((with_reducible refine And.intro ?_ ?_); focus (first | (with_reducible trivial) | omega | (intro g; and_intros <;> first | (with_reducible trivial) | assumption | exact nfc | (intro g2; rw [g, g2]; rfl) | (intro g2; assumption) | (simp only [g, Bool.true_and, Bool.and_true, Bool.not_false, Bool.not_true]; assumption) | grind) | (and_intros <;> first | (with_reducible trivial) | omega | assumption | exact nfc | first | exact rfl | exact trivial | exact fitI | exact Or.inr rfl | exact Or.inl rfl | exact fun x hx => absurd hx (by omega) | (intro x hx; (repeat (first | (and_intros <;> (first | exact rfl | exact trivial | exact fitI | exact Or.inr rfl | exact Or.inl rfl | exact fun x hx => absurd hx (by omega))) | (exfalso; omega) | (rcases x with _ | x))); done)) | grind))
    refine condM rfl trivial (fun hc => ?_) (fun hc => ?_)
    · replace H := cond_t hc H
      refine sq ctNo_ok ?_
      simp only [go_sem, Nat.reduceLeDiff, Nat.reduceLT, Nat.reduceAdd, Nat.reduceMul, Nat.reduceSub, Nat.reduceEqDiff, Nat.reduceBEq, Int.reduceToNat, reduceCtorEq]
      refine rg ctNo_ok ?_
      simp only [go_sem, Nat.reduceLeDiff, Nat.reduceLT, Nat.reduceAdd, Nat.reduceMul, Nat.reduceSub, Nat.reduceEqDiff, Nat.reduceBEq, Int.reduceToNat, reduceCtorEq]
      obtain rfl := Option.some.inj H
      first | rfl | simp only [Bool.and_false, Bool.false_and, Bool.and_true, Bool.true_and]
    replace H := cond_f hc H
    refine rg ctNo_ok ?_
    simp only [go_sem, Nat.reduceLeDiff, Nat.reduceLT, Nat.reduceAdd, Nat.reduceMul, Nat.reduceSub, Nat.reduceEqDiff, Nat.reduceBEq, Int.reduceToNat, reduceCtorEq]
    refine sq ctNo_ok ?_
    simp only [go_sem, Nat.reduceLeDiff, Nat.reduceLT, Nat.reduceAdd, Nat.reduceMul, Nat.reduceSub, Nat.reduceEqDiff, Nat.reduceBEq, Int.reduceToNat, reduceCtorEq]
    refine seqM ?_
    refine sq ctNo_ok ?_
    simp only [go_sem, Nat.reduceLeDiff, Nat.reduceLT, Nat.reduceAdd, Nat.reduceMul, Nat.reduceSub, Nat.reduceEqDiff, Nat.reduceBEq, Int.reduceToNat, reduceCtorEq]
    refine blkM ?_
    refine loop_den (fun s : Int × Int => (.top :: .top :: .top :: .int .i64 p3 :: .int .i64 p4 :: .int .i64 p5 :: .ptr 0 0 0 0 :: .ptr 1 0 0 0 :: .ptr 2 0 0 0 :: .top :: .top :: .top :: .top :: .bool r1 :: .ptr 3 0 0 0 :: .top :: .top :: .bool r6.2 :: .top :: .top :: .top :: .int .i64 s.1 :: .int .i64 s.2 :: .top :: .top :: .top :: .top :: .top :: .top :: .top :: .top :: .top :: .top :: .top :: .top :: .top :: .top :: .top :: .top :: .top :: .top :: .top :: .top :: .top :: .top :: .top :: .top :: .top :: .top :: .top :: .top :: .top :: .top :: .top :: .top :: .top :: .top :: .top :: .top :: .top :: .top :: .top :: .top :: .top :: .top :: .top :: .top :: .top :: .top :: .top :: .top :: .top :: .top :: .top :: .top :: .top :: .top :: .top :: .top :: .top :: .top :: .top :: .top :: .top :: .top :: .top :: .top :: .top :: .top :: .top :: .top :: .top :: .top :: .top :: .top :: .top :: .top :: .top :: .top :: .top :: .top :: .top :: .top :: .top :: .top :: .top :: .top :: .top :: .top :: .top :: .top :: .top :: .top :: .top :: .top :: .top :: .top :: .top :: .top :: .top :: .top :: .top :: .top :: .top :: .top :: .top :: .top :: .top :: .top :: .top :: .top :: .top :: .top :: .top :: .top :: .top :: .top :: .top :: .top :: .top :: .top :: .top :: .top :: .top :: .top :: .top :: .top :: .top :: .top :: .top :: .top :: .top :: .top :: .top :: .top :: .top :: .top :: .top :: .top :: .top :: .top :: .top :: .top :: .top :: .top :: .top :: .top :: .top :: .top :: .top :: .top :: .top :: .top :: .top :: .top :: .top :: .top :: .top :: .top :: .top :: .top :: .top :: .top :: .top :: .top :: .top :: .top :: .top :: .top :: .top :: .top :: .top :: .top :: .top :: .top :: .top :: .top :: .top :: .top :: .top :: .top :: .top :: .top :: .top :: .top :: .top :: .top :: .top :: .top :: .top :: .top :: .top :: .top :: .top :: .top :: .top :: .top :: .top :: .top :: .top :: .top :: .top :: .top :: .top :: .top :: .top :: .top :: .top :: .top :: .top :: .top :: [])) (fun s => [.lit 41 [.ro 13 p0.List.length false (enR c_TCandidate p0.List)], .lit 43 [.int .u8 p1.x0, .int .u8 p1.x1, .int .u8 p1.x2, .int .u8 p1.x3, .int .u8 p1.x4, .int .u8 p1.x5], .lit 47 [.int .u64 p2.Time, .int .u16 p2.Interval, .int .u16 p2.Caps, .ro 4 p2.Elems.length false (enR c_TElement p2.Elems)], .lit 41 [.ro 13 r4.1.List.length false (enR c_TCandidate r4.1.List)], .dead, .dead]) (fun e : Int => (.top :: .top :: .top :: .int .i64 p3 :: .int .i64 p4 :: .int .i64 p5 :: .top :: .ptr 1 0 0 0 :: .ptr 2 0 0 0 :: .top :: .top :: .top :: .top :: .bool r1 :: .ptr 3 0 0 0 :: .top :: .top :: .bool r6.2 :: .top :: .top :: .top :: .int .i64 e :: .top :: .top :: .top :: .top :: .top :: .top :: .top :: .top :: .top :: .top :: .top :: .top :: .top :: .top :: .top :: .top :: .top :: .top :: .top :: .top :: .top :: .top :: .top :: .top :: .top :: .top :: .top :: .top :: .top :: .top :: .top :: .top :: .top :: .top :: .top :: .top :: .top :: .top :: .top :: .top :: .top :: .top :: .top :: .top :: .top :: .top :: .top :: .top :: .top :: .top :: .top :: .top :: .top :: .top :: .top :: .top :: .top :: .top :: .top :: .top :: .top :: .top :: .top :: .top :: .top :: .top :: .top :: .top :: .top :: .top :: .top :: .top :: .top :: .top :: .top :: .top :: .top :: .top :: .top :: .top :: .top :: .top :: .top :: .top :: .top :: .top :: .top :: .top :: .top :: .top :: .top :: .top :: .top :: .top :: .top :: .top :: .top :: .top :: .top :: .top :: .top :: .top :: .top :: .top :: .top :: .top :: .top :: .top :: .top :: .top :: .top :: .top :: .top :: .top :: .top :: .top :: .top :: .top :: .top :: .top :: .top :: .top :: .top :: .top :: .top :: .top :: .top :: .top :: .top :: .top :: .top :: .top :: .top :: .top :: .top :: .top :: .top :: .top :: .top :: .top :: .top :: .top :: .top :: .top :: .top :: .top :: .top :: .top :: .top :: .top :: .top :: .top :: .top :: .top :: .top :: .top :: .top :: .top :: .top :: .top :: .top :: .top :: .top :: .top :: .top :: .top :: .top :: .top :: .top :: .top :: .top :: .top :: .top :: .top :: .top :: .top :: .top :: .top :: .top :: .top :: .top :: .top :: .top :: .top :: .top :: .top :: .top :: .top :: .top :: .top :: .top :: .top :: .top :: .top :: .top :: .top :: .top :: .top :: .top :: .top :: .top :: .top :: .top :: .top :: .top :: .top :: .top :: .top :: .top :: [])) (fun e => [.dead, .lit 43 [.int .u8 p1.x0, .int .u8 p1.x1, .int .u8 p1.x2, .int .u8 p1.x3, .int .u8 p1.x4, .int .u8 p1.x5], .lit 47 [.int .u64 p2.Time, .int .u16 p2.Interval, .int .u16 p2.Caps, .ro 4 p2.Elems.length false (enR c_TElement p2.Elems)], .lit 41 [.ro 13 r4.1.List.length false (enR c_TCandidate r4.1.List)], .dead, .dead]) H ?_ (fun s o H hn1_1 hn2_1 => ?_) (fun w1_3 H => ?_)
    · refine SubF_of ⟨[some 0, some 1, some 2, some 3, some 4, some 5], ?_, ?_, by rfl, by rfl⟩
      · simp [CvL, Cv, getM]
      · exact ⟨(by simp [CvB, CvL, Cv, blkAt, geth, getM]), (by simp [CvB, CvL, Cv, blkAt, geth, getM]), (by simp [CvB, CvL, Cv, blkAt, geth, getM]), (by simp [CvB, CvL, Cv, blkAt, geth, getM]), CvB_dead, CvB_dead, trivial⟩
    · obtain ⟨v1_1, v1_2⟩ := s
      unfold F4_L1 at H
      try dsimp only at H ⊢
      refine seqM ?_
      refine sq ctNo_ok ?_
      simp only [go_sem, Nat.reduceLeDiff, Nat.reduceLT, Nat.reduceAdd, Nat.reduceMul, Nat.reduceSub, Nat.reduceEqDiff, Nat.reduceBEq, Int.reduceToNat, reduceCtorEq]
      repeat ((with_reducible refine And.intro ?_ ?_); focus (first | (with_reducible trivial) | omega | (and_intros <;> first | (with_reducible trivial) | omega | assumption | exact nfc | first | exact rfl | exact trivial | exact fitI | exact Or.inr rfl | exact Or.inl rfl | exact fun x hx => absurd hx (by omega) | (intro x hx; (repeat (first | (and_intros <;> (first | exact rfl | exact trivial | exact fitI | exact Or.inr rfl | exact Or.inl rfl | exact fun x hx => absurd hx (by omega))) | (exfalso; omega) | (rcases x with _ | x))); done)) | grind))
      refine condM' rfl trivial (fun hc => ?_) (fun hc => ?_)
      · replace H := cond_f hc H
        refine rg ctNo_ok ?_
        simp only [go_sem, Nat.reduceLeDiff, Nat.reduceLT, Nat.reduceAdd, Nat.reduceMul, Nat.reduceSub, Nat.reduceEqDiff, Nat.reduceBEq, Int.reduceToNat, reduceCtorEq]
        refine ⟨_, (Option.some.inj H).symm, ?_⟩
        refine SubF_of ⟨[some 0, some 1, some 2, some 3, some 4, some 5], ?_, ?_, by rfl, by rfl⟩
        · simp [CvL, Cv, getM]
        · exact ⟨CvB_dead, (by simp [CvB, CvL, Cv, blkAt, geth, getM]), (by simp [CvB, CvL, Cv, blkAt, geth, getM]), (by simp [CvB, CvL, Cv, blkAt, geth, getM]), CvB_dead, CvB_dead, trivial⟩
      replace H := cond_t hc H
      refine rg ctNo_ok ?_
      simp only [go_sem, Nat.reduceLeDiff, Nat.reduceLT, Nat.reduceAdd, Nat.reduceMul, Nat.reduceSub, Nat.reduceEqDiff, Nat.reduceBEq, Int.reduceToNat, reduceCtorEq]
      refine seqM ?_
      refine blkM ?_
      refine seqM ?_
      obtain ⟨f12, H⟩ := need_some.1 H
      replace f12 := inb_iff.1 f12
      obtain ⟨r13, e14, H⟩ := Option.bind_eq_some_iff.1 H
      refine draw_rule shT_ok ct4t3_ok 1 (by kernel_rfl) (by kernel_rfl) ?_
      intro an han
      simp only [d_nil, d_cons, nxtD, xrD, xoD, roEq, minL, List.append_nil, refsOp, refs, refsL, mask, maskF, place, placeF, okLog, pairOk, hit, inL, slotsF, ren, renL, rnN, nrH, nrB, nrL, nr, dead0, deadS, List.replicate_zero, List.replicate_succ, Nat.sub_self, Nat.add_zero, Nat.zero_add, Nat.reduceSub, Nat.not_lt_zero, Nat.zero_le, Nat.lt_add_one, go_sem, Nat.reduceLeDiff, Nat.reduceLT, Nat.reduceAdd, Nat.reduceMul, Nat.reduceSub, Nat.reduceEqDiff, Nat.reduceBEq, Int.reduceToNat, reduceCtorEq, ct4t3_18, body18, f12, e14]
      repeat ((with_reducible refine And.intro ?_ ?_); focus (and_intros <;> first | (with_reducible trivial) | (show anB _ _ _ = true; subst han; kernel_rfl) | (show (anB _ _ _ && _) = true; subst han; kernel_rfl) | omega | assumption | exact nrc | exact nfc | first | exact rfl | exact trivial | exact fitI | exact Or.inr rfl | exact Or.inl rfl | exact fun x hx => absurd hx (by omega) | (intro x hx; (repeat (first | (and_intros <;> (first | exact rfl | exact trivial | exact fitI | exact Or.inr rfl | exact Or.inl rfl | exact fun x hx => absurd hx (by omega))) | (exfalso; omega) | (rcases x with _ | x))); done)))
      refine seqM ?_
      refine seqM ?_
      obtain ⟨f15, H⟩ := need_some.1 H
      replace f15 := inb_iff.1 f15
      refine draw_quiet shT_ok ctNo_ok (by kernel_rfl) (by kernel_rfl) ?_
      simp only [go_sem, Nat.reduceLeDiff, Nat.reduceLT, Nat.reduceAdd, Nat.reduceMul, Nat.reduceSub, Nat.reduceEqDiff, Nat.reduceBEq, Int.reduceToNat, reduceCtorEq, f15]
      repeat ((with_reducible refine And.intro ?_ ?_); focus (first | (with_reducible trivial) | omega | grind))
      refine condM' rfl trivial (fun hc => ?_) (fun hc => ?_)
      · replace H := cond_f hc H
        refine rg ctNo_ok ?_
        simp only [go_sem, Nat.reduceLeDiff, Nat.reduceLT, Nat.reduceAdd, Nat.reduceMul, Nat.reduceSub, Nat.reduceEqDiff, Nat.reduceBEq, Int.reduceToNat, reduceCtorEq]
        refine seqM ?_
        obtain ⟨f20, H⟩ := need_some.1 H
        replace f20 := inb_iff.1 f20
        obtain ⟨f21, H⟩ := need_some.1 H
        replace f21 := g_iff.1 f21
        replace f21 := fun g => inb_iff.1 (f21 g)
        refine draw_quiet shT_ok ctNo_ok (by kernel_rfl) (by kernel_rfl) ?_
        simp only [go_sem, Nat.reduceLeDiff, Nat.reduceLT, Nat.reduceAdd, Nat.reduceMul, Nat.reduceSub, Nat.reduceEqDiff, Nat.reduceBEq, Int.reduceToNat, reduceCtorEq, f20]
        repeat ((with_reducible refine And.intro ?_ ?_); focus (first | (with_reducible trivial) | omega | exact f21 | (intro g; have q := f21 (by first | exact g | (rw [g]; rfl) | simpa using g); first | exact q | exact ⟨q.1, q.2.1⟩ | exact q.2.2 | omega | exact ⟨g, q⟩ | exact ⟨trivial, q⟩ | exact ⟨g, q.1, q.2.1⟩ | exact ⟨g, q.2.2⟩) | grind))
        refine condM rfl trivial (fun hc => ?_) (fun hc => ?_)
        · replace H := cond_t hc H
          refine sq ctNo_ok ?_
          simp only [go_sem, Nat.reduceLeDiff, Nat.reduceLT, Nat.reduceAdd, Nat.reduceMul, Nat.reduceSub, Nat.reduceEqDiff, Nat.reduceBEq, Int.reduceToNat, reduceCtorEq]
          refine rg ctNo_ok ?_
          simp only [go_sem, Nat.reduceLeDiff, Nat.reduceLT, Nat.reduceAdd, Nat.reduceMul, Nat.reduceSub, Nat.reduceEqDiff, Nat.reduceBEq, Int.reduceToNat, reduceCtorEq]
          have H := hn2_1 _ (Option.some.inj H).symm
          obtain rfl := Option.some.inj H
          first | rfl | simp only [Bool.and_false, Bool.false_and, Bool.and_true, Bool.true_and]
        replace H := cond_f hc H
        refine rg ctNo_ok ?_
        simp only [go_sem, Nat.reduceLeDiff, Nat.reduceLT, Nat.reduceAdd, Nat.reduceMul, Nat.reduceSub, Nat.reduceEqDiff, Nat.reduceBEq, Int.reduceToNat, reduceCtorEq]
        refine rg ctNo_ok ?_
        simp only [go_sem, Nat.reduceLeDiff, Nat.reduceLT, Nat.reduceAdd, Nat.reduceMul, Nat.reduceSub, Nat.reduceEqDiff, Nat.reduceBEq, Int.reduceToNat, reduceCtorEq]
        refine ⟨_, (Option.some.inj H).symm, ?_⟩
        refine SubF_of ⟨[some 0, some 1, some 2, some 3, some 4, some 5], ?_, ?_, by rfl, by rfl⟩
        · simp [CvL, Cv, getM]
        · exact ⟨(by simp [CvB, CvL, Cv, blkAt, geth, getM]), (by simp [CvB, CvL, Cv, blkAt, geth, getM]), (by simp [CvB, CvL, Cv, blkAt, geth, getM]), (by simp [CvB, CvL, Cv, blkAt, geth, getM]), CvB_dead, CvB_dead, trivial⟩
      replace H := cond_t hc H
      refine sq ctNo_ok ?_
      simp only [go_sem, Nat.reduceLeDiff, Nat.reduceLT, Nat.reduceAdd, Nat.reduceMul, Nat.reduceSub, Nat.reduceEqDiff, Nat.reduceBEq, Int.reduceToNat, reduceCtorEq]
      refine sq ctNo_ok ?_
      simp only [go_sem, Nat.reduceLeDiff, Nat.reduceLT, Nat.reduceAdd, Nat.reduceMul, Nat.reduceSub, Nat.reduceEqDiff, Nat.reduceBEq, Int.reduceToNat, reduceCtorEq]
      refine blkM ?_
      refine loop_den (fun s : Int => (.top :: .top :: .top :: .int .i64 p3 :: .int .i64 p4 :: .int .i64 p5 :: .ptr 0 0 0 0 :: .ptr 1 0 0 0 :: .ptr 2 0 0 0 :: .top :: .top :: .top :: .top :: .bool r1 :: .ptr 3 0 0 0 :: .top :: .top :: .bool r6.2 :: .top :: .top :: .top :: .int .i64 (wr .i64 (v1_1 + 1)) :: .int .i64 v1_2 :: .ptr 6 0 0 0 :: .bool r13.2 :: .int .i64 s :: .top :: .top :: .top :: .top :: .top :: .top :: .top :: .top :: .top :: .top :: .top :: .top :: .top :: .top :: .top :: .top :: .top :: .top :: .top :: .top :: .top :: .top :: .top :: .top :: .top :: .top :: .top :: .top :: .top :: .top :: .top :: .top :: .top :: .top :: .top :: .top :: .top :: .top :: .top :: .top :: .top :: .top :: .top :: .top :: .top :: .top :: .top :: .top :: .top :: .top :: .top :: .top :: .top :: .top :: .top :: .top :: .top :: .top :: .top :: .top :: .top :: .top :: .top :: .top :: .top :: .top :: .top :: .top :: .top :: .top :: .top :: .top :: .top :: .top :: .top :: .top :: .top :: .top :: .top :: .top :: .top :: .top :: .top :: .top :: .top :: .top :: .top :: .top :: .top :: .top :: .top :: .top :: .top :: .top :: .top :: .top :: .top :: .top :: .top :: .top :: .top :: .top :: .top :: .top :: .top :: .top :: .top :: .top :: .top :: .top :: .top :: .top :: .top :: .top :: .top :: .top :: .top :: .top :: .top :: .top :: .top :: .top :: .top :: .top :: .top :: .top :: .top :: .top :: .top :: .top :: .top :: .top :: .top :: .top :: .top :: .top :: .top :: .top :: .top :: .top :: .top :: .top :: .top :: .top :: .top :: .top :: .top :: .top :: .top :: .top :: .top :: .top :: .top :: .top :: .top :: .top :: .top :: .top :: .top :: .top :: .top :: .top :: .top :: .top :: .top :: .top :: .top :: .top :: .top :: .top :: .top :: .top :: .top :: .top :: .top :: .top :: .top :: .top :: .top :: .top :: .top :: .top :: .top :: .top :: .top :: .top :: .top :: .top :: .top :: .top :: .top :: .top :: .top :: .top :: .top :: .top :: .top :: .top :: .top :: .top :: .top :: .top :: .top :: .top :: .top :: [])) (fun s => [.lit 41 [.ro 13 p0.List.length false (enR c_TCandidate p0.List)], .lit 43 [.int .u8 p1.x0, .int .u8 p1.x1, .int .u8 p1.x2, .int .u8 p1.x3, .int .u8 p1.x4, .int .u8 p1.x5], .lit 47 [.int .u64 p2.Time, .int .u16 p2.Interval, .int .u16 p2.Caps, .ro 4 p2.Elems.length false (enR c_TElement p2.Elems)], .lit 41 [.ro 13 r4.1.List.length false (enR c_TCandidate r4.1.List)], .dead, .dead, .lit 52 [.int .u8 r13.1.Addr.x0, .int .u8 r13.1.Addr.x1, .int .u8 r13.1.Addr.x2, .int .u8 r13.1.Addr.x3, .int .u8 r13.1.Addr.x4, .int .u8 r13.1.Addr.x5, .int .i64 r13.1.Channel, .int .i64 r13.1.Level, .int .i64 r13.1.Load, .int .i64 r13.1.Heard, .int .i64 r13.1.Interval, .str r13.1.Name, .bool r13.1.Secure]]) (fun e : Unit => (.top :: .top :: .top :: .int .i64 p3 :: .int .i64 p4 :: .int .i64 p5 :: .ptr 0 0 0 0 :: .ptr 1 0 0 0 :: .ptr 2 0 0 0 :: .top :: .top :: .top :: .top :: .bool r1 :: .ptr 3 0 0 0 :: .top :: .top :: .bool r6.2 :: .top :: .top :: .top :: .int .i64 (wr .i64 (v1_1 + 1)) :: .int .i64 v1_2 :: .ptr 6 0 0 0 :: .bool r13.2 :: .top :: .top :: .top :: .top :: .top :: .top :: .top :: .top :: .top :: .top :: .top :: .top :: .top :: .top :: .top :: .top :: .top :: .top :: .top :: .top :: .top :: .top :: .top :: .top :: .top :: .top :: .top :: .top :: .top :: .top :: .top :: .top :: .top :: .top :: .top :: .top :: .top :: .top :: .top :: .top :: .top :: .top :: .top :: .top :: .top :: .top :: .top :: .top :: .top :: .top :: .top :: .top :: .top :: .top :: .top :: .top :: .top :: .top :: .top :: .top :: .top :: .top :: .top :: .top :: .top :: .top :: .top :: .top :: .top :: .top :: .top :: .top :: .top :: .top :: .top :: .top :: .top :: .top :: .top :: .top :: .top :: .top :: .top :: .top :: .top :: .top :: .top :: .top :: .top :: .top :: .top :: .top :: .top :: .top :: .top :: .top :: .top :: .top :: .top :: .top :: .top :: .top :: .top :: .top :: .top :: .top :: .top :: .top :: .top :: .top :: .top :: .top :: .top :: .top :: .top :: .top :: .top :: .top :: .top :: .top :: .top :: .top :: .top :: .top :: .top :: .top :: .top :: .top :: .top :: .top :: .top :: .top :: .top :: .top :: .top :: .top :: .top :: .top :: .top :: .top :: .top :: .top :: .top :: .top :: .top :: .top :: .top :: .top :: .top :: .top :: .top :: .top :: .top :: .top :: .top :: .top :: .top :: .top :: .top :: .top :: .top :: .top :: .top :: .top :: .top :: .top :: .top :: .top :: .top :: .top :: .top :: .top :: .top :: .top :: .top :: .top :: .top :: .top :: .top :: .top :: .top :: .top :: .top :: .top :: .top :: .top :: .top :: .top :: .top :: .top :: .top :: .top :: .top :: .top :: .top :: .top :: .top :: .top :: .top :: .top :: .top :: .top :: .top :: .top :: .top :: .top :: [])) (fun e => [.lit 41 [.ro 13 p0.List.length false (enR c_TCandidate p0.List)], .lit 43 [.int .u8 p1.x0, .int .u8 p1.x1, .int .u8 p1.x2, .int .u8 p1.x3, .int .u8 p1.x4, .int .u8 p1.x5], .lit 47 [.int .u64 p2.Time, .int .u16 p2.Interval, .int .u16 p2.Caps, .ro 4 p2.Elems.length false (enR c_TElement p2.Elems)], .lit 41 [.ro 13 r4.1.List.length false (enR c_TCandidate r4.1.List)], .dead, .dead, .lit 52 [.int .u8 r13.1.Addr.x0, .int .u8 r13.1.Addr.x1, .int .u8 r13.1.Addr.x2, .int .u8 r13.1.Addr.x3, .int .u8 r13.1.Addr.x4, .int .u8 r13.1.Addr.x5, .int .i64 r13.1.Channel, .int .i64 r13.1.Level, .int .i64 r13.1.Load, .int .i64 r13.1.Heard, .int .i64 r13.1.Interval, .str r13.1.Name, .bool r13.1.Secure]]) H ?_ (fun v2_1 o H hn1_2 hn2_2 => ?_) (fun e H => ?_)
      · refine SubF_of ⟨[some 0, some 1, some 2, some 3, some 4, some 5, some 6], ?_, ?_, by rfl, by rfl⟩
        · simp [CvL, Cv, getM]
        · exact ⟨(by simp [CvB, CvL, Cv, blkAt, geth, getM]), (by simp [CvB, CvL, Cv, blkAt, geth, getM]), (by simp [CvB, CvL, Cv, blkAt, geth, getM]), (by simp [CvB, CvL, Cv, blkAt, geth, getM]), CvB_dead, CvB_dead, (by simp [CvB, CvL, Cv, blkAt, geth, getM]), trivial⟩
      · unfold F4_L2 at H
        try dsimp only at H ⊢
        refine seqM ?_
        refine sq ctNo_ok ?_
        simp only [go_sem, Nat.reduceLeDiff, Nat.reduceLT, Nat.reduceAdd, Nat.reduceMul, Nat.reduceSub, Nat.reduceEqDiff, Nat.reduceBEq, Int.reduceToNat, reduceCtorEq]
        repeat ((with_reducible refine And.intro ?_ ?_); focus (first | (with_reducible trivial) | omega | (and_intros <;> first | (with_reducible trivial) | omega | assumption | exact nfc | first | exact rfl | exact trivial | exact fitI | exact Or.inr rfl | exact Or.inl rfl | exact fun x hx => absurd hx (by omega) | (intro x hx; (repeat (first | (and_intros <;> (first | exact rfl | exact trivial | exact fitI | exact Or.inr rfl | exact Or.inl rfl | exact fun x hx => absurd hx (by omega))) | (exfalso; omega) | (rcases x with _ | x))); done)) | grind))
        refine condM' rfl trivial (fun hc => ?_) (fun hc => ?_)
        · replace H := cond_f hc H
          refine rg ctNo_ok ?_
          simp only [go_sem, Nat.reduceLeDiff, Nat.reduceLT, Nat.reduceAdd, Nat.reduceMul, Nat.reduceSub, Nat.reduceEqDiff, Nat.reduceBEq, Int.reduceToNat, reduceCtorEq]
          refine ⟨_, (Option.some.inj H).symm, ?_⟩
          refine SubF_of ⟨[some 0, some 1, some 2, some 3, some 4, some 5, some 6], ?_, ?_, by rfl, by rfl⟩
          · simp [CvL, Cv, getM]
          · exact ⟨(by simp [CvB, CvL, Cv, blkAt, geth, getM]), (by simp [CvB, CvL, Cv, blkAt, geth, getM]), (by simp [CvB, CvL, Cv, blkAt, geth, getM]), (by simp [CvB, CvL, Cv, blkAt, geth, getM]), CvB_dead, CvB_dead, (by simp [CvB, CvL, Cv, blkAt, geth, getM]), trivial⟩
        replace H := cond_t hc H
        refine rg ctNo_ok ?_
        simp only [go_sem, Nat.reduceLeDiff, Nat.reduceLT, Nat.reduceAdd, Nat.reduceMul, Nat.reduceSub, Nat.reduceEqDiff, Nat.reduceBEq, Int.reduceToNat, reduceCtorEq]
        refine seqM ?_
        refine blkM ?_
        refine seqM ?_
        obtain ⟨f16, H⟩ := need_some.1 H
        replace f16 := inb_iff.1 f16
        obtain ⟨f17, H⟩ := need_some.1 H
        replace f17 := inb_iff.1 f17
        refine draw_quiet shT_ok ctNo_ok (by kernel_rfl) (by kernel_rfl) ?_
        simp only [go_sem, Nat.reduceLeDiff, Nat.reduceLT, Nat.reduceAdd, Nat.reduceMul, Nat.reduceSub, Nat.reduceEqDiff, Nat.reduceBEq, Int.reduceToNat, reduceCtorEq, f16, f17]
        repeat ((with_reducible refine And.intro ?_ ?_); focus (first | (with_reducible trivial) | omega | grind))
        refine condM rfl trivial (fun hc => ?_) (fun hc => ?_)
        · replace H := cond_t hc H
          refine sq ctNo_ok ?_
          simp only [go_sem, Nat.reduceLeDiff, Nat.reduceLT, Nat.reduceAdd, Nat.reduceMul, Nat.reduceSub, Nat.reduceEqDiff, Nat.reduceBEq, Int.reduceToNat, reduceCtorEq]
          refine rg ctNo_ok ?_
          simp only [go_sem, Nat.reduceLeDiff, Nat.reduceLT, Nat.reduceAdd, Nat.reduceMul, Nat.reduceSub, Nat.reduceEqDiff, Nat.reduceBEq, Int.reduceToNat, reduceCtorEq]
          have H := hn2_2 _ (Option.some.inj H).symm
          have H := hn2_1 _ (Option.some.inj H).symm
          obtain rfl := Option.some.inj H
          first | rfl | simp only [Bool.and_false, Bool.false_and, Bool.and_true, Bool.true_and]
        replace H := cond_f hc H
        refine rg ctNo_ok ?_
        simp only [go_sem, Nat.reduceLeDiff, Nat.reduceLT, Nat.reduceAdd, Nat.reduceMul, Nat.reduceSub, Nat.reduceEqDiff, Nat.reduceBEq, Int.reduceToNat, reduceCtorEq]
        refine rg ctNo_ok ?_
        simp only [go_sem, Nat.reduceLeDiff, Nat.reduceLT, Nat.reduceAdd, Nat.reduceMul, Nat.reduceSub, Nat.reduceEqDiff, Nat.reduceBEq, Int.reduceToNat, reduceCtorEq]
        refine ⟨_, (Option.some.inj H).symm, ?_⟩
        refine SubF_of ⟨[some 0, some 1, some 2, some 3, some 4, some 5, some 6], ?_, ?_, by rfl, by rfl⟩
        · simp [CvL, Cv, getM]
        · exact ⟨(by simp [CvB, CvL, Cv, blkAt, geth, getM]), (by simp [CvB, CvL, Cv, blkAt, geth, getM]), (by simp [CvB, CvL, Cv, blkAt, geth, getM]), (by simp [CvB, CvL, Cv, blkAt, geth, getM]), CvB_dead, CvB_dead, (by simp [CvB, CvL, Cv, blkAt, geth, getM]), trivial⟩
      · try dsimp only at H ⊢
        try simp only [m_normal, k_normal, b_normal, kL_normal, r_normal]
        refine seqM ?_
        obtain ⟨f18, H⟩ := need_some.1 H
        replace f18 := inb_iff.1 f18
        obtain ⟨f19, H⟩ := need_some.1 H
        replace f19 := g_iff.1 f19
        replace f19 := fun g => inb_iff.1 (f19 g)
        refine draw_quiet shT_ok ctNo_ok (by kernel_rfl) (by kernel_rfl) ?_
        simp only [go_sem, Nat.reduceLeDiff, Nat.reduceLT, Nat.reduceAdd, Nat.reduceMul, Nat.reduceSub, Nat.reduceEqDiff, Nat.reduceBEq, Int.reduceToNat, reduceCtorEq, f18]
        repeat ((with_reducible refine And.intro ?_ ?_); focus (first | (with_reducible trivial) | omega | exact f19 | (intro g; have q := f19 (by first | exact g | (rw [g]; rfl) | simpa using g); first | exact q | exact ⟨q.1, q.2.1⟩ | exact q.2.2 | omega | exact ⟨g, q⟩ | exact ⟨trivial, q⟩ | exact ⟨g, q.1, q.2.1⟩ | exact ⟨g, q.2.2⟩) | grind))
        refine condM rfl trivial (fun hc => ?_) (fun hc => ?_)
        · replace H := cond_t hc H
          refine sq ctNo_ok ?_
          simp only [go_sem, Nat.reduceLeDiff, Nat.reduceLT, Nat.reduceAdd, Nat.reduceMul, Nat.reduceSub, Nat.reduceEqDiff, Nat.reduceBEq, Int.reduceToNat, reduceCtorEq]
          refine rg ctNo_ok ?_
          simp only [go_sem, Nat.reduceLeDiff, Nat.reduceLT, Nat.reduceAdd, Nat.reduceMul, Nat.reduceSub, Nat.reduceEqDiff, Nat.reduceBEq, Int.reduceToNat, reduceCtorEq]
          have H := hn2_1 _ (Option.some.inj H).symm
          obtain rfl := Option.some.inj H
          first | rfl | simp only [Bool.and_false, Bool.false_and, Bool.and_true, Bool.true_and]
        replace H := cond_f hc H
        refine rg ctNo_ok ?_
        simp only [go_sem, Nat.reduceLeDiff, Nat.reduceLT, Nat.reduceAdd, Nat.reduceMul, Nat.reduceSub, Nat.reduceEqDiff, Nat.reduceBEq, Int.reduceToNat, reduceCtorEq]
        refine rg ctNo_ok ?_
        simp only [go_sem, Nat.reduceLeDiff, Nat.reduceLT, Nat.reduceAdd, Nat.reduceMul, Nat.reduceSub, Nat.reduceEqDiff, Nat.reduceBEq, Int.reduceToNat, reduceCtorEq]
        refine ⟨_, (Option.some.inj H).symm, ?_⟩
        refine SubF_of ⟨[some 0, some 1, some 2, some 3, some 4, some 5], ?_, ?_, by rfl, by rfl⟩
        · simp [CvL, Cv, getM]
        · exact ⟨(by simp [CvB, CvL, Cv, blkAt, geth, getM]), (by simp [CvB, CvL, Cv, blkAt, geth, getM]), (by simp [CvB, CvL, Cv, blkAt, geth, getM]), (by simp [CvB, CvL, Cv, blkAt, geth, getM]), CvB_dead, CvB_dead, trivial⟩
    · try dsimp only at H ⊢
      try simp only [m_normal, k_normal, b_normal, kL_normal, r_normal]
      refine seqM ?_
      obtain ⟨r22, e23, H⟩ := Option.bind_eq_some_iff.1 H
      refine rg ct4t2_ok ?_
      simp only [go_sem, Nat.reduceLeDiff, Nat.reduceLT, Nat.reduceAdd, Nat.reduceMul, Nat.reduceSub, Nat.reduceEqDiff, Nat.reduceBEq, Int.reduceToNat, reduceCtorEq, ct4t2_17, body17, e23]
      repeat ((with_reducible refine And.intro ?_ ?_); focus (first | (with_reducible trivial) | omega | (and_intros <;> first | (with_reducible trivial) | omega | assumption | exact nfc | first | exact rfl | exact trivial | exact fitI | exact Or.inr rfl | exact Or.inl rfl | exact fun x hx => absurd hx (by omega) | (intro x hx; (repeat (first | (and_intros <;> (first | exact rfl | exact trivial | exact fitI | exact Or.inr rfl | exact Or.inl rfl | exact fun x hx => absurd hx (by omega))) | (exfalso; omega) | (rcases x with _ | x))); done)) | grind))
      refine seqM ?_
      obtain ⟨f24, H⟩ := need_some.1 H
      replace f24 := g_iff.1 f24
      refine rg ct4t5_ok ?_
      simp only [go_sem, Nat.reduceLeDiff, Nat.reduceLT, Nat.reduceAdd, Nat.reduceMul, Nat.reduceSub, Nat.reduceEqDiff, Nat.reduceBEq, Int.reduceToNat, reduceCtorEq, ct4t5_20, body20]
      repeat ((with_reducible refine And.intro ?_ ?_); focus (first | (with_reducible trivial) | omega | exact f24 | (intro g; have q := f24 (by first | exact g | (rw [g]; rfl) | simpa using g); first | exact q | exact ⟨q.1, q.2.1⟩ | exact q.2.2 | omega | exact ⟨g, q⟩ | exact ⟨trivial, q⟩ | exact ⟨g, q.1, q.2.1⟩ | exact ⟨g, q.2.2⟩) | (intro g; (try have q0 := f24 (by first | exact g | (rw [g]; rfl) | simpa using g)); and_intros <;> first | (with_reducible trivial) | assumption | exact nfc | (intro g2; rw [g, g2]; rfl) | (intro g2; assumption) | (simp only [g, Bool.true_and, Bool.and_true, Bool.not_false, Bool.not_true]; assumption) | grind) | (and_intros <;> first | (with_reducible trivial) | omega | assumption | exact nfc | first | exact rfl | exact trivial | exact fitI | exact Or.inr rfl | exact Or.inl rfl | exact fun x hx => absurd hx (by omega) | (intro x hx; (repeat (first | (and_intros <;> (first | exact rfl | exact trivial | exact fitI | exact Or.inr rfl | exact Or.inl rfl | exact fun x hx => absurd hx (by omega))) | (exfalso; omega) | (rcases x with _ | x))); done)) | grind))
      refine rg ctNo_ok ?_
      simp only [go_sem, Nat.reduceLeDiff, Nat.reduceLT, Nat.reduceAdd, Nat.reduceMul, Nat.reduceSub, Nat.reduceEqDiff, Nat.reduceBEq, Int.reduceToNat, reduceCtorEq]
      obtain rfl := Option.some.inj H
      first | rfl | simp only [Bool.and_false, Bool.false_and, Bool.and_true, Bool.true_and]
  · cases hb
end Go.Proofs.Ytpnhehcncljhpaa
