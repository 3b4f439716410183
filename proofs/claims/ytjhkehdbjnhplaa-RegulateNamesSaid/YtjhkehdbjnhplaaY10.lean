/-
  What RegulateNames reaches.
-/
import Derived.Test.YtjhkehdbjnhplaaY10p2
namespace Go.Proofs.Ytjhkehdbjnhplaa
open Go.Am
set_option linter.unusedVariables false
set_option linter.unusedSimpArgs false
attribute [local go_sem] w_skip w_label w_goto w_scope k_goto b_goto l_goto s_normal s_exit s_ret s_goto w_region w_draw w_seq w_cond w_block w_exit w_ret w_loop k_normal k_exit k_ret b_normal b_exit b_ret l_normal l_exit l_ret m_normal m_exit m_ret m_goto kL_normal kL_exit kL_ret kS_normal kS_exit kS_ret kS_goto r_normal r_ret o_nil o_cons q_nil q_cons nxt gval gvd gvl gvw dstOf evO ogOp ogC og ogL ogP ogO rho rhoO strip optOk getL setL setT absC absV absL pO hO evLoad ldB geth seth evStore stRes stB evBox evAlloc evFieldAddr evField evIndexAddr evBin2 binI binB binNR binU nilR_isEmpty nilR_t nilR_0 nilR_s evInt evStr evUn evConv cvO evPick mrg evExtract evNil evCall mapR evBuiltin evLen2 vcells vcOk atom tabF cnd retK resFin resL resA resC resCons evBuild evBuildP placeS placeA fillA fillOk putL getP nxtQ pureC_eq pureR genC_eq genR roV roL roOb roObL roW roWL roWOb roWObL nref nrefL binA binN eqSh eqRes evIndex evIndex2 evIndexS evSlice evSlice2 evSliceS evBound evConv2 cvS evAppend appRes srcOf evMake evBuildSlice repL evFn evMin evMax freshC freshR sub_enR0 evClear evClearR evCopy evCopyR lenS cutS Bool.or_false Bool.false_or Bool.or_true Bool.true_or Bool.and_false Bool.false_and Option.map_some Option.map_none Option.getD_some Option.getD_none Option.bind_some Option.bind_none Option.or_some Option.or_none Option.none_or Option.isSome_none Option.isNone_none Option.isNone_some List.nil_append List.cons_append List.append_nil cond_true cond_false List.length_cons List.length_nil beq_self_eq_true Bool.and_true Bool.true_and Bool.not_true Bool.not_false true_and and_true and_self true_implies implies_true ne_eq not_false_eq_true Bool.false_eq_true Bool.true_eq_false false_implies Nat.lt_irrefl Nat.le_refl Nat.succ_ne_self imp_self Bool.cond_false_right Bool.cond_true_left decide_true decide_false Bool.not_eq_true' Bool.not_eq_false' Bool.not_not Nat.zero_mul Nat.zero_add Nat.add_zero Nat.mul_one Nat.one_mul Bool.cond_self tsz3 tby3 tagg3 tslice3 tarr3 tzero3 tzn3 tplaces3 tint3 tstr3 tnoint3 tbool3 tany3 tintk3 tbytes3 tsz4 tby4 tagg4 tslice4 tarr4 tzero4 tzn4 tplaces4 tint4 tstr4 tnoint4 tbool4 tany4 tintk4 tbytes4 tsz5 tby5 tagg5 tslice5 tarr5 tzero5 tzn5 tplaces5 tint5 tstr5 tnoint5 tbool5 tany5 tintk5 tbytes5 tsz9 tby9 tagg9 tslice9 tarr9 tzero9 tzn9 tplaces9 tint9 tstr9 tnoint9 tbool9 tany9 tintk9 tbytes9 tsz23 tby23 tagg23 tslice23 tarr23 tzero23 tzn23 tplaces23 tint23 tstr23 tnoint23 tbool23 tany23 tintk23 tbytes23 tfld23_0 tfld23_1 tfld23_2 tfld23_3 tsz24 tby24 tagg24 tslice24 tarr24 tzero24 tzn24 tplaces24 tint24 tstr24 tnoint24 tbool24 tany24 tintk24 tbytes24 tsz25 tby25 tagg25 tslice25 tarr25 tzero25 tzn25 tplaces25 tint25 tstr25 tnoint25 tbool25 tany25 tintk25 tbytes25 tsz35 tby35 tagg35 tslice35 tarr35 tzero35 tzn35 tplaces35 tint35 tstr35 tnoint35 tbool35 tany35 tintk35 tbytes35 tsz36 tby36 tagg36 tslice36 tarr36 tzero36 tzn36 tplaces36 tint36 tstr36 tnoint36 tbool36 tany36 tintk36 tbytes36 tsz37 tby37 tagg37 tslice37 tarr37 tzero37 tzn37 tplaces37 tint37 tstr37 tnoint37 tbool37 tany37 tintk37 tbytes37 tsz39 tby39 tagg39 tslice39 tarr39 tzero39 tzn39 tplaces39 tint39 tstr39 tnoint39 tbool39 tany39 tintk39 tbytes39 tfld39_0 tfld39_1 tfld39_2 tfld39_3 tfld39_4 tfld39_5 tfld39_6 tfld39_7 tfld39_8 tfld39_9 tsz45 tby45 tagg45 tslice45 tarr45 tzero45 tzn45 tplaces45 tint45 tstr45 tnoint45 tbool45 tany45 tintk45 tbytes45 tfld45_0 tfld45_1 tfld45_2 tsz54 tby54 tagg54 tslice54 tarr54 tzero54 tzn54 tplaces54 tint54 tstr54 tnoint54 tbool54 tany54 tintk54 tbytes54 tsz79 tby79 tagg79 tslice79 tarr79 tzero79 tzn79 tplaces79 tint79 tstr79 tnoint79 tbool79 tany79 tintk79 tbytes79 tfld79_0 tfld79_1 tsz81 tby81 tagg81 tslice81 tarr81 tzero81 tzn81 tplaces81 tint81 tstr81 tnoint81 tbool81 tany81 tintk81 tbytes81 tsz83 tby83 tagg83 tslice83 tarr83 tzero83 tzn83 tplaces83 tint83 tstr83 tnoint83 tbool83 tany83 tintk83 tbytes83 tsz84 tby84 tagg84 tslice84 tarr84 tzero84 tzn84 tplaces84 tint84 tstr84 tnoint84 tbool84 tany84 tintk84 tbytes84 tmap885 tsz87 tby87 tagg87 tslice87 tarr87 tzn87 tplaces87 tint87 tstr87 tnoint87 tbool87 tany87 tintk87 tbytes87 tfld87_0 tfld87_1 tfld87_2 tfld87_3 tsz88 tby88 tagg88 tslice88 tarr88 tzero88 tzn88 tplaces88 tint88 tstr88 tnoint88 tbool88 tany88 tintk88 tbytes88 tsz93 tby93 tagg93 tslice93 tarr93 tzero93 tzn93 tplaces93 tint93 tstr93 tnoint93 tbool93 tany93 tintk93 tbytes93 tsz96 tby96 tagg96 tslice96 tarr96 tzero96 tzn96 tplaces96 tint96 tstr96 tnoint96 tbool96 tany96 tintk96 tbytes96 tfld96_0 tfld96_1 tsz101 tby101 tagg101 tslice101 tarr101 tzero101 tzn101 tplaces101 tint101 tstr101 tnoint101 tbool101 tany101 tintk101 tbytes101 tsz109 tby109 tagg109 tslice109 tarr109 tzero109 tzn109 tplaces109 tint109 tstr109 tnoint109 tbool109 tany109 tintk109 tbytes109 tsz113 tby113 tagg113 tslice113 tarr113 tzero113 tzn113 tplaces113 tint113 tstr113 tnoint113 tbool113 tany113 tintk113 tbytes113 tsz119 tby119 tagg119 tslice119 tarr119 tzero119 tzn119 tplaces119 tint119 tstr119 tnoint119 tbool119 tany119 tintk119 tbytes119 tsz124 tby124 tagg124 tslice124 tarr124 tzero124 tzn124 tplaces124 tint124 tstr124 tnoint124 tbool124 tany124 tintk124 tbytes124 tsz126 tby126 tagg126 tslice126 tarr126 tzero126 tzn126 tplaces126 tint126 tstr126 tnoint126 tbool126 tany126 tintk126 tbytes126 tsz129 tby129 tagg129 tslice129 tarr129 tzero129 tzn129 tplaces129 tint129 tstr129 tnoint129 tbool129 tany129 tintk129 tbytes129 tsz130 tby130 tagg130 tslice130 tarr130 tzero130 tzn130 tplaces130 tint130 tstr130 tnoint130 tbool130 tany130 tintk130 tbytes130 tsz132 tby132 tagg132 tslice132 tarr132 tzero132 tzn132 tplaces132 tint132 tstr132 tnoint132 tbool132 tany132 tintk132 tbytes132 tfld132_0 tfld132_1 tmap8133 tsz139 tby139 tagg139 tslice139 tarr139 tzero139 tzn139 tplaces139 tint139 tstr139 tnoint139 tbool139 tany139 tintk139 tbytes139 tfld139_0 tfld139_1 tfld139_2 tfld139_3 tsz141 tby141 tagg141 tslice141 tarr141 tzero141 tzn141 tplaces141 tint141 tstr141 tnoint141 tbool141 tany141 tintk141 tbytes141 tsz149 tby149 tagg149 tslice149 tarr149 tzero149 tzn149 tplaces149 tint149 tstr149 tnoint149 tbool149 tany149 tintk149 tbytes149 tsz152 tby152 tagg152 tslice152 tarr152 tzero152 tzn152 tplaces152 tint152 tstr152 tnoint152 tbool152 tany152 tintk152 tbytes152 tsz155 tby155 tagg155 tslice155 tarr155 tzero155 tzn155 tplaces155 tint155 tstr155 tnoint155 tbool155 tany155 tintk155 tbytes155 tsz156 tby156 tagg156 tslice156 tarr156 tzero156 tzn156 tplaces156 tint156 tstr156 tnoint156 tbool156 tany156 tintk156 tbytes156 e_u8_0 fit_u8 de_u8 g_u8 k_u8 e_i64_0 fit_i64 de_i64 g_i64 k_i64 e_b_0 fit_b de_b g_b k_b e_s_0 fit_s de_s g_s k_s e_TRegulateWord_0 e_TRegulateWord_1 e_TRegulateWord_2 e_TRegulateWord_3 fit_TRegulateWord de_TRegulateWord g_TRegulateWord k_TRegulateWord eta_TRegulateWord e_lu8_0 fit_lu8 de_lu8 g_lu8 k_lu8 e_TRegulateChannel_0 e_TRegulateChannel_1 e_TRegulateChannel_2 fit_TRegulateChannel de_TRegulateChannel g_TRegulateChannel k_TRegulateChannel eta_TRegulateChannel e_lTRegulateChannel_0 fit_lTRegulateChannel de_lTRegulateChannel g_lTRegulateChannel k_lTRegulateChannel e_TRegulateBlock_0 e_TRegulateBlock_1 fit_TRegulateBlock de_TRegulateBlock g_TRegulateBlock k_TRegulateBlock eta_TRegulateBlock e_lTRegulateBlock_0 fit_lTRegulateBlock de_lTRegulateBlock g_lTRegulateBlock k_lTRegulateBlock e_li64_0 fit_li64 de_li64 g_li64 k_li64 e_TRegulate_0 e_TRegulate_1 e_TRegulate_2 e_TRegulate_3 e_TRegulate_4 e_TRegulate_5 e_TRegulate_6 e_TRegulate_7 e_TRegulate_8 e_TRegulate_9 fit_TRegulate de_TRegulate g_TRegulate k_TRegulate eta_TRegulate e_lTRegulateWord_0 fit_lTRegulateWord de_lTRegulateWord g_lTRegulateWord k_lTRegulateWord e_TEvent_0 e_TEvent_1 e_TEvent_2 e_TEvent_3 fit_TEvent de_TEvent g_TEvent k_TEvent eta_TEvent e_lTEvent_0 fit_lTEvent de_lTEvent g_lTEvent k_lTEvent e_lTRegulate_0 fit_lTRegulate de_lTRegulate g_lTRegulate k_lTRegulate e_u64_0 fit_u64 de_u64 g_u64 k_u64 e_TReader_0 e_TReader_1 fit_TReader de_TReader g_TReader k_TReader eta_TReader deR_0 deR_1 deR_2 deR_3 deR_4 deR_5 deR_6 deR_7 deR_8 deR_9 deR_10 deR_11 deR_12 litC_x0 litC_x1 litC_x2 litC_x3 litC_x4 litC_x5 litC_x6 litC_x7 litC_x8 litC_x9 litC_x10 litC_x11 strE_u8 Fit_0 Option.isSome_some gt_some gd_one evCopyL evLookup mapC_nil tabR sub_enR List.drop_zero xrD xoD roEq minL rK rM rG aL aK iK bK sK lK iA bA sA lA or_true true_or Int.toNat_natCast shT_23 shT_45 shT_79 shT_139 Int.toNat_zero Int.cast_ofNat_Int aLs roD roDOb deadL edC edR nodupB rnm rnmL rnmB rnmH rnm_bif rnmB_bif putH dropH rhoN ptB slN litL celL pK isLit oS isRow inL fzV fzL fzOb fzObL fzH fzHF fzB fzObB fzObH rowOb
/-! hotspot/regulate.handlers$3 -/
noncomputable def F106_0 (p0_2 : Bool) (p0_4 : Bool) (p1 : TRegulateWord) (p2 : Int) : Option (Bool) :=
  some (p0_2 && (!p0_4))
noncomputable def body106_0 : List AV -> AR
  | [v0, v1, v2] => .pure (rM 10 v0 /\ bK (rG v0 2) /\ bK (rG v0 4) /\ aK 4 k_TRegulateWord v1 /\ iK .i64 v2 /\ (F106_0 (bA (rG v0 2)) (bA (rG v0 4)) (g_TRegulateWord (aL v1)) (iA v2)).isSome = true) (.bool (gt (F106_0 (bA (rG v0 2)) (bA (rG v0 4)) (g_TRegulateWord (aL v1)) (iA v2))))
  | _ => .fail
set_option maxHeartbeats 4000000 in
set_option maxRecDepth 20000 in
theorem ok106_0 : FnOk Try.prog 106 (pureC body106_0) := by
  refine pure_fnM body106_0 (rs := [.tmp 6]) Try.func106 (by kernel_rfl) rfl rfl ?_
  intro l ob v hb hob
  unfold body106_0 at hb
  split at hb
  · rename_i v0 v1 v2
    injection hb with q1 q2; subst q1 q2
    obtain ⟨hk0_0, hk0_1, hk0_2, hk1_0, hk2_0, hob⟩ := hob
    obtain ⟨r, H⟩ := Option.isSome_iff_exists.1 hob
    rw [H, gt_some]
    have hw0 := (rM_wk (cells := [AV.top, AV.top, AV.bool (bA (rG v0 2)), AV.top, AV.bool (bA (rG v0 4)), AV.top, AV.top, AV.top, AV.top, AV.top]) hk0_0 (fun y hy => match y, hy with | 0, _ => top_wk | 1, _ => top_wk | 2, _ => bK_wk hk0_1 | 3, _ => top_wk | 4, _ => bK_wk hk0_2 | 5, _ => top_wk | 6, _ => top_wk | 7, _ => top_wk | 8, _ => top_wk | 9, _ => top_wk | y + 10, hy => absurd hy (by omega)))
    have hw1 := wA_TRegulateWord hk1_0
    have hw2 := iK_wk hk2_0
    generalize bA (rG v0 2) = p0_2 at H hw0
    generalize bA (rG v0 4) = p0_4 at H hw0
    generalize g_TRegulateWord (aL v1) = p1 at H hw1
    generalize iA v2 = p2 at H hw2
    refine ⟨[.rptr 10 1 0 0 (fun _ y => getL [.top, .top, .bool p0_2, .top, .bool p0_4, .top, .top, .top, .top, .top] y), .agg [.int .u8 p1.Kind, .int .i64 p1.Channel, .int .i64 p1.To, .int .i64 p1.At], .int .i64 p2], _, (fun E vs F => FR_wk1 hw0.1 F (fun vs F => FR_wk1 hw1.1 F (fun vs F => FR_wk1 hw2.1 F (fun vs F => F)))), rfl, rfl, ?_⟩
    rw [Try.ntmps106]
    simp only [List.length_cons, List.length_nil, Nat.reduceAdd, Nat.reduceSub, List.replicate_succ, List.replicate_zero, List.cons_append, List.nil_append]
    unfold F106_0 at H
    try dsimp only at H
    refine sq ctNo_ok ?_
    simp only [go_sem, Nat.reduceLeDiff, Nat.reduceLT, Nat.reduceAdd, Nat.reduceMul, Nat.reduceSub, Nat.reduceEqDiff, Nat.reduceBEq, Int.reduceToNat, reduceCtorEq]
    refine sq ctNo_ok ?_
    simp only [go_sem, Nat.reduceLeDiff, Nat.reduceLT, Nat.reduceAdd, Nat.reduceMul, Nat.reduceSub, Nat.reduceEqDiff, Nat.reduceBEq, Int.reduceToNat, reduceCtorEq]
    repeat ((with_reducible refine And.intro ?_ ?_); focus (first | (with_reducible trivial) | omega | grind))
    refine rg ctNo_ok ?_
    simp only [go_sem, Nat.reduceLeDiff, Nat.reduceLT, Nat.reduceAdd, Nat.reduceMul, Nat.reduceSub, Nat.reduceEqDiff, Nat.reduceBEq, Int.reduceToNat, reduceCtorEq]
    obtain rfl := Option.some.inj H
    first | rfl | simp only [Bool.and_false, Bool.false_and, Bool.and_true, Bool.true_and]
  · cases hb
/-! hotspot/regulate.handlers$4 -/
noncomputable def ct107_0t0 : Ct := tab [(54, edC body54_0)]
theorem ct107_0t0_ok : CtOk Try.prog ct107_0t0 := tab_cons ok54_0 <| tab_nil
theorem ct107_0t0_54 (l : List AV) (h : List ABlk) : ct107_0t0 54 l h = edC body54_0 l h := rfl
noncomputable def F107_0 (p0 : TRegulate) (p1 : TRegulateWord) (p2 : Int) (p3 : Int) : Option ((List TRegulateWord) × Int × TRegulate) :=
  (F54_0 (TRegulate.mk p0.Table p0.Channel p0.Lead p0.Heard p0.Stopped p0.Moving p0.To p0.At p0.Blocked p0.Clear) p2 p3).bind fun r1 => some (r1.1, 0, (TRegulate.mk r1.2.Table r1.2.Channel r1.2.Lead r1.2.Heard r1.2.Stopped r1.2.Moving r1.2.To r1.2.At r1.2.Blocked r1.2.Clear))
noncomputable def body107_0 : List AV -> List ABlk -> ED
  | [v0, v1, v2, v3], h => .ed [ptB v0, slN (getL (celL h v0) 0), slN (getL (celL h v0) 8), slN (getL (celL h v0) 9)] (pK 39 10 h v0 /\ k_TRegulate (getL (roWL h (celL h v0))) /\ oS 45 3 h (getL (celL h v0) 0) /\ nref (getL (celL h v0) 1) /\ nref (getL (celL h v0) 2) /\ nref (getL (celL h v0) 3) /\ nref (getL (celL h v0) 4) /\ nref (getL (celL h v0) 5) /\ nref (getL (celL h v0) 6) /\ nref (getL (celL h v0) 7) /\ oS 79 2 h (getL (celL h v0) 8) /\ oS 3 1 h (getL (celL h v0) 9) /\ aK 4 k_TRegulateWord (roD (deadL h [ptB v0, slN (getL (celL h v0) 0), slN (getL (celL h v0) 8), slN (getL (celL h v0) 9)]) v1) /\ roDOb (deadL h [ptB v0, slN (getL (celL h v0) 0), slN (getL (celL h v0) 8), slN (getL (celL h v0) 9)]) v1 /\ iK .i64 (roD (deadL h [ptB v0, slN (getL (celL h v0) 0), slN (getL (celL h v0) 8), slN (getL (celL h v0) 9)]) v2) /\ roDOb (deadL h [ptB v0, slN (getL (celL h v0) 0), slN (getL (celL h v0) 8), slN (getL (celL h v0) 9)]) v2 /\ iK .i64 (roD (deadL h [ptB v0, slN (getL (celL h v0) 0), slN (getL (celL h v0) 8), slN (getL (celL h v0) 9)]) v3) /\ roDOb (deadL h [ptB v0, slN (getL (celL h v0) 0), slN (getL (celL h v0) 8), slN (getL (celL h v0) 9)]) v3 /\ (F107_0 (g_TRegulate (getL (roWL h (celL h v0)))) (g_TRegulateWord (aL (roD (deadL h [ptB v0, slN (getL (celL h v0) 0), slN (getL (celL h v0) 8), slN (getL (celL h v0) 9)]) v1))) (iA (roD (deadL h [ptB v0, slN (getL (celL h v0) 0), slN (getL (celL h v0) 8), slN (getL (celL h v0) 9)]) v2)) (iA (roD (deadL h [ptB v0, slN (getL (celL h v0) 0), slN (getL (celL h v0) 8), slN (getL (celL h v0) 9)]) v3))).isSome = true) (.tup [.sl 7 4 0 (((gt (F107_0 (g_TRegulate (getL (roWL h (celL h v0)))) (g_TRegulateWord (aL (roD (deadL h [ptB v0, slN (getL (celL h v0) 0), slN (getL (celL h v0) 8), slN (getL (celL h v0) 9)]) v1))) (iA (roD (deadL h [ptB v0, slN (getL (celL h v0) 0), slN (getL (celL h v0) 8), slN (getL (celL h v0) 9)]) v2)) (iA (roD (deadL h [ptB v0, slN (getL (celL h v0) 0), slN (getL (celL h v0) 8), slN (getL (celL h v0) 9)]) v3)))).1).length) false, .int .i64 ((gt (F107_0 (g_TRegulate (getL (roWL h (celL h v0)))) (g_TRegulateWord (aL (roD (deadL h [ptB v0, slN (getL (celL h v0) 0), slN (getL (celL h v0) 8), slN (getL (celL h v0) 9)]) v1))) (iA (roD (deadL h [ptB v0, slN (getL (celL h v0) 0), slN (getL (celL h v0) 8), slN (getL (celL h v0) 9)]) v2)) (iA (roD (deadL h [ptB v0, slN (getL (celL h v0) 0), slN (getL (celL h v0) 8), slN (getL (celL h v0) 9)]) v3)))).2.1)]) [.lit 39 [.sl 4 3 0 ((((gt (F107_0 (g_TRegulate (getL (roWL h (celL h v0)))) (g_TRegulateWord (aL (roD (deadL h [ptB v0, slN (getL (celL h v0) 0), slN (getL (celL h v0) 8), slN (getL (celL h v0) 9)]) v1))) (iA (roD (deadL h [ptB v0, slN (getL (celL h v0) 0), slN (getL (celL h v0) 8), slN (getL (celL h v0) 9)]) v2)) (iA (roD (deadL h [ptB v0, slN (getL (celL h v0) 0), slN (getL (celL h v0) 8), slN (getL (celL h v0) 9)]) v3)))).2.2).Table).length) false, .int .i64 (((gt (F107_0 (g_TRegulate (getL (roWL h (celL h v0)))) (g_TRegulateWord (aL (roD (deadL h [ptB v0, slN (getL (celL h v0) 0), slN (getL (celL h v0) 8), slN (getL (celL h v0) 9)]) v1))) (iA (roD (deadL h [ptB v0, slN (getL (celL h v0) 0), slN (getL (celL h v0) 8), slN (getL (celL h v0) 9)]) v2)) (iA (roD (deadL h [ptB v0, slN (getL (celL h v0) 0), slN (getL (celL h v0) 8), slN (getL (celL h v0) 9)]) v3)))).2.2).Channel), .bool (((gt (F107_0 (g_TRegulate (getL (roWL h (celL h v0)))) (g_TRegulateWord (aL (roD (deadL h [ptB v0, slN (getL (celL h v0) 0), slN (getL (celL h v0) 8), slN (getL (celL h v0) 9)]) v1))) (iA (roD (deadL h [ptB v0, slN (getL (celL h v0) 0), slN (getL (celL h v0) 8), slN (getL (celL h v0) 9)]) v2)) (iA (roD (deadL h [ptB v0, slN (getL (celL h v0) 0), slN (getL (celL h v0) 8), slN (getL (celL h v0) 9)]) v3)))).2.2).Lead), .int .i64 (((gt (F107_0 (g_TRegulate (getL (roWL h (celL h v0)))) (g_TRegulateWord (aL (roD (deadL h [ptB v0, slN (getL (celL h v0) 0), slN (getL (celL h v0) 8), slN (getL (celL h v0) 9)]) v1))) (iA (roD (deadL h [ptB v0, slN (getL (celL h v0) 0), slN (getL (celL h v0) 8), slN (getL (celL h v0) 9)]) v2)) (iA (roD (deadL h [ptB v0, slN (getL (celL h v0) 0), slN (getL (celL h v0) 8), slN (getL (celL h v0) 9)]) v3)))).2.2).Heard), .bool (((gt (F107_0 (g_TRegulate (getL (roWL h (celL h v0)))) (g_TRegulateWord (aL (roD (deadL h [ptB v0, slN (getL (celL h v0) 0), slN (getL (celL h v0) 8), slN (getL (celL h v0) 9)]) v1))) (iA (roD (deadL h [ptB v0, slN (getL (celL h v0) 0), slN (getL (celL h v0) 8), slN (getL (celL h v0) 9)]) v2)) (iA (roD (deadL h [ptB v0, slN (getL (celL h v0) 0), slN (getL (celL h v0) 8), slN (getL (celL h v0) 9)]) v3)))).2.2).Stopped), .bool (((gt (F107_0 (g_TRegulate (getL (roWL h (celL h v0)))) (g_TRegulateWord (aL (roD (deadL h [ptB v0, slN (getL (celL h v0) 0), slN (getL (celL h v0) 8), slN (getL (celL h v0) 9)]) v1))) (iA (roD (deadL h [ptB v0, slN (getL (celL h v0) 0), slN (getL (celL h v0) 8), slN (getL (celL h v0) 9)]) v2)) (iA (roD (deadL h [ptB v0, slN (getL (celL h v0) 0), slN (getL (celL h v0) 8), slN (getL (celL h v0) 9)]) v3)))).2.2).Moving), .int .i64 (((gt (F107_0 (g_TRegulate (getL (roWL h (celL h v0)))) (g_TRegulateWord (aL (roD (deadL h [ptB v0, slN (getL (celL h v0) 0), slN (getL (celL h v0) 8), slN (getL (celL h v0) 9)]) v1))) (iA (roD (deadL h [ptB v0, slN (getL (celL h v0) 0), slN (getL (celL h v0) 8), slN (getL (celL h v0) 9)]) v2)) (iA (roD (deadL h [ptB v0, slN (getL (celL h v0) 0), slN (getL (celL h v0) 8), slN (getL (celL h v0) 9)]) v3)))).2.2).To), .int .i64 (((gt (F107_0 (g_TRegulate (getL (roWL h (celL h v0)))) (g_TRegulateWord (aL (roD (deadL h [ptB v0, slN (getL (celL h v0) 0), slN (getL (celL h v0) 8), slN (getL (celL h v0) 9)]) v1))) (iA (roD (deadL h [ptB v0, slN (getL (celL h v0) 0), slN (getL (celL h v0) 8), slN (getL (celL h v0) 9)]) v2)) (iA (roD (deadL h [ptB v0, slN (getL (celL h v0) 0), slN (getL (celL h v0) 8), slN (getL (celL h v0) 9)]) v3)))).2.2).At), .sl 5 2 0 ((((gt (F107_0 (g_TRegulate (getL (roWL h (celL h v0)))) (g_TRegulateWord (aL (roD (deadL h [ptB v0, slN (getL (celL h v0) 0), slN (getL (celL h v0) 8), slN (getL (celL h v0) 9)]) v1))) (iA (roD (deadL h [ptB v0, slN (getL (celL h v0) 0), slN (getL (celL h v0) 8), slN (getL (celL h v0) 9)]) v2)) (iA (roD (deadL h [ptB v0, slN (getL (celL h v0) 0), slN (getL (celL h v0) 8), slN (getL (celL h v0) 9)]) v3)))).2.2).Blocked).length) false, .sl 6 1 0 ((((gt (F107_0 (g_TRegulate (getL (roWL h (celL h v0)))) (g_TRegulateWord (aL (roD (deadL h [ptB v0, slN (getL (celL h v0) 0), slN (getL (celL h v0) 8), slN (getL (celL h v0) 9)]) v1))) (iA (roD (deadL h [ptB v0, slN (getL (celL h v0) 0), slN (getL (celL h v0) 8), slN (getL (celL h v0) 9)]) v2)) (iA (roD (deadL h [ptB v0, slN (getL (celL h v0) 0), slN (getL (celL h v0) 8), slN (getL (celL h v0) 9)]) v3)))).2.2).Clear).length) false], .dead, .dead, .dead, .row 45 3 ((((gt (F107_0 (g_TRegulate (getL (roWL h (celL h v0)))) (g_TRegulateWord (aL (roD (deadL h [ptB v0, slN (getL (celL h v0) 0), slN (getL (celL h v0) 8), slN (getL (celL h v0) 9)]) v1))) (iA (roD (deadL h [ptB v0, slN (getL (celL h v0) 0), slN (getL (celL h v0) 8), slN (getL (celL h v0) 9)]) v2)) (iA (roD (deadL h [ptB v0, slN (getL (celL h v0) 0), slN (getL (celL h v0) 8), slN (getL (celL h v0) 9)]) v3)))).2.2).Table).length) (enR c_TRegulateChannel (((gt (F107_0 (g_TRegulate (getL (roWL h (celL h v0)))) (g_TRegulateWord (aL (roD (deadL h [ptB v0, slN (getL (celL h v0) 0), slN (getL (celL h v0) 8), slN (getL (celL h v0) 9)]) v1))) (iA (roD (deadL h [ptB v0, slN (getL (celL h v0) 0), slN (getL (celL h v0) 8), slN (getL (celL h v0) 9)]) v2)) (iA (roD (deadL h [ptB v0, slN (getL (celL h v0) 0), slN (getL (celL h v0) 8), slN (getL (celL h v0) 9)]) v3)))).2.2).Table)), .row 79 2 ((((gt (F107_0 (g_TRegulate (getL (roWL h (celL h v0)))) (g_TRegulateWord (aL (roD (deadL h [ptB v0, slN (getL (celL h v0) 0), slN (getL (celL h v0) 8), slN (getL (celL h v0) 9)]) v1))) (iA (roD (deadL h [ptB v0, slN (getL (celL h v0) 0), slN (getL (celL h v0) 8), slN (getL (celL h v0) 9)]) v2)) (iA (roD (deadL h [ptB v0, slN (getL (celL h v0) 0), slN (getL (celL h v0) 8), slN (getL (celL h v0) 9)]) v3)))).2.2).Blocked).length) (enR c_TRegulateBlock (((gt (F107_0 (g_TRegulate (getL (roWL h (celL h v0)))) (g_TRegulateWord (aL (roD (deadL h [ptB v0, slN (getL (celL h v0) 0), slN (getL (celL h v0) 8), slN (getL (celL h v0) 9)]) v1))) (iA (roD (deadL h [ptB v0, slN (getL (celL h v0) 0), slN (getL (celL h v0) 8), slN (getL (celL h v0) 9)]) v2)) (iA (roD (deadL h [ptB v0, slN (getL (celL h v0) 0), slN (getL (celL h v0) 8), slN (getL (celL h v0) 9)]) v3)))).2.2).Blocked)), .row 3 1 ((((gt (F107_0 (g_TRegulate (getL (roWL h (celL h v0)))) (g_TRegulateWord (aL (roD (deadL h [ptB v0, slN (getL (celL h v0) 0), slN (getL (celL h v0) 8), slN (getL (celL h v0) 9)]) v1))) (iA (roD (deadL h [ptB v0, slN (getL (celL h v0) 0), slN (getL (celL h v0) 8), slN (getL (celL h v0) 9)]) v2)) (iA (roD (deadL h [ptB v0, slN (getL (celL h v0) 0), slN (getL (celL h v0) 8), slN (getL (celL h v0) 9)]) v3)))).2.2).Clear).length) (enR c_i64 (((gt (F107_0 (g_TRegulate (getL (roWL h (celL h v0)))) (g_TRegulateWord (aL (roD (deadL h [ptB v0, slN (getL (celL h v0) 0), slN (getL (celL h v0) 8), slN (getL (celL h v0) 9)]) v1))) (iA (roD (deadL h [ptB v0, slN (getL (celL h v0) 0), slN (getL (celL h v0) 8), slN (getL (celL h v0) 9)]) v2)) (iA (roD (deadL h [ptB v0, slN (getL (celL h v0) 0), slN (getL (celL h v0) 8), slN (getL (celL h v0) 9)]) v3)))).2.2).Clear)), .row 23 4 (((gt (F107_0 (g_TRegulate (getL (roWL h (celL h v0)))) (g_TRegulateWord (aL (roD (deadL h [ptB v0, slN (getL (celL h v0) 0), slN (getL (celL h v0) 8), slN (getL (celL h v0) 9)]) v1))) (iA (roD (deadL h [ptB v0, slN (getL (celL h v0) 0), slN (getL (celL h v0) 8), slN (getL (celL h v0) 9)]) v2)) (iA (roD (deadL h [ptB v0, slN (getL (celL h v0) 0), slN (getL (celL h v0) 8), slN (getL (celL h v0) 9)]) v3)))).1).length) (enR c_TRegulateWord ((gt (F107_0 (g_TRegulate (getL (roWL h (celL h v0)))) (g_TRegulateWord (aL (roD (deadL h [ptB v0, slN (getL (celL h v0) 0), slN (getL (celL h v0) 8), slN (getL (celL h v0) 9)]) v1))) (iA (roD (deadL h [ptB v0, slN (getL (celL h v0) 0), slN (getL (celL h v0) 8), slN (getL (celL h v0) 9)]) v2)) (iA (roD (deadL h [ptB v0, slN (getL (celL h v0) 0), slN (getL (celL h v0) 8), slN (getL (celL h v0) 9)]) v3)))).1))]
  | _, _ => .fail
set_option maxHeartbeats 4000000 in
set_option maxRecDepth 20000 in
theorem ok107_0 : FnOk Try.prog 107 (edC body107_0) := by
  refine edit_fnV body107_0 (rs := [.tmp 8, .tmp 9]) Try.func107 (by kernel_rfl) rfl rfl ?_
  intro l h bs ob q0 g0 hb hob
  unfold body107_0 at hb
  split at hb
  · rename_i v0 v1 v2 v3
    injection hb with q1 q2 q3 q4; subst q1 q2 q3 q4
    obtain ⟨hk0_0, hk0_1, hk0_2, hk0_3, hk0_4, hk0_5, hk0_6, hk0_7, hk0_8, hk0_9, hk0_10, hk0_11, hk1_0, hk1_1, hk2_0, hk2_1, hk3_0, hk3_1, hob⟩ := hob
    obtain ⟨r, H⟩ := Option.isSome_iff_exists.1 hob
    rw [H, gt_some]
    obtain ⟨p0, hp0⟩ : ∃ p0, p0 = g_TRegulate (getL (roWL h (celL h v0))) := ⟨_, rfl⟩
    rw [← hp0] at H
    have hw0 : ∀ y, y < 10 -> WkV (getL (c_TRegulate p0) y) (roW h (getL (celL h v0) y)) /\ nref (getL (c_TRegulate p0) y) := fun y hy => by rw [hp0, ← getL_roWL]; exact w_TRegulate hk0_1 y hy
    have hk0_K := hk0_1
    unfold k_TRegulate at hk0_K
    obtain ⟨kk0_0, kk0_1, kk0_2, kk0_3, kk0_4, kk0_5, kk0_6, kk0_7, kk0_8, kk0_9⟩ := hk0_K
    obtain ⟨ev0_0, eb0_0⟩ := own_row2 (f := c_TRegulateChannel) (g := g_TRegulateChannel) (bs := [ptB v0, slN (getL (celL h v0) 0), slN (getL (celL h v0) 8), slN (getL (celL h v0) 9)]) (i := 1) (fun hr => w_TRegulateChannel hr) hk0_2 (by rw [← getL_roWL]; exact kk0_0) (L := p0.Table) (by rw [hp0, ← getL_roWL]; rfl) rfl
    obtain ⟨ev0_8, eb0_8⟩ := own_row2 (f := c_TRegulateBlock) (g := g_TRegulateBlock) (bs := [ptB v0, slN (getL (celL h v0) 0), slN (getL (celL h v0) 8), slN (getL (celL h v0) 9)]) (i := 2) (fun hr => w_TRegulateBlock hr) hk0_10 (by rw [← getL_roWL]; exact kk0_8) (L := p0.Blocked) (by rw [hp0, ← getL_roWL]; rfl) rfl
    obtain ⟨ev0_9, eb0_9⟩ := own_row2 (f := c_i64) (g := g_i64) (bs := [ptB v0, slN (getL (celL h v0) 0), slN (getL (celL h v0) 8), slN (getL (celL h v0) 9)]) (i := 3) (fun hr => w_i64 hr) hk0_11 (by rw [← getL_roWL]; exact kk0_9) (L := p0.Clear) (by rw [hp0, ← getL_roWL]; rfl) rfl
    have hw1 := wA_TRegulateWord hk1_0
    obtain ⟨p1, hp_p1⟩ : ∃ p1, p1 = g_TRegulateWord (aL (roD (deadL h [ptB v0, slN (getL (celL h v0) 0), slN (getL (celL h v0) 8), slN (getL (celL h v0) 9)]) v1)) := ⟨_, rfl⟩
    rw [← hp_p1] at H hw1
    have hw2 := iK_wk hk2_0
    obtain ⟨p2, hp_p2⟩ : ∃ p2, p2 = iA (roD (deadL h [ptB v0, slN (getL (celL h v0) 0), slN (getL (celL h v0) 8), slN (getL (celL h v0) 9)]) v2) := ⟨_, rfl⟩
    rw [← hp_p2] at H hw2
    have hw3 := iK_wk hk3_0
    obtain ⟨p3, hp_p3⟩ : ∃ p3, p3 = iA (roD (deadL h [ptB v0, slN (getL (celL h v0) 0), slN (getL (celL h v0) 8), slN (getL (celL h v0) 9)]) v3) := ⟨_, rfl⟩
    rw [← hp_p3] at H hw3
    refine ⟨[.ptr 0 0 0 0, .agg [.int .u8 p1.Kind, .int .i64 p1.Channel, .int .i64 p1.To, .int .i64 p1.At], .int .i64 p2, .int .i64 p3], [.lit 39 [.sl 1 3 0 p0.Table.length false, .int .i64 p0.Channel, .bool p0.Lead, .int .i64 p0.Heard, .bool p0.Stopped, .bool p0.Moving, .int .i64 p0.To, .int .i64 p0.At, .sl 2 2 0 p0.Blocked.length false, .sl 3 1 0 p0.Clear.length false], .row 45 3 p0.Table.length (enR c_TRegulateChannel p0.Table), .row 79 2 p0.Blocked.length (enR c_TRegulateBlock p0.Blocked), .row 3 1 p0.Clear.length (enR c_i64 p0.Clear)], rfl, ⟨(EW_own (EV_pK hk0_0 rfl) (by simp only [noro, noroL, and_self])), ⟨(EW_view hk1_1 hw1), ⟨(EW_view hk2_1 hw2), ⟨(EW_view hk3_1 hw3), trivial⟩⟩⟩⟩, ⟨(EB_pK hk0_0 rfl rfl (fun y hy => by
          match y, hy with
          | 0, _ => exact ev0_0
          | 1, _ => exact EV_t hk0_3 (hw0 1 (by decide))
          | 2, _ => exact EV_t hk0_4 (hw0 2 (by decide))
          | 3, _ => exact EV_t hk0_5 (hw0 3 (by decide))
          | 4, _ => exact EV_t hk0_6 (hw0 4 (by decide))
          | 5, _ => exact EV_t hk0_7 (hw0 5 (by decide))
          | 6, _ => exact EV_t hk0_8 (hw0 6 (by decide))
          | 7, _ => exact EV_t hk0_9 (hw0 7 (by decide))
          | 8, _ => exact ev0_8
          | 9, _ => exact ev0_9
          | y + 10, hy => omega)), ⟨eb0_0, ⟨eb0_8, ⟨eb0_9, trivial⟩⟩⟩⟩, ⟨(by simp only [noroB, noroL, noro, and_self]), ⟨noroB_en, ⟨noroB_en, ⟨noroB_en, trivial⟩⟩⟩⟩, ⟨trivial, ⟨trivial, ⟨trivial, ⟨trivial, ⟨(nfB_en nr_TRegulateChannel), ⟨(nfB_en nr_TRegulateBlock), ⟨(nfB_en nr_i64), ⟨(nfB_en nr_TRegulateWord), trivial⟩⟩⟩⟩⟩⟩⟩⟩, ⟨(by simp only [noroB, noroL, noro, and_self]), ⟨trivial, ⟨trivial, ⟨trivial, ⟨noroB_en, ⟨noroB_en, ⟨noroB_en, ⟨noroB_en, trivial⟩⟩⟩⟩⟩⟩⟩⟩, (by first | (simp only [noro, noroL, and_self]; done) | (simp only [noro, noroL]; and_intros <;> first | trivial | exact noro_bif (by simp only [noro]) (by simp only [noro]) | (simp only [noro, noroL, and_self]))), ?_⟩
    rw [Try.ntmps107]
    simp only [List.length_cons, List.length_nil, Nat.reduceAdd, Nat.reduceSub, List.replicate_succ, List.replicate_zero, List.cons_append, List.nil_append]
    unfold F107_0 at H
    try dsimp only at H
    refine sq ctNo_ok ?_
    simp only [go_sem, Nat.reduceLeDiff, Nat.reduceLT, Nat.reduceAdd, Nat.reduceMul, Nat.reduceSub, Nat.reduceEqDiff, Nat.reduceBEq, Int.reduceToNat, reduceCtorEq]
    refine seqM ?_
    obtain ⟨r1, e2, H⟩ := bsi H
    refine rg ct107_0t0_ok ?_
    simp only [go_sem, Nat.reduceLeDiff, Nat.reduceLT, Nat.reduceAdd, Nat.reduceMul, Nat.reduceSub, Nat.reduceEqDiff, Nat.reduceBEq, Int.reduceToNat, reduceCtorEq, ct107_0t0_54, body54_0, e2]
    repeat ((with_reducible refine And.intro ?_ ?_); focus (first | (and_intros <;> first | (with_reducible trivial) | omega | assumption | exact nfc | first | exact rfl | exact trivial | exact fitI | exact .inr rfl | exact .inl rfl | exact fun x hx => absurd hx (by omega)) | grind))
    refine rg ctNo_ok ?_
    simp only [go_sem, Nat.reduceLeDiff, Nat.reduceLT, Nat.reduceAdd, Nat.reduceMul, Nat.reduceSub, Nat.reduceEqDiff, Nat.reduceBEq, Int.reduceToNat, reduceCtorEq]
    obtain rfl := Option.some.inj H
    refine RetE_mk [] [some 0, some 1, some 2, some 3, some 5, some 6, some 7, some 8] ?_ ?_ ?_ ?_ (by rfl) (by rfl)
    · simp only [go_sem, Nat.reduceEqDiff, Nat.reduceBEq, Nat.reduceAdd]
      try (and_intros <;> first | (with_reducible trivial) | omega | exact nfc | trivial)
    · simp only [go_sem, Nat.reduceEqDiff, Nat.reduceBEq, Nat.reduceAdd]
      try (and_intros <;> first | (with_reducible trivial) | omega | exact nfc | trivial)
    · simp only [go_sem, Nat.reduceEqDiff, Nat.reduceBEq, Nat.reduceAdd]
      exact Cv_tup (CvL_cons (by first | (simp [Cv, CvL, getM, gt_some]; done) | (simp [Cv, CvL, getM, gt_some]; omega)) (CvL_cons (by simp [Cv, CvL, getM, gt_some]) CvL_nil))
    · simp only [go_sem, Nat.reduceEqDiff, Nat.reduceBEq, Nat.reduceAdd, CvH, gt_some, Option.isSome_some, Option.isSome_none]
      first | exact ⟨(by simp [CvB, CvL, Cv, blkAt, geth, getM, gt_some, cond_true, cond_false]), CvB_dead, CvB_dead, CvB_dead, CvB_row nr_TRegulateChannel (by first | rfl | (simp; done) | (simp; omega)) (fun _ _ _ _ => rfl), CvB_row nr_TRegulateBlock (by first | rfl | (simp; done) | (simp; omega)) (fun _ _ _ _ => rfl), CvB_row nr_i64 (by first | rfl | (simp; done) | (simp; omega)) (fun _ _ _ _ => rfl), CvB_row nr_TRegulateWord (by first | rfl | (simp; done) | (simp; omega)) (fun _ _ _ _ => rfl)⟩ | trivial
  · cases hb
/-! hotspot/regulate.handlers$5 -/
noncomputable def F108_0 (p0_2 : Bool) (p0_3 : Int) (p0_4 : Bool) (p1 : TRegulateWord) (p2 : Int) : Option (Bool) :=
  some ((((!p0_2) && (!p0_4)) && (bLe p0_3 p1.At)) && (bLe p1.At p2))
noncomputable def body108_0 : List AV -> AR
  | [v0, v1, v2] => .pure (rM 10 v0 /\ bK (rG v0 2) /\ iK .i64 (rG v0 3) /\ bK (rG v0 4) /\ aK 4 k_TRegulateWord v1 /\ iK .i64 v2 /\ (F108_0 (bA (rG v0 2)) (iA (rG v0 3)) (bA (rG v0 4)) (g_TRegulateWord (aL v1)) (iA v2)).isSome = true) (.bool (gt (F108_0 (bA (rG v0 2)) (iA (rG v0 3)) (bA (rG v0 4)) (g_TRegulateWord (aL v1)) (iA v2))))
  | _ => .fail
set_option maxHeartbeats 4000000 in
set_option maxRecDepth 20000 in
theorem ok108_0 : FnOk Try.prog 108 (pureC body108_0) := by
  refine pure_fnM body108_0 (rs := [.tmp 6]) Try.func108 (by kernel_rfl) rfl rfl ?_
  intro l ob v hb hob
  unfold body108_0 at hb
  split at hb
  · rename_i v0 v1 v2
    injection hb with q1 q2; subst q1 q2
    obtain ⟨hk0_0, hk0_1, hk0_2, hk0_3, hk1_0, hk2_0, hob⟩ := hob
    obtain ⟨r, H⟩ := Option.isSome_iff_exists.1 hob
    rw [H, gt_some]
    have hw0 := (rM_wk (cells := [AV.top, AV.top, AV.bool (bA (rG v0 2)), AV.int .i64 (iA (rG v0 3)), AV.bool (bA (rG v0 4)), AV.top, AV.top, AV.top, AV.top, AV.top]) hk0_0 (fun y hy => match y, hy with | 0, _ => top_wk | 1, _ => top_wk | 2, _ => bK_wk hk0_1 | 3, _ => iK_wk hk0_2 | 4, _ => bK_wk hk0_3 | 5, _ => top_wk | 6, _ => top_wk | 7, _ => top_wk | 8, _ => top_wk | 9, _ => top_wk | y + 10, hy => absurd hy (by omega)))
    have hw1 := wA_TRegulateWord hk1_0
    have hw2 := iK_wk hk2_0
    generalize bA (rG v0 2) = p0_2 at H hw0
    generalize iA (rG v0 3) = p0_3 at H hw0
    generalize bA (rG v0 4) = p0_4 at H hw0
    generalize g_TRegulateWord (aL v1) = p1 at H hw1
    generalize iA v2 = p2 at H hw2
    refine ⟨[.rptr 10 1 0 0 (fun _ y => getL [.top, .top, .bool p0_2, .int .i64 p0_3, .bool p0_4, .top, .top, .top, .top, .top] y), .agg [.int .u8 p1.Kind, .int .i64 p1.Channel, .int .i64 p1.To, .int .i64 p1.At], .int .i64 p2], _, (fun E vs F => FR_wk1 hw0.1 F (fun vs F => FR_wk1 hw1.1 F (fun vs F => FR_wk1 hw2.1 F (fun vs F => F)))), rfl, rfl, ?_⟩
    rw [Try.ntmps108]
    simp only [List.length_cons, List.length_nil, Nat.reduceAdd, Nat.reduceSub, List.replicate_succ, List.replicate_zero, List.cons_append, List.nil_append]
    unfold F108_0 at H
    try dsimp only at H
    refine sq ctNo_ok ?_
    simp only [go_sem, Nat.reduceLeDiff, Nat.reduceLT, Nat.reduceAdd, Nat.reduceMul, Nat.reduceSub, Nat.reduceEqDiff, Nat.reduceBEq, Int.reduceToNat, reduceCtorEq]
    refine seqM ?_
    refine draw_quiet shT_ok ctNo_ok (by kernel_rfl) (by kernel_rfl) ?_
    simp only [go_sem, Nat.reduceLeDiff, Nat.reduceLT, Nat.reduceAdd, Nat.reduceMul, Nat.reduceSub, Nat.reduceEqDiff, Nat.reduceBEq, Int.reduceToNat, reduceCtorEq]
    repeat ((with_reducible refine And.intro ?_ ?_); focus (first | (with_reducible trivial) | omega | grind))
    refine rg ctNo_ok ?_
    simp only [go_sem, Nat.reduceLeDiff, Nat.reduceLT, Nat.reduceAdd, Nat.reduceMul, Nat.reduceSub, Nat.reduceEqDiff, Nat.reduceBEq, Int.reduceToNat, reduceCtorEq]
    obtain rfl := Option.some.inj H
    first | rfl | simp only [Bool.and_false, Bool.false_and, Bool.and_true, Bool.true_and]
  · cases hb
/-! hotspot/regulate.handlers$6 -/
noncomputable def F109_0 (p0 : TRegulate) (p1 : TRegulateWord) (p2 : Int) (p3 : Int) : Option ((List TRegulateWord) × Int × TRegulate) :=
  some ([], 0, (TRegulate.mk p0.Table p0.Channel p0.Lead p1.At p0.Stopped p0.Moving p0.To p0.At p0.Blocked p0.Clear))
noncomputable def body109_0 : List AV -> List ABlk -> ED
  | [v0, v1, v2, v3], h => .ed [ptB v0, slN (getL (celL h v0) 0), slN (getL (celL h v0) 8), slN (getL (celL h v0) 9)] (pK 39 10 h v0 /\ k_TRegulate (getL (roWL h (celL h v0))) /\ oS 45 3 h (getL (celL h v0) 0) /\ nref (getL (celL h v0) 1) /\ nref (getL (celL h v0) 2) /\ nref (getL (celL h v0) 3) /\ nref (getL (celL h v0) 4) /\ nref (getL (celL h v0) 5) /\ nref (getL (celL h v0) 6) /\ nref (getL (celL h v0) 7) /\ oS 79 2 h (getL (celL h v0) 8) /\ oS 3 1 h (getL (celL h v0) 9) /\ aK 4 k_TRegulateWord (roD (deadL h [ptB v0, slN (getL (celL h v0) 0), slN (getL (celL h v0) 8), slN (getL (celL h v0) 9)]) v1) /\ roDOb (deadL h [ptB v0, slN (getL (celL h v0) 0), slN (getL (celL h v0) 8), slN (getL (celL h v0) 9)]) v1 /\ iK .i64 (roD (deadL h [ptB v0, slN (getL (celL h v0) 0), slN (getL (celL h v0) 8), slN (getL (celL h v0) 9)]) v2) /\ roDOb (deadL h [ptB v0, slN (getL (celL h v0) 0), slN (getL (celL h v0) 8), slN (getL (celL h v0) 9)]) v2 /\ iK .i64 (roD (deadL h [ptB v0, slN (getL (celL h v0) 0), slN (getL (celL h v0) 8), slN (getL (celL h v0) 9)]) v3) /\ roDOb (deadL h [ptB v0, slN (getL (celL h v0) 0), slN (getL (celL h v0) 8), slN (getL (celL h v0) 9)]) v3 /\ (F109_0 (g_TRegulate (getL (roWL h (celL h v0)))) (g_TRegulateWord (aL (roD (deadL h [ptB v0, slN (getL (celL h v0) 0), slN (getL (celL h v0) 8), slN (getL (celL h v0) 9)]) v1))) (iA (roD (deadL h [ptB v0, slN (getL (celL h v0) 0), slN (getL (celL h v0) 8), slN (getL (celL h v0) 9)]) v2)) (iA (roD (deadL h [ptB v0, slN (getL (celL h v0) 0), slN (getL (celL h v0) 8), slN (getL (celL h v0) 9)]) v3))).isSome = true) (.tup [.sl 7 4 0 (((gt (F109_0 (g_TRegulate (getL (roWL h (celL h v0)))) (g_TRegulateWord (aL (roD (deadL h [ptB v0, slN (getL (celL h v0) 0), slN (getL (celL h v0) 8), slN (getL (celL h v0) 9)]) v1))) (iA (roD (deadL h [ptB v0, slN (getL (celL h v0) 0), slN (getL (celL h v0) 8), slN (getL (celL h v0) 9)]) v2)) (iA (roD (deadL h [ptB v0, slN (getL (celL h v0) 0), slN (getL (celL h v0) 8), slN (getL (celL h v0) 9)]) v3)))).1).length) false, .int .i64 ((gt (F109_0 (g_TRegulate (getL (roWL h (celL h v0)))) (g_TRegulateWord (aL (roD (deadL h [ptB v0, slN (getL (celL h v0) 0), slN (getL (celL h v0) 8), slN (getL (celL h v0) 9)]) v1))) (iA (roD (deadL h [ptB v0, slN (getL (celL h v0) 0), slN (getL (celL h v0) 8), slN (getL (celL h v0) 9)]) v2)) (iA (roD (deadL h [ptB v0, slN (getL (celL h v0) 0), slN (getL (celL h v0) 8), slN (getL (celL h v0) 9)]) v3)))).2.1)]) [.lit 39 [.sl 4 3 0 ((((gt (F109_0 (g_TRegulate (getL (roWL h (celL h v0)))) (g_TRegulateWord (aL (roD (deadL h [ptB v0, slN (getL (celL h v0) 0), slN (getL (celL h v0) 8), slN (getL (celL h v0) 9)]) v1))) (iA (roD (deadL h [ptB v0, slN (getL (celL h v0) 0), slN (getL (celL h v0) 8), slN (getL (celL h v0) 9)]) v2)) (iA (roD (deadL h [ptB v0, slN (getL (celL h v0) 0), slN (getL (celL h v0) 8), slN (getL (celL h v0) 9)]) v3)))).2.2).Table).length) false, .int .i64 (((gt (F109_0 (g_TRegulate (getL (roWL h (celL h v0)))) (g_TRegulateWord (aL (roD (deadL h [ptB v0, slN (getL (celL h v0) 0), slN (getL (celL h v0) 8), slN (getL (celL h v0) 9)]) v1))) (iA (roD (deadL h [ptB v0, slN (getL (celL h v0) 0), slN (getL (celL h v0) 8), slN (getL (celL h v0) 9)]) v2)) (iA (roD (deadL h [ptB v0, slN (getL (celL h v0) 0), slN (getL (celL h v0) 8), slN (getL (celL h v0) 9)]) v3)))).2.2).Channel), .bool (((gt (F109_0 (g_TRegulate (getL (roWL h (celL h v0)))) (g_TRegulateWord (aL (roD (deadL h [ptB v0, slN (getL (celL h v0) 0), slN (getL (celL h v0) 8), slN (getL (celL h v0) 9)]) v1))) (iA (roD (deadL h [ptB v0, slN (getL (celL h v0) 0), slN (getL (celL h v0) 8), slN (getL (celL h v0) 9)]) v2)) (iA (roD (deadL h [ptB v0, slN (getL (celL h v0) 0), slN (getL (celL h v0) 8), slN (getL (celL h v0) 9)]) v3)))).2.2).Lead), .int .i64 (((gt (F109_0 (g_TRegulate (getL (roWL h (celL h v0)))) (g_TRegulateWord (aL (roD (deadL h [ptB v0, slN (getL (celL h v0) 0), slN (getL (celL h v0) 8), slN (getL (celL h v0) 9)]) v1))) (iA (roD (deadL h [ptB v0, slN (getL (celL h v0) 0), slN (getL (celL h v0) 8), slN (getL (celL h v0) 9)]) v2)) (iA (roD (deadL h [ptB v0, slN (getL (celL h v0) 0), slN (getL (celL h v0) 8), slN (getL (celL h v0) 9)]) v3)))).2.2).Heard), .bool (((gt (F109_0 (g_TRegulate (getL (roWL h (celL h v0)))) (g_TRegulateWord (aL (roD (deadL h [ptB v0, slN (getL (celL h v0) 0), slN (getL (celL h v0) 8), slN (getL (celL h v0) 9)]) v1))) (iA (roD (deadL h [ptB v0, slN (getL (celL h v0) 0), slN (getL (celL h v0) 8), slN (getL (celL h v0) 9)]) v2)) (iA (roD (deadL h [ptB v0, slN (getL (celL h v0) 0), slN (getL (celL h v0) 8), slN (getL (celL h v0) 9)]) v3)))).2.2).Stopped), .bool (((gt (F109_0 (g_TRegulate (getL (roWL h (celL h v0)))) (g_TRegulateWord (aL (roD (deadL h [ptB v0, slN (getL (celL h v0) 0), slN (getL (celL h v0) 8), slN (getL (celL h v0) 9)]) v1))) (iA (roD (deadL h [ptB v0, slN (getL (celL h v0) 0), slN (getL (celL h v0) 8), slN (getL (celL h v0) 9)]) v2)) (iA (roD (deadL h [ptB v0, slN (getL (celL h v0) 0), slN (getL (celL h v0) 8), slN (getL (celL h v0) 9)]) v3)))).2.2).Moving), .int .i64 (((gt (F109_0 (g_TRegulate (getL (roWL h (celL h v0)))) (g_TRegulateWord (aL (roD (deadL h [ptB v0, slN (getL (celL h v0) 0), slN (getL (celL h v0) 8), slN (getL (celL h v0) 9)]) v1))) (iA (roD (deadL h [ptB v0, slN (getL (celL h v0) 0), slN (getL (celL h v0) 8), slN (getL (celL h v0) 9)]) v2)) (iA (roD (deadL h [ptB v0, slN (getL (celL h v0) 0), slN (getL (celL h v0) 8), slN (getL (celL h v0) 9)]) v3)))).2.2).To), .int .i64 (((gt (F109_0 (g_TRegulate (getL (roWL h (celL h v0)))) (g_TRegulateWord (aL (roD (deadL h [ptB v0, slN (getL (celL h v0) 0), slN (getL (celL h v0) 8), slN (getL (celL h v0) 9)]) v1))) (iA (roD (deadL h [ptB v0, slN (getL (celL h v0) 0), slN (getL (celL h v0) 8), slN (getL (celL h v0) 9)]) v2)) (iA (roD (deadL h [ptB v0, slN (getL (celL h v0) 0), slN (getL (celL h v0) 8), slN (getL (celL h v0) 9)]) v3)))).2.2).At), .sl 5 2 0 ((((gt (F109_0 (g_TRegulate (getL (roWL h (celL h v0)))) (g_TRegulateWord (aL (roD (deadL h [ptB v0, slN (getL (celL h v0) 0), slN (getL (celL h v0) 8), slN (getL (celL h v0) 9)]) v1))) (iA (roD (deadL h [ptB v0, slN (getL (celL h v0) 0), slN (getL (celL h v0) 8), slN (getL (celL h v0) 9)]) v2)) (iA (roD (deadL h [ptB v0, slN (getL (celL h v0) 0), slN (getL (celL h v0) 8), slN (getL (celL h v0) 9)]) v3)))).2.2).Blocked).length) false, .sl 6 1 0 ((((gt (F109_0 (g_TRegulate (getL (roWL h (celL h v0)))) (g_TRegulateWord (aL (roD (deadL h [ptB v0, slN (getL (celL h v0) 0), slN (getL (celL h v0) 8), slN (getL (celL h v0) 9)]) v1))) (iA (roD (deadL h [ptB v0, slN (getL (celL h v0) 0), slN (getL (celL h v0) 8), slN (getL (celL h v0) 9)]) v2)) (iA (roD (deadL h [ptB v0, slN (getL (celL h v0) 0), slN (getL (celL h v0) 8), slN (getL (celL h v0) 9)]) v3)))).2.2).Clear).length) false], .dead, .dead, .dead, .row 45 3 ((((gt (F109_0 (g_TRegulate (getL (roWL h (celL h v0)))) (g_TRegulateWord (aL (roD (deadL h [ptB v0, slN (getL (celL h v0) 0), slN (getL (celL h v0) 8), slN (getL (celL h v0) 9)]) v1))) (iA (roD (deadL h [ptB v0, slN (getL (celL h v0) 0), slN (getL (celL h v0) 8), slN (getL (celL h v0) 9)]) v2)) (iA (roD (deadL h [ptB v0, slN (getL (celL h v0) 0), slN (getL (celL h v0) 8), slN (getL (celL h v0) 9)]) v3)))).2.2).Table).length) (enR c_TRegulateChannel (((gt (F109_0 (g_TRegulate (getL (roWL h (celL h v0)))) (g_TRegulateWord (aL (roD (deadL h [ptB v0, slN (getL (celL h v0) 0), slN (getL (celL h v0) 8), slN (getL (celL h v0) 9)]) v1))) (iA (roD (deadL h [ptB v0, slN (getL (celL h v0) 0), slN (getL (celL h v0) 8), slN (getL (celL h v0) 9)]) v2)) (iA (roD (deadL h [ptB v0, slN (getL (celL h v0) 0), slN (getL (celL h v0) 8), slN (getL (celL h v0) 9)]) v3)))).2.2).Table)), .row 79 2 ((((gt (F109_0 (g_TRegulate (getL (roWL h (celL h v0)))) (g_TRegulateWord (aL (roD (deadL h [ptB v0, slN (getL (celL h v0) 0), slN (getL (celL h v0) 8), slN (getL (celL h v0) 9)]) v1))) (iA (roD (deadL h [ptB v0, slN (getL (celL h v0) 0), slN (getL (celL h v0) 8), slN (getL (celL h v0) 9)]) v2)) (iA (roD (deadL h [ptB v0, slN (getL (celL h v0) 0), slN (getL (celL h v0) 8), slN (getL (celL h v0) 9)]) v3)))).2.2).Blocked).length) (enR c_TRegulateBlock (((gt (F109_0 (g_TRegulate (getL (roWL h (celL h v0)))) (g_TRegulateWord (aL (roD (deadL h [ptB v0, slN (getL (celL h v0) 0), slN (getL (celL h v0) 8), slN (getL (celL h v0) 9)]) v1))) (iA (roD (deadL h [ptB v0, slN (getL (celL h v0) 0), slN (getL (celL h v0) 8), slN (getL (celL h v0) 9)]) v2)) (iA (roD (deadL h [ptB v0, slN (getL (celL h v0) 0), slN (getL (celL h v0) 8), slN (getL (celL h v0) 9)]) v3)))).2.2).Blocked)), .row 3 1 ((((gt (F109_0 (g_TRegulate (getL (roWL h (celL h v0)))) (g_TRegulateWord (aL (roD (deadL h [ptB v0, slN (getL (celL h v0) 0), slN (getL (celL h v0) 8), slN (getL (celL h v0) 9)]) v1))) (iA (roD (deadL h [ptB v0, slN (getL (celL h v0) 0), slN (getL (celL h v0) 8), slN (getL (celL h v0) 9)]) v2)) (iA (roD (deadL h [ptB v0, slN (getL (celL h v0) 0), slN (getL (celL h v0) 8), slN (getL (celL h v0) 9)]) v3)))).2.2).Clear).length) (enR c_i64 (((gt (F109_0 (g_TRegulate (getL (roWL h (celL h v0)))) (g_TRegulateWord (aL (roD (deadL h [ptB v0, slN (getL (celL h v0) 0), slN (getL (celL h v0) 8), slN (getL (celL h v0) 9)]) v1))) (iA (roD (deadL h [ptB v0, slN (getL (celL h v0) 0), slN (getL (celL h v0) 8), slN (getL (celL h v0) 9)]) v2)) (iA (roD (deadL h [ptB v0, slN (getL (celL h v0) 0), slN (getL (celL h v0) 8), slN (getL (celL h v0) 9)]) v3)))).2.2).Clear)), .row 23 4 (((gt (F109_0 (g_TRegulate (getL (roWL h (celL h v0)))) (g_TRegulateWord (aL (roD (deadL h [ptB v0, slN (getL (celL h v0) 0), slN (getL (celL h v0) 8), slN (getL (celL h v0) 9)]) v1))) (iA (roD (deadL h [ptB v0, slN (getL (celL h v0) 0), slN (getL (celL h v0) 8), slN (getL (celL h v0) 9)]) v2)) (iA (roD (deadL h [ptB v0, slN (getL (celL h v0) 0), slN (getL (celL h v0) 8), slN (getL (celL h v0) 9)]) v3)))).1).length) (enR c_TRegulateWord ((gt (F109_0 (g_TRegulate (getL (roWL h (celL h v0)))) (g_TRegulateWord (aL (roD (deadL h [ptB v0, slN (getL (celL h v0) 0), slN (getL (celL h v0) 8), slN (getL (celL h v0) 9)]) v1))) (iA (roD (deadL h [ptB v0, slN (getL (celL h v0) 0), slN (getL (celL h v0) 8), slN (getL (celL h v0) 9)]) v2)) (iA (roD (deadL h [ptB v0, slN (getL (celL h v0) 0), slN (getL (celL h v0) 8), slN (getL (celL h v0) 9)]) v3)))).1))]
  | _, _ => .fail
set_option maxHeartbeats 4000000 in
set_option maxRecDepth 20000 in
theorem ok109_0 : FnOk Try.prog 109 (edC body109_0) := by
  refine edit_fnV body109_0 (rs := [.tmp 8, .tmp 9]) Try.func109 (by kernel_rfl) rfl rfl ?_
  intro l h bs ob q0 g0 hb hob
  unfold body109_0 at hb
  split at hb
  · rename_i v0 v1 v2 v3
    injection hb with q1 q2 q3 q4; subst q1 q2 q3 q4
    obtain ⟨hk0_0, hk0_1, hk0_2, hk0_3, hk0_4, hk0_5, hk0_6, hk0_7, hk0_8, hk0_9, hk0_10, hk0_11, hk1_0, hk1_1, hk2_0, hk2_1, hk3_0, hk3_1, hob⟩ := hob
    obtain ⟨r, H⟩ := Option.isSome_iff_exists.1 hob
    rw [H, gt_some]
    obtain ⟨p0, hp0⟩ : ∃ p0, p0 = g_TRegulate (getL (roWL h (celL h v0))) := ⟨_, rfl⟩
    rw [← hp0] at H
    have hw0 : ∀ y, y < 10 -> WkV (getL (c_TRegulate p0) y) (roW h (getL (celL h v0) y)) /\ nref (getL (c_TRegulate p0) y) := fun y hy => by rw [hp0, ← getL_roWL]; exact w_TRegulate hk0_1 y hy
    have hk0_K := hk0_1
    unfold k_TRegulate at hk0_K
    obtain ⟨kk0_0, kk0_1, kk0_2, kk0_3, kk0_4, kk0_5, kk0_6, kk0_7, kk0_8, kk0_9⟩ := hk0_K
    obtain ⟨ev0_0, eb0_0⟩ := own_row2 (f := c_TRegulateChannel) (g := g_TRegulateChannel) (bs := [ptB v0, slN (getL (celL h v0) 0), slN (getL (celL h v0) 8), slN (getL (celL h v0) 9)]) (i := 1) (fun hr => w_TRegulateChannel hr) hk0_2 (by rw [← getL_roWL]; exact kk0_0) (L := p0.Table) (by rw [hp0, ← getL_roWL]; rfl) rfl
    obtain ⟨ev0_8, eb0_8⟩ := own_row2 (f := c_TRegulateBlock) (g := g_TRegulateBlock) (bs := [ptB v0, slN (getL (celL h v0) 0), slN (getL (celL h v0) 8), slN (getL (celL h v0) 9)]) (i := 2) (fun hr => w_TRegulateBlock hr) hk0_10 (by rw [← getL_roWL]; exact kk0_8) (L := p0.Blocked) (by rw [hp0, ← getL_roWL]; rfl) rfl
    obtain ⟨ev0_9, eb0_9⟩ := own_row2 (f := c_i64) (g := g_i64) (bs := [ptB v0, slN (getL (celL h v0) 0), slN (getL (celL h v0) 8), slN (getL (celL h v0) 9)]) (i := 3) (fun hr => w_i64 hr) hk0_11 (by rw [← getL_roWL]; exact kk0_9) (L := p0.Clear) (by rw [hp0, ← getL_roWL]; rfl) rfl
    have hw1 := wA_TRegulateWord hk1_0
    obtain ⟨p1, hp_p1⟩ : ∃ p1, p1 = g_TRegulateWord (aL (roD (deadL h [ptB v0, slN (getL (celL h v0) 0), slN (getL (celL h v0) 8), slN (getL (celL h v0) 9)]) v1)) := ⟨_, rfl⟩
    rw [← hp_p1] at H hw1
    have hw2 := iK_wk hk2_0
    obtain ⟨p2, hp_p2⟩ : ∃ p2, p2 = iA (roD (deadL h [ptB v0, slN (getL (celL h v0) 0), slN (getL (celL h v0) 8), slN (getL (celL h v0) 9)]) v2) := ⟨_, rfl⟩
    rw [← hp_p2] at H hw2
    have hw3 := iK_wk hk3_0
    obtain ⟨p3, hp_p3⟩ : ∃ p3, p3 = iA (roD (deadL h [ptB v0, slN (getL (celL h v0) 0), slN (getL (celL h v0) 8), slN (getL (celL h v0) 9)]) v3) := ⟨_, rfl⟩
    rw [← hp_p3] at H hw3
    refine ⟨[.ptr 0 0 0 0, .agg [.int .u8 p1.Kind, .int .i64 p1.Channel, .int .i64 p1.To, .int .i64 p1.At], .int .i64 p2, .int .i64 p3], [.lit 39 [.sl 1 3 0 p0.Table.length false, .int .i64 p0.Channel, .bool p0.Lead, .int .i64 p0.Heard, .bool p0.Stopped, .bool p0.Moving, .int .i64 p0.To, .int .i64 p0.At, .sl 2 2 0 p0.Blocked.length false, .sl 3 1 0 p0.Clear.length false], .row 45 3 p0.Table.length (enR c_TRegulateChannel p0.Table), .row 79 2 p0.Blocked.length (enR c_TRegulateBlock p0.Blocked), .row 3 1 p0.Clear.length (enR c_i64 p0.Clear)], rfl, ⟨(EW_own (EV_pK hk0_0 rfl) (by simp only [noro, noroL, and_self])), ⟨(EW_view hk1_1 hw1), ⟨(EW_view hk2_1 hw2), ⟨(EW_view hk3_1 hw3), trivial⟩⟩⟩⟩, ⟨(EB_pK hk0_0 rfl rfl (fun y hy => by
          match y, hy with
          | 0, _ => exact ev0_0
          | 1, _ => exact EV_t hk0_3 (hw0 1 (by decide))
          | 2, _ => exact EV_t hk0_4 (hw0 2 (by decide))
          | 3, _ => exact EV_t hk0_5 (hw0 3 (by decide))
          | 4, _ => exact EV_t hk0_6 (hw0 4 (by decide))
          | 5, _ => exact EV_t hk0_7 (hw0 5 (by decide))
          | 6, _ => exact EV_t hk0_8 (hw0 6 (by decide))
          | 7, _ => exact EV_t hk0_9 (hw0 7 (by decide))
          | 8, _ => exact ev0_8
          | 9, _ => exact ev0_9
          | y + 10, hy => omega)), ⟨eb0_0, ⟨eb0_8, ⟨eb0_9, trivial⟩⟩⟩⟩, ⟨(by simp only [noroB, noroL, noro, and_self]), ⟨noroB_en, ⟨noroB_en, ⟨noroB_en, trivial⟩⟩⟩⟩, ⟨trivial, ⟨trivial, ⟨trivial, ⟨trivial, ⟨(nfB_en nr_TRegulateChannel), ⟨(nfB_en nr_TRegulateBlock), ⟨(nfB_en nr_i64), ⟨(nfB_en nr_TRegulateWord), trivial⟩⟩⟩⟩⟩⟩⟩⟩, ⟨(by simp only [noroB, noroL, noro, and_self]), ⟨trivial, ⟨trivial, ⟨trivial, ⟨noroB_en, ⟨noroB_en, ⟨noroB_en, ⟨noroB_en, trivial⟩⟩⟩⟩⟩⟩⟩⟩, (by first | (simp only [noro, noroL, and_self]; done) | (simp only [noro, noroL]; and_intros <;> first | trivial | exact noro_bif (by simp only [noro]) (by simp only [noro]) | (simp only [noro, noroL, and_self]))), ?_⟩
    rw [Try.ntmps109]
    simp only [List.length_cons, List.length_nil, Nat.reduceAdd, Nat.reduceSub, List.replicate_succ, List.replicate_zero, List.cons_append, List.nil_append]
    unfold F109_0 at H
    try dsimp only at H
    refine sq ctNo_ok ?_
    simp only [go_sem, Nat.reduceLeDiff, Nat.reduceLT, Nat.reduceAdd, Nat.reduceMul, Nat.reduceSub, Nat.reduceEqDiff, Nat.reduceBEq, Int.reduceToNat, reduceCtorEq]
    refine sq ctNo_ok ?_
    simp only [go_sem, Nat.reduceLeDiff, Nat.reduceLT, Nat.reduceAdd, Nat.reduceMul, Nat.reduceSub, Nat.reduceEqDiff, Nat.reduceBEq, Int.reduceToNat, reduceCtorEq]
    repeat ((with_reducible refine And.intro ?_ ?_); focus (first | (with_reducible trivial) | omega | grind))
    refine sq ctNo_ok ?_
    simp only [go_sem, Nat.reduceLeDiff, Nat.reduceLT, Nat.reduceAdd, Nat.reduceMul, Nat.reduceSub, Nat.reduceEqDiff, Nat.reduceBEq, Int.reduceToNat, reduceCtorEq]
    refine rg ctNo_ok ?_
    simp only [go_sem, Nat.reduceLeDiff, Nat.reduceLT, Nat.reduceAdd, Nat.reduceMul, Nat.reduceSub, Nat.reduceEqDiff, Nat.reduceBEq, Int.reduceToNat, reduceCtorEq]
    obtain rfl := Option.some.inj H
    refine RetE_mk [] [some 0, some 1, some 2, some 3, some 1, some 2, some 3, none] ?_ ?_ ?_ ?_ (by rfl) (by rfl)
    · simp only [go_sem, Nat.reduceEqDiff, Nat.reduceBEq, Nat.reduceAdd]
      try (and_intros <;> first | (with_reducible trivial) | omega | exact nfc | trivial)
    · simp only [go_sem, Nat.reduceEqDiff, Nat.reduceBEq, Nat.reduceAdd]
      try (and_intros <;> first | (with_reducible trivial) | omega | exact nfc | trivial)
    · simp only [go_sem, Nat.reduceEqDiff, Nat.reduceBEq, Nat.reduceAdd]
      exact Cv_tup (CvL_cons (by first | (simp [Cv, CvL, getM, gt_some]; done) | (simp [Cv, CvL, getM, gt_some]; omega)) (CvL_cons (by simp [Cv, CvL, getM, gt_some]) CvL_nil))
    · simp only [go_sem, Nat.reduceEqDiff, Nat.reduceBEq, Nat.reduceAdd, CvH, gt_some, Option.isSome_some, Option.isSome_none]
      first | exact ⟨(by simp [CvB, CvL, Cv, blkAt, geth, getM, gt_some, cond_true, cond_false]), CvB_dead, CvB_dead, CvB_dead, CvB_row nr_TRegulateChannel (by first | rfl | (simp; done) | (simp; omega)) (fun _ _ _ _ => rfl), CvB_row nr_TRegulateBlock (by first | rfl | (simp; done) | (simp; omega)) (fun _ _ _ _ => rfl), CvB_row nr_i64 (by first | rfl | (simp; done) | (simp; omega)) (fun _ _ _ _ => rfl), CvB_none⟩ | trivial
  · cases hb
/-! hotspot/regulate.Handle -/
noncomputable def ct36t0 : Ct := tab [(50, edC body50)]
theorem ct36t0_ok : CtOk Try.prog ct36t0 := tab_cons ok50 <| tab_nil
theorem ct36t0_50 (l : List AV) (h : List ABlk) : ct36t0 50 l h = edC body50 l h := rfl
noncomputable def ct36t1 : Ct := tab [(44, pureC body44)]
theorem ct36t1_ok : CtOk Try.prog ct36t1 := tab_cons ok44 <| tab_nil
theorem ct36t1_44 (l : List AV) (h : List ABlk) : ct36t1 44 l h = pureC body44 l h := rfl
noncomputable def ct36t2 : Ct := tab [(79, mapC M79)]
theorem ct36t2_ok : CtOk Try.prog ct36t2 := tab_cons ok79 <| tab_nil
theorem ct36t2_79 (l : List AV) (h : List ABlk) : ct36t2 79 l h = mapC M79 l h := rfl
noncomputable def ct36t3 : Ct := tab [(104, pureC body104_0)]
theorem ct36t3_ok : CtOk Try.prog ct36t3 := tab_cons ok104_0 <| tab_nil
theorem ct36t3_104 (l : List AV) (h : List ABlk) : ct36t3 104 l h = pureC body104_0 l h := rfl
noncomputable def ct36t4 : Ct := tab [(105, edC body105_0)]
theorem ct36t4_ok : CtOk Try.prog ct36t4 := tab_cons ok105_0 <| tab_nil
theorem ct36t4_105 (l : List AV) (h : List ABlk) : ct36t4 105 l h = edC body105_0 l h := rfl
noncomputable def ct36t5 : Ct := tab [(106, pureC body106_0)]
theorem ct36t5_ok : CtOk Try.prog ct36t5 := tab_cons ok106_0 <| tab_nil
theorem ct36t5_106 (l : List AV) (h : List ABlk) : ct36t5 106 l h = pureC body106_0 l h := rfl
noncomputable def ct36t6 : Ct := tab [(107, edC body107_0)]
theorem ct36t6_ok : CtOk Try.prog ct36t6 := tab_cons ok107_0 <| tab_nil
theorem ct36t6_107 (l : List AV) (h : List ABlk) : ct36t6 107 l h = edC body107_0 l h := rfl
noncomputable def ct36t7 : Ct := tab [(108, pureC body108_0)]
theorem ct36t7_ok : CtOk Try.prog ct36t7 := tab_cons ok108_0 <| tab_nil
theorem ct36t7_108 (l : List AV) (h : List ABlk) : ct36t7 108 l h = pureC body108_0 l h := rfl
noncomputable def ct36t8 : Ct := tab [(109, edC body109_0)]
theorem ct36t8_ok : CtOk Try.prog ct36t8 := tab_cons ok109_0 <| tab_nil
theorem ct36t8_109 (l : List AV) (h : List ABlk) : ct36t8 109 l h = edC body109_0 l h := rfl
noncomputable def F36 (p0 : TRegulate) (p1 : TRegulateWord) (p2 : Int) (p3 : Int) : Option (TRegulate × (List TRegulateWord) × Int) :=
  (F50 p0 p3 p2).bind fun r1 => bif r1.1.isSome then (bif (!bEq r1.2 0) then (some ((TRegulate.mk [] 0 false 0 false false 0 0 [] []), [], r1.2)) else ((F44 p1).bind fun r4 => bif (!r4) then (some ((TRegulate.mk [] 0 false 0 false false 0 0 [] []), [], 8)) else (bif bEq p1.Kind 1 then (need (bif (!(!bEq p1.Channel ((gt r1.1).Channel))) then ((F104_0 ((gt r1.1).Lead) p1 p3).isSome) else true) <| bif ((!bEq p1.Channel ((gt r1.1).Channel)) || (!(gt (F104_0 ((gt r1.1).Lead) p1 p3)))) then (some ((TRegulate.mk [] 0 false 0 false false 0 0 [] []), [], 21)) else ((F105_0 (TRegulate.mk ((gt r1.1).Table) ((gt r1.1).Channel) ((gt r1.1).Lead) ((gt r1.1).Heard) ((gt r1.1).Stopped) ((gt r1.1).Moving) ((gt r1.1).To) ((gt r1.1).At) ((gt r1.1).Blocked) ((gt r1.1).Clear)) p1 p2 p3).bind fun r8 => bif (!bEq r8.2.1 0) then (some ((TRegulate.mk [] 0 false 0 false false 0 0 [] []), [], r8.2.1)) else (some ((TRegulate.mk r8.2.2.Table r8.2.2.Channel r8.2.2.Lead r8.2.2.Heard r8.2.2.Stopped r8.2.2.Moving r8.2.2.To r8.2.2.At r8.2.2.Blocked r8.2.2.Clear), r8.1, 0)))) else (bif bEq p1.Kind 2 then (need (bif (!(!bEq p1.Channel ((gt r1.1).Channel))) then ((F106_0 ((gt r1.1).Lead) ((gt r1.1).Stopped) p1 p3).isSome) else true) <| bif ((!bEq p1.Channel ((gt r1.1).Channel)) || (!(gt (F106_0 ((gt r1.1).Lead) ((gt r1.1).Stopped) p1 p3)))) then (some ((TRegulate.mk [] 0 false 0 false false 0 0 [] []), [], 21)) else ((F107_0 (TRegulate.mk ((gt r1.1).Table) ((gt r1.1).Channel) ((gt r1.1).Lead) ((gt r1.1).Heard) ((gt r1.1).Stopped) ((gt r1.1).Moving) ((gt r1.1).To) ((gt r1.1).At) ((gt r1.1).Blocked) ((gt r1.1).Clear)) p1 p2 p3).bind fun r12 => bif (!bEq r12.2.1 0) then (some ((TRegulate.mk [] 0 false 0 false false 0 0 [] []), [], r12.2.1)) else (some ((TRegulate.mk r12.2.2.Table r12.2.2.Channel r12.2.2.Lead r12.2.2.Heard r12.2.2.Stopped r12.2.2.Moving r12.2.2.To r12.2.2.At r12.2.2.Blocked r12.2.2.Clear), r12.1, 0)))) else (bif bEq p1.Kind 3 then (need (bif (!(!bEq p1.Channel ((gt r1.1).Channel))) then ((F108_0 ((gt r1.1).Lead) ((gt r1.1).Heard) ((gt r1.1).Stopped) p1 p3).isSome) else true) <| bif ((!bEq p1.Channel ((gt r1.1).Channel)) || (!(gt (F108_0 ((gt r1.1).Lead) ((gt r1.1).Heard) ((gt r1.1).Stopped) p1 p3)))) then (some ((TRegulate.mk [] 0 false 0 false false 0 0 [] []), [], 21)) else ((F109_0 (TRegulate.mk ((gt r1.1).Table) ((gt r1.1).Channel) ((gt r1.1).Lead) ((gt r1.1).Heard) ((gt r1.1).Stopped) ((gt r1.1).Moving) ((gt r1.1).To) ((gt r1.1).At) ((gt r1.1).Blocked) ((gt r1.1).Clear)) p1 p2 p3).bind fun r16 => bif (!bEq r16.2.1 0) then (some ((TRegulate.mk [] 0 false 0 false false 0 0 [] []), [], r16.2.1)) else (some ((TRegulate.mk r16.2.2.Table r16.2.2.Channel r16.2.2.Lead r16.2.2.Heard r16.2.2.Stopped r16.2.2.Moving r16.2.2.To r16.2.2.At r16.2.2.Blocked r16.2.2.Clear), r16.1, 0)))) else (none)))))) else (bif (!bEq r1.2 0) then (some ((TRegulate.mk [] 0 false 0 false false 0 0 [] []), [], r1.2)) else ((F44 p1).bind fun r18 => bif (!r18) then (some ((TRegulate.mk [] 0 false 0 false false 0 0 [] []), [], 8)) else (bif bEq p1.Kind 1 then (none) else (bif bEq p1.Kind 2 then (none) else (bif bEq p1.Kind 3 then (none) else (none))))))
noncomputable def body36 : List AV -> List ABlk -> ED
  | [v0, v1, v2, v3], h => .ed [] (aK 10 k_TRegulate (roD (deadL h []) v0) /\ roDOb (deadL h []) v0 /\ aK 4 k_TRegulateWord (roD (deadL h []) v1) /\ roDOb (deadL h []) v1 /\ iK .i64 (roD (deadL h []) v2) /\ roDOb (deadL h []) v2 /\ iK .i64 (roD (deadL h []) v3) /\ roDOb (deadL h []) v3 /\ (F36 (g_TRegulate (aL (roD (deadL h []) v0))) (g_TRegulateWord (aL (roD (deadL h []) v1))) (iA (roD (deadL h []) v2)) (iA (roD (deadL h []) v3))).isSome = true) (.tup [.agg [.sl 0 3 0 ((((gt (F36 (g_TRegulate (aL (roD (deadL h []) v0))) (g_TRegulateWord (aL (roD (deadL h []) v1))) (iA (roD (deadL h []) v2)) (iA (roD (deadL h []) v3)))).1).Table).length) false, .int .i64 (((gt (F36 (g_TRegulate (aL (roD (deadL h []) v0))) (g_TRegulateWord (aL (roD (deadL h []) v1))) (iA (roD (deadL h []) v2)) (iA (roD (deadL h []) v3)))).1).Channel), .bool (((gt (F36 (g_TRegulate (aL (roD (deadL h []) v0))) (g_TRegulateWord (aL (roD (deadL h []) v1))) (iA (roD (deadL h []) v2)) (iA (roD (deadL h []) v3)))).1).Lead), .int .i64 (((gt (F36 (g_TRegulate (aL (roD (deadL h []) v0))) (g_TRegulateWord (aL (roD (deadL h []) v1))) (iA (roD (deadL h []) v2)) (iA (roD (deadL h []) v3)))).1).Heard), .bool (((gt (F36 (g_TRegulate (aL (roD (deadL h []) v0))) (g_TRegulateWord (aL (roD (deadL h []) v1))) (iA (roD (deadL h []) v2)) (iA (roD (deadL h []) v3)))).1).Stopped), .bool (((gt (F36 (g_TRegulate (aL (roD (deadL h []) v0))) (g_TRegulateWord (aL (roD (deadL h []) v1))) (iA (roD (deadL h []) v2)) (iA (roD (deadL h []) v3)))).1).Moving), .int .i64 (((gt (F36 (g_TRegulate (aL (roD (deadL h []) v0))) (g_TRegulateWord (aL (roD (deadL h []) v1))) (iA (roD (deadL h []) v2)) (iA (roD (deadL h []) v3)))).1).To), .int .i64 (((gt (F36 (g_TRegulate (aL (roD (deadL h []) v0))) (g_TRegulateWord (aL (roD (deadL h []) v1))) (iA (roD (deadL h []) v2)) (iA (roD (deadL h []) v3)))).1).At), .sl 1 2 0 ((((gt (F36 (g_TRegulate (aL (roD (deadL h []) v0))) (g_TRegulateWord (aL (roD (deadL h []) v1))) (iA (roD (deadL h []) v2)) (iA (roD (deadL h []) v3)))).1).Blocked).length) false, .sl 2 1 0 ((((gt (F36 (g_TRegulate (aL (roD (deadL h []) v0))) (g_TRegulateWord (aL (roD (deadL h []) v1))) (iA (roD (deadL h []) v2)) (iA (roD (deadL h []) v3)))).1).Clear).length) false], .sl 3 4 0 (((gt (F36 (g_TRegulate (aL (roD (deadL h []) v0))) (g_TRegulateWord (aL (roD (deadL h []) v1))) (iA (roD (deadL h []) v2)) (iA (roD (deadL h []) v3)))).2.1).length) false, .int .i64 ((gt (F36 (g_TRegulate (aL (roD (deadL h []) v0))) (g_TRegulateWord (aL (roD (deadL h []) v1))) (iA (roD (deadL h []) v2)) (iA (roD (deadL h []) v3)))).2.2)]) [.row 45 3 ((((gt (F36 (g_TRegulate (aL (roD (deadL h []) v0))) (g_TRegulateWord (aL (roD (deadL h []) v1))) (iA (roD (deadL h []) v2)) (iA (roD (deadL h []) v3)))).1).Table).length) (enR c_TRegulateChannel (((gt (F36 (g_TRegulate (aL (roD (deadL h []) v0))) (g_TRegulateWord (aL (roD (deadL h []) v1))) (iA (roD (deadL h []) v2)) (iA (roD (deadL h []) v3)))).1).Table)), .row 79 2 ((((gt (F36 (g_TRegulate (aL (roD (deadL h []) v0))) (g_TRegulateWord (aL (roD (deadL h []) v1))) (iA (roD (deadL h []) v2)) (iA (roD (deadL h []) v3)))).1).Blocked).length) (enR c_TRegulateBlock (((gt (F36 (g_TRegulate (aL (roD (deadL h []) v0))) (g_TRegulateWord (aL (roD (deadL h []) v1))) (iA (roD (deadL h []) v2)) (iA (roD (deadL h []) v3)))).1).Blocked)), .row 3 1 ((((gt (F36 (g_TRegulate (aL (roD (deadL h []) v0))) (g_TRegulateWord (aL (roD (deadL h []) v1))) (iA (roD (deadL h []) v2)) (iA (roD (deadL h []) v3)))).1).Clear).length) (enR c_i64 (((gt (F36 (g_TRegulate (aL (roD (deadL h []) v0))) (g_TRegulateWord (aL (roD (deadL h []) v1))) (iA (roD (deadL h []) v2)) (iA (roD (deadL h []) v3)))).1).Clear)), .row 23 4 (((gt (F36 (g_TRegulate (aL (roD (deadL h []) v0))) (g_TRegulateWord (aL (roD (deadL h []) v1))) (iA (roD (deadL h []) v2)) (iA (roD (deadL h []) v3)))).2.1).length) (enR c_TRegulateWord ((gt (F36 (g_TRegulate (aL (roD (deadL h []) v0))) (g_TRegulateWord (aL (roD (deadL h []) v1))) (iA (roD (deadL h []) v2)) (iA (roD (deadL h []) v3)))).2.1))]
  | _, _ => .fail
set_option maxHeartbeats 4000000 in
set_option maxRecDepth 20000 in
theorem ok36 : FnOk Try.prog 36 (edC body36) := by
  refine edit_fnV body36 (rs := [.cell 8 39, .tmp 9, .tmp 10]) Try.func36 (by kernel_rfl) rfl rfl ?_
  intro l h bs ob q0 g0 hb hob
  unfold body36 at hb
  split at hb
  · rename_i v0 v1 v2 v3
    injection hb with q1 q2 q3 q4; subst q1 q2 q3 q4
    obtain ⟨hk0_0, hk0_1, hk1_0, hk1_1, hk2_0, hk2_1, hk3_0, hk3_1, hob⟩ := hob
    obtain ⟨r, H⟩ := Option.isSome_iff_exists.1 hob
    rw [H, gt_some]
    have hw0 := wA_TRegulate hk0_0
    obtain ⟨p0, hp_p0⟩ : ∃ p0, p0 = g_TRegulate (aL (roD (deadL h []) v0)) := ⟨_, rfl⟩
    rw [← hp_p0] at H hw0
    have hw1 := wA_TRegulateWord hk1_0
    obtain ⟨p1, hp_p1⟩ : ∃ p1, p1 = g_TRegulateWord (aL (roD (deadL h []) v1)) := ⟨_, rfl⟩
    rw [← hp_p1] at H hw1
    have hw2 := iK_wk hk2_0
    obtain ⟨p2, hp_p2⟩ : ∃ p2, p2 = iA (roD (deadL h []) v2) := ⟨_, rfl⟩
    rw [← hp_p2] at H hw2
    have hw3 := iK_wk hk3_0
    obtain ⟨p3, hp_p3⟩ : ∃ p3, p3 = iA (roD (deadL h []) v3) := ⟨_, rfl⟩
    rw [← hp_p3] at H hw3
    refine ⟨[.agg [.ro 3 p0.Table.length false (enR c_TRegulateChannel p0.Table), .int .i64 p0.Channel, .bool p0.Lead, .int .i64 p0.Heard, .bool p0.Stopped, .bool p0.Moving, .int .i64 p0.To, .int .i64 p0.At, .ro 2 p0.Blocked.length false (enR c_TRegulateBlock p0.Blocked), .ro 1 p0.Clear.length false (enR c_i64 p0.Clear)], .agg [.int .u8 p1.Kind, .int .i64 p1.Channel, .int .i64 p1.To, .int .i64 p1.At], .int .i64 p2, .int .i64 p3], [], rfl, ⟨(EW_view hk0_1 hw0), ⟨(EW_view hk1_1 hw1), ⟨(EW_view hk2_1 hw2), ⟨(EW_view hk3_1 hw3), trivial⟩⟩⟩⟩, trivial, trivial, ⟨(nfB_en nr_TRegulateChannel), ⟨(nfB_en nr_TRegulateBlock), ⟨(nfB_en nr_i64), ⟨(nfB_en nr_TRegulateWord), trivial⟩⟩⟩⟩, ⟨noroB_en, ⟨noroB_en, ⟨noroB_en, ⟨noroB_en, trivial⟩⟩⟩⟩, (by first | (simp only [noro, noroL, and_self]; done) | (simp only [noro, noroL]; and_intros <;> first | trivial | exact noro_bif (by simp only [noro]) (by simp only [noro]) | (simp only [noro, noroL, and_self]))), ?_⟩
    rw [Try.ntmps36]
    simp only [List.length_cons, List.length_nil, Nat.reduceAdd, Nat.reduceSub, List.replicate_succ, List.replicate_zero, List.cons_append, List.nil_append]
    unfold F36 at H
    try dsimp only at H
    refine sq ctNo_ok ?_
    simp only [go_sem, Nat.reduceLeDiff, Nat.reduceLT, Nat.reduceAdd, Nat.reduceMul, Nat.reduceSub, Nat.reduceEqDiff, Nat.reduceBEq, Int.reduceToNat, reduceCtorEq]
    refine seqM ?_
    obtain ⟨r1, e2, H⟩ := bsi H
    refine rg ct36t0_ok ?_
    simp only [go_sem, Nat.reduceLeDiff, Nat.reduceLT, Nat.reduceAdd, Nat.reduceMul, Nat.reduceSub, Nat.reduceEqDiff, Nat.reduceBEq, Int.reduceToNat, reduceCtorEq, ct36t0_50, body50, e2]
    repeat ((with_reducible refine And.intro ?_ ?_); focus (first | (and_intros <;> first | (with_reducible trivial) | omega | assumption | exact nfc | first | exact rfl | exact trivial | exact fitI | exact .inr rfl | exact .inl rfl | exact fun x hx => absurd hx (by omega)) | grind))
    refine bif_split (c := r1.1.isSome) (fun hq3 => ?_) (fun hq3 => ?_)
    · replace H := cond_t hq3 H
      simp only [go_sem, Nat.reduceLeDiff, Nat.reduceLT, Nat.reduceAdd, Nat.reduceMul, Nat.reduceSub, Nat.reduceEqDiff, Nat.reduceBEq, Int.reduceToNat, reduceCtorEq, hq3, cond_true, cond_false, rnm, rnmL, rnmB, rnmH, rhoN]
      refine seqM ?_
      refine sq ctNo_ok ?_
      simp only [go_sem, Nat.reduceLeDiff, Nat.reduceLT, Nat.reduceAdd, Nat.reduceMul, Nat.reduceSub, Nat.reduceEqDiff, Nat.reduceBEq, Int.reduceToNat, reduceCtorEq]
      refine condM rfl trivial (fun hc => ?_) (fun hc => ?_)
      · replace H := cond_t hc H
        refine sq ctNo_ok ?_
        simp only [go_sem, Nat.reduceLeDiff, Nat.reduceLT, Nat.reduceAdd, Nat.reduceMul, Nat.reduceSub, Nat.reduceEqDiff, Nat.reduceBEq, Int.reduceToNat, reduceCtorEq]
        repeat ((with_reducible refine And.intro ?_ ?_); focus (first | (with_reducible trivial) | omega | grind))
        refine rg ctNo_ok ?_
        simp only [go_sem, Nat.reduceLeDiff, Nat.reduceLT, Nat.reduceAdd, Nat.reduceMul, Nat.reduceSub, Nat.reduceEqDiff, Nat.reduceBEq, Int.reduceToNat, reduceCtorEq]
        obtain rfl := Option.some.inj H
        refine RetE_mk [] [none, none, none, none] ?_ ?_ ?_ ?_ (by rfl) (by rfl)
        · simp only [go_sem, Nat.reduceEqDiff, Nat.reduceBEq, Nat.reduceAdd]
          try (and_intros <;> first | (with_reducible trivial) | omega | exact nfc | trivial)
        · simp only [go_sem, Nat.reduceEqDiff, Nat.reduceBEq, Nat.reduceAdd]
          try (and_intros <;> first | (with_reducible trivial) | omega | exact nfc | trivial)
        · simp only [go_sem, Nat.reduceEqDiff, Nat.reduceBEq, Nat.reduceAdd]
          exact Cv_tup (CvL_cons (by first | (simp [Cv, CvL, getM, gt_some]; done) | (simp [Cv, CvL, getM, gt_some]; omega)) (CvL_cons (by first | (simp [Cv, CvL, getM, gt_some]; done) | (simp [Cv, CvL, getM, gt_some]; omega)) (CvL_cons (by simp [Cv, CvL, getM, gt_some]) CvL_nil)))
        · simp only [go_sem, Nat.reduceEqDiff, Nat.reduceBEq, Nat.reduceAdd, CvH, gt_some, Option.isSome_some, Option.isSome_none]
          first | exact ⟨CvB_none, CvB_none, CvB_none, CvB_none⟩ | trivial
      replace H := cond_f hc H
      refine rg ctNo_ok ?_
      simp only [go_sem, Nat.reduceLeDiff, Nat.reduceLT, Nat.reduceAdd, Nat.reduceMul, Nat.reduceSub, Nat.reduceEqDiff, Nat.reduceBEq, Int.reduceToNat, reduceCtorEq]
      refine seqM ?_
      refine seqM ?_
      obtain ⟨r4, e5, H⟩ := bsi H
      refine rg ct36t1_ok ?_
      simp only [go_sem, Nat.reduceLeDiff, Nat.reduceLT, Nat.reduceAdd, Nat.reduceMul, Nat.reduceSub, Nat.reduceEqDiff, Nat.reduceBEq, Int.reduceToNat, reduceCtorEq, ct36t1_44, body44, e5]
      repeat ((with_reducible refine And.intro ?_ ?_); focus (first | (and_intros <;> first | (with_reducible trivial) | omega | assumption | exact nfc | first | exact rfl | exact trivial | exact fitI | exact .inr rfl | exact .inl rfl | exact fun x hx => absurd hx (by omega)) | grind))
      refine condM rfl trivial (fun hc => ?_) (fun hc => ?_)
      · replace H := cond_t hc H
        refine sq ctNo_ok ?_
        simp only [go_sem, Nat.reduceLeDiff, Nat.reduceLT, Nat.reduceAdd, Nat.reduceMul, Nat.reduceSub, Nat.reduceEqDiff, Nat.reduceBEq, Int.reduceToNat, reduceCtorEq]
        repeat ((with_reducible refine And.intro ?_ ?_); focus (first | (with_reducible trivial) | omega | grind))
        refine rg ctNo_ok ?_
        simp only [go_sem, Nat.reduceLeDiff, Nat.reduceLT, Nat.reduceAdd, Nat.reduceMul, Nat.reduceSub, Nat.reduceEqDiff, Nat.reduceBEq, Int.reduceToNat, reduceCtorEq]
        obtain rfl := Option.some.inj H
        refine RetE_mk [] [none, none, none, none] ?_ ?_ ?_ ?_ (by rfl) (by rfl)
        · simp only [go_sem, Nat.reduceEqDiff, Nat.reduceBEq, Nat.reduceAdd]
          try (and_intros <;> first | (with_reducible trivial) | omega | exact nfc | trivial)
        · simp only [go_sem, Nat.reduceEqDiff, Nat.reduceBEq, Nat.reduceAdd]
          try (and_intros <;> first | (with_reducible trivial) | omega | exact nfc | trivial)
        · simp only [go_sem, Nat.reduceEqDiff, Nat.reduceBEq, Nat.reduceAdd]
          exact Cv_tup (CvL_cons (by first | (simp [Cv, CvL, getM, gt_some]; done) | (simp [Cv, CvL, getM, gt_some]; omega)) (CvL_cons (by first | (simp [Cv, CvL, getM, gt_some]; done) | (simp [Cv, CvL, getM, gt_some]; omega)) (CvL_cons (by simp [Cv, CvL, getM, gt_some]) CvL_nil)))
        · simp only [go_sem, Nat.reduceEqDiff, Nat.reduceBEq, Nat.reduceAdd, CvH, gt_some, Option.isSome_some, Option.isSome_none]
          first | exact ⟨CvB_none, CvB_none, CvB_none, CvB_none⟩ | trivial
      replace H := cond_f hc H
      refine rg ctNo_ok ?_
      simp only [go_sem, Nat.reduceLeDiff, Nat.reduceLT, Nat.reduceAdd, Nat.reduceMul, Nat.reduceSub, Nat.reduceEqDiff, Nat.reduceBEq, Int.reduceToNat, reduceCtorEq]
      refine seqM ?_
      refine bif_split (c := bEq p1.Kind 1) (fun hg6 => ?_) (fun hg6 => ?_)
      · replace H := cond_t hg6 H
        refine draw_rule shT_ok ct36t2_ok 1 (by kernel_rfl) (by kernel_rfl) ?_
        intro an han
        simp only [d_nil, d_cons, nxtD, xrD, xoD, roEq, minL, List.append_nil, refsOp, refs, refsL, mask, maskF, place, placeF, okLog, pairOk, hit, inL, slotsF, ren, renL, rnN, nrH, nrB, nrL, nr, dead0, deadS, List.replicate_zero, List.replicate_succ, Nat.sub_self, Nat.add_zero, Nat.zero_add, Nat.reduceSub, Nat.not_lt_zero, Nat.zero_le, Nat.lt_add_one, go_sem, Nat.reduceLeDiff, Nat.reduceLT, Nat.reduceAdd, Nat.reduceMul, Nat.reduceSub, Nat.reduceEqDiff, Nat.reduceBEq, Int.reduceToNat, reduceCtorEq, ct36t2_79, lk79, has79, hg6]
        repeat ((with_reducible refine And.intro ?_ ?_); focus (and_intros <;> first | (with_reducible trivial) | (show anB _ _ _ = true; subst han; kernel_rfl) | (show (anB _ _ _ && _) = true; subst han; kernel_rfl) | omega | assumption | exact nrc | exact nfc | first | exact rfl | exact trivial | exact fitI | exact .inr rfl | exact .inl rfl | exact fun x hx => absurd hx (by omega)))
        refine seqM ?_
        refine seqM ?_
        obtain ⟨f7, H⟩ := need_some.1 H
        replace f7 := g_iff.1 f7
        refine draw_quiet shT_ok ct36t3_ok (by kernel_rfl) (by kernel_rfl) ?_
        simp only [go_sem, Nat.reduceLeDiff, Nat.reduceLT, Nat.reduceAdd, Nat.reduceMul, Nat.reduceSub, Nat.reduceEqDiff, Nat.reduceBEq, Int.reduceToNat, reduceCtorEq, ct36t3_104, body104_0]
        repeat ((with_reducible refine And.intro ?_ ?_); focus (first | (with_reducible trivial) | omega | exact f7 | (intro g; have q := f7 (by first | exact g | (rw [g]; rfl) | simpa using g); first | exact q | exact ⟨q.1, q.2.1⟩ | exact q.2.2 | omega | exact ⟨g, q⟩ | exact ⟨trivial, q⟩ | exact ⟨g, q.1, q.2.1⟩ | exact ⟨g, q.2.2⟩) | (intro g; (try have q0 := f7 (by first | exact g | (rw [g]; rfl) | simpa using g)); and_intros <;> first | (with_reducible trivial) | assumption | exact nfc | (intro g2; rw [g, g2]; rfl) | (intro g2; assumption) | (simp only [g, Bool.true_and, Bool.and_true, Bool.not_false, Bool.not_true]; assumption) | grind) | (and_intros <;> first | (with_reducible trivial) | omega | assumption | exact nfc | first | exact rfl | exact trivial | exact fitI | exact .inr rfl | exact .inl rfl | exact fun x hx => absurd hx (by omega)) | grind))
        refine condM rfl trivial (fun hc => ?_) (fun hc => ?_)
        · replace H := cond_t hc H
          refine sq ctNo_ok ?_
          simp only [go_sem, Nat.reduceLeDiff, Nat.reduceLT, Nat.reduceAdd, Nat.reduceMul, Nat.reduceSub, Nat.reduceEqDiff, Nat.reduceBEq, Int.reduceToNat, reduceCtorEq]
          repeat ((with_reducible refine And.intro ?_ ?_); focus (first | (with_reducible trivial) | omega | grind))
          refine rg ctNo_ok ?_
          simp only [go_sem, Nat.reduceLeDiff, Nat.reduceLT, Nat.reduceAdd, Nat.reduceMul, Nat.reduceSub, Nat.reduceEqDiff, Nat.reduceBEq, Int.reduceToNat, reduceCtorEq]
          obtain rfl := Option.some.inj H
          refine RetE_mk [] [none, none, none, none] ?_ ?_ ?_ ?_ (by rfl) (by rfl)
          · simp only [go_sem, Nat.reduceEqDiff, Nat.reduceBEq, Nat.reduceAdd]
            try (and_intros <;> first | (with_reducible trivial) | omega | exact nfc | trivial)
          · simp only [go_sem, Nat.reduceEqDiff, Nat.reduceBEq, Nat.reduceAdd]
            try (and_intros <;> first | (with_reducible trivial) | omega | exact nfc | trivial)
          · simp only [go_sem, Nat.reduceEqDiff, Nat.reduceBEq, Nat.reduceAdd]
            exact Cv_tup (CvL_cons (by first | (simp [Cv, CvL, getM, gt_some]; done) | (simp [Cv, CvL, getM, gt_some]; omega)) (CvL_cons (by first | (simp [Cv, CvL, getM, gt_some]; done) | (simp [Cv, CvL, getM, gt_some]; omega)) (CvL_cons (by simp [Cv, CvL, getM, gt_some]) CvL_nil)))
          · simp only [go_sem, Nat.reduceEqDiff, Nat.reduceBEq, Nat.reduceAdd, CvH, gt_some, Option.isSome_some, Option.isSome_none]
            first | exact ⟨CvB_none, CvB_none, CvB_none, CvB_none⟩ | trivial
        replace H := cond_f hc H
        refine rg ctNo_ok ?_
        simp only [go_sem, Nat.reduceLeDiff, Nat.reduceLT, Nat.reduceAdd, Nat.reduceMul, Nat.reduceSub, Nat.reduceEqDiff, Nat.reduceBEq, Int.reduceToNat, reduceCtorEq]
        refine seqM ?_
        refine seqM ?_
        obtain ⟨r8, e9, H⟩ := bsi H
        refine rg ct36t4_ok ?_
        simp only [go_sem, Nat.reduceLeDiff, Nat.reduceLT, Nat.reduceAdd, Nat.reduceMul, Nat.reduceSub, Nat.reduceEqDiff, Nat.reduceBEq, Int.reduceToNat, reduceCtorEq, ct36t4_105, body105_0, e9]
        repeat ((with_reducible refine And.intro ?_ ?_); focus (first | (and_intros <;> first | (with_reducible trivial) | omega | assumption | exact nfc | first | exact rfl | exact trivial | exact fitI | exact .inr rfl | exact .inl rfl | exact fun x hx => absurd hx (by omega)) | grind))
        refine sq ctNo_ok ?_
        simp only [go_sem, Nat.reduceLeDiff, Nat.reduceLT, Nat.reduceAdd, Nat.reduceMul, Nat.reduceSub, Nat.reduceEqDiff, Nat.reduceBEq, Int.reduceToNat, reduceCtorEq]
        refine condM rfl trivial (fun hc => ?_) (fun hc => ?_)
        · replace H := cond_t hc H
          refine sq ctNo_ok ?_
          simp only [go_sem, Nat.reduceLeDiff, Nat.reduceLT, Nat.reduceAdd, Nat.reduceMul, Nat.reduceSub, Nat.reduceEqDiff, Nat.reduceBEq, Int.reduceToNat, reduceCtorEq]
          repeat ((with_reducible refine And.intro ?_ ?_); focus (first | (with_reducible trivial) | omega | grind))
          refine rg ctNo_ok ?_
          simp only [go_sem, Nat.reduceLeDiff, Nat.reduceLT, Nat.reduceAdd, Nat.reduceMul, Nat.reduceSub, Nat.reduceEqDiff, Nat.reduceBEq, Int.reduceToNat, reduceCtorEq]
          obtain rfl := Option.some.inj H
          refine RetE_mk [] [none, none, none, none] ?_ ?_ ?_ ?_ (by rfl) (by rfl)
          · simp only [go_sem, Nat.reduceEqDiff, Nat.reduceBEq, Nat.reduceAdd]
            try (and_intros <;> first | (with_reducible trivial) | omega | exact nfc | trivial)
          · simp only [go_sem, Nat.reduceEqDiff, Nat.reduceBEq, Nat.reduceAdd]
            try (and_intros <;> first | (with_reducible trivial) | omega | exact nfc | trivial)
          · simp only [go_sem, Nat.reduceEqDiff, Nat.reduceBEq, Nat.reduceAdd]
            exact Cv_tup (CvL_cons (by first | (simp [Cv, CvL, getM, gt_some]; done) | (simp [Cv, CvL, getM, gt_some]; omega)) (CvL_cons (by first | (simp [Cv, CvL, getM, gt_some]; done) | (simp [Cv, CvL, getM, gt_some]; omega)) (CvL_cons (by simp [Cv, CvL, getM, gt_some]) CvL_nil)))
          · simp only [go_sem, Nat.reduceEqDiff, Nat.reduceBEq, Nat.reduceAdd, CvH, gt_some, Option.isSome_some, Option.isSome_none]
            first | exact ⟨CvB_none, CvB_none, CvB_none, CvB_none⟩ | trivial
        replace H := cond_f hc H
        refine rg ctNo_ok ?_
        simp only [go_sem, Nat.reduceLeDiff, Nat.reduceLT, Nat.reduceAdd, Nat.reduceMul, Nat.reduceSub, Nat.reduceEqDiff, Nat.reduceBEq, Int.reduceToNat, reduceCtorEq]
        refine sq ctNo_ok ?_
        simp only [go_sem, Nat.reduceLeDiff, Nat.reduceLT, Nat.reduceAdd, Nat.reduceMul, Nat.reduceSub, Nat.reduceEqDiff, Nat.reduceBEq, Int.reduceToNat, reduceCtorEq]
        repeat ((with_reducible refine And.intro ?_ ?_); focus (first | (with_reducible trivial) | omega | grind))
        refine rg ctNo_ok ?_
        simp only [go_sem, Nat.reduceLeDiff, Nat.reduceLT, Nat.reduceAdd, Nat.reduceMul, Nat.reduceSub, Nat.reduceEqDiff, Nat.reduceBEq, Int.reduceToNat, reduceCtorEq]
        obtain rfl := Option.some.inj H
        refine RetE_mk [] [some 8, some 9, some 10, some 11] ?_ ?_ ?_ ?_ (by rfl) (by rfl)
        · simp only [go_sem, Nat.reduceEqDiff, Nat.reduceBEq, Nat.reduceAdd]
          try (and_intros <;> first | (with_reducible trivial) | omega | exact nfc | trivial)
        · simp only [go_sem, Nat.reduceEqDiff, Nat.reduceBEq, Nat.reduceAdd]
          try (and_intros <;> first | (with_reducible trivial) | omega | exact nfc | trivial)
        · simp only [go_sem, Nat.reduceEqDiff, Nat.reduceBEq, Nat.reduceAdd]
          exact Cv_tup (CvL_cons (by first | (simp [Cv, CvL, getM, gt_some]; done) | (simp [Cv, CvL, getM, gt_some]; omega)) (CvL_cons (by first | (simp [Cv, CvL, getM, gt_some]; done) | (simp [Cv, CvL, getM, gt_some]; omega)) (CvL_cons (by simp [Cv, CvL, getM, gt_some]) CvL_nil)))
        · simp only [go_sem, Nat.reduceEqDiff, Nat.reduceBEq, Nat.reduceAdd, CvH, gt_some, Option.isSome_some, Option.isSome_none]
          first | exact ⟨CvB_row nr_TRegulateChannel (by first | rfl | (simp; done) | (simp; omega)) (fun _ _ _ _ => rfl), CvB_row nr_TRegulateBlock (by first | rfl | (simp; done) | (simp; omega)) (fun _ _ _ _ => rfl), CvB_row nr_i64 (by first | rfl | (simp; done) | (simp; omega)) (fun _ _ _ _ => rfl), CvB_row nr_TRegulateWord (by first | rfl | (simp; done) | (simp; omega)) (fun _ _ _ _ => rfl)⟩ | trivial
      replace H := cond_f hg6 H
      refine bif_split (c := bEq p1.Kind 2) (fun hg10 => ?_) (fun hg10 => ?_)
      · replace H := cond_t hg10 H
        refine draw_rule shT_ok ct36t2_ok 1 (by kernel_rfl) (by kernel_rfl) ?_
        intro an han
        simp only [d_nil, d_cons, nxtD, xrD, xoD, roEq, minL, List.append_nil, refsOp, refs, refsL, mask, maskF, place, placeF, okLog, pairOk, hit, inL, slotsF, ren, renL, rnN, nrH, nrB, nrL, nr, dead0, deadS, List.replicate_zero, List.replicate_succ, Nat.sub_self, Nat.add_zero, Nat.zero_add, Nat.reduceSub, Nat.not_lt_zero, Nat.zero_le, Nat.lt_add_one, go_sem, Nat.reduceLeDiff, Nat.reduceLT, Nat.reduceAdd, Nat.reduceMul, Nat.reduceSub, Nat.reduceEqDiff, Nat.reduceBEq, Int.reduceToNat, reduceCtorEq, ct36t2_79, lk79, has79, hg6, hg10]
        repeat ((with_reducible refine And.intro ?_ ?_); focus (and_intros <;> first | (with_reducible trivial) | (show anB _ _ _ = true; subst han; kernel_rfl) | (show (anB _ _ _ && _) = true; subst han; kernel_rfl) | omega | assumption | exact nrc | exact nfc | first | exact rfl | exact trivial | exact fitI | exact .inr rfl | exact .inl rfl | exact fun x hx => absurd hx (by omega)))
        refine seqM ?_
        refine seqM ?_
        obtain ⟨f11, H⟩ := need_some.1 H
        replace f11 := g_iff.1 f11
        refine draw_quiet shT_ok ct36t5_ok (by kernel_rfl) (by kernel_rfl) ?_
        simp only [go_sem, Nat.reduceLeDiff, Nat.reduceLT, Nat.reduceAdd, Nat.reduceMul, Nat.reduceSub, Nat.reduceEqDiff, Nat.reduceBEq, Int.reduceToNat, reduceCtorEq, ct36t5_106, body106_0]
        repeat ((with_reducible refine And.intro ?_ ?_); focus (first | (with_reducible trivial) | omega | exact f11 | (intro g; have q := f11 (by first | exact g | (rw [g]; rfl) | simpa using g); first | exact q | exact ⟨q.1, q.2.1⟩ | exact q.2.2 | omega | exact ⟨g, q⟩ | exact ⟨trivial, q⟩ | exact ⟨g, q.1, q.2.1⟩ | exact ⟨g, q.2.2⟩) | (intro g; (try have q0 := f11 (by first | exact g | (rw [g]; rfl) | simpa using g)); and_intros <;> first | (with_reducible trivial) | assumption | exact nfc | (intro g2; rw [g, g2]; rfl) | (intro g2; assumption) | (simp only [g, Bool.true_and, Bool.and_true, Bool.not_false, Bool.not_true]; assumption) | grind) | (and_intros <;> first | (with_reducible trivial) | omega | assumption | exact nfc | first | exact rfl | exact trivial | exact fitI | exact .inr rfl | exact .inl rfl | exact fun x hx => absurd hx (by omega)) | grind))
        refine condM rfl trivial (fun hc => ?_) (fun hc => ?_)
        · replace H := cond_t hc H
          refine sq ctNo_ok ?_
          simp only [go_sem, Nat.reduceLeDiff, Nat.reduceLT, Nat.reduceAdd, Nat.reduceMul, Nat.reduceSub, Nat.reduceEqDiff, Nat.reduceBEq, Int.reduceToNat, reduceCtorEq]
          repeat ((with_reducible refine And.intro ?_ ?_); focus (first | (with_reducible trivial) | omega | grind))
          refine rg ctNo_ok ?_
          simp only [go_sem, Nat.reduceLeDiff, Nat.reduceLT, Nat.reduceAdd, Nat.reduceMul, Nat.reduceSub, Nat.reduceEqDiff, Nat.reduceBEq, Int.reduceToNat, reduceCtorEq]
          obtain rfl := Option.some.inj H
          refine RetE_mk [] [none, none, none, none] ?_ ?_ ?_ ?_ (by rfl) (by rfl)
          · simp only [go_sem, Nat.reduceEqDiff, Nat.reduceBEq, Nat.reduceAdd]
            try (and_intros <;> first | (with_reducible trivial) | omega | exact nfc | trivial)
          · simp only [go_sem, Nat.reduceEqDiff, Nat.reduceBEq, Nat.reduceAdd]
            try (and_intros <;> first | (with_reducible trivial) | omega | exact nfc | trivial)
          · simp only [go_sem, Nat.reduceEqDiff, Nat.reduceBEq, Nat.reduceAdd]
            exact Cv_tup (CvL_cons (by first | (simp [Cv, CvL, getM, gt_some]; done) | (simp [Cv, CvL, getM, gt_some]; omega)) (CvL_cons (by first | (simp [Cv, CvL, getM, gt_some]; done) | (simp [Cv, CvL, getM, gt_some]; omega)) (CvL_cons (by simp [Cv, CvL, getM, gt_some]) CvL_nil)))
          · simp only [go_sem, Nat.reduceEqDiff, Nat.reduceBEq, Nat.reduceAdd, CvH, gt_some, Option.isSome_some, Option.isSome_none]
            first | exact ⟨CvB_none, CvB_none, CvB_none, CvB_none⟩ | trivial
        replace H := cond_f hc H
        refine rg ctNo_ok ?_
        simp only [go_sem, Nat.reduceLeDiff, Nat.reduceLT, Nat.reduceAdd, Nat.reduceMul, Nat.reduceSub, Nat.reduceEqDiff, Nat.reduceBEq, Int.reduceToNat, reduceCtorEq]
        refine seqM ?_
        refine seqM ?_
        obtain ⟨r12, e13, H⟩ := bsi H
        refine rg ct36t6_ok ?_
        simp only [go_sem, Nat.reduceLeDiff, Nat.reduceLT, Nat.reduceAdd, Nat.reduceMul, Nat.reduceSub, Nat.reduceEqDiff, Nat.reduceBEq, Int.reduceToNat, reduceCtorEq, ct36t6_107, body107_0, e13]
        repeat ((with_reducible refine And.intro ?_ ?_); focus (first | (and_intros <;> first | (with_reducible trivial) | omega | assumption | exact nfc | first | exact rfl | exact trivial | exact fitI | exact .inr rfl | exact .inl rfl | exact fun x hx => absurd hx (by omega)) | grind))
        refine sq ctNo_ok ?_
        simp only [go_sem, Nat.reduceLeDiff, Nat.reduceLT, Nat.reduceAdd, Nat.reduceMul, Nat.reduceSub, Nat.reduceEqDiff, Nat.reduceBEq, Int.reduceToNat, reduceCtorEq]
        refine condM rfl trivial (fun hc => ?_) (fun hc => ?_)
        · replace H := cond_t hc H
          refine sq ctNo_ok ?_
          simp only [go_sem, Nat.reduceLeDiff, Nat.reduceLT, Nat.reduceAdd, Nat.reduceMul, Nat.reduceSub, Nat.reduceEqDiff, Nat.reduceBEq, Int.reduceToNat, reduceCtorEq]
          repeat ((with_reducible refine And.intro ?_ ?_); focus (first | (with_reducible trivial) | omega | grind))
          refine rg ctNo_ok ?_
          simp only [go_sem, Nat.reduceLeDiff, Nat.reduceLT, Nat.reduceAdd, Nat.reduceMul, Nat.reduceSub, Nat.reduceEqDiff, Nat.reduceBEq, Int.reduceToNat, reduceCtorEq]
          obtain rfl := Option.some.inj H
          refine RetE_mk [] [none, none, none, none] ?_ ?_ ?_ ?_ (by rfl) (by rfl)
          · simp only [go_sem, Nat.reduceEqDiff, Nat.reduceBEq, Nat.reduceAdd]
            try (and_intros <;> first | (with_reducible trivial) | omega | exact nfc | trivial)
          · simp only [go_sem, Nat.reduceEqDiff, Nat.reduceBEq, Nat.reduceAdd]
            try (and_intros <;> first | (with_reducible trivial) | omega | exact nfc | trivial)
          · simp only [go_sem, Nat.reduceEqDiff, Nat.reduceBEq, Nat.reduceAdd]
            exact Cv_tup (CvL_cons (by first | (simp [Cv, CvL, getM, gt_some]; done) | (simp [Cv, CvL, getM, gt_some]; omega)) (CvL_cons (by first | (simp [Cv, CvL, getM, gt_some]; done) | (simp [Cv, CvL, getM, gt_some]; omega)) (CvL_cons (by simp [Cv, CvL, getM, gt_some]) CvL_nil)))
          · simp only [go_sem, Nat.reduceEqDiff, Nat.reduceBEq, Nat.reduceAdd, CvH, gt_some, Option.isSome_some, Option.isSome_none]
            first | exact ⟨CvB_none, CvB_none, CvB_none, CvB_none⟩ | trivial
        replace H := cond_f hc H
        refine rg ctNo_ok ?_
        simp only [go_sem, Nat.reduceLeDiff, Nat.reduceLT, Nat.reduceAdd, Nat.reduceMul, Nat.reduceSub, Nat.reduceEqDiff, Nat.reduceBEq, Int.reduceToNat, reduceCtorEq]
        refine sq ctNo_ok ?_
        simp only [go_sem, Nat.reduceLeDiff, Nat.reduceLT, Nat.reduceAdd, Nat.reduceMul, Nat.reduceSub, Nat.reduceEqDiff, Nat.reduceBEq, Int.reduceToNat, reduceCtorEq]
        repeat ((with_reducible refine And.intro ?_ ?_); focus (first | (with_reducible trivial) | omega | grind))
        refine rg ctNo_ok ?_
        simp only [go_sem, Nat.reduceLeDiff, Nat.reduceLT, Nat.reduceAdd, Nat.reduceMul, Nat.reduceSub, Nat.reduceEqDiff, Nat.reduceBEq, Int.reduceToNat, reduceCtorEq]
        obtain rfl := Option.some.inj H
        refine RetE_mk [] [some 8, some 9, some 10, some 11] ?_ ?_ ?_ ?_ (by rfl) (by rfl)
        · simp only [go_sem, Nat.reduceEqDiff, Nat.reduceBEq, Nat.reduceAdd]
          try (and_intros <;> first | (with_reducible trivial) | omega | exact nfc | trivial)
        · simp only [go_sem, Nat.reduceEqDiff, Nat.reduceBEq, Nat.reduceAdd]
          try (and_intros <;> first | (with_reducible trivial) | omega | exact nfc | trivial)
        · simp only [go_sem, Nat.reduceEqDiff, Nat.reduceBEq, Nat.reduceAdd]
          exact Cv_tup (CvL_cons (by first | (simp [Cv, CvL, getM, gt_some]; done) | (simp [Cv, CvL, getM, gt_some]; omega)) (CvL_cons (by first | (simp [Cv, CvL, getM, gt_some]; done) | (simp [Cv, CvL, getM, gt_some]; omega)) (CvL_cons (by simp [Cv, CvL, getM, gt_some]) CvL_nil)))
        · simp only [go_sem, Nat.reduceEqDiff, Nat.reduceBEq, Nat.reduceAdd, CvH, gt_some, Option.isSome_some, Option.isSome_none]
          first | exact ⟨CvB_row nr_TRegulateChannel (by first | rfl | (simp; done) | (simp; omega)) (fun _ _ _ _ => rfl), CvB_row nr_TRegulateBlock (by first | rfl | (simp; done) | (simp; omega)) (fun _ _ _ _ => rfl), CvB_row nr_i64 (by first | rfl | (simp; done) | (simp; omega)) (fun _ _ _ _ => rfl), CvB_row nr_TRegulateWord (by first | rfl | (simp; done) | (simp; omega)) (fun _ _ _ _ => rfl)⟩ | trivial
      replace H := cond_f hg10 H
      refine bif_split (c := bEq p1.Kind 3) (fun hg14 => ?_) (fun hg14 => ?_)
      · replace H := cond_t hg14 H
        refine draw_rule shT_ok ct36t2_ok 1 (by kernel_rfl) (by kernel_rfl) ?_
        intro an han
        simp only [d_nil, d_cons, nxtD, xrD, xoD, roEq, minL, List.append_nil, refsOp, refs, refsL, mask, maskF, place, placeF, okLog, pairOk, hit, inL, slotsF, ren, renL, rnN, nrH, nrB, nrL, nr, dead0, deadS, List.replicate_zero, List.replicate_succ, Nat.sub_self, Nat.add_zero, Nat.zero_add, Nat.reduceSub, Nat.not_lt_zero, Nat.zero_le, Nat.lt_add_one, go_sem, Nat.reduceLeDiff, Nat.reduceLT, Nat.reduceAdd, Nat.reduceMul, Nat.reduceSub, Nat.reduceEqDiff, Nat.reduceBEq, Int.reduceToNat, reduceCtorEq, ct36t2_79, lk79, has79, hg6, hg10, hg14]
        repeat ((with_reducible refine And.intro ?_ ?_); focus (and_intros <;> first | (with_reducible trivial) | (show anB _ _ _ = true; subst han; kernel_rfl) | (show (anB _ _ _ && _) = true; subst han; kernel_rfl) | omega | assumption | exact nrc | exact nfc | first | exact rfl | exact trivial | exact fitI | exact .inr rfl | exact .inl rfl | exact fun x hx => absurd hx (by omega)))
        refine seqM ?_
        refine seqM ?_
        obtain ⟨f15, H⟩ := need_some.1 H
        replace f15 := g_iff.1 f15
        refine draw_quiet shT_ok ct36t7_ok (by kernel_rfl) (by kernel_rfl) ?_
        simp only [go_sem, Nat.reduceLeDiff, Nat.reduceLT, Nat.reduceAdd, Nat.reduceMul, Nat.reduceSub, Nat.reduceEqDiff, Nat.reduceBEq, Int.reduceToNat, reduceCtorEq, ct36t7_108, body108_0]
        repeat ((with_reducible refine And.intro ?_ ?_); focus (first | (with_reducible trivial) | omega | exact f15 | (intro g; have q := f15 (by first | exact g | (rw [g]; rfl) | simpa using g); first | exact q | exact ⟨q.1, q.2.1⟩ | exact q.2.2 | omega | exact ⟨g, q⟩ | exact ⟨trivial, q⟩ | exact ⟨g, q.1, q.2.1⟩ | exact ⟨g, q.2.2⟩) | (intro g; (try have q0 := f15 (by first | exact g | (rw [g]; rfl) | simpa using g)); and_intros <;> first | (with_reducible trivial) | assumption | exact nfc | (intro g2; rw [g, g2]; rfl) | (intro g2; assumption) | (simp only [g, Bool.true_and, Bool.and_true, Bool.not_false, Bool.not_true]; assumption) | grind) | (and_intros <;> first | (with_reducible trivial) | omega | assumption | exact nfc | first | exact rfl | exact trivial | exact fitI | exact .inr rfl | exact .inl rfl | exact fun x hx => absurd hx (by omega)) | grind))
        refine condM rfl trivial (fun hc => ?_) (fun hc => ?_)
        · replace H := cond_t hc H
          refine sq ctNo_ok ?_
          simp only [go_sem, Nat.reduceLeDiff, Nat.reduceLT, Nat.reduceAdd, Nat.reduceMul, Nat.reduceSub, Nat.reduceEqDiff, Nat.reduceBEq, Int.reduceToNat, reduceCtorEq]
          repeat ((with_reducible refine And.intro ?_ ?_); focus (first | (with_reducible trivial) | omega | grind))
          refine rg ctNo_ok ?_
          simp only [go_sem, Nat.reduceLeDiff, Nat.reduceLT, Nat.reduceAdd, Nat.reduceMul, Nat.reduceSub, Nat.reduceEqDiff, Nat.reduceBEq, Int.reduceToNat, reduceCtorEq]
          obtain rfl := Option.some.inj H
          refine RetE_mk [] [none, none, none, none] ?_ ?_ ?_ ?_ (by rfl) (by rfl)
          · simp only [go_sem, Nat.reduceEqDiff, Nat.reduceBEq, Nat.reduceAdd]
            try (and_intros <;> first | (with_reducible trivial) | omega | exact nfc | trivial)
          · simp only [go_sem, Nat.reduceEqDiff, Nat.reduceBEq, Nat.reduceAdd]
            try (and_intros <;> first | (with_reducible trivial) | omega | exact nfc | trivial)
          · simp only [go_sem, Nat.reduceEqDiff, Nat.reduceBEq, Nat.reduceAdd]
            exact Cv_tup (CvL_cons (by first | (simp [Cv, CvL, getM, gt_some]; done) | (simp [Cv, CvL, getM, gt_some]; omega)) (CvL_cons (by first | (simp [Cv, CvL, getM, gt_some]; done) | (simp [Cv, CvL, getM, gt_some]; omega)) (CvL_cons (by simp [Cv, CvL, getM, gt_some]) CvL_nil)))
          · simp only [go_sem, Nat.reduceEqDiff, Nat.reduceBEq, Nat.reduceAdd, CvH, gt_some, Option.isSome_some, Option.isSome_none]
            first | exact ⟨CvB_none, CvB_none, CvB_none, CvB_none⟩ | trivial
        replace H := cond_f hc H
        refine rg ctNo_ok ?_
        simp only [go_sem, Nat.reduceLeDiff, Nat.reduceLT, Nat.reduceAdd, Nat.reduceMul, Nat.reduceSub, Nat.reduceEqDiff, Nat.reduceBEq, Int.reduceToNat, reduceCtorEq]
        refine seqM ?_
        refine seqM ?_
        obtain ⟨r16, e17, H⟩ := bsi H
        refine rg ct36t8_ok ?_
        simp only [go_sem, Nat.reduceLeDiff, Nat.reduceLT, Nat.reduceAdd, Nat.reduceMul, Nat.reduceSub, Nat.reduceEqDiff, Nat.reduceBEq, Int.reduceToNat, reduceCtorEq, ct36t8_109, body109_0, e17]
        repeat ((with_reducible refine And.intro ?_ ?_); focus (first | (and_intros <;> first | (with_reducible trivial) | omega | assumption | exact nfc | first | exact rfl | exact trivial | exact fitI | exact .inr rfl | exact .inl rfl | exact fun x hx => absurd hx (by omega)) | grind))
        refine sq ctNo_ok ?_
        simp only [go_sem, Nat.reduceLeDiff, Nat.reduceLT, Nat.reduceAdd, Nat.reduceMul, Nat.reduceSub, Nat.reduceEqDiff, Nat.reduceBEq, Int.reduceToNat, reduceCtorEq]
        refine condM rfl trivial (fun hc => ?_) (fun hc => ?_)
        · replace H := cond_t hc H
          refine sq ctNo_ok ?_
          simp only [go_sem, Nat.reduceLeDiff, Nat.reduceLT, Nat.reduceAdd, Nat.reduceMul, Nat.reduceSub, Nat.reduceEqDiff, Nat.reduceBEq, Int.reduceToNat, reduceCtorEq]
          repeat ((with_reducible refine And.intro ?_ ?_); focus (first | (with_reducible trivial) | omega | grind))
          refine rg ctNo_ok ?_
          simp only [go_sem, Nat.reduceLeDiff, Nat.reduceLT, Nat.reduceAdd, Nat.reduceMul, Nat.reduceSub, Nat.reduceEqDiff, Nat.reduceBEq, Int.reduceToNat, reduceCtorEq]
          obtain rfl := Option.some.inj H
          refine RetE_mk [] [none, none, none, none] ?_ ?_ ?_ ?_ (by rfl) (by rfl)
          · simp only [go_sem, Nat.reduceEqDiff, Nat.reduceBEq, Nat.reduceAdd]
            try (and_intros <;> first | (with_reducible trivial) | omega | exact nfc | trivial)
          · simp only [go_sem, Nat.reduceEqDiff, Nat.reduceBEq, Nat.reduceAdd]
            try (and_intros <;> first | (with_reducible trivial) | omega | exact nfc | trivial)
          · simp only [go_sem, Nat.reduceEqDiff, Nat.reduceBEq, Nat.reduceAdd]
            exact Cv_tup (CvL_cons (by first | (simp [Cv, CvL, getM, gt_some]; done) | (simp [Cv, CvL, getM, gt_some]; omega)) (CvL_cons (by first | (simp [Cv, CvL, getM, gt_some]; done) | (simp [Cv, CvL, getM, gt_some]; omega)) (CvL_cons (by simp [Cv, CvL, getM, gt_some]) CvL_nil)))
          · simp only [go_sem, Nat.reduceEqDiff, Nat.reduceBEq, Nat.reduceAdd, CvH, gt_some, Option.isSome_some, Option.isSome_none]
            first | exact ⟨CvB_none, CvB_none, CvB_none, CvB_none⟩ | trivial
        replace H := cond_f hc H
        refine rg ctNo_ok ?_
        simp only [go_sem, Nat.reduceLeDiff, Nat.reduceLT, Nat.reduceAdd, Nat.reduceMul, Nat.reduceSub, Nat.reduceEqDiff, Nat.reduceBEq, Int.reduceToNat, reduceCtorEq]
        refine sq ctNo_ok ?_
        simp only [go_sem, Nat.reduceLeDiff, Nat.reduceLT, Nat.reduceAdd, Nat.reduceMul, Nat.reduceSub, Nat.reduceEqDiff, Nat.reduceBEq, Int.reduceToNat, reduceCtorEq]
        repeat ((with_reducible refine And.intro ?_ ?_); focus (first | (with_reducible trivial) | omega | grind))
        refine rg ctNo_ok ?_
        simp only [go_sem, Nat.reduceLeDiff, Nat.reduceLT, Nat.reduceAdd, Nat.reduceMul, Nat.reduceSub, Nat.reduceEqDiff, Nat.reduceBEq, Int.reduceToNat, reduceCtorEq]
        obtain rfl := Option.some.inj H
        refine RetE_mk [] [some 8, some 9, some 10, some 11] ?_ ?_ ?_ ?_ (by rfl) (by rfl)
        · simp only [go_sem, Nat.reduceEqDiff, Nat.reduceBEq, Nat.reduceAdd]
          try (and_intros <;> first | (with_reducible trivial) | omega | exact nfc | trivial)
        · simp only [go_sem, Nat.reduceEqDiff, Nat.reduceBEq, Nat.reduceAdd]
          try (and_intros <;> first | (with_reducible trivial) | omega | exact nfc | trivial)
        · simp only [go_sem, Nat.reduceEqDiff, Nat.reduceBEq, Nat.reduceAdd]
          exact Cv_tup (CvL_cons (by first | (simp [Cv, CvL, getM, gt_some]; done) | (simp [Cv, CvL, getM, gt_some]; omega)) (CvL_cons (by first | (simp [Cv, CvL, getM, gt_some]; done) | (simp [Cv, CvL, getM, gt_some]; omega)) (CvL_cons (by simp [Cv, CvL, getM, gt_some]) CvL_nil)))
        · simp only [go_sem, Nat.reduceEqDiff, Nat.reduceBEq, Nat.reduceAdd, CvH, gt_some, Option.isSome_some, Option.isSome_none]
          first | exact ⟨CvB_row nr_TRegulateChannel (by first | rfl | (simp; done) | (simp; omega)) (fun _ _ _ _ => rfl), CvB_row nr_TRegulateBlock (by first | rfl | (simp; done) | (simp; omega)) (fun _ _ _ _ => rfl), CvB_row nr_i64 (by first | rfl | (simp; done) | (simp; omega)) (fun _ _ _ _ => rfl), CvB_row nr_TRegulateWord (by first | rfl | (simp; done) | (simp; omega)) (fun _ _ _ _ => rfl)⟩ | trivial
      replace H := cond_f hg14 H
      cases H
    replace H := cond_f hq3 H
    simp only [go_sem, Nat.reduceLeDiff, Nat.reduceLT, Nat.reduceAdd, Nat.reduceMul, Nat.reduceSub, Nat.reduceEqDiff, Nat.reduceBEq, Int.reduceToNat, reduceCtorEq, hq3, cond_true, cond_false, rnm, rnmL, rnmB, rnmH, rhoN]
    refine seqM ?_
    refine sq ctNo_ok ?_
    simp only [go_sem, Nat.reduceLeDiff, Nat.reduceLT, Nat.reduceAdd, Nat.reduceMul, Nat.reduceSub, Nat.reduceEqDiff, Nat.reduceBEq, Int.reduceToNat, reduceCtorEq]
    refine condM rfl trivial (fun hc => ?_) (fun hc => ?_)
    · replace H := cond_t hc H
      refine sq ctNo_ok ?_
      simp only [go_sem, Nat.reduceLeDiff, Nat.reduceLT, Nat.reduceAdd, Nat.reduceMul, Nat.reduceSub, Nat.reduceEqDiff, Nat.reduceBEq, Int.reduceToNat, reduceCtorEq]
      repeat ((with_reducible refine And.intro ?_ ?_); focus (first | (with_reducible trivial) | omega | grind))
      refine rg ctNo_ok ?_
      simp only [go_sem, Nat.reduceLeDiff, Nat.reduceLT, Nat.reduceAdd, Nat.reduceMul, Nat.reduceSub, Nat.reduceEqDiff, Nat.reduceBEq, Int.reduceToNat, reduceCtorEq]
      obtain rfl := Option.some.inj H
      refine RetE_mk [] [none, none, none, none] ?_ ?_ ?_ ?_ (by rfl) (by rfl)
      · simp only [go_sem, Nat.reduceEqDiff, Nat.reduceBEq, Nat.reduceAdd]
        try (and_intros <;> first | (with_reducible trivial) | omega | exact nfc | trivial)
      · simp only [go_sem, Nat.reduceEqDiff, Nat.reduceBEq, Nat.reduceAdd]
        try (and_intros <;> first | (with_reducible trivial) | omega | exact nfc | trivial)
      · simp only [go_sem, Nat.reduceEqDiff, Nat.reduceBEq, Nat.reduceAdd]
        exact Cv_tup (CvL_cons (by first | (simp [Cv, CvL, getM, gt_some]; done) | (simp [Cv, CvL, getM, gt_some]; omega)) (CvL_cons (by first | (simp [Cv, CvL, getM, gt_some]; done) | (simp [Cv, CvL, getM, gt_some]; omega)) (CvL_cons (by simp [Cv, CvL, getM, gt_some]) CvL_nil)))
      · simp only [go_sem, Nat.reduceEqDiff, Nat.reduceBEq, Nat.reduceAdd, CvH, gt_some, Option.isSome_some, Option.isSome_none]
        first | exact ⟨CvB_none, CvB_none, CvB_none, CvB_none⟩ | trivial
    replace H := cond_f hc H
    refine rg ctNo_ok ?_
    simp only [go_sem, Nat.reduceLeDiff, Nat.reduceLT, Nat.reduceAdd, Nat.reduceMul, Nat.reduceSub, Nat.reduceEqDiff, Nat.reduceBEq, Int.reduceToNat, reduceCtorEq]
    refine seqM ?_
    refine seqM ?_
    obtain ⟨r18, e19, H⟩ := bsi H
    refine rg ct36t1_ok ?_
    simp only [go_sem, Nat.reduceLeDiff, Nat.reduceLT, Nat.reduceAdd, Nat.reduceMul, Nat.reduceSub, Nat.reduceEqDiff, Nat.reduceBEq, Int.reduceToNat, reduceCtorEq, ct36t1_44, body44, e19]
    repeat ((with_reducible refine And.intro ?_ ?_); focus (first | (and_intros <;> first | (with_reducible trivial) | omega | assumption | exact nfc | first | exact rfl | exact trivial | exact fitI | exact .inr rfl | exact .inl rfl | exact fun x hx => absurd hx (by omega)) | grind))
    refine condM rfl trivial (fun hc => ?_) (fun hc => ?_)
    · replace H := cond_t hc H
      refine sq ctNo_ok ?_
      simp only [go_sem, Nat.reduceLeDiff, Nat.reduceLT, Nat.reduceAdd, Nat.reduceMul, Nat.reduceSub, Nat.reduceEqDiff, Nat.reduceBEq, Int.reduceToNat, reduceCtorEq]
      repeat ((with_reducible refine And.intro ?_ ?_); focus (first | (with_reducible trivial) | omega | grind))
      refine rg ctNo_ok ?_
      simp only [go_sem, Nat.reduceLeDiff, Nat.reduceLT, Nat.reduceAdd, Nat.reduceMul, Nat.reduceSub, Nat.reduceEqDiff, Nat.reduceBEq, Int.reduceToNat, reduceCtorEq]
      obtain rfl := Option.some.inj H
      refine RetE_mk [] [none, none, none, none] ?_ ?_ ?_ ?_ (by rfl) (by rfl)
      · simp only [go_sem, Nat.reduceEqDiff, Nat.reduceBEq, Nat.reduceAdd]
        try (and_intros <;> first | (with_reducible trivial) | omega | exact nfc | trivial)
      · simp only [go_sem, Nat.reduceEqDiff, Nat.reduceBEq, Nat.reduceAdd]
        try (and_intros <;> first | (with_reducible trivial) | omega | exact nfc | trivial)
      · simp only [go_sem, Nat.reduceEqDiff, Nat.reduceBEq, Nat.reduceAdd]
        exact Cv_tup (CvL_cons (by first | (simp [Cv, CvL, getM, gt_some]; done) | (simp [Cv, CvL, getM, gt_some]; omega)) (CvL_cons (by first | (simp [Cv, CvL, getM, gt_some]; done) | (simp [Cv, CvL, getM, gt_some]; omega)) (CvL_cons (by simp [Cv, CvL, getM, gt_some]) CvL_nil)))
      · simp only [go_sem, Nat.reduceEqDiff, Nat.reduceBEq, Nat.reduceAdd, CvH, gt_some, Option.isSome_some, Option.isSome_none]
        first | exact ⟨CvB_none, CvB_none, CvB_none, CvB_none⟩ | trivial
    replace H := cond_f hc H
    refine rg ctNo_ok ?_
    simp only [go_sem, Nat.reduceLeDiff, Nat.reduceLT, Nat.reduceAdd, Nat.reduceMul, Nat.reduceSub, Nat.reduceEqDiff, Nat.reduceBEq, Int.reduceToNat, reduceCtorEq]
    refine seqM ?_
    refine bif_split (c := bEq p1.Kind 1) (fun hg20 => ?_) (fun hg20 => ?_)
    · replace H := cond_t hg20 H
      refine draw_rule shT_ok ct36t2_ok 1 (by kernel_rfl) (by kernel_rfl) ?_
      intro an han
      simp only [d_nil, d_cons, nxtD, xrD, xoD, roEq, minL, List.append_nil, refsOp, refs, refsL, mask, maskF, place, placeF, okLog, pairOk, hit, inL, slotsF, ren, renL, rnN, nrH, nrB, nrL, nr, dead0, deadS, List.replicate_zero, List.replicate_succ, Nat.sub_self, Nat.add_zero, Nat.zero_add, Nat.reduceSub, Nat.not_lt_zero, Nat.zero_le, Nat.lt_add_one, go_sem, Nat.reduceLeDiff, Nat.reduceLT, Nat.reduceAdd, Nat.reduceMul, Nat.reduceSub, Nat.reduceEqDiff, Nat.reduceBEq, Int.reduceToNat, reduceCtorEq, ct36t2_79, lk79, has79, hg20]
      repeat ((with_reducible refine And.intro ?_ ?_); focus (and_intros <;> first | (with_reducible trivial) | (show anB _ _ _ = true; subst han; kernel_rfl) | (show (anB _ _ _ && _) = true; subst han; kernel_rfl) | omega | assumption | exact nrc | exact nfc | first | exact rfl | exact trivial | exact fitI | exact .inr rfl | exact .inl rfl | exact fun x hx => absurd hx (by omega)))
      refine seqM ?_
      refine seqM ?_
      cases H
    replace H := cond_f hg20 H
    refine bif_split (c := bEq p1.Kind 2) (fun hg21 => ?_) (fun hg21 => ?_)
    · replace H := cond_t hg21 H
      refine draw_rule shT_ok ct36t2_ok 1 (by kernel_rfl) (by kernel_rfl) ?_
      intro an han
      simp only [d_nil, d_cons, nxtD, xrD, xoD, roEq, minL, List.append_nil, refsOp, refs, refsL, mask, maskF, place, placeF, okLog, pairOk, hit, inL, slotsF, ren, renL, rnN, nrH, nrB, nrL, nr, dead0, deadS, List.replicate_zero, List.replicate_succ, Nat.sub_self, Nat.add_zero, Nat.zero_add, Nat.reduceSub, Nat.not_lt_zero, Nat.zero_le, Nat.lt_add_one, go_sem, Nat.reduceLeDiff, Nat.reduceLT, Nat.reduceAdd, Nat.reduceMul, Nat.reduceSub, Nat.reduceEqDiff, Nat.reduceBEq, Int.reduceToNat, reduceCtorEq, ct36t2_79, lk79, has79, hg20, hg21]
      repeat ((with_reducible refine And.intro ?_ ?_); focus (and_intros <;> first | (with_reducible trivial) | (show anB _ _ _ = true; subst han; kernel_rfl) | (show (anB _ _ _ && _) = true; subst han; kernel_rfl) | omega | assumption | exact nrc | exact nfc | first | exact rfl | exact trivial | exact fitI | exact .inr rfl | exact .inl rfl | exact fun x hx => absurd hx (by omega)))
      refine seqM ?_
      refine seqM ?_
      cases H
    replace H := cond_f hg21 H
    refine bif_split (c := bEq p1.Kind 3) (fun hg22 => ?_) (fun hg22 => ?_)
    · replace H := cond_t hg22 H
      refine draw_rule shT_ok ct36t2_ok 1 (by kernel_rfl) (by kernel_rfl) ?_
      intro an han
      simp only [d_nil, d_cons, nxtD, xrD, xoD, roEq, minL, List.append_nil, refsOp, refs, refsL, mask, maskF, place, placeF, okLog, pairOk, hit, inL, slotsF, ren, renL, rnN, nrH, nrB, nrL, nr, dead0, deadS, List.replicate_zero, List.replicate_succ, Nat.sub_self, Nat.add_zero, Nat.zero_add, Nat.reduceSub, Nat.not_lt_zero, Nat.zero_le, Nat.lt_add_one, go_sem, Nat.reduceLeDiff, Nat.reduceLT, Nat.reduceAdd, Nat.reduceMul, Nat.reduceSub, Nat.reduceEqDiff, Nat.reduceBEq, Int.reduceToNat, reduceCtorEq, ct36t2_79, lk79, has79, hg20, hg21, hg22]
      repeat ((with_reducible refine And.intro ?_ ?_); focus (and_intros <;> first | (with_reducible trivial) | (show anB _ _ _ = true; subst han; kernel_rfl) | (show (anB _ _ _ && _) = true; subst han; kernel_rfl) | omega | assumption | exact nrc | exact nfc | first | exact rfl | exact trivial | exact fitI | exact .inr rfl | exact .inl rfl | exact fun x hx => absurd hx (by omega)))
      refine seqM ?_
      refine seqM ?_
      cases H
    replace H := cond_f hg22 H
    cases H
  · cases hb
/-! hotspot/hotspotref45.SameWords -/
noncomputable def F39_L1 (p0 : List TRegulateWord) (p1 : List TRegulateWord) (v1_1 : Int) : Option (Lp (Int) ((Unit) ⊕ (Bool))) :=
  bif (bLt v1_1 (p0.length : Nat)) then (need (inb v1_1 p0.length) <| need (inb v1_1 p1.length) <| bif (!(bEq ((gd p0 v1_1.toNat).Kind) ((gd p1 v1_1.toNat).Kind) && (bEq ((gd p0 v1_1.toNat).Channel) ((gd p1 v1_1.toNat).Channel) && (bEq ((gd p0 v1_1.toNat).To) ((gd p1 v1_1.toNat).To) && (bEq ((gd p0 v1_1.toNat).At) ((gd p1 v1_1.toNat).At)))))) then (some (.done (.inr false))) else (some (.next (wr .i64 (v1_1 + 1))))) else (some (.done (.inl ())))
noncomputable def F39 (p0 : List TRegulateWord) (p1 : List TRegulateWord) : Option (Bool) :=
  bif (!bEq (p0.length : Nat) (p1.length : Nat)) then (some false) else (lp (loopD (fun s => F39_L1 p0 p1 s) 0) (fun e => some true) some)
noncomputable def body39 : List AV -> AR
  | [v0, v1] => .pure (lK k_TRegulateWord 4 v0 /\ lK k_TRegulateWord 4 v1 /\ (F39 (lA g_TRegulateWord v0) (lA g_TRegulateWord v1)).isSome = true) (.bool (gt (F39 (lA g_TRegulateWord v0) (lA g_TRegulateWord v1))))
  | _ => .fail
set_option maxHeartbeats 4000000 in
set_option maxRecDepth 20000 in
theorem ok39 : FnOk Try.prog 39 (pureC body39) := by
  refine pure_fnM body39 (rs := [.tmp 4]) Try.func39 (by kernel_rfl) rfl rfl ?_
  intro l ob v hb hob
  unfold body39 at hb
  split at hb
  · rename_i v0 v1
    injection hb with q1 q2; subst q1 q2
    obtain ⟨hk0_0, hk1_0, hob⟩ := hob
    obtain ⟨r, H⟩ := Option.isSome_iff_exists.1 hob
    rw [H, gt_some]
    have hw0 := lK_wk (fun r h => w_TRegulateWord h) hk0_0
    have hw1 := lK_wk (fun r h => w_TRegulateWord h) hk1_0
    generalize lA g_TRegulateWord v0 = p0 at H hw0
    generalize lA g_TRegulateWord v1 = p1 at H hw1
    refine ⟨[.ro 4 p0.length false (enR c_TRegulateWord p0), .ro 4 p1.length false (enR c_TRegulateWord p1)], _, (fun E vs F => FR_wk1 hw0.1 F (fun vs F => FR_wk1 hw1.1 F (fun vs F => F))), rfl, rfl, ?_⟩
    rw [Try.ntmps39]
    simp only [List.length_cons, List.length_nil, Nat.reduceAdd, Nat.reduceSub, List.replicate_succ, List.replicate_zero, List.cons_append, List.nil_append]
    unfold F39 at H
    try dsimp only at H
    refine sq ctNo_ok ?_
    simp only [go_sem, Nat.reduceLeDiff, Nat.reduceLT, Nat.reduceAdd, Nat.reduceMul, Nat.reduceSub, Nat.reduceEqDiff, Nat.reduceBEq, Int.reduceToNat, reduceCtorEq]
    refine seqM ?_
    refine sq ctNo_ok ?_
    simp only [go_sem, Nat.reduceLeDiff, Nat.reduceLT, Nat.reduceAdd, Nat.reduceMul, Nat.reduceSub, Nat.reduceEqDiff, Nat.reduceBEq, Int.reduceToNat, reduceCtorEq]
    repeat ((with_reducible refine And.intro ?_ ?_); focus (first | (and_intros <;> first | (with_reducible trivial) | omega | assumption | exact nfc | first | exact rfl | exact trivial | exact fitI | exact .inr rfl | exact .inl rfl | exact fun x hx => absurd hx (by omega)) | grind))
    refine condM rfl trivial (fun hc => ?_) (fun hc => ?_)
    · replace H := cond_t hc H
      refine sq ctNo_ok ?_
      simp only [go_sem, Nat.reduceLeDiff, Nat.reduceLT, Nat.reduceAdd, Nat.reduceMul, Nat.reduceSub, Nat.reduceEqDiff, Nat.reduceBEq, Int.reduceToNat, reduceCtorEq]
      refine rg ctNo_ok ?_
      simp only [go_sem, Nat.reduceLeDiff, Nat.reduceLT, Nat.reduceAdd, Nat.reduceMul, Nat.reduceSub, Nat.reduceEqDiff, Nat.reduceBEq, Int.reduceToNat, reduceCtorEq]
      obtain rfl := Option.some.inj H
      first | rfl | simp only [Bool.and_false, Bool.false_and, Bool.and_true, Bool.true_and]
    replace H := cond_f hc H
    refine rg ctNo_ok ?_
    simp only [go_sem, Nat.reduceLeDiff, Nat.reduceLT, Nat.reduceAdd, Nat.reduceMul, Nat.reduceSub, Nat.reduceEqDiff, Nat.reduceBEq, Int.reduceToNat, reduceCtorEq]
    refine seqM ?_
    refine sq ctNo_ok ?_
    simp only [go_sem, Nat.reduceLeDiff, Nat.reduceLT, Nat.reduceAdd, Nat.reduceMul, Nat.reduceSub, Nat.reduceEqDiff, Nat.reduceBEq, Int.reduceToNat, reduceCtorEq]
    refine blkM ?_
    refine loop_den (fun s : Int => (.ro 4 p0.length false (enR c_TRegulateWord p0) :: .ro 4 p1.length false (enR c_TRegulateWord p1) :: .top :: .top :: .top :: .int .i64 s :: tp 20 [])) (fun s => []) (fun e : Unit => (tp 26 [])) (fun e => []) H ?_ (fun v1_1 o H hn1_1 hn2_1 => ?_) (fun e H => ?_)
    · refine SubF_of ⟨[], ?_, ?_, by rfl, by rfl⟩
      · simp [CvL, Cv, getM, tp]
      · trivial
    · unfold F39_L1 at H
      try dsimp only at H ⊢
      try simp only [tp]
      refine seqM ?_
      refine sq ctNo_ok ?_
      simp only [go_sem, Nat.reduceLeDiff, Nat.reduceLT, Nat.reduceAdd, Nat.reduceMul, Nat.reduceSub, Nat.reduceEqDiff, Nat.reduceBEq, Int.reduceToNat, reduceCtorEq]
      repeat ((with_reducible refine And.intro ?_ ?_); focus (first | (and_intros <;> first | (with_reducible trivial) | omega | assumption | exact nfc | first | exact rfl | exact trivial | exact fitI | exact .inr rfl | exact .inl rfl | exact fun x hx => absurd hx (by omega)) | grind))
      refine condM' rfl trivial (fun hc => ?_) (fun hc => ?_)
      · replace H := cond_f hc H
        refine rg ctNo_ok ?_
        simp only [go_sem, Nat.reduceLeDiff, Nat.reduceLT, Nat.reduceAdd, Nat.reduceMul, Nat.reduceSub, Nat.reduceEqDiff, Nat.reduceBEq, Int.reduceToNat, reduceCtorEq]
        refine ⟨_, (Option.some.inj H).symm, ?_⟩
        refine SubF_of ⟨[], ?_, ?_, by rfl, by rfl⟩
        · simp [CvL, Cv, getM, tp]
        · trivial
      replace H := cond_t hc H
      refine rg ctNo_ok ?_
      simp only [go_sem, Nat.reduceLeDiff, Nat.reduceLT, Nat.reduceAdd, Nat.reduceMul, Nat.reduceSub, Nat.reduceEqDiff, Nat.reduceBEq, Int.reduceToNat, reduceCtorEq]
      refine seqM ?_
      refine blkM ?_
      refine seqM ?_
      obtain ⟨f1, H⟩ := need_some.1 H
      replace f1 := inb_iff.1 f1
      obtain ⟨f2, H⟩ := need_some.1 H
      replace f2 := inb_iff.1 f2
      refine draw_quiet shT_ok ctNo_ok (by kernel_rfl) (by kernel_rfl) ?_
      simp only [go_sem, Nat.reduceLeDiff, Nat.reduceLT, Nat.reduceAdd, Nat.reduceMul, Nat.reduceSub, Nat.reduceEqDiff, Nat.reduceBEq, Int.reduceToNat, reduceCtorEq, f1, f2]
      repeat ((with_reducible refine And.intro ?_ ?_); focus (first | (with_reducible trivial) | omega | grind))
      refine condM rfl trivial (fun hc => ?_) (fun hc => ?_)
      · replace H := cond_t hc H
        refine sq ctNo_ok ?_
        simp only [go_sem, Nat.reduceLeDiff, Nat.reduceLT, Nat.reduceAdd, Nat.reduceMul, Nat.reduceSub, Nat.reduceEqDiff, Nat.reduceBEq, Int.reduceToNat, reduceCtorEq]
        refine rg ctNo_ok ?_
        simp only [go_sem, Nat.reduceLeDiff, Nat.reduceLT, Nat.reduceAdd, Nat.reduceMul, Nat.reduceSub, Nat.reduceEqDiff, Nat.reduceBEq, Int.reduceToNat, reduceCtorEq]
        have H := hn2_1 _ (Option.some.inj H).symm
        obtain rfl := Option.some.inj H
        first | rfl | simp only [Bool.and_false, Bool.false_and, Bool.and_true, Bool.true_and]
      replace H := cond_f hc H
      refine rg ctNo_ok ?_
      simp only [go_sem, Nat.reduceLeDiff, Nat.reduceLT, Nat.reduceAdd, Nat.reduceMul, Nat.reduceSub, Nat.reduceEqDiff, Nat.reduceBEq, Int.reduceToNat, reduceCtorEq]
      refine rg ctNo_ok ?_
      simp only [go_sem, Nat.reduceLeDiff, Nat.reduceLT, Nat.reduceAdd, Nat.reduceMul, Nat.reduceSub, Nat.reduceEqDiff, Nat.reduceBEq, Int.reduceToNat, reduceCtorEq]
      refine ⟨_, (Option.some.inj H).symm, ?_⟩
      refine SubF_of ⟨[], ?_, ?_, by rfl, by rfl⟩
      · simp [CvL, Cv, getM, tp]
      · trivial
    · try dsimp only at H ⊢
      try simp only [tp]
      try simp only [m_normal, k_normal, b_normal, kL_normal, r_normal]
      refine sq ctNo_ok ?_
      simp only [go_sem, Nat.reduceLeDiff, Nat.reduceLT, Nat.reduceAdd, Nat.reduceMul, Nat.reduceSub, Nat.reduceEqDiff, Nat.reduceBEq, Int.reduceToNat, reduceCtorEq]
      refine rg ctNo_ok ?_
      simp only [go_sem, Nat.reduceLeDiff, Nat.reduceLT, Nat.reduceAdd, Nat.reduceMul, Nat.reduceSub, Nat.reduceEqDiff, Nat.reduceBEq, Int.reduceToNat, reduceCtorEq]
      obtain rfl := Option.some.inj H
      first | rfl | simp only [Bool.and_false, Bool.false_and, Bool.and_true, Bool.true_and]
  · cases hb
/-! hotspot/hotspotlaw45.alive -/
noncomputable def ct15t0 : Ct := tab [(25, edC body25), (43, edC body43)]
theorem ct15t0_ok : CtOk Try.prog ct15t0 := tab_cons ok25 <| tab_cons ok43 <| tab_nil
theorem ct15t0_25 (l : List AV) (h : List ABlk) : ct15t0 25 l h = edC body25 l h := rfl
theorem ct15t0_43 (l : List AV) (h : List ABlk) : ct15t0 43 l h = edC body43 l h := rfl
noncomputable def ct15t1 : Ct := tab [(22, edC body22)]
theorem ct15t1_ok : CtOk Try.prog ct15t1 := tab_cons ok22 <| tab_nil
theorem ct15t1_22 (l : List AV) (h : List ABlk) : ct15t1 22 l h = edC body22 l h := rfl
noncomputable def ct15t2 : Ct := tab [(39, pureC body39)]
theorem ct15t2_ok : CtOk Try.prog ct15t2 := tab_cons ok39 <| tab_nil
theorem ct15t2_39 (l : List AV) (h : List ABlk) : ct15t2 39 l h = pureC body39 l h := rfl
noncomputable def F15 : Option (Bool) :=
  (F43).bind fun r1 => (F25 r1 1 true 0).bind fun r3 => (F22 (TRegulate.mk r3.1.Table r3.1.Channel r3.1.Lead r3.1.Heard r3.1.Stopped r3.1.Moving r3.1.To r3.1.At r3.1.Blocked r3.1.Clear) 1 1000).bind fun r5 => (some [(TRegulateWord.mk 1 1 11 151000)]).bind fun w7 => need (bif ((bEq r3.2 0) && (bEq r5.2.2 0)) then ((F39 r5.2.1 w7).isSome) else true) <| need (bif (((((((bEq r3.2 0) && (bEq r5.2.2 0)) && (gt (F39 r5.2.1 w7))) && r5.1.Stopped) && r5.1.Moving) && (bEq r5.1.To 11)) && (bEq (r5.1.Blocked.length : Nat) 1)) then inb 0 r5.1.Blocked.length else true) <| some ((((((((bEq r3.2 0) && (bEq r5.2.2 0)) && (gt (F39 r5.2.1 w7))) && r5.1.Stopped) && r5.1.Moving) && (bEq r5.1.To 11)) && (bEq (r5.1.Blocked.length : Nat) 1)) && (bEq ((gd r5.1.Blocked 0).Channel) 1 && (bEq ((gd r5.1.Blocked 0).Until) 1800001000)))
noncomputable def body15 : List AV -> AR
  | [] => .pure ((F15).isSome = true) (.bool (gt F15))
  | _ => .fail
set_option maxHeartbeats 4000000 in
set_option maxRecDepth 20000 in
theorem ok15 : FnOk Try.prog 15 (pureC body15) := by
  refine pure_fnM body15 (rs := [.tmp 0]) Try.func15 (by kernel_rfl) rfl rfl ?_
  intro l ob v hb hob
  unfold body15 at hb
  split at hb
  · injection hb with q1 q2; subst q1 q2
    obtain ⟨r, H⟩ := Option.isSome_iff_exists.1 hob
    rw [H, gt_some]
    refine ⟨[], _, (fun E vs F => F), rfl, rfl, ?_⟩
    rw [Try.ntmps15]
    simp only [List.length_cons, List.length_nil, Nat.reduceAdd, Nat.reduceSub, List.replicate_succ, List.replicate_zero, List.cons_append, List.nil_append]
    unfold F15 at H
    try dsimp only at H
    refine sq ctNo_ok ?_
    simp only [go_sem, Nat.reduceLeDiff, Nat.reduceLT, Nat.reduceAdd, Nat.reduceMul, Nat.reduceSub, Nat.reduceEqDiff, Nat.reduceBEq, Int.reduceToNat, reduceCtorEq]
    refine seqM ?_
    obtain ⟨r1, e2, H⟩ := bsi H
    obtain ⟨r3, e4, H⟩ := bsi H
    refine rg ct15t0_ok ?_
    simp only [go_sem, Nat.reduceLeDiff, Nat.reduceLT, Nat.reduceAdd, Nat.reduceMul, Nat.reduceSub, Nat.reduceEqDiff, Nat.reduceBEq, Int.reduceToNat, reduceCtorEq, ct15t0_25, body25, ct15t0_43, body43, e2, e4]
    repeat ((with_reducible refine And.intro ?_ ?_); focus (first | (and_intros <;> first | (with_reducible trivial) | omega | assumption | exact nfc | first | exact rfl | exact trivial | exact fitI | exact .inr rfl | exact .inl rfl | exact fun x hx => absurd hx (by omega)) | grind))
    refine seqM ?_
    obtain ⟨r5, e6, H⟩ := bsi H
    refine rg ct15t1_ok ?_
    simp only [go_sem, Nat.reduceLeDiff, Nat.reduceLT, Nat.reduceAdd, Nat.reduceMul, Nat.reduceSub, Nat.reduceEqDiff, Nat.reduceBEq, Int.reduceToNat, reduceCtorEq, ct15t1_22, body22, e6]
    repeat ((with_reducible refine And.intro ?_ ?_); focus (first | (and_intros <;> first | (with_reducible trivial) | omega | assumption | exact nfc | first | exact rfl | exact trivial | exact fitI | exact .inr rfl | exact .inl rfl | exact fun x hx => absurd hx (by omega)) | grind))
    refine sq ctNo_ok ?_
    simp only [go_sem, Nat.reduceLeDiff, Nat.reduceLT, Nat.reduceAdd, Nat.reduceMul, Nat.reduceSub, Nat.reduceEqDiff, Nat.reduceBEq, Int.reduceToNat, reduceCtorEq]
    refine seqM ?_
    obtain ⟨w7, hw8, H⟩ := bsi H
    replace hw8 := Option.some.inj hw8
    have lhw8 : w7.length = 1 := by rw [← hw8]; exact (by first | rfl | (simp; done) | (simp; omega))
    refine subF_mean (t2 := (.bool false :: .ptr 4 0 0 0 :: .int .i64 r3.2 :: .ptr 9 0 0 0 :: .sl 8 4 0 r5.2.1.length false :: .int .i64 r5.2.2 :: .sl 10 4 0 w7.length false :: .tup [.agg [.sl 1 3 0 r3.1.Table.length false, .int .i64 r3.1.Channel, .bool r3.1.Lead, .int .i64 r3.1.Heard, .bool r3.1.Stopped, .bool r3.1.Moving, .int .i64 r3.1.To, .int .i64 r3.1.At, .sl 2 2 0 r3.1.Blocked.length false, .sl 3 1 0 r3.1.Clear.length false], .int .i64 r3.2] :: .sl 0 3 0 r1.length false :: .tup [.agg [.sl 1 3 0 r3.1.Table.length false, .int .i64 r3.1.Channel, .bool r3.1.Lead, .int .i64 r3.1.Heard, .bool r3.1.Stopped, .bool r3.1.Moving, .int .i64 r3.1.To, .int .i64 r3.1.At, .sl 2 2 0 r3.1.Blocked.length false, .sl 3 1 0 r3.1.Clear.length false], .int .i64 r3.2] :: .agg [.sl 1 3 0 r3.1.Table.length false, .int .i64 r3.1.Channel, .bool r3.1.Lead, .int .i64 r3.1.Heard, .bool r3.1.Stopped, .bool r3.1.Moving, .int .i64 r3.1.To, .int .i64 r3.1.At, .sl 2 2 0 r3.1.Blocked.length false, .sl 3 1 0 r3.1.Clear.length false] :: .int .i64 r3.2 :: .tup [.agg [.sl 5 3 0 r5.1.Table.length false, .int .i64 r5.1.Channel, .bool r5.1.Lead, .int .i64 r5.1.Heard, .bool r5.1.Stopped, .bool r5.1.Moving, .int .i64 r5.1.To, .int .i64 r5.1.At, .sl 6 2 0 r5.1.Blocked.length false, .sl 7 1 0 r5.1.Clear.length false], .sl 8 4 0 r5.2.1.length false, .int .i64 r5.2.2] :: .agg [.sl 1 3 0 r3.1.Table.length false, .int .i64 r3.1.Channel, .bool r3.1.Lead, .int .i64 r3.1.Heard, .bool r3.1.Stopped, .bool r3.1.Moving, .int .i64 r3.1.To, .int .i64 r3.1.At, .sl 2 2 0 r3.1.Blocked.length false, .sl 3 1 0 r3.1.Clear.length false] :: .tup [.agg [.sl 5 3 0 r5.1.Table.length false, .int .i64 r5.1.Channel, .bool r5.1.Lead, .int .i64 r5.1.Heard, .bool r5.1.Stopped, .bool r5.1.Moving, .int .i64 r5.1.To, .int .i64 r5.1.At, .sl 6 2 0 r5.1.Blocked.length false, .sl 7 1 0 r5.1.Clear.length false], .sl 8 4 0 r5.2.1.length false, .int .i64 r5.2.2] :: .agg [.sl 5 3 0 r5.1.Table.length false, .int .i64 r5.1.Channel, .bool r5.1.Lead, .int .i64 r5.1.Heard, .bool r5.1.Stopped, .bool r5.1.Moving, .int .i64 r5.1.To, .int .i64 r5.1.At, .sl 6 2 0 r5.1.Blocked.length false, .sl 7 1 0 r5.1.Clear.length false] :: .sl 8 4 0 r5.2.1.length false :: .int .i64 r5.2.2 :: .agg [.int .u8 1, .int .i64 1, .int .i64 11, .int .i64 151000] :: .sl 10 4 0 w7.length false :: tp 38 [])) (h2 := [.row 45 3 r1.length (enR c_TRegulateChannel r1), .row 45 3 r3.1.Table.length (enR c_TRegulateChannel r3.1.Table), .row 79 2 r3.1.Blocked.length (enR c_TRegulateBlock r3.1.Blocked), .row 3 1 r3.1.Clear.length (enR c_i64 r3.1.Clear), .lit 39 [.sl 1 3 0 r3.1.Table.length false, .int .i64 r3.1.Channel, .bool r3.1.Lead, .int .i64 r3.1.Heard, .bool r3.1.Stopped, .bool r3.1.Moving, .int .i64 r3.1.To, .int .i64 r3.1.At, .sl 2 2 0 r3.1.Blocked.length false, .sl 3 1 0 r3.1.Clear.length false], .row 45 3 r5.1.Table.length (enR c_TRegulateChannel r5.1.Table), .row 79 2 r5.1.Blocked.length (enR c_TRegulateBlock r5.1.Blocked), .row 3 1 r5.1.Clear.length (enR c_i64 r5.1.Clear), .row 23 4 r5.2.1.length (enR c_TRegulateWord r5.2.1), .lit 39 [.sl 5 3 0 r5.1.Table.length false, .int .i64 r5.1.Channel, .bool r5.1.Lead, .int .i64 r5.1.Heard, .bool r5.1.Stopped, .bool r5.1.Moving, .int .i64 r5.1.To, .int .i64 r5.1.At, .sl 6 2 0 r5.1.Blocked.length false, .sl 7 1 0 r5.1.Clear.length false], .row 23 4 w7.length (enR c_TRegulateWord w7)]) ?_ ?_
    · refine SubF_of ⟨[some 0, some 1, some 2, some 3, some 4, some 5, some 6, some 7, some 8, some 9, some 10], ?_, ?_, by rfl, by rfl⟩
      · simp [CvL, Cv, getM, tp, lhw8]
      · exact ⟨CvB_row nr_TRegulateChannel rfl (fun _ _ _ _ => rfl), CvB_row nr_TRegulateChannel rfl (fun _ _ _ _ => rfl), CvB_row nr_TRegulateBlock rfl (fun _ _ _ _ => rfl), CvB_row nr_i64 rfl (fun _ _ _ _ => rfl), (by simp [CvB, CvL, Cv, blkAt, geth, getM, lhw8]), CvB_row nr_TRegulateChannel rfl (fun _ _ _ _ => rfl), CvB_row nr_TRegulateBlock rfl (fun _ _ _ _ => rfl), CvB_row nr_i64 rfl (fun _ _ _ _ => rfl), CvB_row nr_TRegulateWord rfl (fun _ _ _ _ => rfl), (by simp [CvB, CvL, Cv, blkAt, geth, getM, lhw8]), CvB_row nr_TRegulateWord lhw8 (hw8 ▸ (lit_row (f := c_TRegulateWord) [(TRegulateWord.mk 1 1 11 151000)] (fun _ _ => rfl) rfl)), trivial⟩
    simp only [tp]
    obtain ⟨f9, H⟩ := need_some.1 H
    replace f9 := g_iff.1 f9
    obtain ⟨f10, H⟩ := need_some.1 H
    replace f10 := g_iff.1 f10
    replace f10 := fun g => inb_iff.1 (f10 g)
    refine rg ct15t2_ok ?_
    simp only [go_sem, Nat.reduceLeDiff, Nat.reduceLT, Nat.reduceAdd, Nat.reduceMul, Nat.reduceSub, Nat.reduceEqDiff, Nat.reduceBEq, Int.reduceToNat, reduceCtorEq, ct15t2_39, body39]
    repeat ((with_reducible refine And.intro ?_ ?_); focus (first | (with_reducible trivial) | omega | exact f9 | exact f10 | (intro g; have q := f9 (by first | exact g | (rw [g]; rfl) | simpa using g); first | exact q | exact ⟨q.1, q.2.1⟩ | exact q.2.2 | omega | exact ⟨g, q⟩ | exact ⟨trivial, q⟩ | exact ⟨g, q.1, q.2.1⟩ | exact ⟨g, q.2.2⟩) | (intro g; have q := f10 (by first | exact g | (rw [g]; rfl) | simpa using g); first | exact q | exact ⟨q.1, q.2.1⟩ | exact q.2.2 | omega | exact ⟨g, q⟩ | exact ⟨trivial, q⟩ | exact ⟨g, q.1, q.2.1⟩ | exact ⟨g, q.2.2⟩) | (intro g; (try have q0 := f9 (by first | exact g | (rw [g]; rfl) | simpa using g)); (try have q1 := f10 (by first | exact g | (rw [g]; rfl) | simpa using g)); and_intros <;> first | (with_reducible trivial) | assumption | exact nfc | (intro g2; rw [g, g2]; rfl) | (intro g2; assumption) | (simp only [g, Bool.true_and, Bool.and_true, Bool.not_false, Bool.not_true]; assumption) | grind) | (and_intros <;> first | (with_reducible trivial) | omega | assumption | exact nfc | first | exact rfl | exact trivial | exact fitI | exact .inr rfl | exact .inl rfl | exact fun x hx => absurd hx (by omega)) | grind))
    refine rg ctNo_ok ?_
    simp only [go_sem, Nat.reduceLeDiff, Nat.reduceLT, Nat.reduceAdd, Nat.reduceMul, Nat.reduceSub, Nat.reduceEqDiff, Nat.reduceBEq, Int.reduceToNat, reduceCtorEq]
    obtain rfl := Option.some.inj H
    first | rfl | simp only [Bool.and_false, Bool.false_and, Bool.and_true, Bool.true_and]
  · cases hb
/-! hotspot/hotspotlaw45.RegulateNames -/
noncomputable def ct10t0 : Ct := tab [(25, edC body25), (43, edC body43)]
theorem ct10t0_ok : CtOk Try.prog ct10t0 := tab_cons ok25 <| tab_cons ok43 <| tab_nil
theorem ct10t0_25 (l : List AV) (h : List ABlk) : ct10t0 25 l h = edC body25 l h := rfl
theorem ct10t0_43 (l : List AV) (h : List ABlk) : ct10t0 43 l h = edC body43 l h := rfl
noncomputable def ct10t1 : Ct := tab [(43, edC body43)]
theorem ct10t1_ok : CtOk Try.prog ct10t1 := tab_cons ok43 <| tab_nil
theorem ct10t1_43 (l : List AV) (h : List ABlk) : ct10t1 43 l h = edC body43 l h := rfl
noncomputable def ct10t2 : Ct := tab [(25, edC body25)]
theorem ct10t2_ok : CtOk Try.prog ct10t2 := tab_cons ok25 <| tab_nil
theorem ct10t2_25 (l : List AV) (h : List ABlk) : ct10t2 25 l h = edC body25 l h := rfl
noncomputable def ct10t3 : Ct := tab [(17, pureC body17)]
theorem ct10t3_ok : CtOk Try.prog ct10t3 := tab_cons ok17 <| tab_nil
theorem ct10t3_17 (l : List AV) (h : List ABlk) : ct10t3 17 l h = pureC body17 l h := rfl
noncomputable def ct10t4 : Ct := tab [(29, edC body29)]
theorem ct10t4_ok : CtOk Try.prog ct10t4 := tab_cons ok29 <| tab_nil
theorem ct10t4_29 (l : List AV) (h : List ABlk) : ct10t4 29 l h = edC body29 l h := rfl
noncomputable def ct10t5 : Ct := tab [(22, edC body22)]
theorem ct10t5_ok : CtOk Try.prog ct10t5 := tab_cons ok22 <| tab_nil
theorem ct10t5_22 (l : List AV) (h : List ABlk) : ct10t5 22 l h = edC body22 l h := rfl
noncomputable def ct10t6 : Ct := tab [(36, edC body36)]
theorem ct10t6_ok : CtOk Try.prog ct10t6 := tab_cons ok36 <| tab_nil
theorem ct10t6_36 (l : List AV) (h : List ABlk) : ct10t6 36 l h = edC body36 l h := rfl
noncomputable def ct10t7 : Ct := tab [(15, pureC body15)]
theorem ct10t7_ok : CtOk Try.prog ct10t7 := tab_cons ok15 <| tab_nil
theorem ct10t7_15 (l : List AV) (h : List ABlk) : ct10t7 15 l h = pureC body15 l h := rfl
noncomputable def F10 : Option (Bool) :=
  (F43).bind fun r1 => need (slb 0 1 r1.length) <| (F25 (deR g_TRegulateChannel 1 (enR c_TRegulateChannel r1)) 1 true 0).bind fun r4 => (F43).bind fun r6 => (F25 r6 2 true 0).bind fun r8 => (F43).bind fun r10 => (F25 r10 1 true (-1)).bind fun r12 => (F43).bind fun r14 => (F25 r14 1 false 100).bind fun r16 => (F43).bind fun r18 => need (capb 24 (r18.length + 1)) <| (some [(TRegulateChannel.mk 52 300 true)]).bind fun w21 => (some (r18 ++ [(TRegulateChannel.mk 52 300 true)])).bind fun w23 => (F25 w23 52 true 0).bind fun r25 => (F17 (TRegulate.mk r25.1.Table r25.1.Channel r25.1.Lead r25.1.Heard r25.1.Stopped r25.1.Moving r25.1.To r25.1.At r25.1.Blocked r25.1.Clear) 0 0).bind fun r27 => (F29 (TRegulate.mk r25.1.Table r25.1.Channel r25.1.Lead r25.1.Heard r25.1.Stopped r25.1.Moving r25.1.To r25.1.At r25.1.Blocked r25.1.Clear) 52 0 59999999).bind fun r29 => (F29 (TRegulate.mk r25.1.Table r25.1.Channel r25.1.Lead r25.1.Heard r25.1.Stopped r25.1.Moving r25.1.To r25.1.At r25.1.Blocked r25.1.Clear) 52 0 60000000).bind fun r31 => (F17 (TRegulate.mk r31.1.Table r31.1.Channel r31.1.Lead r31.1.Heard r31.1.Stopped r31.1.Moving r31.1.To r31.1.At r31.1.Blocked r31.1.Clear) 300 60000000).bind fun r33 => (F17 (TRegulate.mk r31.1.Table r31.1.Channel r31.1.Lead r31.1.Heard r31.1.Stopped r31.1.Moving r31.1.To r31.1.At r31.1.Blocked r31.1.Clear) 301 60000000).bind fun r35 => (F22 (TRegulate.mk r31.1.Table r31.1.Channel r31.1.Lead r31.1.Heard r31.1.Stopped r31.1.Moving r31.1.To r31.1.At r31.1.Blocked r31.1.Clear) 0 60000001).bind fun r37 => (F22 (TRegulate.mk r37.1.Table r37.1.Channel r37.1.Lead r37.1.Heard r37.1.Stopped r37.1.Moving r37.1.To r37.1.At r37.1.Blocked r37.1.Clear) 0 60000002).bind fun r39 => (F29 (TRegulate.mk r37.1.Table r37.1.Channel r37.1.Lead r37.1.Heard r37.1.Stopped r37.1.Moving r37.1.To r37.1.At r37.1.Blocked r37.1.Clear) 52 60000002 120000002).bind fun r41 => (F17 (TRegulate.mk r16.1.Table r16.1.Channel r16.1.Lead r16.1.Heard r16.1.Stopped r16.1.Moving r16.1.To r16.1.At r16.1.Blocked r16.1.Clear) 0 500100).bind fun r43 => (F17 (TRegulate.mk r16.1.Table r16.1.Channel r16.1.Lead r16.1.Heard r16.1.Stopped r16.1.Moving r16.1.To r16.1.At r16.1.Blocked r16.1.Clear) 0 500101).bind fun r45 => (F36 (TRegulate.mk r16.1.Table r16.1.Channel r16.1.Lead r16.1.Heard r16.1.Stopped r16.1.Moving r16.1.To r16.1.At r16.1.Blocked r16.1.Clear) (TRegulateWord.mk 3 1 0 200) 0 300).bind fun r47 => (F36 (TRegulate.mk r47.1.Table r47.1.Channel r47.1.Lead r47.1.Heard r47.1.Stopped r47.1.Moving r47.1.To r47.1.At r47.1.Blocked r47.1.Clear) (TRegulateWord.mk 3 1 0 199) 0 300).bind fun r49 => (F36 (TRegulate.mk r47.1.Table r47.1.Channel r47.1.Lead r47.1.Heard r47.1.Stopped r47.1.Moving r47.1.To r47.1.At r47.1.Blocked r47.1.Clear) (TRegulateWord.mk 2 1 0 0) 0 300).bind fun r51 => (F36 (TRegulate.mk r47.1.Table r47.1.Channel r47.1.Lead r47.1.Heard r47.1.Stopped r47.1.Moving r47.1.To r47.1.At r47.1.Blocked r47.1.Clear) (TRegulateWord.mk 1 6 11 400) 0 300).bind fun r53 => (F36 (TRegulate.mk r47.1.Table r47.1.Channel r47.1.Lead r47.1.Heard r47.1.Stopped r47.1.Moving r47.1.To r47.1.At r47.1.Blocked r47.1.Clear) (TRegulateWord.mk 1 1 7 400) 0 300).bind fun r55 => (F36 (TRegulate.mk r47.1.Table r47.1.Channel r47.1.Lead r47.1.Heard r47.1.Stopped r47.1.Moving r47.1.To r47.1.At r47.1.Blocked r47.1.Clear) (TRegulateWord.mk 4 1 0 0) 0 300).bind fun r57 => (F15).bind fun r59 => some ((r59 && (((((((((((((((((bEq r4.2 8) && (bEq r8.2 6)) && (bEq r12.2 2)) && (bEq r16.2 0)) && (bEq r25.2 0)) && (bEq r27.2 0)) && (!r27.1)) && (bEq r29.2 40)) && (bEq r31.2 0)) && (bEq r33.2 0)) && r33.1) && (bEq r35.2 0)) && (!r35.1)) && (bEq r37.2.2 0)) && (bEq (r37.1.Clear.length : Nat) 0)) && (bEq r39.2.2 20)) && (bEq r41.2 20))) && (((((((((((bEq r43.2 0) && r43.1) && (bEq r45.2 0)) && (!r45.1)) && (bEq r47.2.2 0)) && (bEq r47.1.Heard 200)) && (bEq r49.2.2 21)) && (bEq r51.2.2 21)) && (bEq r53.2.2 21)) && (bEq r55.2.2 6)) && (bEq r57.2.2 8)))
noncomputable def body10 : List AV -> AR
  | [] => .pure ((F10).isSome = true) (.bool (gt F10))
  | _ => .fail
set_option maxHeartbeats 4000000 in
set_option maxRecDepth 20000 in
theorem ok10 : FnOk Try.prog 10 (pureC body10) := by
  refine pure_fnM body10 (rs := [.tmp 0]) Try.func10 (by kernel_rfl) rfl rfl ?_
  intro l ob v hb hob
  unfold body10 at hb
  split at hb
  · injection hb with q1 q2; subst q1 q2
    obtain ⟨r, H⟩ := Option.isSome_iff_exists.1 hob
    rw [H, gt_some]
    refine ⟨[], _, (fun E vs F => F), rfl, rfl, ?_⟩
    rw [Try.ntmps10]
    simp only [List.length_cons, List.length_nil, Nat.reduceAdd, Nat.reduceSub, List.replicate_succ, List.replicate_zero, List.cons_append, List.nil_append]
    unfold F10 at H
    try dsimp only at H
    refine sq ctNo_ok ?_
    simp only [go_sem, Nat.reduceLeDiff, Nat.reduceLT, Nat.reduceAdd, Nat.reduceMul, Nat.reduceSub, Nat.reduceEqDiff, Nat.reduceBEq, Int.reduceToNat, reduceCtorEq]
    refine seqM ?_
    obtain ⟨r1, e2, H⟩ := bsi H
    obtain ⟨f3, H⟩ := need_some.1 H
    replace f3 := slb_iff.1 f3
    obtain ⟨r4, e5, H⟩ := bsi H
    (try simp only [go_sem, Nat.reduceLeDiff, Nat.reduceLT, Nat.reduceAdd, Nat.reduceMul, Nat.reduceSub, Nat.reduceEqDiff, Nat.reduceBEq, Int.reduceToNat, reduceCtorEq] at e5)
    refine rg ct10t0_ok ?_
    simp only [go_sem, Nat.reduceLeDiff, Nat.reduceLT, Nat.reduceAdd, Nat.reduceMul, Nat.reduceSub, Nat.reduceEqDiff, Nat.reduceBEq, Int.reduceToNat, reduceCtorEq, ct10t0_25, body25, ct10t0_43, body43, e2, f3, e5]
    repeat ((with_reducible refine And.intro ?_ ?_); focus (first | (and_intros <;> first | (with_reducible trivial) | omega | assumption | exact nfc | first | exact rfl | exact trivial | exact fitI | exact .inr rfl | exact .inl rfl | exact fun x hx => absurd hx (by omega)) | grind))
    refine seqM ?_
    obtain ⟨r6, e7, H⟩ := bsi H
    obtain ⟨r8, e9, H⟩ := bsi H
    refine rg ct10t0_ok ?_
    simp only [go_sem, Nat.reduceLeDiff, Nat.reduceLT, Nat.reduceAdd, Nat.reduceMul, Nat.reduceSub, Nat.reduceEqDiff, Nat.reduceBEq, Int.reduceToNat, reduceCtorEq, ct10t0_25, body25, ct10t0_43, body43, e7, e9]
    repeat ((with_reducible refine And.intro ?_ ?_); focus (first | (and_intros <;> first | (with_reducible trivial) | omega | assumption | exact nfc | first | exact rfl | exact trivial | exact fitI | exact .inr rfl | exact .inl rfl | exact fun x hx => absurd hx (by omega)) | grind))
    refine seqM ?_
    obtain ⟨r10, e11, H⟩ := bsi H
    obtain ⟨r12, e13, H⟩ := bsi H
    refine rg ct10t0_ok ?_
    simp only [go_sem, Nat.reduceLeDiff, Nat.reduceLT, Nat.reduceAdd, Nat.reduceMul, Nat.reduceSub, Nat.reduceEqDiff, Nat.reduceBEq, Int.reduceToNat, reduceCtorEq, ct10t0_25, body25, ct10t0_43, body43, e11, e13]
    repeat ((with_reducible refine And.intro ?_ ?_); focus (first | (and_intros <;> first | (with_reducible trivial) | omega | assumption | exact nfc | first | exact rfl | exact trivial | exact fitI | exact .inr rfl | exact .inl rfl | exact fun x hx => absurd hx (by omega)) | grind))
    refine seqM ?_
    obtain ⟨r14, e15, H⟩ := bsi H
    obtain ⟨r16, e17, H⟩ := bsi H
    refine rg ct10t0_ok ?_
    simp only [go_sem, Nat.reduceLeDiff, Nat.reduceLT, Nat.reduceAdd, Nat.reduceMul, Nat.reduceSub, Nat.reduceEqDiff, Nat.reduceBEq, Int.reduceToNat, reduceCtorEq, ct10t0_25, body25, ct10t0_43, body43, e15, e17]
    repeat ((with_reducible refine And.intro ?_ ?_); focus (first | (and_intros <;> first | (with_reducible trivial) | omega | assumption | exact nfc | first | exact rfl | exact trivial | exact fitI | exact .inr rfl | exact .inl rfl | exact fun x hx => absurd hx (by omega)) | grind))
    refine seqM ?_
    obtain ⟨r18, e19, H⟩ := bsi H
    obtain ⟨f20, H⟩ := need_some.1 H
    replace f20 := capb_iff.1 f20
    refine rg ct10t1_ok ?_
    simp only [go_sem, Nat.reduceLeDiff, Nat.reduceLT, Nat.reduceAdd, Nat.reduceMul, Nat.reduceSub, Nat.reduceEqDiff, Nat.reduceBEq, Int.reduceToNat, reduceCtorEq, ct10t1_43, body43, e19, f20]
    repeat ((with_reducible refine And.intro ?_ ?_); focus (first | (and_intros <;> first | (with_reducible trivial) | omega | assumption | exact nfc | first | exact rfl | exact trivial | exact fitI | exact .inr rfl | exact .inl rfl | exact fun x hx => absurd hx (by omega) | (intro x hx; (repeat (first | (and_intros <;> (first | exact rfl | exact trivial | exact fitI | exact .inr rfl | exact .inl rfl | exact fun x hx => absurd hx (by omega))) | (exfalso; omega) | (rcases x with _ | x))); done) | (refine Fit_app ?_ ?_ <;> first | exact fitI | (intro x hx; (repeat (first | (and_intros <;> (first | exact rfl | exact trivial | exact fitI | exact .inr rfl | exact .inl rfl | exact fun x hx => absurd hx (by omega))) | (exfalso; omega) | (rcases x with _ | x))); done) | (refine Fit_app ?_ ?_ <;> first | exact fitI | (intro x hx; (repeat (first | (and_intros <;> (first | exact rfl | exact trivial | exact fitI | exact .inr rfl | exact .inl rfl | exact fun x hx => absurd hx (by omega))) | (exfalso; omega) | (rcases x with _ | x))); done)))) | grind))
    refine seqM ?_
    obtain ⟨w21, hw22, H⟩ := bsi H
    replace hw22 := Option.some.inj hw22
    have lhw22 : w21.length = 1 := by rw [← hw22]; exact (by first | rfl | (simp; done) | (simp; omega))
    obtain ⟨w23, hw24, H⟩ := bsi H
    replace hw24 := Option.some.inj hw24
    have lhw24 : w23.length = r18.length + 1 := by rw [← hw24]; exact (by first | rfl | (simp; done) | (simp; omega))
    refine subF_mean (t2 := (.bool false :: .ptr 4 0 0 0 :: .int .i64 r4.2 :: .ptr 9 0 0 0 :: .int .i64 r8.2 :: .ptr 14 0 0 0 :: .int .i64 r12.2 :: .ptr 19 0 0 0 :: .int .i64 r16.2 :: .sl 22 3 0 w23.length false :: tp 44 (.tup [.agg [.sl 1 3 0 r4.1.Table.length false, .int .i64 r4.1.Channel, .bool r4.1.Lead, .int .i64 r4.1.Heard, .bool r4.1.Stopped, .bool r4.1.Moving, .int .i64 r4.1.To, .int .i64 r4.1.At, .sl 2 2 0 r4.1.Blocked.length false, .sl 3 1 0 r4.1.Clear.length false], .int .i64 r4.2] :: .sl 0 3 0 r1.length false :: .sl 0 3 0 1 false :: .tup [.agg [.sl 1 3 0 r4.1.Table.length false, .int .i64 r4.1.Channel, .bool r4.1.Lead, .int .i64 r4.1.Heard, .bool r4.1.Stopped, .bool r4.1.Moving, .int .i64 r4.1.To, .int .i64 r4.1.At, .sl 2 2 0 r4.1.Blocked.length false, .sl 3 1 0 r4.1.Clear.length false], .int .i64 r4.2] :: .agg [.sl 1 3 0 r4.1.Table.length false, .int .i64 r4.1.Channel, .bool r4.1.Lead, .int .i64 r4.1.Heard, .bool r4.1.Stopped, .bool r4.1.Moving, .int .i64 r4.1.To, .int .i64 r4.1.At, .sl 2 2 0 r4.1.Blocked.length false, .sl 3 1 0 r4.1.Clear.length false] :: .int .i64 r4.2 :: .tup [.agg [.sl 6 3 0 r8.1.Table.length false, .int .i64 r8.1.Channel, .bool r8.1.Lead, .int .i64 r8.1.Heard, .bool r8.1.Stopped, .bool r8.1.Moving, .int .i64 r8.1.To, .int .i64 r8.1.At, .sl 7 2 0 r8.1.Blocked.length false, .sl 8 1 0 r8.1.Clear.length false], .int .i64 r8.2] :: .sl 5 3 0 r6.length false :: .tup [.agg [.sl 6 3 0 r8.1.Table.length false, .int .i64 r8.1.Channel, .bool r8.1.Lead, .int .i64 r8.1.Heard, .bool r8.1.Stopped, .bool r8.1.Moving, .int .i64 r8.1.To, .int .i64 r8.1.At, .sl 7 2 0 r8.1.Blocked.length false, .sl 8 1 0 r8.1.Clear.length false], .int .i64 r8.2] :: .agg [.sl 6 3 0 r8.1.Table.length false, .int .i64 r8.1.Channel, .bool r8.1.Lead, .int .i64 r8.1.Heard, .bool r8.1.Stopped, .bool r8.1.Moving, .int .i64 r8.1.To, .int .i64 r8.1.At, .sl 7 2 0 r8.1.Blocked.length false, .sl 8 1 0 r8.1.Clear.length false] :: .int .i64 r8.2 :: .tup [.agg [.sl 11 3 0 r12.1.Table.length false, .int .i64 r12.1.Channel, .bool r12.1.Lead, .int .i64 r12.1.Heard, .bool r12.1.Stopped, .bool r12.1.Moving, .int .i64 r12.1.To, .int .i64 r12.1.At, .sl 12 2 0 r12.1.Blocked.length false, .sl 13 1 0 r12.1.Clear.length false], .int .i64 r12.2] :: .sl 10 3 0 r10.length false :: .tup [.agg [.sl 11 3 0 r12.1.Table.length false, .int .i64 r12.1.Channel, .bool r12.1.Lead, .int .i64 r12.1.Heard, .bool r12.1.Stopped, .bool r12.1.Moving, .int .i64 r12.1.To, .int .i64 r12.1.At, .sl 12 2 0 r12.1.Blocked.length false, .sl 13 1 0 r12.1.Clear.length false], .int .i64 r12.2] :: .agg [.sl 11 3 0 r12.1.Table.length false, .int .i64 r12.1.Channel, .bool r12.1.Lead, .int .i64 r12.1.Heard, .bool r12.1.Stopped, .bool r12.1.Moving, .int .i64 r12.1.To, .int .i64 r12.1.At, .sl 12 2 0 r12.1.Blocked.length false, .sl 13 1 0 r12.1.Clear.length false] :: .int .i64 r12.2 :: .tup [.agg [.sl 16 3 0 r16.1.Table.length false, .int .i64 r16.1.Channel, .bool r16.1.Lead, .int .i64 r16.1.Heard, .bool r16.1.Stopped, .bool r16.1.Moving, .int .i64 r16.1.To, .int .i64 r16.1.At, .sl 17 2 0 r16.1.Blocked.length false, .sl 18 1 0 r16.1.Clear.length false], .int .i64 r16.2] :: .sl 15 3 0 r14.length false :: .tup [.agg [.sl 16 3 0 r16.1.Table.length false, .int .i64 r16.1.Channel, .bool r16.1.Lead, .int .i64 r16.1.Heard, .bool r16.1.Stopped, .bool r16.1.Moving, .int .i64 r16.1.To, .int .i64 r16.1.At, .sl 17 2 0 r16.1.Blocked.length false, .sl 18 1 0 r16.1.Clear.length false], .int .i64 r16.2] :: .agg [.sl 16 3 0 r16.1.Table.length false, .int .i64 r16.1.Channel, .bool r16.1.Lead, .int .i64 r16.1.Heard, .bool r16.1.Stopped, .bool r16.1.Moving, .int .i64 r16.1.To, .int .i64 r16.1.At, .sl 17 2 0 r16.1.Blocked.length false, .sl 18 1 0 r16.1.Clear.length false] :: .int .i64 r16.2 :: .sl 20 3 0 r18.length false :: .agg [.int .i64 52, .int .i64 300, .bool true] :: .sl 21 3 0 w21.length false :: .sl 22 3 0 w23.length false :: tp 217 []))) (h2 := [.row 45 3 r1.length (enR c_TRegulateChannel r1), .row 45 3 r4.1.Table.length (enR c_TRegulateChannel r4.1.Table), .row 79 2 r4.1.Blocked.length (enR c_TRegulateBlock r4.1.Blocked), .row 3 1 r4.1.Clear.length (enR c_i64 r4.1.Clear), .lit 39 [.sl 1 3 0 r4.1.Table.length false, .int .i64 r4.1.Channel, .bool r4.1.Lead, .int .i64 r4.1.Heard, .bool r4.1.Stopped, .bool r4.1.Moving, .int .i64 r4.1.To, .int .i64 r4.1.At, .sl 2 2 0 r4.1.Blocked.length false, .sl 3 1 0 r4.1.Clear.length false], .row 45 3 r6.length (enR c_TRegulateChannel r6), .row 45 3 r8.1.Table.length (enR c_TRegulateChannel r8.1.Table), .row 79 2 r8.1.Blocked.length (enR c_TRegulateBlock r8.1.Blocked), .row 3 1 r8.1.Clear.length (enR c_i64 r8.1.Clear), .lit 39 [.sl 6 3 0 r8.1.Table.length false, .int .i64 r8.1.Channel, .bool r8.1.Lead, .int .i64 r8.1.Heard, .bool r8.1.Stopped, .bool r8.1.Moving, .int .i64 r8.1.To, .int .i64 r8.1.At, .sl 7 2 0 r8.1.Blocked.length false, .sl 8 1 0 r8.1.Clear.length false], .row 45 3 r10.length (enR c_TRegulateChannel r10), .row 45 3 r12.1.Table.length (enR c_TRegulateChannel r12.1.Table), .row 79 2 r12.1.Blocked.length (enR c_TRegulateBlock r12.1.Blocked), .row 3 1 r12.1.Clear.length (enR c_i64 r12.1.Clear), .lit 39 [.sl 11 3 0 r12.1.Table.length false, .int .i64 r12.1.Channel, .bool r12.1.Lead, .int .i64 r12.1.Heard, .bool r12.1.Stopped, .bool r12.1.Moving, .int .i64 r12.1.To, .int .i64 r12.1.At, .sl 12 2 0 r12.1.Blocked.length false, .sl 13 1 0 r12.1.Clear.length false], .row 45 3 r14.length (enR c_TRegulateChannel r14), .row 45 3 r16.1.Table.length (enR c_TRegulateChannel r16.1.Table), .row 79 2 r16.1.Blocked.length (enR c_TRegulateBlock r16.1.Blocked), .row 3 1 r16.1.Clear.length (enR c_i64 r16.1.Clear), .lit 39 [.sl 16 3 0 r16.1.Table.length false, .int .i64 r16.1.Channel, .bool r16.1.Lead, .int .i64 r16.1.Heard, .bool r16.1.Stopped, .bool r16.1.Moving, .int .i64 r16.1.To, .int .i64 r16.1.At, .sl 17 2 0 r16.1.Blocked.length false, .sl 18 1 0 r16.1.Clear.length false], .dead, .row 45 3 w21.length (enR c_TRegulateChannel w21), .row 45 3 w23.length (enR c_TRegulateChannel w23)]) ?_ ?_
    · refine SubF_of ⟨[some 0, some 1, some 2, some 3, some 4, some 5, some 6, some 7, some 8, some 9, some 10, some 11, some 12, some 13, some 14, some 15, some 16, some 17, some 18, some 19, some 20, some 21, some 22], ?_, ?_, by rfl, by rfl⟩
      · simp [CvL, Cv, getM, tp, lhw22, lhw24]
      · exact ⟨CvB_row nr_TRegulateChannel rfl (fun _ _ _ _ => rfl), CvB_row nr_TRegulateChannel rfl (fun _ _ _ _ => rfl), CvB_row nr_TRegulateBlock rfl (fun _ _ _ _ => rfl), CvB_row nr_i64 rfl (fun _ _ _ _ => rfl), (by simp [CvB, CvL, Cv, blkAt, geth, getM, lhw22, lhw24]), CvB_row nr_TRegulateChannel rfl (fun _ _ _ _ => rfl), CvB_row nr_TRegulateChannel rfl (fun _ _ _ _ => rfl), CvB_row nr_TRegulateBlock rfl (fun _ _ _ _ => rfl), CvB_row nr_i64 rfl (fun _ _ _ _ => rfl), (by simp [CvB, CvL, Cv, blkAt, geth, getM, lhw22, lhw24]), CvB_row nr_TRegulateChannel rfl (fun _ _ _ _ => rfl), CvB_row nr_TRegulateChannel rfl (fun _ _ _ _ => rfl), CvB_row nr_TRegulateBlock rfl (fun _ _ _ _ => rfl), CvB_row nr_i64 rfl (fun _ _ _ _ => rfl), (by simp [CvB, CvL, Cv, blkAt, geth, getM, lhw22, lhw24]), CvB_row nr_TRegulateChannel rfl (fun _ _ _ _ => rfl), CvB_row nr_TRegulateChannel rfl (fun _ _ _ _ => rfl), CvB_row nr_TRegulateBlock rfl (fun _ _ _ _ => rfl), CvB_row nr_i64 rfl (fun _ _ _ _ => rfl), (by simp [CvB, CvL, Cv, blkAt, geth, getM, lhw22, lhw24]), CvB_dead, CvB_row nr_TRegulateChannel lhw22 (hw22 ▸ (lit_row (f := c_TRegulateChannel) [(TRegulateChannel.mk 52 300 true)] (fun _ _ => rfl) rfl)), CvB_row nr_TRegulateChannel lhw24 (hw24 ▸ (app_row (f := c_TRegulateChannel) r18 [(TRegulateChannel.mk 52 300 true)] (fun _ _ _ _ => rfl) (lit_row (f := c_TRegulateChannel) [(TRegulateChannel.mk 52 300 true)] (fun _ _ => rfl) rfl))), trivial⟩
    simp only [tp]
    obtain ⟨r25, e26, H⟩ := bsi H
    refine rg ct10t2_ok ?_
    simp only [go_sem, Nat.reduceLeDiff, Nat.reduceLT, Nat.reduceAdd, Nat.reduceMul, Nat.reduceSub, Nat.reduceEqDiff, Nat.reduceBEq, Int.reduceToNat, reduceCtorEq, ct10t2_25, body25, e26]
    repeat ((with_reducible refine And.intro ?_ ?_); focus (first | (and_intros <;> first | (with_reducible trivial) | omega | assumption | exact nfc | first | exact rfl | exact trivial | exact fitI | exact .inr rfl | exact .inl rfl | exact fun x hx => absurd hx (by omega)) | grind))
    refine seqM ?_
    obtain ⟨r27, e28, H⟩ := bsi H
    refine rg ct10t3_ok ?_
    simp only [go_sem, Nat.reduceLeDiff, Nat.reduceLT, Nat.reduceAdd, Nat.reduceMul, Nat.reduceSub, Nat.reduceEqDiff, Nat.reduceBEq, Int.reduceToNat, reduceCtorEq, ct10t3_17, body17, e28]
    repeat ((with_reducible refine And.intro ?_ ?_); focus (first | (and_intros <;> first | (with_reducible trivial) | omega | assumption | exact nfc | first | exact rfl | exact trivial | exact fitI | exact .inr rfl | exact .inl rfl | exact fun x hx => absurd hx (by omega)) | grind))
    refine seqM ?_
    obtain ⟨r29, e30, H⟩ := bsi H
    refine rg ct10t4_ok ?_
    simp only [go_sem, Nat.reduceLeDiff, Nat.reduceLT, Nat.reduceAdd, Nat.reduceMul, Nat.reduceSub, Nat.reduceEqDiff, Nat.reduceBEq, Int.reduceToNat, reduceCtorEq, ct10t4_29, body29, e30]
    repeat ((with_reducible refine And.intro ?_ ?_); focus (first | (and_intros <;> first | (with_reducible trivial) | omega | assumption | exact nfc | first | exact rfl | exact trivial | exact fitI | exact .inr rfl | exact .inl rfl | exact fun x hx => absurd hx (by omega)) | grind))
    refine seqM ?_
    obtain ⟨r31, e32, H⟩ := bsi H
    refine rg ct10t4_ok ?_
    simp only [go_sem, Nat.reduceLeDiff, Nat.reduceLT, Nat.reduceAdd, Nat.reduceMul, Nat.reduceSub, Nat.reduceEqDiff, Nat.reduceBEq, Int.reduceToNat, reduceCtorEq, ct10t4_29, body29, e32]
    repeat ((with_reducible refine And.intro ?_ ?_); focus (first | (and_intros <;> first | (with_reducible trivial) | omega | assumption | exact nfc | first | exact rfl | exact trivial | exact fitI | exact .inr rfl | exact .inl rfl | exact fun x hx => absurd hx (by omega)) | grind))
    refine seqM ?_
    obtain ⟨r33, e34, H⟩ := bsi H
    refine rg ct10t3_ok ?_
    simp only [go_sem, Nat.reduceLeDiff, Nat.reduceLT, Nat.reduceAdd, Nat.reduceMul, Nat.reduceSub, Nat.reduceEqDiff, Nat.reduceBEq, Int.reduceToNat, reduceCtorEq, ct10t3_17, body17, e34]
    repeat ((with_reducible refine And.intro ?_ ?_); focus (first | (and_intros <;> first | (with_reducible trivial) | omega | assumption | exact nfc | first | exact rfl | exact trivial | exact fitI | exact .inr rfl | exact .inl rfl | exact fun x hx => absurd hx (by omega)) | grind))
    refine seqM ?_
    obtain ⟨r35, e36, H⟩ := bsi H
    refine rg ct10t3_ok ?_
    simp only [go_sem, Nat.reduceLeDiff, Nat.reduceLT, Nat.reduceAdd, Nat.reduceMul, Nat.reduceSub, Nat.reduceEqDiff, Nat.reduceBEq, Int.reduceToNat, reduceCtorEq, ct10t3_17, body17, e36]
    repeat ((with_reducible refine And.intro ?_ ?_); focus (first | (and_intros <;> first | (with_reducible trivial) | omega | assumption | exact nfc | first | exact rfl | exact trivial | exact fitI | exact .inr rfl | exact .inl rfl | exact fun x hx => absurd hx (by omega)) | grind))
    refine seqM ?_
    obtain ⟨r37, e38, H⟩ := bsi H
    refine rg ct10t5_ok ?_
    simp only [go_sem, Nat.reduceLeDiff, Nat.reduceLT, Nat.reduceAdd, Nat.reduceMul, Nat.reduceSub, Nat.reduceEqDiff, Nat.reduceBEq, Int.reduceToNat, reduceCtorEq, ct10t5_22, body22, e38]
    repeat ((with_reducible refine And.intro ?_ ?_); focus (first | (and_intros <;> first | (with_reducible trivial) | omega | assumption | exact nfc | first | exact rfl | exact trivial | exact fitI | exact .inr rfl | exact .inl rfl | exact fun x hx => absurd hx (by omega)) | grind))
    refine seqM ?_
    obtain ⟨r39, e40, H⟩ := bsi H
    refine rg ct10t5_ok ?_
    simp only [go_sem, Nat.reduceLeDiff, Nat.reduceLT, Nat.reduceAdd, Nat.reduceMul, Nat.reduceSub, Nat.reduceEqDiff, Nat.reduceBEq, Int.reduceToNat, reduceCtorEq, ct10t5_22, body22, e40]
    repeat ((with_reducible refine And.intro ?_ ?_); focus (first | (and_intros <;> first | (with_reducible trivial) | omega | assumption | exact nfc | first | exact rfl | exact trivial | exact fitI | exact .inr rfl | exact .inl rfl | exact fun x hx => absurd hx (by omega)) | grind))
    refine seqM ?_
    obtain ⟨r41, e42, H⟩ := bsi H
    refine rg ct10t4_ok ?_
    simp only [go_sem, Nat.reduceLeDiff, Nat.reduceLT, Nat.reduceAdd, Nat.reduceMul, Nat.reduceSub, Nat.reduceEqDiff, Nat.reduceBEq, Int.reduceToNat, reduceCtorEq, ct10t4_29, body29, e42]
    repeat ((with_reducible refine And.intro ?_ ?_); focus (first | (and_intros <;> first | (with_reducible trivial) | omega | assumption | exact nfc | first | exact rfl | exact trivial | exact fitI | exact .inr rfl | exact .inl rfl | exact fun x hx => absurd hx (by omega)) | grind))
    refine sq ctNo_ok ?_
    simp (maxSteps := 3000000) only [go_sem, Nat.reduceLeDiff, Nat.reduceLT, Nat.reduceAdd, Nat.reduceMul, Nat.reduceSub, Nat.reduceEqDiff, Nat.reduceBEq, Int.reduceToNat, reduceCtorEq, List.append_eq, List.cons_append, List.nil_append, Array.toList_append, List.append_assoc]
    repeat ((with_reducible refine And.intro ?_ ?_); focus (first | (with_reducible trivial) | omega | (intro g; and_intros <;> first | (with_reducible trivial) | assumption | exact nfc | (intro g2; rw [g, g2]; rfl) | (intro g2; assumption) | (simp only [g, Bool.true_and, Bool.and_true, Bool.not_false, Bool.not_true]; assumption) | grind) | (and_intros <;> first | (with_reducible trivial) | omega | assumption | exact nfc | first | exact rfl | exact trivial | exact fitI | exact .inr rfl | exact .inl rfl | exact fun x hx => absurd hx (by omega)) | grind))
    refine seqM ?_
    obtain ⟨r43, e44, H⟩ := bsi H
    refine rg ct10t3_ok ?_
    simp only [go_sem, Nat.reduceLeDiff, Nat.reduceLT, Nat.reduceAdd, Nat.reduceMul, Nat.reduceSub, Nat.reduceEqDiff, Nat.reduceBEq, Int.reduceToNat, reduceCtorEq, ct10t3_17, body17, e44]
    repeat ((with_reducible refine And.intro ?_ ?_); focus (first | (and_intros <;> first | (with_reducible trivial) | omega | assumption | exact nfc | first | exact rfl | exact trivial | exact fitI | exact .inr rfl | exact .inl rfl | exact fun x hx => absurd hx (by omega)) | grind))
    refine seqM ?_
    obtain ⟨r45, e46, H⟩ := bsi H
    refine rg ct10t3_ok ?_
    simp only [go_sem, Nat.reduceLeDiff, Nat.reduceLT, Nat.reduceAdd, Nat.reduceMul, Nat.reduceSub, Nat.reduceEqDiff, Nat.reduceBEq, Int.reduceToNat, reduceCtorEq, ct10t3_17, body17, e46]
    repeat ((with_reducible refine And.intro ?_ ?_); focus (first | (and_intros <;> first | (with_reducible trivial) | omega | assumption | exact nfc | first | exact rfl | exact trivial | exact fitI | exact .inr rfl | exact .inl rfl | exact fun x hx => absurd hx (by omega)) | grind))
    refine seqM ?_
    obtain ⟨r47, e48, H⟩ := bsi H
    refine rg ct10t6_ok ?_
    simp only [go_sem, Nat.reduceLeDiff, Nat.reduceLT, Nat.reduceAdd, Nat.reduceMul, Nat.reduceSub, Nat.reduceEqDiff, Nat.reduceBEq, Int.reduceToNat, reduceCtorEq, ct10t6_36, body36, e48]
    repeat ((with_reducible refine And.intro ?_ ?_); focus (first | (and_intros <;> first | (with_reducible trivial) | omega | assumption | exact nfc | first | exact rfl | exact trivial | exact fitI | exact .inr rfl | exact .inl rfl | exact fun x hx => absurd hx (by omega)) | grind))
    refine seqM ?_
    obtain ⟨r49, e50, H⟩ := bsi H
    refine rg ct10t6_ok ?_
    simp only [go_sem, Nat.reduceLeDiff, Nat.reduceLT, Nat.reduceAdd, Nat.reduceMul, Nat.reduceSub, Nat.reduceEqDiff, Nat.reduceBEq, Int.reduceToNat, reduceCtorEq, ct10t6_36, body36, e50]
    repeat ((with_reducible refine And.intro ?_ ?_); focus (first | (and_intros <;> first | (with_reducible trivial) | omega | assumption | exact nfc | first | exact rfl | exact trivial | exact fitI | exact .inr rfl | exact .inl rfl | exact fun x hx => absurd hx (by omega)) | grind))
    refine seqM ?_
    obtain ⟨r51, e52, H⟩ := bsi H
    refine rg ct10t6_ok ?_
    simp only [go_sem, Nat.reduceLeDiff, Nat.reduceLT, Nat.reduceAdd, Nat.reduceMul, Nat.reduceSub, Nat.reduceEqDiff, Nat.reduceBEq, Int.reduceToNat, reduceCtorEq, ct10t6_36, body36, e52]
    repeat ((with_reducible refine And.intro ?_ ?_); focus (first | (and_intros <;> first | (with_reducible trivial) | omega | assumption | exact nfc | first | exact rfl | exact trivial | exact fitI | exact .inr rfl | exact .inl rfl | exact fun x hx => absurd hx (by omega)) | grind))
    refine seqM ?_
    obtain ⟨r53, e54, H⟩ := bsi H
    refine rg ct10t6_ok ?_
    simp only [go_sem, Nat.reduceLeDiff, Nat.reduceLT, Nat.reduceAdd, Nat.reduceMul, Nat.reduceSub, Nat.reduceEqDiff, Nat.reduceBEq, Int.reduceToNat, reduceCtorEq, ct10t6_36, body36, e54]
    repeat ((with_reducible refine And.intro ?_ ?_); focus (first | (and_intros <;> first | (with_reducible trivial) | omega | assumption | exact nfc | first | exact rfl | exact trivial | exact fitI | exact .inr rfl | exact .inl rfl | exact fun x hx => absurd hx (by omega)) | grind))
    refine seqM ?_
    obtain ⟨r55, e56, H⟩ := bsi H
    refine rg ct10t6_ok ?_
    simp only [go_sem, Nat.reduceLeDiff, Nat.reduceLT, Nat.reduceAdd, Nat.reduceMul, Nat.reduceSub, Nat.reduceEqDiff, Nat.reduceBEq, Int.reduceToNat, reduceCtorEq, ct10t6_36, body36, e56]
    repeat ((with_reducible refine And.intro ?_ ?_); focus (first | (and_intros <;> first | (with_reducible trivial) | omega | assumption | exact nfc | first | exact rfl | exact trivial | exact fitI | exact .inr rfl | exact .inl rfl | exact fun x hx => absurd hx (by omega)) | grind))
    refine seqM ?_
    obtain ⟨r57, e58, H⟩ := bsi H
    refine rg ct10t6_ok ?_
    simp only [go_sem, Nat.reduceLeDiff, Nat.reduceLT, Nat.reduceAdd, Nat.reduceMul, Nat.reduceSub, Nat.reduceEqDiff, Nat.reduceBEq, Int.reduceToNat, reduceCtorEq, ct10t6_36, body36, e58]
    repeat ((with_reducible refine And.intro ?_ ?_); focus (first | (and_intros <;> first | (with_reducible trivial) | omega | assumption | exact nfc | first | exact rfl | exact trivial | exact fitI | exact .inr rfl | exact .inl rfl | exact fun x hx => absurd hx (by omega)) | grind))
    refine sq ctNo_ok ?_
    simp only [go_sem, Nat.reduceLeDiff, Nat.reduceLT, Nat.reduceAdd, Nat.reduceMul, Nat.reduceSub, Nat.reduceEqDiff, Nat.reduceBEq, Int.reduceToNat, reduceCtorEq]
    repeat ((with_reducible refine And.intro ?_ ?_); focus (first | (with_reducible trivial) | omega | grind))
    refine seqM ?_
    obtain ⟨r59, e60, H⟩ := bsi H
    refine rg ct10t7_ok ?_
    simp only [go_sem, Nat.reduceLeDiff, Nat.reduceLT, Nat.reduceAdd, Nat.reduceMul, Nat.reduceSub, Nat.reduceEqDiff, Nat.reduceBEq, Int.reduceToNat, reduceCtorEq, ct10t7_15, body15, e60]
    repeat ((with_reducible refine And.intro ?_ ?_); focus (first | (with_reducible trivial) | omega | (intro g; and_intros <;> first | (with_reducible trivial) | assumption | exact nfc | (intro g2; rw [g, g2]; rfl) | (intro g2; assumption) | (simp only [g, Bool.true_and, Bool.and_true, Bool.not_false, Bool.not_true]; assumption) | grind) | (and_intros <;> first | (with_reducible trivial) | omega | assumption | exact nfc | first | exact rfl | exact trivial | exact fitI | exact .inr rfl | exact .inl rfl | exact fun x hx => absurd hx (by omega)) | grind))
    refine rg ctNo_ok ?_
    simp only [go_sem, Nat.reduceLeDiff, Nat.reduceLT, Nat.reduceAdd, Nat.reduceMul, Nat.reduceSub, Nat.reduceEqDiff, Nat.reduceBEq, Int.reduceToNat, reduceCtorEq]
    obtain rfl := Option.some.inj H
    first | rfl | simp only [Bool.and_false, Bool.false_and, Bool.and_true, Bool.true_and]
  · cases hb
end Go.Proofs.Ytjhkehdbjnhplaa
