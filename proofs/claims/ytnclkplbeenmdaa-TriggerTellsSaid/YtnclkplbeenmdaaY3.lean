/-
  What TriggerTells reaches.
-/
import Derived.Test.YtnclkplbeenmdaaB
namespace Go.Proofs.Ytnclkplbeenmdaa
open Go.Am
set_option linter.unusedVariables false
set_option linter.unusedSimpArgs false
attribute [local go_sem] w_skip w_label w_goto w_scope k_goto b_goto l_goto s_normal s_exit s_ret s_goto w_region w_draw w_seq w_cond w_block w_exit w_ret w_loop k_normal k_exit k_ret b_normal b_exit b_ret l_normal l_exit l_ret m_normal m_exit m_ret m_goto kL_normal kL_exit kL_ret kS_normal kS_exit kS_ret kS_goto r_normal r_ret o_nil o_cons q_nil q_cons nxt gval gvd gvl gvw dstOf evO ogOp ogC og ogL ogP ogO rho rhoO strip optOk getL setL setT absC absV absL pO hO evLoad ldB geth seth evStore stRes stB evBox evAlloc evFieldAddr evField evIndexAddr evBin2 binI binB binNR binU nilR_isEmpty nilR_t nilR_0 nilR_s evInt evStr evUn evConv cvO evPick mrg evExtract evNil evCall mapR evBuiltin evLen2 vcells vcOk atom tabF cnd retK resFin resL resA resC resCons evBuild evBuildP placeS placeA fillA fillOk putL getP nxtQ pureC_eq pureR genC_eq genR roV roL roOb roObL roW roWL roWOb roWObL nref nrefL binA binN eqSh eqRes evIndex evIndex2 evIndexS evSlice evSlice2 evSliceS evBound evConv2 cvS evAppend appRes srcOf evMake evBuildSlice repL evFn evMin evMax freshC freshR sub_enR0 evClear evClearR evCopy evCopyR lenS cutS Bool.or_false Bool.false_or Bool.or_true Bool.true_or Bool.and_false Bool.false_and Option.map_some Option.map_none Option.getD_some Option.getD_none Option.bind_some Option.bind_none Option.or_some Option.or_none Option.none_or Option.isSome_none Option.isNone_none Option.isNone_some List.nil_append List.cons_append List.append_nil cond_true cond_false List.length_cons List.length_nil beq_self_eq_true Bool.and_true Bool.true_and Bool.not_true Bool.not_false true_and and_true and_self true_implies implies_true ne_eq not_false_eq_true Bool.false_eq_true Bool.true_eq_false false_implies Nat.lt_irrefl Nat.le_refl Nat.succ_ne_self imp_self Bool.cond_false_right Bool.cond_true_left decide_true decide_false Bool.not_eq_true' Bool.not_eq_false' Bool.not_not Nat.zero_mul Nat.zero_add Nat.add_zero Nat.mul_one Nat.one_mul Bool.cond_self tsz3 tby3 tagg3 tslice3 tarr3 tzero3 tzn3 tplaces3 tint3 tstr3 tnoint3 tbool3 tany3 tintk3 tbytes3 tsz4 tby4 tagg4 tslice4 tarr4 tzero4 tzn4 tplaces4 tint4 tstr4 tnoint4 tbool4 tany4 tintk4 tbytes4 tsz5 tby5 tagg5 tslice5 tarr5 tzero5 tzn5 tplaces5 tint5 tstr5 tnoint5 tbool5 tany5 tintk5 tbytes5 tsz9 tby9 tagg9 tslice9 tarr9 tzero9 tzn9 tplaces9 tint9 tstr9 tnoint9 tbool9 tany9 tintk9 tbytes9 tsz23 tby23 tagg23 tslice23 tarr23 tzero23 tzn23 tplaces23 tint23 tstr23 tnoint23 tbool23 tany23 tintk23 tbytes23 tfld23_0 tfld23_1 tfld23_2 tsz25 tby25 tagg25 tslice25 tarr25 tzero25 tzn25 tplaces25 tint25 tstr25 tnoint25 tbool25 tany25 tintk25 tbytes25 tsz27 tby27 tagg27 tslice27 tarr27 tzero27 tzn27 tplaces27 tint27 tstr27 tnoint27 tbool27 tany27 tintk27 tbytes27 tfld27_0 tfld27_1 tfld27_2 tfld27_3 tfld27_4 tfld27_5 tfld27_6 tfld27_7 tfld27_8 tfld27_9 tfld27_10 tfld27_11 tfld27_12 tfld27_13 tfld27_14 tfld27_15 tfld27_16 tfld27_17 tfld27_18 tfld27_19 tsz28 tby28 tagg28 tslice28 tarr28 tzero28 tzn28 tplaces28 tint28 tstr28 tnoint28 tbool28 tany28 tintk28 tbytes28 tsz30 tby30 tagg30 tslice30 tarr30 tzero30 tzn30 tplaces30 tint30 tstr30 tnoint30 tbool30 tany30 tintk30 tbytes30 tfld30_0 tfld30_1 tsz31 tby31 tagg31 tslice31 tarr31 tzero31 tzn31 tplaces31 tint31 tstr31 tnoint31 tbool31 tany31 tintk31 tbytes31 tsz33 tby33 tagg33 tslice33 tarr33 tzero33 tzn33 tplaces33 tint33 tstr33 tnoint33 tbool33 tany33 tintk33 tbytes33 tfld33_0 tfld33_1 tsz36 tby36 tagg36 tslice36 tarr36 tzero36 tzn36 tplaces36 tint36 tstr36 tnoint36 tbool36 tany36 tintk36 tbytes36 tsz49 tby49 tagg49 tslice49 tarr49 tzero49 tzn49 tplaces49 tint49 tstr49 tnoint49 tbool49 tany49 tintk49 tbytes49 tsz50 tby50 tagg50 tslice50 tarr50 tzero50 tzn50 tplaces50 tint50 tstr50 tnoint50 tbool50 tany50 tintk50 tbytes50 tsz52 tby52 tagg52 tslice52 tarr52 tzero52 tzn52 tplaces52 tint52 tstr52 tnoint52 tbool52 tany52 tintk52 tbytes52 tfld52_0 tfld52_1 tfld52_2 tfld52_3 tsz53 tby53 tagg53 tslice53 tarr53 tzero53 tzn53 tplaces53 tint53 tstr53 tnoint53 tbool53 tany53 tintk53 tbytes53 tsz55 tby55 tagg55 tslice55 tarr55 tzero55 tzn55 tplaces55 tint55 tstr55 tnoint55 tbool55 tany55 tintk55 tbytes55 tsz57 tby57 tagg57 tslice57 tarr57 tzero57 tzn57 tplaces57 tint57 tstr57 tnoint57 tbool57 tany57 tintk57 tbytes57 tfld57_0 tfld57_1 tsz71 tby71 tagg71 tslice71 tarr71 tzero71 tzn71 tplaces71 tint71 tstr71 tnoint71 tbool71 tany71 tintk71 tbytes71 tfld71_0 tfld71_1 tfld71_2 tsz73 tby73 tagg73 tslice73 tarr73 tzero73 tzn73 tplaces73 tint73 tstr73 tnoint73 tbool73 tany73 tintk73 tbytes73 tfld73_0 tfld73_1 tfld73_2 tsz78 tby78 tagg78 tslice78 tarr78 tzn78 tplaces78 tint78 tstr78 tnoint78 tbool78 tany78 tintk78 tbytes78 tsz95 tby95 tagg95 tslice95 tarr95 tzero95 tzn95 tplaces95 tint95 tstr95 tnoint95 tbool95 tany95 tintk95 tbytes95 tsz98 tby98 tagg98 tslice98 tarr98 tzero98 tzn98 tplaces98 tint98 tstr98 tnoint98 tbool98 tany98 tintk98 tbytes98 tsz100 tby100 tagg100 tslice100 tarr100 tzero100 tzn100 tplaces100 tint100 tstr100 tnoint100 tbool100 tany100 tintk100 tbytes100 tsz101 tby101 tagg101 tslice101 tarr101 tzero101 tzn101 tplaces101 tint101 tstr101 tnoint101 tbool101 tany101 tintk101 tbytes101 tsz103 tby103 tagg103 tslice103 tarr103 tzero103 tzn103 tplaces103 tint103 tstr103 tnoint103 tbool103 tany103 tintk103 tbytes103 tfld103_0 tfld103_1 tsz106 tby106 tagg106 tslice106 tarr106 tzero106 tzn106 tplaces106 tint106 tstr106 tnoint106 tbool106 tany106 tintk106 tbytes106 tsz111 tby111 tagg111 tslice111 tarr111 tzero111 tzn111 tplaces111 tint111 tstr111 tnoint111 tbool111 tany111 tintk111 tbytes111 tsz112 tby112 tagg112 tslice112 tarr112 tzero112 tzn112 tplaces112 tint112 tstr112 tnoint112 tbool112 tany112 tintk112 tbytes112 tsz118 tby118 tagg118 tslice118 tarr118 tzero118 tzn118 tplaces118 tint118 tstr118 tnoint118 tbool118 tany118 tintk118 tbytes118 tsz129 tby129 tagg129 tslice129 tarr129 tzero129 tzn129 tplaces129 tint129 tstr129 tnoint129 tbool129 tany129 tintk129 tbytes129 tsz130 tby130 tagg130 tslice130 tarr130 tzero130 tzn130 tplaces130 tint130 tstr130 tnoint130 tbool130 tany130 tintk130 tbytes130 e_u8_0 fit_u8 de_u8 g_u8 k_u8 e_i64_0 fit_i64 de_i64 g_i64 k_i64 e_b_0 fit_b de_b g_b k_b e_s_0 fit_s de_s g_s k_s e_TTriggerPlan_0 e_TTriggerPlan_1 e_TTriggerPlan_2 fit_TTriggerPlan de_TTriggerPlan g_TTriggerPlan k_TTriggerPlan eta_TTriggerPlan e_A6u8_0 e_A6u8_1 e_A6u8_2 e_A6u8_3 e_A6u8_4 e_A6u8_5 fit_A6u8 de_A6u8 g_A6u8 k_A6u8 eta_A6u8 e_THeader_0 e_THeader_1 e_THeader_2 e_THeader_3 e_THeader_4 e_THeader_5 e_THeader_6 e_THeader_7 e_THeader_8 e_THeader_9 e_THeader_10 e_THeader_11 e_THeader_12 e_THeader_13 e_THeader_14 e_THeader_15 e_THeader_16 e_THeader_17 e_THeader_18 e_THeader_19 e_THeader_20 e_THeader_21 e_THeader_22 e_THeader_23 e_THeader_24 e_THeader_25 e_THeader_26 e_THeader_27 e_THeader_28 e_THeader_29 e_THeader_30 e_THeader_31 e_THeader_32 e_THeader_33 e_THeader_34 e_THeader_35 e_THeader_36 e_THeader_37 e_THeader_38 e_THeader_39 fit_THeader de_THeader g_THeader k_THeader eta_THeader e_lu8_0 fit_lu8 de_lu8 g_lu8 k_lu8 e_TFrame_0 e_TFrame_1 e_TFrame_2 e_TFrame_3 e_TFrame_4 e_TFrame_5 e_TFrame_6 e_TFrame_7 e_TFrame_8 e_TFrame_9 e_TFrame_10 e_TFrame_11 e_TFrame_12 e_TFrame_13 e_TFrame_14 e_TFrame_15 e_TFrame_16 e_TFrame_17 e_TFrame_18 e_TFrame_19 e_TFrame_20 e_TFrame_21 e_TFrame_22 e_TFrame_23 e_TFrame_24 e_TFrame_25 e_TFrame_26 e_TFrame_27 e_TFrame_28 e_TFrame_29 e_TFrame_30 e_TFrame_31 e_TFrame_32 e_TFrame_33 e_TFrame_34 e_TFrame_35 e_TFrame_36 e_TFrame_37 e_TFrame_38 e_TFrame_39 e_TFrame_40 fit_TFrame de_TFrame g_TFrame k_TFrame eta_TFrame e_lTFrame_0 fit_lTFrame de_lTFrame g_lTFrame k_lTFrame e_TPeriod_0 e_TPeriod_1 fit_TPeriod de_TPeriod g_TPeriod k_TPeriod eta_TPeriod e_TStored_0 e_TStored_1 e_TStored_2 e_TStored_3 e_TStored_4 e_TStored_5 e_TStored_6 e_TStored_7 e_TStored_8 e_TStored_9 e_TStored_10 e_TStored_11 e_TStored_12 e_TStored_13 e_TStored_14 e_TStored_15 e_TStored_16 e_TStored_17 e_TStored_18 e_TStored_19 e_TStored_20 e_TStored_21 e_TStored_22 e_TStored_23 e_TStored_24 e_TStored_25 e_TStored_26 e_TStored_27 e_TStored_28 e_TStored_29 e_TStored_30 e_TStored_31 e_TStored_32 e_TStored_33 e_TStored_34 e_TStored_35 e_TStored_36 e_TStored_37 e_TStored_38 e_TStored_39 e_TStored_40 e_TStored_41 e_TStored_42 fit_TStored de_TStored g_TStored k_TStored eta_TStored e_lTStored_0 fit_lTStored de_lTStored g_lTStored k_lTStored e_TSleeper_0 e_TSleeper_1 e_TSleeper_2 fit_TSleeper de_TSleeper g_TSleeper k_TSleeper eta_TSleeper e_lTSleeper_0 fit_lTSleeper de_lTSleeper g_lTSleeper k_lTSleeper e_TBuffer_0 e_TBuffer_1 e_TBuffer_2 e_TBuffer_3 fit_TBuffer de_TBuffer g_TBuffer k_TBuffer eta_TBuffer e_lTTriggerPlan_0 fit_lTTriggerPlan de_lTTriggerPlan g_lTTriggerPlan k_lTTriggerPlan e_li64_0 fit_li64 de_li64 g_li64 k_li64 e_TTraffic_0 e_TTraffic_1 fit_TTraffic de_TTraffic g_TTraffic k_TTraffic eta_TTraffic e_Tqueue_0 e_Tqueue_1 fit_Tqueue de_Tqueue g_Tqueue k_Tqueue eta_Tqueue e_A8u8_0 e_A8u8_1 e_A8u8_2 e_A8u8_3 e_A8u8_4 e_A8u8_5 e_A8u8_6 e_A8u8_7 fit_A8u8 de_A8u8 g_A8u8 k_A8u8 eta_A8u8 e_u64_0 fit_u64 de_u64 g_u64 k_u64 deR_0 deR_1 deR_2 deR_3 deR_4 deR_5 deR_6 deR_7 deR_8 deR_9 deR_10 deR_11 deR_12 litC_x0 litC_x1 litC_x2 litC_x3 litC_x4 litC_x5 litC_x6 litC_x7 litC_x8 litC_x9 litC_x10 litC_x11 strE_u8 Fit_0 Option.isSome_some gt_some gd_one evCopyL evLookup mapC_nil tabR sub_enR List.drop_zero xrD xoD roEq minL rK rM rG aL aK iK bK sK lK iA bA sA lA or_true true_or Int.toNat_natCast shT_23 shT_25 shT_27 shT_118 Int.toNat_zero Int.cast_ofNat_Int aLs roD roDOb deadL edC edR nodupB rnm rnmL rnmB rnmH rnm_bif rnmB_bif putH dropH rhoN ptB slN litL celL pK isLit oS isRow inL fzV fzL fzOb fzObL fzH fzHF fzB fzObB fzObH rowOb
/-! hotspot/hotspotref05.Great -/
noncomputable def F11 (p0 : TFrame) : Option (Bool) :=
  some (bLt 2400 (p0.Body.length : Nat))
noncomputable def body11 : List AV → AR
  | [v0] => .pure (aK 41 k_TFrame v0 ∧ (F11 (g_TFrame (aL v0))).isSome = true) (.bool (gt (F11 (g_TFrame (aL v0)))))
  | _ => .fail
set_option maxHeartbeats 4000000 in
set_option maxRecDepth 20000 in
theorem ok11 : FnOk Try.prog 11 (pureC body11) := by
  refine pure_fnM body11 (rs := [.tmp 2]) Try.func11 (by kernel_rfl) rfl rfl ?_
  intro l ob v hb hob
  unfold body11 at hb
  split at hb
  · rename_i v0
    injection hb with q1 q2; subst q1 q2
    obtain ⟨hk0_0, hob⟩ := hob
    obtain ⟨r, H⟩ := Option.isSome_iff_exists.1 hob
    rw [H, gt_some]
    have hw0 := wA_TFrame hk0_0
    generalize g_TFrame (aL v0) = p0 at H hw0
    refine ⟨[.agg (.int .u8 p0.Head.Kind :: .int .u8 p0.Head.Sub :: .bool p0.Head.ToDs :: .bool p0.Head.FromDs :: .bool p0.Head.More :: .bool p0.Head.Retry :: .bool p0.Head.Sleep :: .bool p0.Head.MoreData :: .bool p0.Head.Protected :: .int .i64 p0.Head.Duration :: .int .u8 p0.Head.A1.x0 :: .int .u8 p0.Head.A1.x1 :: .int .u8 p0.Head.A1.x2 :: .int .u8 p0.Head.A1.x3 :: .int .u8 p0.Head.A1.x4 :: .int .u8 p0.Head.A1.x5 :: .int .u8 p0.Head.A2.x0 :: .int .u8 p0.Head.A2.x1 :: .int .u8 p0.Head.A2.x2 :: .int .u8 p0.Head.A2.x3 :: .int .u8 p0.Head.A2.x4 :: .int .u8 p0.Head.A2.x5 :: .int .u8 p0.Head.A3.x0 :: .int .u8 p0.Head.A3.x1 :: .int .u8 p0.Head.A3.x2 :: .int .u8 p0.Head.A3.x3 :: .int .u8 p0.Head.A3.x4 :: .int .u8 p0.Head.A3.x5 :: .int .u8 p0.Head.A4.x0 :: .int .u8 p0.Head.A4.x1 :: .int .u8 p0.Head.A4.x2 :: .int .u8 p0.Head.A4.x3 :: .int .u8 p0.Head.A4.x4 :: .int .u8 p0.Head.A4.x5 :: .int .i64 p0.Head.Seq :: .int .i64 p0.Head.Frag :: .int .i64 p0.Head.Tid :: .int .u8 p0.Head.Ack :: .bool p0.Head.Amsdu :: .bool p0.Head.Eosp :: .ro 1 p0.Body.length false (enR c_u8 p0.Body) :: [])], _, (fun E vs F => FR_wk1 hw0.1 F (fun vs F => F)), rfl, rfl, ?_⟩
    rw [Try.ntmps11]
    simp only [List.length_cons, List.length_nil, Nat.reduceAdd, Nat.reduceSub, List.replicate_succ, List.replicate_zero, List.cons_append, List.nil_append]
    unfold F11 at H
    try dsimp only at H
    refine sq ctNo_ok ?_
    simp only [go_sem, Nat.reduceLeDiff, Nat.reduceLT, Nat.reduceAdd, Nat.reduceMul, Nat.reduceSub, Nat.reduceEqDiff, Nat.reduceBEq, Int.reduceToNat, reduceCtorEq]
    refine sq ctNo_ok ?_
    simp only [go_sem, Nat.reduceLeDiff, Nat.reduceLT, Nat.reduceAdd, Nat.reduceMul, Nat.reduceSub, Nat.reduceEqDiff, Nat.reduceBEq, Int.reduceToNat, reduceCtorEq]
    repeat ((with_reducible refine And.intro ?_ ?_); focus (first | (and_intros <;> first | (with_reducible trivial) | omega | assumption | exact nfc | first | exact rfl | exact trivial | exact fitI | exact .inr rfl | exact .inl rfl | exact fun x hx => absurd hx (by omega)) | grind))
    refine rg ctNo_ok ?_
    simp only [go_sem, Nat.reduceLeDiff, Nat.reduceLT, Nat.reduceAdd, Nat.reduceMul, Nat.reduceSub, Nat.reduceEqDiff, Nat.reduceBEq, Int.reduceToNat, reduceCtorEq]
    obtain rfl := Option.some.inj H
    first | rfl | simp only [Bool.and_false, Bool.false_and, Bool.and_true, Bool.true_and]
  · cases hb
/-! hotspot/hotspotref35.Great -/
noncomputable def ct12t0 : Ct := tab [(11, pureC body11)]
theorem ct12t0_ok : CtOk Try.prog ct12t0 := tab_cons ok11 <| tab_nil
theorem ct12t0_11 (l : List AV) (h : List ABlk) : ct12t0 11 l h = pureC body11 l h := rfl
noncomputable def F12_L1 (p0 : TPeriod) (v1_1 : Int) : Option (Lp (Int) ((Unit) ⊕ (Bool))) :=
  bif (bLt v1_1 (p0.Left.length : Nat)) then (need (inb v1_1 p0.Left.length) <| (F11 (TFrame.mk (THeader.mk (((gd p0.Left v1_1.toNat).Head).Kind) (((gd p0.Left v1_1.toNat).Head).Sub) (((gd p0.Left v1_1.toNat).Head).ToDs) (((gd p0.Left v1_1.toNat).Head).FromDs) (((gd p0.Left v1_1.toNat).Head).More) (((gd p0.Left v1_1.toNat).Head).Retry) (((gd p0.Left v1_1.toNat).Head).Sleep) (((gd p0.Left v1_1.toNat).Head).MoreData) (((gd p0.Left v1_1.toNat).Head).Protected) (((gd p0.Left v1_1.toNat).Head).Duration) (A6u8.mk ((((gd p0.Left v1_1.toNat).Head).A1).x0) ((((gd p0.Left v1_1.toNat).Head).A1).x1) ((((gd p0.Left v1_1.toNat).Head).A1).x2) ((((gd p0.Left v1_1.toNat).Head).A1).x3) ((((gd p0.Left v1_1.toNat).Head).A1).x4) ((((gd p0.Left v1_1.toNat).Head).A1).x5)) (A6u8.mk ((((gd p0.Left v1_1.toNat).Head).A2).x0) ((((gd p0.Left v1_1.toNat).Head).A2).x1) ((((gd p0.Left v1_1.toNat).Head).A2).x2) ((((gd p0.Left v1_1.toNat).Head).A2).x3) ((((gd p0.Left v1_1.toNat).Head).A2).x4) ((((gd p0.Left v1_1.toNat).Head).A2).x5)) (A6u8.mk ((((gd p0.Left v1_1.toNat).Head).A3).x0) ((((gd p0.Left v1_1.toNat).Head).A3).x1) ((((gd p0.Left v1_1.toNat).Head).A3).x2) ((((gd p0.Left v1_1.toNat).Head).A3).x3) ((((gd p0.Left v1_1.toNat).Head).A3).x4) ((((gd p0.Left v1_1.toNat).Head).A3).x5)) (A6u8.mk ((((gd p0.Left v1_1.toNat).Head).A4).x0) ((((gd p0.Left v1_1.toNat).Head).A4).x1) ((((gd p0.Left v1_1.toNat).Head).A4).x2) ((((gd p0.Left v1_1.toNat).Head).A4).x3) ((((gd p0.Left v1_1.toNat).Head).A4).x4) ((((gd p0.Left v1_1.toNat).Head).A4).x5)) (((gd p0.Left v1_1.toNat).Head).Seq) (((gd p0.Left v1_1.toNat).Head).Frag) (((gd p0.Left v1_1.toNat).Head).Tid) (((gd p0.Left v1_1.toNat).Head).Ack) (((gd p0.Left v1_1.toNat).Head).Amsdu) (((gd p0.Left v1_1.toNat).Head).Eosp)) ((gd p0.Left v1_1.toNat).Body))).bind fun r2 => bif r2 then (some (.done (.inr true))) else (some (.next (wr .i64 (v1_1 + 1))))) else (some (.done (.inl ())))
noncomputable def F12 (p0 : TPeriod) : Option (Bool) :=
  bif (bLt 100 (p0.Left.length : Nat)) then (some true) else (lp (loopD (fun s => F12_L1 p0 s) 0) (fun e => some false) some)
noncomputable def body12 : List AV → AR
  | [v0] => .pure (aK 2 k_TPeriod v0 ∧ (F12 (g_TPeriod (aL v0))).isSome = true) (.bool (gt (F12 (g_TPeriod (aL v0)))))
  | _ => .fail
set_option maxHeartbeats 4000000 in
set_option maxRecDepth 20000 in
theorem ok12 : FnOk Try.prog 12 (pureC body12) := by
  refine pure_fnM body12 (rs := [.tmp 2]) Try.func12 (by kernel_rfl) rfl rfl ?_
  intro l ob v hb hob
  unfold body12 at hb
  split at hb
  · rename_i v0
    injection hb with q1 q2; subst q1 q2
    obtain ⟨hk0_0, hob⟩ := hob
    obtain ⟨r, H⟩ := Option.isSome_iff_exists.1 hob
    rw [H, gt_some]
    have hw0 := wA_TPeriod hk0_0
    generalize g_TPeriod (aL v0) = p0 at H hw0
    refine ⟨[.agg [.int .i64 p0.Aid, .ro 41 p0.Left.length false (enR c_TFrame p0.Left)]], _, (fun E vs F => FR_wk1 hw0.1 F (fun vs F => F)), rfl, rfl, ?_⟩
    rw [Try.ntmps12]
    simp only [List.length_cons, List.length_nil, Nat.reduceAdd, Nat.reduceSub, List.replicate_succ, List.replicate_zero, List.cons_append, List.nil_append]
    unfold F12 at H
    try dsimp only at H
    refine sq ctNo_ok ?_
    simp only [go_sem, Nat.reduceLeDiff, Nat.reduceLT, Nat.reduceAdd, Nat.reduceMul, Nat.reduceSub, Nat.reduceEqDiff, Nat.reduceBEq, Int.reduceToNat, reduceCtorEq]
    refine seqM ?_
    refine sq ctNo_ok ?_
    simp only [go_sem, Nat.reduceLeDiff, Nat.reduceLT, Nat.reduceAdd, Nat.reduceMul, Nat.reduceSub, Nat.reduceEqDiff, Nat.reduceBEq, Int.reduceToNat, reduceCtorEq]
    repeat ((with_reducible refine And.intro ?_ ?_); focus (first | (and_intros <;> first | (with_reducible trivial) | omega | assumption | exact nfc | first | exact rfl | exact trivial | exact fitI | exact .inr rfl | exact .inl rfl | exact fun x hx => absurd hx (by omega)) | grind))
    refine condM rfl trivial (fun hc => ?_) (fun hc => ?_)
    · replace H := cond_t hc H
      refine sq ctNo_ok ?_
      simp only [go_sem, Nat.reduceLeDiff, Nat.reduceLT, Nat.reduceAdd, Nat.reduceMul, Nat.reduceSub, Nat.reduceEqDiff, Nat.reduceBEq, Int.reduceToNat, reduceCtorEq]
      refine rg ctNo_ok ?_
      simp only [go_sem, Nat.reduceLeDiff, Nat.reduceLT, Nat.reduceAdd, Nat.reduceMul, Nat.reduceSub, Nat.reduceEqDiff, Nat.reduceBEq, Int.reduceToNat, reduceCtorEq]
      obtain rfl := Option.some.inj H
      first | rfl | simp only [Bool.and_false, Bool.false_and, Bool.and_true, Bool.true_and]
    replace H := cond_f hc H
    refine rg ctNo_ok ?_
    simp only [go_sem, Nat.reduceLeDiff, Nat.reduceLT, Nat.reduceAdd, Nat.reduceMul, Nat.reduceSub, Nat.reduceEqDiff, Nat.reduceBEq, Int.reduceToNat, reduceCtorEq]
    refine seqM ?_
    refine sq ctNo_ok ?_
    simp only [go_sem, Nat.reduceLeDiff, Nat.reduceLT, Nat.reduceAdd, Nat.reduceMul, Nat.reduceSub, Nat.reduceEqDiff, Nat.reduceBEq, Int.reduceToNat, reduceCtorEq]
    refine blkM ?_
    refine loop_den (fun s : Int => (.top :: .ptr 0 0 0 0 :: .top :: .int .i64 s :: tp 17 [])) (fun s => [.lit 33 [.int .i64 p0.Aid, .ro 41 p0.Left.length false (enR c_TFrame p0.Left)]]) (fun e : Unit => (tp 21 [])) (fun e => [.dead]) H ?_ (fun v1_1 o H hn1_1 hn2_1 => ?_) (fun e H => ?_)
    · refine SubF_of ⟨[some 0], ?_, ?_, by rfl, by rfl⟩
      · simp [CvL, Cv, getM, tp]
      · exact ⟨(by simp [CvB, CvL, Cv, blkAt, geth, getM]), trivial⟩
    · unfold F12_L1 at H
      try dsimp only at H ⊢
      try simp only [tp]
      refine seqM ?_
      refine sq ctNo_ok ?_
      simp only [go_sem, Nat.reduceLeDiff, Nat.reduceLT, Nat.reduceAdd, Nat.reduceMul, Nat.reduceSub, Nat.reduceEqDiff, Nat.reduceBEq, Int.reduceToNat, reduceCtorEq]
      repeat ((with_reducible refine And.intro ?_ ?_); focus (first | (and_intros <;> first | (with_reducible trivial) | omega | assumption | exact nfc | first | exact rfl | exact trivial | exact fitI | exact .inr rfl | exact .inl rfl | exact fun x hx => absurd hx (by omega)) | grind))
      refine condM' rfl trivial (fun hc => ?_) (fun hc => ?_)
      · replace H := cond_f hc H
        refine rg ctNo_ok ?_
        simp only [go_sem, Nat.reduceLeDiff, Nat.reduceLT, Nat.reduceAdd, Nat.reduceMul, Nat.reduceSub, Nat.reduceEqDiff, Nat.reduceBEq, Int.reduceToNat, reduceCtorEq]
        refine ⟨_, (Option.some.inj H).symm, ?_⟩
        refine SubF_of ⟨[some 0], ?_, ?_, by rfl, by rfl⟩
        · simp [CvL, Cv, getM, tp]
        · exact ⟨CvB_dead, trivial⟩
      replace H := cond_t hc H
      refine rg ctNo_ok ?_
      simp only [go_sem, Nat.reduceLeDiff, Nat.reduceLT, Nat.reduceAdd, Nat.reduceMul, Nat.reduceSub, Nat.reduceEqDiff, Nat.reduceBEq, Int.reduceToNat, reduceCtorEq]
      refine seqM ?_
      refine blkM ?_
      refine seqM ?_
      obtain ⟨f1, H⟩ := need_some.1 H
      replace f1 := inb_iff.1 f1
      obtain ⟨r2, e3, H⟩ := bsi H
      refine rg ct12t0_ok ?_
      simp only [go_sem, Nat.reduceLeDiff, Nat.reduceLT, Nat.reduceAdd, Nat.reduceMul, Nat.reduceSub, Nat.reduceEqDiff, Nat.reduceBEq, Int.reduceToNat, reduceCtorEq, ct12t0_11, body11, f1, e3]
      repeat ((with_reducible refine And.intro ?_ ?_); focus (first | (and_intros <;> first | (with_reducible trivial) | omega | assumption | exact nfc | first | exact rfl | exact trivial | exact fitI | exact .inr rfl | exact .inl rfl | exact fun x hx => absurd hx (by omega)) | grind))
      refine condM rfl trivial (fun hc => ?_) (fun hc => ?_)
      · replace H := cond_t hc H
        refine sq ctNo_ok ?_
        simp only [go_sem, Nat.reduceLeDiff, Nat.reduceLT, Nat.reduceAdd, Nat.reduceMul, Nat.reduceSub, Nat.reduceEqDiff, Nat.reduceBEq, Int.reduceToNat, reduceCtorEq]
        refine rg ctNo_ok ?_
        simp only [go_sem, Nat.reduceLeDiff, Nat.reduceLT, Nat.reduceAdd, Nat.reduceMul, Nat.reduceSub, Nat.reduceEqDiff, Nat.reduceBEq, Int.reduceToNat, reduceCtorEq]
        have H := hn2_1 _ (Option.some.inj H).symm
        obtain rfl := Option.some.inj H
        first | rfl | simp only [Bool.and_false, Bool.false_and, Bool.and_true, Bool.true_and]
      replace H := cond_f hc H
      refine rg ctNo_ok ?_
      simp only [go_sem, Nat.reduceLeDiff, Nat.reduceLT, Nat.reduceAdd, Nat.reduceMul, Nat.reduceSub, Nat.reduceEqDiff, Nat.reduceBEq, Int.reduceToNat, reduceCtorEq]
      refine rg ctNo_ok ?_
      simp only [go_sem, Nat.reduceLeDiff, Nat.reduceLT, Nat.reduceAdd, Nat.reduceMul, Nat.reduceSub, Nat.reduceEqDiff, Nat.reduceBEq, Int.reduceToNat, reduceCtorEq]
      refine ⟨_, (Option.some.inj H).symm, ?_⟩
      refine SubF_of ⟨[some 0], ?_, ?_, by rfl, by rfl⟩
      · simp [CvL, Cv, getM, tp]
      · exact ⟨(by simp [CvB, CvL, Cv, blkAt, geth, getM]), trivial⟩
    · try dsimp only at H ⊢
      try simp only [tp]
      try simp only [m_normal, k_normal, b_normal, kL_normal, r_normal]
      refine sq ctNo_ok ?_
      simp only [go_sem, Nat.reduceLeDiff, Nat.reduceLT, Nat.reduceAdd, Nat.reduceMul, Nat.reduceSub, Nat.reduceEqDiff, Nat.reduceBEq, Int.reduceToNat, reduceCtorEq]
      refine rg ctNo_ok ?_
      simp only [go_sem, Nat.reduceLeDiff, Nat.reduceLT, Nat.reduceAdd, Nat.reduceMul, Nat.reduceSub, Nat.reduceEqDiff, Nat.reduceBEq, Int.reduceToNat, reduceCtorEq]
      obtain rfl := Option.some.inj H
      first | rfl | simp only [Bool.and_false, Bool.false_and, Bool.and_true, Bool.true_and]
  · cases hb
/-! hotspot/trigger.CheckPeriod -/
noncomputable def F22_L1 (p0 : TPeriod) (v1_1 : Int) : Option (Lp (Int) ((Unit) ⊕ (Int))) :=
  bif (bLt v1_1 (p0.Left.length : Nat)) then (need (inb v1_1 p0.Left.length) <| bif (!bB (((gd p0.Left v1_1.toNat).Head).Eosp) (bEq (wr .i64 (v1_1 + 1)) (p0.Left.length : Nat))) then (some (.done (.inr 8))) else (some (.next (wr .i64 (v1_1 + 1))))) else (some (.done (.inl ())))
noncomputable def F22 (p0 : TPeriod) : Option (Int) :=
  bif ((bLt p0.Aid 1) || (bLt 255 p0.Aid)) then (some 8) else (lp (loopD (fun s => F22_L1 p0 s) 0) (fun e => some 0) some)
noncomputable def body22 : List AV → AR
  | [v0] => .pure (aK 2 k_TPeriod v0 ∧ (F22 (g_TPeriod (aL v0))).isSome = true) (.int .i64 (gt (F22 (g_TPeriod (aL v0)))))
  | _ => .fail
set_option maxHeartbeats 4000000 in
set_option maxRecDepth 20000 in
theorem ok22 : FnOk Try.prog 22 (pureC body22) := by
  refine pure_fnM body22 (rs := [.tmp 2]) Try.func22 (by kernel_rfl) rfl rfl ?_
  intro l ob v hb hob
  unfold body22 at hb
  split at hb
  · rename_i v0
    injection hb with q1 q2; subst q1 q2
    obtain ⟨hk0_0, hob⟩ := hob
    obtain ⟨r, H⟩ := Option.isSome_iff_exists.1 hob
    rw [H, gt_some]
    have hw0 := wA_TPeriod hk0_0
    generalize g_TPeriod (aL v0) = p0 at H hw0
    refine ⟨[.agg [.int .i64 p0.Aid, .ro 41 p0.Left.length false (enR c_TFrame p0.Left)]], _, (fun E vs F => FR_wk1 hw0.1 F (fun vs F => F)), rfl, rfl, ?_⟩
    rw [Try.ntmps22]
    simp only [List.length_cons, List.length_nil, Nat.reduceAdd, Nat.reduceSub, List.replicate_succ, List.replicate_zero, List.cons_append, List.nil_append]
    unfold F22 at H
    try dsimp only at H
    refine sq ctNo_ok ?_
    simp only [go_sem, Nat.reduceLeDiff, Nat.reduceLT, Nat.reduceAdd, Nat.reduceMul, Nat.reduceSub, Nat.reduceEqDiff, Nat.reduceBEq, Int.reduceToNat, reduceCtorEq]
    refine seqM ?_
    refine sq ctNo_ok ?_
    simp only [go_sem, Nat.reduceLeDiff, Nat.reduceLT, Nat.reduceAdd, Nat.reduceMul, Nat.reduceSub, Nat.reduceEqDiff, Nat.reduceBEq, Int.reduceToNat, reduceCtorEq]
    repeat ((with_reducible refine And.intro ?_ ?_); focus (first | (with_reducible trivial) | omega | grind))
    refine condM rfl trivial (fun hc => ?_) (fun hc => ?_)
    · replace H := cond_t hc H
      refine sq ctNo_ok ?_
      simp only [go_sem, Nat.reduceLeDiff, Nat.reduceLT, Nat.reduceAdd, Nat.reduceMul, Nat.reduceSub, Nat.reduceEqDiff, Nat.reduceBEq, Int.reduceToNat, reduceCtorEq]
      refine rg ctNo_ok ?_
      simp only [go_sem, Nat.reduceLeDiff, Nat.reduceLT, Nat.reduceAdd, Nat.reduceMul, Nat.reduceSub, Nat.reduceEqDiff, Nat.reduceBEq, Int.reduceToNat, reduceCtorEq]
      obtain rfl := Option.some.inj H
      first | rfl | simp only [Bool.and_false, Bool.false_and, Bool.and_true, Bool.true_and]
    replace H := cond_f hc H
    refine rg ctNo_ok ?_
    simp only [go_sem, Nat.reduceLeDiff, Nat.reduceLT, Nat.reduceAdd, Nat.reduceMul, Nat.reduceSub, Nat.reduceEqDiff, Nat.reduceBEq, Int.reduceToNat, reduceCtorEq]
    refine seqM ?_
    refine sq ctNo_ok ?_
    simp only [go_sem, Nat.reduceLeDiff, Nat.reduceLT, Nat.reduceAdd, Nat.reduceMul, Nat.reduceSub, Nat.reduceEqDiff, Nat.reduceBEq, Int.reduceToNat, reduceCtorEq]
    repeat ((with_reducible refine And.intro ?_ ?_); focus (first | (and_intros <;> first | (with_reducible trivial) | omega | assumption | exact nfc | first | exact rfl | exact trivial | exact fitI | exact .inr rfl | exact .inl rfl | exact fun x hx => absurd hx (by omega)) | grind))
    refine blkM ?_
    refine loop_den (fun s : Int => (.top :: .ptr 0 0 0 0 :: tp 12 (.ro 41 p0.Left.length false (enR c_TFrame p0.Left) :: .int .i64 (p0.Left.length : Nat) :: .int .i64 s :: tp 15 []))) (fun s => [.lit 33 [.int .i64 p0.Aid, .ro 41 p0.Left.length false (enR c_TFrame p0.Left)]]) (fun e : Unit => (tp 32 [])) (fun e => [.dead]) H ?_ (fun v1_1 o H hn1_1 hn2_1 => ?_) (fun e H => ?_)
    · refine SubF_of ⟨[some 0], ?_, ?_, by rfl, by rfl⟩
      · simp [CvL, Cv, getM, tp]
      · exact ⟨(by simp [CvB, CvL, Cv, blkAt, geth, getM]), trivial⟩
    · unfold F22_L1 at H
      try dsimp only at H ⊢
      try simp only [tp]
      refine sq ctNo_ok ?_
      simp only [go_sem, Nat.reduceLeDiff, Nat.reduceLT, Nat.reduceAdd, Nat.reduceMul, Nat.reduceSub, Nat.reduceEqDiff, Nat.reduceBEq, Int.reduceToNat, reduceCtorEq]
      refine seqM ?_
      refine condM' rfl trivial (fun hc => ?_) (fun hc => ?_)
      · replace H := cond_f hc H
        refine rg ctNo_ok ?_
        simp only [go_sem, Nat.reduceLeDiff, Nat.reduceLT, Nat.reduceAdd, Nat.reduceMul, Nat.reduceSub, Nat.reduceEqDiff, Nat.reduceBEq, Int.reduceToNat, reduceCtorEq]
        refine ⟨_, (Option.some.inj H).symm, ?_⟩
        refine SubF_of ⟨[some 0], ?_, ?_, by rfl, by rfl⟩
        · simp [CvL, Cv, getM, tp]
        · exact ⟨CvB_dead, trivial⟩
      replace H := cond_t hc H
      refine rg ctNo_ok ?_
      simp only [go_sem, Nat.reduceLeDiff, Nat.reduceLT, Nat.reduceAdd, Nat.reduceMul, Nat.reduceSub, Nat.reduceEqDiff, Nat.reduceBEq, Int.reduceToNat, reduceCtorEq]
      refine seqM ?_
      refine blkM ?_
      refine seqM ?_
      obtain ⟨f1, H⟩ := need_some.1 H
      replace f1 := inb_iff.1 f1
      refine rg ctNo_ok ?_
      simp only [go_sem, Nat.reduceLeDiff, Nat.reduceLT, Nat.reduceAdd, Nat.reduceMul, Nat.reduceSub, Nat.reduceEqDiff, Nat.reduceBEq, Int.reduceToNat, reduceCtorEq, f1]
      repeat ((with_reducible refine And.intro ?_ ?_); focus (first | (with_reducible trivial) | omega | grind))
      refine sq ctNo_ok ?_
      simp only [go_sem, Nat.reduceLeDiff, Nat.reduceLT, Nat.reduceAdd, Nat.reduceMul, Nat.reduceSub, Nat.reduceEqDiff, Nat.reduceBEq, Int.reduceToNat, reduceCtorEq]
      repeat ((with_reducible refine And.intro ?_ ?_); focus (first | (and_intros <;> first | (with_reducible trivial) | omega | assumption | exact nfc | first | exact rfl | exact trivial | exact fitI | exact .inr rfl | exact .inl rfl | exact fun x hx => absurd hx (by omega)) | grind))
      refine condM rfl trivial (fun hc => ?_) (fun hc => ?_)
      · replace H := cond_t hc H
        refine sq ctNo_ok ?_
        simp only [go_sem, Nat.reduceLeDiff, Nat.reduceLT, Nat.reduceAdd, Nat.reduceMul, Nat.reduceSub, Nat.reduceEqDiff, Nat.reduceBEq, Int.reduceToNat, reduceCtorEq]
        refine rg ctNo_ok ?_
        simp only [go_sem, Nat.reduceLeDiff, Nat.reduceLT, Nat.reduceAdd, Nat.reduceMul, Nat.reduceSub, Nat.reduceEqDiff, Nat.reduceBEq, Int.reduceToNat, reduceCtorEq]
        have H := hn2_1 _ (Option.some.inj H).symm
        obtain rfl := Option.some.inj H
        first | rfl | simp only [Bool.and_false, Bool.false_and, Bool.and_true, Bool.true_and]
      replace H := cond_f hc H
      refine rg ctNo_ok ?_
      simp only [go_sem, Nat.reduceLeDiff, Nat.reduceLT, Nat.reduceAdd, Nat.reduceMul, Nat.reduceSub, Nat.reduceEqDiff, Nat.reduceBEq, Int.reduceToNat, reduceCtorEq]
      refine rg ctNo_ok ?_
      simp only [go_sem, Nat.reduceLeDiff, Nat.reduceLT, Nat.reduceAdd, Nat.reduceMul, Nat.reduceSub, Nat.reduceEqDiff, Nat.reduceBEq, Int.reduceToNat, reduceCtorEq]
      refine ⟨_, (Option.some.inj H).symm, ?_⟩
      refine SubF_of ⟨[some 0], ?_, ?_, by rfl, by rfl⟩
      · simp [CvL, Cv, getM, tp]
      · exact ⟨(by simp [CvB, CvL, Cv, blkAt, geth, getM]), trivial⟩
    · try dsimp only at H ⊢
      try simp only [tp]
      try simp only [m_normal, k_normal, b_normal, kL_normal, r_normal]
      refine sq ctNo_ok ?_
      simp only [go_sem, Nat.reduceLeDiff, Nat.reduceLT, Nat.reduceAdd, Nat.reduceMul, Nat.reduceSub, Nat.reduceEqDiff, Nat.reduceBEq, Int.reduceToNat, reduceCtorEq]
      refine rg ctNo_ok ?_
      simp only [go_sem, Nat.reduceLeDiff, Nat.reduceLT, Nat.reduceAdd, Nat.reduceMul, Nat.reduceSub, Nat.reduceEqDiff, Nat.reduceBEq, Int.reduceToNat, reduceCtorEq]
      obtain rfl := Option.some.inj H
      first | rfl | simp only [Bool.and_false, Bool.false_and, Bool.and_true, Bool.true_and]
  · cases hb
/-! hotspot/header.Twin -/
noncomputable def F44 (p0 : TFrame) : Option (TFrame) :=
  need (capb 1 p0.Body.length) <| some (TFrame.mk (THeader.mk p0.Head.Kind p0.Head.Sub p0.Head.ToDs p0.Head.FromDs p0.Head.More p0.Head.Retry p0.Head.Sleep p0.Head.MoreData p0.Head.Protected p0.Head.Duration (A6u8.mk p0.Head.A1.x0 p0.Head.A1.x1 p0.Head.A1.x2 p0.Head.A1.x3 p0.Head.A1.x4 p0.Head.A1.x5) (A6u8.mk p0.Head.A2.x0 p0.Head.A2.x1 p0.Head.A2.x2 p0.Head.A2.x3 p0.Head.A2.x4 p0.Head.A2.x5) (A6u8.mk p0.Head.A3.x0 p0.Head.A3.x1 p0.Head.A3.x2 p0.Head.A3.x3 p0.Head.A3.x4 p0.Head.A3.x5) (A6u8.mk p0.Head.A4.x0 p0.Head.A4.x1 p0.Head.A4.x2 p0.Head.A4.x3 p0.Head.A4.x4 p0.Head.A4.x5) p0.Head.Seq p0.Head.Frag p0.Head.Tid p0.Head.Ack p0.Head.Amsdu p0.Head.Eosp) ([] ++ p0.Body))
noncomputable def body44 : List AV → List ABlk → ED
  | [v0], h => .ed [] (aK 41 k_TFrame (roD (deadL h []) v0) ∧ roDOb (deadL h []) v0 ∧ (F44 (g_TFrame (aL (roD (deadL h []) v0)))).isSome = true) (.agg (.int .u8 (((gt (F44 (g_TFrame (aL (roD (deadL h []) v0))))).Head).Kind) :: .int .u8 (((gt (F44 (g_TFrame (aL (roD (deadL h []) v0))))).Head).Sub) :: .bool (((gt (F44 (g_TFrame (aL (roD (deadL h []) v0))))).Head).ToDs) :: .bool (((gt (F44 (g_TFrame (aL (roD (deadL h []) v0))))).Head).FromDs) :: .bool (((gt (F44 (g_TFrame (aL (roD (deadL h []) v0))))).Head).More) :: .bool (((gt (F44 (g_TFrame (aL (roD (deadL h []) v0))))).Head).Retry) :: .bool (((gt (F44 (g_TFrame (aL (roD (deadL h []) v0))))).Head).Sleep) :: .bool (((gt (F44 (g_TFrame (aL (roD (deadL h []) v0))))).Head).MoreData) :: .bool (((gt (F44 (g_TFrame (aL (roD (deadL h []) v0))))).Head).Protected) :: .int .i64 (((gt (F44 (g_TFrame (aL (roD (deadL h []) v0))))).Head).Duration) :: .int .u8 ((((gt (F44 (g_TFrame (aL (roD (deadL h []) v0))))).Head).A1).x0) :: .int .u8 ((((gt (F44 (g_TFrame (aL (roD (deadL h []) v0))))).Head).A1).x1) :: .int .u8 ((((gt (F44 (g_TFrame (aL (roD (deadL h []) v0))))).Head).A1).x2) :: .int .u8 ((((gt (F44 (g_TFrame (aL (roD (deadL h []) v0))))).Head).A1).x3) :: .int .u8 ((((gt (F44 (g_TFrame (aL (roD (deadL h []) v0))))).Head).A1).x4) :: .int .u8 ((((gt (F44 (g_TFrame (aL (roD (deadL h []) v0))))).Head).A1).x5) :: .int .u8 ((((gt (F44 (g_TFrame (aL (roD (deadL h []) v0))))).Head).A2).x0) :: .int .u8 ((((gt (F44 (g_TFrame (aL (roD (deadL h []) v0))))).Head).A2).x1) :: .int .u8 ((((gt (F44 (g_TFrame (aL (roD (deadL h []) v0))))).Head).A2).x2) :: .int .u8 ((((gt (F44 (g_TFrame (aL (roD (deadL h []) v0))))).Head).A2).x3) :: .int .u8 ((((gt (F44 (g_TFrame (aL (roD (deadL h []) v0))))).Head).A2).x4) :: .int .u8 ((((gt (F44 (g_TFrame (aL (roD (deadL h []) v0))))).Head).A2).x5) :: .int .u8 ((((gt (F44 (g_TFrame (aL (roD (deadL h []) v0))))).Head).A3).x0) :: .int .u8 ((((gt (F44 (g_TFrame (aL (roD (deadL h []) v0))))).Head).A3).x1) :: .int .u8 ((((gt (F44 (g_TFrame (aL (roD (deadL h []) v0))))).Head).A3).x2) :: .int .u8 ((((gt (F44 (g_TFrame (aL (roD (deadL h []) v0))))).Head).A3).x3) :: .int .u8 ((((gt (F44 (g_TFrame (aL (roD (deadL h []) v0))))).Head).A3).x4) :: .int .u8 ((((gt (F44 (g_TFrame (aL (roD (deadL h []) v0))))).Head).A3).x5) :: .int .u8 ((((gt (F44 (g_TFrame (aL (roD (deadL h []) v0))))).Head).A4).x0) :: .int .u8 ((((gt (F44 (g_TFrame (aL (roD (deadL h []) v0))))).Head).A4).x1) :: .int .u8 ((((gt (F44 (g_TFrame (aL (roD (deadL h []) v0))))).Head).A4).x2) :: .int .u8 ((((gt (F44 (g_TFrame (aL (roD (deadL h []) v0))))).Head).A4).x3) :: .int .u8 ((((gt (F44 (g_TFrame (aL (roD (deadL h []) v0))))).Head).A4).x4) :: .int .u8 ((((gt (F44 (g_TFrame (aL (roD (deadL h []) v0))))).Head).A4).x5) :: .int .i64 (((gt (F44 (g_TFrame (aL (roD (deadL h []) v0))))).Head).Seq) :: .int .i64 (((gt (F44 (g_TFrame (aL (roD (deadL h []) v0))))).Head).Frag) :: .int .i64 (((gt (F44 (g_TFrame (aL (roD (deadL h []) v0))))).Head).Tid) :: .int .u8 (((gt (F44 (g_TFrame (aL (roD (deadL h []) v0))))).Head).Ack) :: .bool (((gt (F44 (g_TFrame (aL (roD (deadL h []) v0))))).Head).Amsdu) :: .bool (((gt (F44 (g_TFrame (aL (roD (deadL h []) v0))))).Head).Eosp) :: .sl 0 1 0 (((gt (F44 (g_TFrame (aL (roD (deadL h []) v0))))).Body).length) false :: [])) [.row 5 1 (((gt (F44 (g_TFrame (aL (roD (deadL h []) v0))))).Body).length) (enR c_u8 ((gt (F44 (g_TFrame (aL (roD (deadL h []) v0))))).Body))]
  | _, _ => .fail
set_option maxHeartbeats 4000000 in
set_option maxRecDepth 20000 in
theorem ok44 : FnOk Try.prog 44 (edC body44) := by
  refine edit_fnV body44 (rs := [.cell 2 30]) Try.func44 (by kernel_rfl) rfl rfl ?_
  intro l h bs ob q0 g0 hb hob
  unfold body44 at hb
  split at hb
  · rename_i v0
    injection hb with q1 q2 q3 q4; subst q1 q2 q3 q4
    obtain ⟨hk0_0, hk0_1, hob⟩ := hob
    obtain ⟨r, H⟩ := Option.isSome_iff_exists.1 hob
    rw [H, gt_some]
    have hw0 := wA_TFrame hk0_0
    obtain ⟨p0, hp_p0⟩ : ∃ p0, p0 = g_TFrame (aL (roD (deadL h []) v0)) := ⟨_, rfl⟩
    rw [← hp_p0] at H hw0
    refine ⟨[.agg (.int .u8 p0.Head.Kind :: .int .u8 p0.Head.Sub :: .bool p0.Head.ToDs :: .bool p0.Head.FromDs :: .bool p0.Head.More :: .bool p0.Head.Retry :: .bool p0.Head.Sleep :: .bool p0.Head.MoreData :: .bool p0.Head.Protected :: .int .i64 p0.Head.Duration :: .int .u8 p0.Head.A1.x0 :: .int .u8 p0.Head.A1.x1 :: .int .u8 p0.Head.A1.x2 :: .int .u8 p0.Head.A1.x3 :: .int .u8 p0.Head.A1.x4 :: .int .u8 p0.Head.A1.x5 :: .int .u8 p0.Head.A2.x0 :: .int .u8 p0.Head.A2.x1 :: .int .u8 p0.Head.A2.x2 :: .int .u8 p0.Head.A2.x3 :: .int .u8 p0.Head.A2.x4 :: .int .u8 p0.Head.A2.x5 :: .int .u8 p0.Head.A3.x0 :: .int .u8 p0.Head.A3.x1 :: .int .u8 p0.Head.A3.x2 :: .int .u8 p0.Head.A3.x3 :: .int .u8 p0.Head.A3.x4 :: .int .u8 p0.Head.A3.x5 :: .int .u8 p0.Head.A4.x0 :: .int .u8 p0.Head.A4.x1 :: .int .u8 p0.Head.A4.x2 :: .int .u8 p0.Head.A4.x3 :: .int .u8 p0.Head.A4.x4 :: .int .u8 p0.Head.A4.x5 :: .int .i64 p0.Head.Seq :: .int .i64 p0.Head.Frag :: .int .i64 p0.Head.Tid :: .int .u8 p0.Head.Ack :: .bool p0.Head.Amsdu :: .bool p0.Head.Eosp :: .ro 1 p0.Body.length false (enR c_u8 p0.Body) :: [])], [], rfl, ⟨(EW_view hk0_1 hw0), trivial⟩, trivial, trivial, ⟨(nfB_en nr_u8), trivial⟩, ⟨noroB_en, trivial⟩, (by first | (simp only [noro, noroL, and_self]; done) | (simp only [noro, noroL]; and_intros <;> first | trivial | exact noro_bif (by simp only [noro]) (by simp only [noro]) | (simp only [noro, noroL, and_self]))), ?_⟩
    rw [Try.ntmps44]
    simp only [List.length_cons, List.length_nil, Nat.reduceAdd, Nat.reduceSub, List.replicate_succ, List.replicate_zero, List.cons_append, List.nil_append]
    unfold F44 at H
    try dsimp only at H
    refine sq ctNo_ok ?_
    simp only [go_sem, Nat.reduceLeDiff, Nat.reduceLT, Nat.reduceAdd, Nat.reduceMul, Nat.reduceSub, Nat.reduceEqDiff, Nat.reduceBEq, Int.reduceToNat, reduceCtorEq]
    refine seqM ?_
    obtain ⟨f1, H⟩ := need_some.1 H
    replace f1 := capb_iff.1 f1
    refine rg ctNo_ok ?_
    simp only [go_sem, Nat.reduceLeDiff, Nat.reduceLT, Nat.reduceAdd, Nat.reduceMul, Nat.reduceSub, Nat.reduceEqDiff, Nat.reduceBEq, Int.reduceToNat, reduceCtorEq, f1]
    repeat ((with_reducible refine And.intro ?_ ?_); focus (first | (and_intros <;> first | (with_reducible trivial) | omega | assumption | exact nfc | first | exact rfl | exact trivial | exact fitI | exact .inr rfl | exact .inl rfl | exact fun x hx => absurd hx (by omega) | (intro x hx; (repeat (first | (and_intros <;> (first | exact rfl | exact trivial | exact fitI | exact .inr rfl | exact .inl rfl | exact fun x hx => absurd hx (by omega))) | (exfalso; omega) | (rcases x with _ | x))); done) | (refine Fit_app ?_ ?_ <;> first | exact fitI | (intro x hx; (repeat (first | (and_intros <;> (first | exact rfl | exact trivial | exact fitI | exact .inr rfl | exact .inl rfl | exact fun x hx => absurd hx (by omega))) | (exfalso; omega) | (rcases x with _ | x))); done) | (refine Fit_app ?_ ?_ <;> first | exact fitI | (intro x hx; (repeat (first | (and_intros <;> (first | exact rfl | exact trivial | exact fitI | exact .inr rfl | exact .inl rfl | exact fun x hx => absurd hx (by omega))) | (exfalso; omega) | (rcases x with _ | x))); done)))) | grind))
    refine sq ctNo_ok ?_
    simp only [go_sem, Nat.reduceLeDiff, Nat.reduceLT, Nat.reduceAdd, Nat.reduceMul, Nat.reduceSub, Nat.reduceEqDiff, Nat.reduceBEq, Int.reduceToNat, reduceCtorEq]
    repeat ((with_reducible refine And.intro ?_ ?_); focus (first | (with_reducible trivial) | omega | grind))
    refine rg ctNo_ok ?_
    simp only [go_sem, Nat.reduceLeDiff, Nat.reduceLT, Nat.reduceAdd, Nat.reduceMul, Nat.reduceSub, Nat.reduceEqDiff, Nat.reduceBEq, Int.reduceToNat, reduceCtorEq]
    obtain rfl := Option.some.inj H
    refine RetE_mk [] [some 3] ?_ ?_ ?_ ?_ (by rfl) (by rfl)
    · simp only [go_sem, Nat.reduceEqDiff, Nat.reduceBEq, Nat.reduceAdd]
      try (and_intros <;> first | (with_reducible trivial) | omega | exact nfc | trivial)
    · simp only [go_sem, Nat.reduceEqDiff, Nat.reduceBEq, Nat.reduceAdd]
      try (and_intros <;> first | (with_reducible trivial) | omega | exact nfc | trivial)
    · simp only [go_sem, Nat.reduceEqDiff, Nat.reduceBEq, Nat.reduceAdd]
      exact (by first | (simp [Cv, CvL, getM, gt_some]; done) | (simp [Cv, CvL, getM, gt_some]; omega))
    · simp only [go_sem, Nat.reduceEqDiff, Nat.reduceBEq, Nat.reduceAdd, CvH, gt_some, Option.isSome_some, Option.isSome_none]
      exact CvB_row nr_u8 (by first | rfl | (simp; done) | (simp; omega)) (app_row (f := c_u8) [] p0.Body (lit_row (f := c_u8) [] (fun _ _ => rfl) rfl) (fun _ _ _ _ => rfl))
  · cases hb
/-! hotspot/header.Twin -/
noncomputable def F44_0 (p0 : TFrame) : Option (TFrame) :=
  need (capb 1 p0.Body.length) <| some (TFrame.mk (THeader.mk p0.Head.Kind p0.Head.Sub p0.Head.ToDs p0.Head.FromDs p0.Head.More p0.Head.Retry p0.Head.Sleep p0.Head.MoreData p0.Head.Protected p0.Head.Duration (A6u8.mk p0.Head.A1.x0 p0.Head.A1.x1 p0.Head.A1.x2 p0.Head.A1.x3 p0.Head.A1.x4 p0.Head.A1.x5) (A6u8.mk p0.Head.A2.x0 p0.Head.A2.x1 p0.Head.A2.x2 p0.Head.A2.x3 p0.Head.A2.x4 p0.Head.A2.x5) (A6u8.mk p0.Head.A3.x0 p0.Head.A3.x1 p0.Head.A3.x2 p0.Head.A3.x3 p0.Head.A3.x4 p0.Head.A3.x5) (A6u8.mk p0.Head.A4.x0 p0.Head.A4.x1 p0.Head.A4.x2 p0.Head.A4.x3 p0.Head.A4.x4 p0.Head.A4.x5) p0.Head.Seq p0.Head.Frag p0.Head.Tid p0.Head.Ack p0.Head.Amsdu p0.Head.Eosp) ([] ++ p0.Body))
noncomputable def body44_0 : List AV → Nat → AR
  | [v0], _ => .pure (aK 41 k_TFrame v0 ∧ (F44_0 (g_TFrame (aL v0))).isSome = true) (.agg (.int .u8 (((gt (F44_0 (g_TFrame (aL v0)))).Head).Kind) :: .int .u8 (((gt (F44_0 (g_TFrame (aL v0)))).Head).Sub) :: .bool (((gt (F44_0 (g_TFrame (aL v0)))).Head).ToDs) :: .bool (((gt (F44_0 (g_TFrame (aL v0)))).Head).FromDs) :: .bool (((gt (F44_0 (g_TFrame (aL v0)))).Head).More) :: .bool (((gt (F44_0 (g_TFrame (aL v0)))).Head).Retry) :: .bool (((gt (F44_0 (g_TFrame (aL v0)))).Head).Sleep) :: .bool (((gt (F44_0 (g_TFrame (aL v0)))).Head).MoreData) :: .bool (((gt (F44_0 (g_TFrame (aL v0)))).Head).Protected) :: .int .i64 (((gt (F44_0 (g_TFrame (aL v0)))).Head).Duration) :: .int .u8 ((((gt (F44_0 (g_TFrame (aL v0)))).Head).A1).x0) :: .int .u8 ((((gt (F44_0 (g_TFrame (aL v0)))).Head).A1).x1) :: .int .u8 ((((gt (F44_0 (g_TFrame (aL v0)))).Head).A1).x2) :: .int .u8 ((((gt (F44_0 (g_TFrame (aL v0)))).Head).A1).x3) :: .int .u8 ((((gt (F44_0 (g_TFrame (aL v0)))).Head).A1).x4) :: .int .u8 ((((gt (F44_0 (g_TFrame (aL v0)))).Head).A1).x5) :: .int .u8 ((((gt (F44_0 (g_TFrame (aL v0)))).Head).A2).x0) :: .int .u8 ((((gt (F44_0 (g_TFrame (aL v0)))).Head).A2).x1) :: .int .u8 ((((gt (F44_0 (g_TFrame (aL v0)))).Head).A2).x2) :: .int .u8 ((((gt (F44_0 (g_TFrame (aL v0)))).Head).A2).x3) :: .int .u8 ((((gt (F44_0 (g_TFrame (aL v0)))).Head).A2).x4) :: .int .u8 ((((gt (F44_0 (g_TFrame (aL v0)))).Head).A2).x5) :: .int .u8 ((((gt (F44_0 (g_TFrame (aL v0)))).Head).A3).x0) :: .int .u8 ((((gt (F44_0 (g_TFrame (aL v0)))).Head).A3).x1) :: .int .u8 ((((gt (F44_0 (g_TFrame (aL v0)))).Head).A3).x2) :: .int .u8 ((((gt (F44_0 (g_TFrame (aL v0)))).Head).A3).x3) :: .int .u8 ((((gt (F44_0 (g_TFrame (aL v0)))).Head).A3).x4) :: .int .u8 ((((gt (F44_0 (g_TFrame (aL v0)))).Head).A3).x5) :: .int .u8 ((((gt (F44_0 (g_TFrame (aL v0)))).Head).A4).x0) :: .int .u8 ((((gt (F44_0 (g_TFrame (aL v0)))).Head).A4).x1) :: .int .u8 ((((gt (F44_0 (g_TFrame (aL v0)))).Head).A4).x2) :: .int .u8 ((((gt (F44_0 (g_TFrame (aL v0)))).Head).A4).x3) :: .int .u8 ((((gt (F44_0 (g_TFrame (aL v0)))).Head).A4).x4) :: .int .u8 ((((gt (F44_0 (g_TFrame (aL v0)))).Head).A4).x5) :: .int .i64 (((gt (F44_0 (g_TFrame (aL v0)))).Head).Seq) :: .int .i64 (((gt (F44_0 (g_TFrame (aL v0)))).Head).Frag) :: .int .i64 (((gt (F44_0 (g_TFrame (aL v0)))).Head).Tid) :: .int .u8 (((gt (F44_0 (g_TFrame (aL v0)))).Head).Ack) :: .bool (((gt (F44_0 (g_TFrame (aL v0)))).Head).Amsdu) :: .bool (((gt (F44_0 (g_TFrame (aL v0)))).Head).Eosp) :: .ro 1 (((gt (F44_0 (g_TFrame (aL v0)))).Body).length) false (enR c_u8 ((gt (F44_0 (g_TFrame (aL v0)))).Body)) :: []))
  | _, _ => .fail
set_option maxHeartbeats 4000000 in
set_option maxRecDepth 20000 in
theorem ok44_0 : FnOk Try.prog 44 (genC body44_0) := by
  refine gen_fn body44_0 (rs := [.cell 2 30]) Try.func44 (by kernel_rfl) rfl rfl ?_
  intro l s ob v ns hb hob
  rcases hb with ⟨hb, rfl⟩ | hb
  · unfold body44_0 at hb
    split at hb
    · rename_i v0
      injection hb with q1 q2; subst q1 q2
      obtain ⟨hk0_0, hob⟩ := hob
      obtain ⟨r, H⟩ := Option.isSome_iff_exists.1 hob
      rw [H, gt_some]
      have hw0 := wA_TFrame hk0_0
      generalize g_TFrame (aL v0) = p0 at H hw0
      refine ⟨[.agg (.int .u8 p0.Head.Kind :: .int .u8 p0.Head.Sub :: .bool p0.Head.ToDs :: .bool p0.Head.FromDs :: .bool p0.Head.More :: .bool p0.Head.Retry :: .bool p0.Head.Sleep :: .bool p0.Head.MoreData :: .bool p0.Head.Protected :: .int .i64 p0.Head.Duration :: .int .u8 p0.Head.A1.x0 :: .int .u8 p0.Head.A1.x1 :: .int .u8 p0.Head.A1.x2 :: .int .u8 p0.Head.A1.x3 :: .int .u8 p0.Head.A1.x4 :: .int .u8 p0.Head.A1.x5 :: .int .u8 p0.Head.A2.x0 :: .int .u8 p0.Head.A2.x1 :: .int .u8 p0.Head.A2.x2 :: .int .u8 p0.Head.A2.x3 :: .int .u8 p0.Head.A2.x4 :: .int .u8 p0.Head.A2.x5 :: .int .u8 p0.Head.A3.x0 :: .int .u8 p0.Head.A3.x1 :: .int .u8 p0.Head.A3.x2 :: .int .u8 p0.Head.A3.x3 :: .int .u8 p0.Head.A3.x4 :: .int .u8 p0.Head.A3.x5 :: .int .u8 p0.Head.A4.x0 :: .int .u8 p0.Head.A4.x1 :: .int .u8 p0.Head.A4.x2 :: .int .u8 p0.Head.A4.x3 :: .int .u8 p0.Head.A4.x4 :: .int .u8 p0.Head.A4.x5 :: .int .i64 p0.Head.Seq :: .int .i64 p0.Head.Frag :: .int .i64 p0.Head.Tid :: .int .u8 p0.Head.Ack :: .bool p0.Head.Amsdu :: .bool p0.Head.Eosp :: .ro 1 p0.Body.length false (enR c_u8 p0.Body) :: [])], .agg (.int .u8 r.Head.Kind :: .int .u8 r.Head.Sub :: .bool r.Head.ToDs :: .bool r.Head.FromDs :: .bool r.Head.More :: .bool r.Head.Retry :: .bool r.Head.Sleep :: .bool r.Head.MoreData :: .bool r.Head.Protected :: .int .i64 r.Head.Duration :: .int .u8 r.Head.A1.x0 :: .int .u8 r.Head.A1.x1 :: .int .u8 r.Head.A1.x2 :: .int .u8 r.Head.A1.x3 :: .int .u8 r.Head.A1.x4 :: .int .u8 r.Head.A1.x5 :: .int .u8 r.Head.A2.x0 :: .int .u8 r.Head.A2.x1 :: .int .u8 r.Head.A2.x2 :: .int .u8 r.Head.A2.x3 :: .int .u8 r.Head.A2.x4 :: .int .u8 r.Head.A2.x5 :: .int .u8 r.Head.A3.x0 :: .int .u8 r.Head.A3.x1 :: .int .u8 r.Head.A3.x2 :: .int .u8 r.Head.A3.x3 :: .int .u8 r.Head.A3.x4 :: .int .u8 r.Head.A3.x5 :: .int .u8 r.Head.A4.x0 :: .int .u8 r.Head.A4.x1 :: .int .u8 r.Head.A4.x2 :: .int .u8 r.Head.A4.x3 :: .int .u8 r.Head.A4.x4 :: .int .u8 r.Head.A4.x5 :: .int .i64 r.Head.Seq :: .int .i64 r.Head.Frag :: .int .i64 r.Head.Tid :: .int .u8 r.Head.Ack :: .bool r.Head.Amsdu :: .bool r.Head.Eosp :: .ro 1 r.Body.length false (enR c_u8 r.Body) :: []), [], (fun E vs F => FR_wk1 hw0.1 F (fun vs F => F)), by simp only [ren, renL], trivial, ?_⟩
      rw [Try.ntmps44]
      simp only [List.length_cons, List.length_nil, Nat.reduceAdd, Nat.reduceSub, List.replicate_succ, List.replicate_zero, List.cons_append, List.nil_append]
      unfold F44_0 at H
      try dsimp only at H
      refine sq ctNo_ok ?_
      simp only [go_sem, Nat.reduceLeDiff, Nat.reduceLT, Nat.reduceAdd, Nat.reduceMul, Nat.reduceSub, Nat.reduceEqDiff, Nat.reduceBEq, Int.reduceToNat, reduceCtorEq]
      refine seqM ?_
      obtain ⟨f1, H⟩ := need_some.1 H
      replace f1 := capb_iff.1 f1
      refine rg ctNo_ok ?_
      simp only [go_sem, Nat.reduceLeDiff, Nat.reduceLT, Nat.reduceAdd, Nat.reduceMul, Nat.reduceSub, Nat.reduceEqDiff, Nat.reduceBEq, Int.reduceToNat, reduceCtorEq, f1]
      repeat ((with_reducible refine And.intro ?_ ?_); focus (first | (and_intros <;> first | (with_reducible trivial) | omega | assumption | exact nfc | first | exact rfl | exact trivial | exact fitI | exact .inr rfl | exact .inl rfl | exact fun x hx => absurd hx (by omega) | (intro x hx; (repeat (first | (and_intros <;> (first | exact rfl | exact trivial | exact fitI | exact .inr rfl | exact .inl rfl | exact fun x hx => absurd hx (by omega))) | (exfalso; omega) | (rcases x with _ | x))); done) | (refine Fit_app ?_ ?_ <;> first | exact fitI | (intro x hx; (repeat (first | (and_intros <;> (first | exact rfl | exact trivial | exact fitI | exact .inr rfl | exact .inl rfl | exact fun x hx => absurd hx (by omega))) | (exfalso; omega) | (rcases x with _ | x))); done) | (refine Fit_app ?_ ?_ <;> first | exact fitI | (intro x hx; (repeat (first | (and_intros <;> (first | exact rfl | exact trivial | exact fitI | exact .inr rfl | exact .inl rfl | exact fun x hx => absurd hx (by omega))) | (exfalso; omega) | (rcases x with _ | x))); done)))) | grind))
      refine sq ctNo_ok ?_
      simp only [go_sem, Nat.reduceLeDiff, Nat.reduceLT, Nat.reduceAdd, Nat.reduceMul, Nat.reduceSub, Nat.reduceEqDiff, Nat.reduceBEq, Int.reduceToNat, reduceCtorEq]
      repeat ((with_reducible refine And.intro ?_ ?_); focus (first | (with_reducible trivial) | omega | grind))
      refine rg ctNo_ok ?_
      simp only [go_sem, Nat.reduceLeDiff, Nat.reduceLT, Nat.reduceAdd, Nat.reduceMul, Nat.reduceSub, Nat.reduceEqDiff, Nat.reduceBEq, Int.reduceToNat, reduceCtorEq]
      obtain rfl := Option.some.inj H
      refine ⟨[3, 0, 1], ?_, ?_, [], ?_, ?_, rfl⟩
      · simp only [go_sem, Nat.reduceEqDiff, Nat.reduceBEq, Nat.reduceAdd]
        try (and_intros <;> first | (with_reducible trivial) | omega | exact nfc | trivial)
      · simp only [go_sem, Nat.reduceEqDiff, Nat.reduceBEq, Nat.reduceAdd]
        try (and_intros <;> first | (with_reducible trivial) | omega | exact nfc | trivial)
      · simp only [go_sem, Nat.reduceEqDiff, Nat.reduceBEq, Nat.reduceAdd]
        exact (Cv_agg (CvL_cons Cv_int (CvL_cons Cv_int (CvL_cons Cv_bool (CvL_cons Cv_bool (CvL_cons Cv_bool (CvL_cons Cv_bool (CvL_cons Cv_bool (CvL_cons Cv_bool (CvL_cons Cv_bool (CvL_cons Cv_int (CvL_cons Cv_int (CvL_cons Cv_int (CvL_cons Cv_int (CvL_cons Cv_int (CvL_cons Cv_int (CvL_cons Cv_int (CvL_cons Cv_int (CvL_cons Cv_int (CvL_cons Cv_int (CvL_cons Cv_int (CvL_cons Cv_int (CvL_cons Cv_int (CvL_cons Cv_int (CvL_cons Cv_int (CvL_cons Cv_int (CvL_cons Cv_int (CvL_cons Cv_int (CvL_cons Cv_int (CvL_cons Cv_int (CvL_cons Cv_int (CvL_cons Cv_int (CvL_cons Cv_int (CvL_cons Cv_int (CvL_cons Cv_int (CvL_cons Cv_int (CvL_cons Cv_int (CvL_cons Cv_int (CvL_cons Cv_int (CvL_cons Cv_bool (CvL_cons Cv_bool (CvL_cons (ro_row (by first | rfl | simp) (app_row (f := c_u8) [] p0.Body (lit_row (f := c_u8) [] (fun _ _ => rfl) rfl) (fun _ _ _ _ => rfl))) CvL_nil))))))))))))))))))))))))))))))))))))))))))
      · simp only [go_sem, Nat.reduceEqDiff, Nat.reduceBEq, Nat.reduceAdd, CvH]
    · cases hb
  · unfold body44_0 at hb
    split at hb <;> cases hb
/-! hotspot/trigger.Next -/
noncomputable def ct13t0 : Ct := tab [(22, pureC body22)]
theorem ct13t0_ok : CtOk Try.prog ct13t0 := tab_cons ok22 <| tab_nil
theorem ct13t0_22 (l : List AV) (h : List ABlk) : ct13t0 22 l h = pureC body22 l h := rfl
noncomputable def ct13t1 : Ct := tab [(44, genC body44_0)]
theorem ct13t1_ok : CtOk Try.prog ct13t1 := tab_cons ok44_0 <| tab_nil
theorem ct13t1_44 (l : List AV) (h : List ABlk) : ct13t1 44 l h = genC body44_0 l h := rfl
noncomputable def ct13t2 : Ct := tab [(44, edC body44)]
theorem ct13t2_ok : CtOk Try.prog ct13t2 := tab_cons ok44 <| tab_nil
theorem ct13t2_44 (l : List AV) (h : List ABlk) : ct13t2 44 l h = edC body44 l h := rfl
noncomputable def F13_L1 (p0 : TPeriod) (v1_1 : Int) (v1_2 : List TFrame) : Option (Lp (Int × (List TFrame)) ((List TFrame) ⊕ (TFrame × TPeriod × Int))) :=
  bif (bLt v1_1 (p0.Left.length - 1 : Nat)) then (need (inb v1_1 (p0.Left.length - 1)) <| (F44_0 (TFrame.mk (THeader.mk (((gd (p0.Left.drop 1) v1_1.toNat).Head).Kind) (((gd (p0.Left.drop 1) v1_1.toNat).Head).Sub) (((gd (p0.Left.drop 1) v1_1.toNat).Head).ToDs) (((gd (p0.Left.drop 1) v1_1.toNat).Head).FromDs) (((gd (p0.Left.drop 1) v1_1.toNat).Head).More) (((gd (p0.Left.drop 1) v1_1.toNat).Head).Retry) (((gd (p0.Left.drop 1) v1_1.toNat).Head).Sleep) (((gd (p0.Left.drop 1) v1_1.toNat).Head).MoreData) (((gd (p0.Left.drop 1) v1_1.toNat).Head).Protected) (((gd (p0.Left.drop 1) v1_1.toNat).Head).Duration) (A6u8.mk ((((gd (p0.Left.drop 1) v1_1.toNat).Head).A1).x0) ((((gd (p0.Left.drop 1) v1_1.toNat).Head).A1).x1) ((((gd (p0.Left.drop 1) v1_1.toNat).Head).A1).x2) ((((gd (p0.Left.drop 1) v1_1.toNat).Head).A1).x3) ((((gd (p0.Left.drop 1) v1_1.toNat).Head).A1).x4) ((((gd (p0.Left.drop 1) v1_1.toNat).Head).A1).x5)) (A6u8.mk ((((gd (p0.Left.drop 1) v1_1.toNat).Head).A2).x0) ((((gd (p0.Left.drop 1) v1_1.toNat).Head).A2).x1) ((((gd (p0.Left.drop 1) v1_1.toNat).Head).A2).x2) ((((gd (p0.Left.drop 1) v1_1.toNat).Head).A2).x3) ((((gd (p0.Left.drop 1) v1_1.toNat).Head).A2).x4) ((((gd (p0.Left.drop 1) v1_1.toNat).Head).A2).x5)) (A6u8.mk ((((gd (p0.Left.drop 1) v1_1.toNat).Head).A3).x0) ((((gd (p0.Left.drop 1) v1_1.toNat).Head).A3).x1) ((((gd (p0.Left.drop 1) v1_1.toNat).Head).A3).x2) ((((gd (p0.Left.drop 1) v1_1.toNat).Head).A3).x3) ((((gd (p0.Left.drop 1) v1_1.toNat).Head).A3).x4) ((((gd (p0.Left.drop 1) v1_1.toNat).Head).A3).x5)) (A6u8.mk ((((gd (p0.Left.drop 1) v1_1.toNat).Head).A4).x0) ((((gd (p0.Left.drop 1) v1_1.toNat).Head).A4).x1) ((((gd (p0.Left.drop 1) v1_1.toNat).Head).A4).x2) ((((gd (p0.Left.drop 1) v1_1.toNat).Head).A4).x3) ((((gd (p0.Left.drop 1) v1_1.toNat).Head).A4).x4) ((((gd (p0.Left.drop 1) v1_1.toNat).Head).A4).x5)) (((gd (p0.Left.drop 1) v1_1.toNat).Head).Seq) (((gd (p0.Left.drop 1) v1_1.toNat).Head).Frag) (((gd (p0.Left.drop 1) v1_1.toNat).Head).Tid) (((gd (p0.Left.drop 1) v1_1.toNat).Head).Ack) (((gd (p0.Left.drop 1) v1_1.toNat).Head).Amsdu) (((gd (p0.Left.drop 1) v1_1.toNat).Head).Eosp)) ((gd (p0.Left.drop 1) v1_1.toNat).Body))).bind fun r5 => need (capb 104 (v1_2.length + 1)) <| some (.next (wr .i64 (v1_1 + 1), (v1_2 ++ [r5])))) else (some (.done (.inl v1_2)))
noncomputable def F13 (p0 : TPeriod) : Option (TFrame × TPeriod × Int) :=
  (F22 p0).bind fun r1 => bif (!bEq r1 0) then (some ((TFrame.mk (THeader.mk 0 0 false false false false false false false 0 (A6u8.mk 0 0 0 0 0 0) (A6u8.mk 0 0 0 0 0 0) (A6u8.mk 0 0 0 0 0 0) (A6u8.mk 0 0 0 0 0 0) 0 0 0 0 false false) []), (TPeriod.mk 0 []), r1)) else (bif (bEq (p0.Left.length : Nat) 0) then (some ((TFrame.mk (THeader.mk 0 0 false false false false false false false 0 (A6u8.mk 0 0 0 0 0 0) (A6u8.mk 0 0 0 0 0 0) (A6u8.mk 0 0 0 0 0 0) (A6u8.mk 0 0 0 0 0 0) 0 0 0 0 false false) []), (TPeriod.mk 0 []), 6)) else (need (slb 1 (p0.Left.length : Nat) p0.Left.length) <| lp (loopD (fun s => F13_L1 p0 s.1 s.2) (0, [])) (fun w1_3 => need (inb 0 p0.Left.length) <| (F44 (TFrame.mk (THeader.mk (((gd p0.Left 0).Head).Kind) (((gd p0.Left 0).Head).Sub) (((gd p0.Left 0).Head).ToDs) (((gd p0.Left 0).Head).FromDs) (((gd p0.Left 0).Head).More) (((gd p0.Left 0).Head).Retry) (((gd p0.Left 0).Head).Sleep) (((gd p0.Left 0).Head).MoreData) (((gd p0.Left 0).Head).Protected) (((gd p0.Left 0).Head).Duration) (A6u8.mk ((((gd p0.Left 0).Head).A1).x0) ((((gd p0.Left 0).Head).A1).x1) ((((gd p0.Left 0).Head).A1).x2) ((((gd p0.Left 0).Head).A1).x3) ((((gd p0.Left 0).Head).A1).x4) ((((gd p0.Left 0).Head).A1).x5)) (A6u8.mk ((((gd p0.Left 0).Head).A2).x0) ((((gd p0.Left 0).Head).A2).x1) ((((gd p0.Left 0).Head).A2).x2) ((((gd p0.Left 0).Head).A2).x3) ((((gd p0.Left 0).Head).A2).x4) ((((gd p0.Left 0).Head).A2).x5)) (A6u8.mk ((((gd p0.Left 0).Head).A3).x0) ((((gd p0.Left 0).Head).A3).x1) ((((gd p0.Left 0).Head).A3).x2) ((((gd p0.Left 0).Head).A3).x3) ((((gd p0.Left 0).Head).A3).x4) ((((gd p0.Left 0).Head).A3).x5)) (A6u8.mk ((((gd p0.Left 0).Head).A4).x0) ((((gd p0.Left 0).Head).A4).x1) ((((gd p0.Left 0).Head).A4).x2) ((((gd p0.Left 0).Head).A4).x3) ((((gd p0.Left 0).Head).A4).x4) ((((gd p0.Left 0).Head).A4).x5)) (((gd p0.Left 0).Head).Seq) (((gd p0.Left 0).Head).Frag) (((gd p0.Left 0).Head).Tid) (((gd p0.Left 0).Head).Ack) (((gd p0.Left 0).Head).Amsdu) (((gd p0.Left 0).Head).Eosp)) ((gd p0.Left 0).Body))).bind fun r9 => some ((TFrame.mk (THeader.mk r9.Head.Kind r9.Head.Sub r9.Head.ToDs r9.Head.FromDs r9.Head.More r9.Head.Retry r9.Head.Sleep r9.Head.MoreData r9.Head.Protected r9.Head.Duration (A6u8.mk r9.Head.A1.x0 r9.Head.A1.x1 r9.Head.A1.x2 r9.Head.A1.x3 r9.Head.A1.x4 r9.Head.A1.x5) (A6u8.mk r9.Head.A2.x0 r9.Head.A2.x1 r9.Head.A2.x2 r9.Head.A2.x3 r9.Head.A2.x4 r9.Head.A2.x5) (A6u8.mk r9.Head.A3.x0 r9.Head.A3.x1 r9.Head.A3.x2 r9.Head.A3.x3 r9.Head.A3.x4 r9.Head.A3.x5) (A6u8.mk r9.Head.A4.x0 r9.Head.A4.x1 r9.Head.A4.x2 r9.Head.A4.x3 r9.Head.A4.x4 r9.Head.A4.x5) r9.Head.Seq r9.Head.Frag r9.Head.Tid r9.Head.Ack r9.Head.Amsdu r9.Head.Eosp) r9.Body), (TPeriod.mk p0.Aid w1_3), 0)) some))
noncomputable def body13 : List AV → Nat → AR
  | [v0], s => .heap (aK 2 k_TPeriod v0 ∧ (F13 (g_TPeriod (aL v0))).isSome = true) (.tup [.agg (.int .u8 ((((gt (F13 (g_TPeriod (aL v0)))).1).Head).Kind) :: .int .u8 ((((gt (F13 (g_TPeriod (aL v0)))).1).Head).Sub) :: .bool ((((gt (F13 (g_TPeriod (aL v0)))).1).Head).ToDs) :: .bool ((((gt (F13 (g_TPeriod (aL v0)))).1).Head).FromDs) :: .bool ((((gt (F13 (g_TPeriod (aL v0)))).1).Head).More) :: .bool ((((gt (F13 (g_TPeriod (aL v0)))).1).Head).Retry) :: .bool ((((gt (F13 (g_TPeriod (aL v0)))).1).Head).Sleep) :: .bool ((((gt (F13 (g_TPeriod (aL v0)))).1).Head).MoreData) :: .bool ((((gt (F13 (g_TPeriod (aL v0)))).1).Head).Protected) :: .int .i64 ((((gt (F13 (g_TPeriod (aL v0)))).1).Head).Duration) :: .int .u8 (((((gt (F13 (g_TPeriod (aL v0)))).1).Head).A1).x0) :: .int .u8 (((((gt (F13 (g_TPeriod (aL v0)))).1).Head).A1).x1) :: .int .u8 (((((gt (F13 (g_TPeriod (aL v0)))).1).Head).A1).x2) :: .int .u8 (((((gt (F13 (g_TPeriod (aL v0)))).1).Head).A1).x3) :: .int .u8 (((((gt (F13 (g_TPeriod (aL v0)))).1).Head).A1).x4) :: .int .u8 (((((gt (F13 (g_TPeriod (aL v0)))).1).Head).A1).x5) :: .int .u8 (((((gt (F13 (g_TPeriod (aL v0)))).1).Head).A2).x0) :: .int .u8 (((((gt (F13 (g_TPeriod (aL v0)))).1).Head).A2).x1) :: .int .u8 (((((gt (F13 (g_TPeriod (aL v0)))).1).Head).A2).x2) :: .int .u8 (((((gt (F13 (g_TPeriod (aL v0)))).1).Head).A2).x3) :: .int .u8 (((((gt (F13 (g_TPeriod (aL v0)))).1).Head).A2).x4) :: .int .u8 (((((gt (F13 (g_TPeriod (aL v0)))).1).Head).A2).x5) :: .int .u8 (((((gt (F13 (g_TPeriod (aL v0)))).1).Head).A3).x0) :: .int .u8 (((((gt (F13 (g_TPeriod (aL v0)))).1).Head).A3).x1) :: .int .u8 (((((gt (F13 (g_TPeriod (aL v0)))).1).Head).A3).x2) :: .int .u8 (((((gt (F13 (g_TPeriod (aL v0)))).1).Head).A3).x3) :: .int .u8 (((((gt (F13 (g_TPeriod (aL v0)))).1).Head).A3).x4) :: .int .u8 (((((gt (F13 (g_TPeriod (aL v0)))).1).Head).A3).x5) :: .int .u8 (((((gt (F13 (g_TPeriod (aL v0)))).1).Head).A4).x0) :: .int .u8 (((((gt (F13 (g_TPeriod (aL v0)))).1).Head).A4).x1) :: .int .u8 (((((gt (F13 (g_TPeriod (aL v0)))).1).Head).A4).x2) :: .int .u8 (((((gt (F13 (g_TPeriod (aL v0)))).1).Head).A4).x3) :: .int .u8 (((((gt (F13 (g_TPeriod (aL v0)))).1).Head).A4).x4) :: .int .u8 (((((gt (F13 (g_TPeriod (aL v0)))).1).Head).A4).x5) :: .int .i64 ((((gt (F13 (g_TPeriod (aL v0)))).1).Head).Seq) :: .int .i64 ((((gt (F13 (g_TPeriod (aL v0)))).1).Head).Frag) :: .int .i64 ((((gt (F13 (g_TPeriod (aL v0)))).1).Head).Tid) :: .int .u8 ((((gt (F13 (g_TPeriod (aL v0)))).1).Head).Ack) :: .bool ((((gt (F13 (g_TPeriod (aL v0)))).1).Head).Amsdu) :: .bool ((((gt (F13 (g_TPeriod (aL v0)))).1).Head).Eosp) :: .sl s 1 0 ((((gt (F13 (g_TPeriod (aL v0)))).1).Body).length) false :: []), .agg [.int .i64 (((gt (F13 (g_TPeriod (aL v0)))).2.1).Aid), .sl (s + 1) 41 0 ((((gt (F13 (g_TPeriod (aL v0)))).2.1).Left).length) false], .int .i64 ((gt (F13 (g_TPeriod (aL v0)))).2.2)]) [.row 5 1 ((((gt (F13 (g_TPeriod (aL v0)))).1).Body).length) (enR c_u8 (((gt (F13 (g_TPeriod (aL v0)))).1).Body)), .row 30 41 ((((gt (F13 (g_TPeriod (aL v0)))).2.1).Left).length) (enR c_TFrame (((gt (F13 (g_TPeriod (aL v0)))).2.1).Left))]
  | _, _ => .fail
set_option maxHeartbeats 4000000 in
set_option maxRecDepth 20000 in
theorem ok13 : FnOk Try.prog 13 (genC body13) := by
  refine gen_fn body13 (rs := [.cell 2 30, .cell 3 33, .tmp 4]) Try.func13 (by kernel_rfl) rfl rfl ?_
  intro l s ob v ns hb hob
  rcases hb with ⟨hb, rfl⟩ | hb
  · unfold body13 at hb
    split at hb <;> cases hb
  · unfold body13 at hb
    split at hb
    · rename_i v0
      injection hb with q1 q2 q3; subst q1 q2 q3
      obtain ⟨hk0_0, hob⟩ := hob
      obtain ⟨r, H⟩ := Option.isSome_iff_exists.1 hob
      rw [H, gt_some]
      have hw0 := wA_TPeriod hk0_0
      generalize g_TPeriod (aL v0) = p0 at H hw0
      refine ⟨[.agg [.int .i64 p0.Aid, .ro 41 p0.Left.length false (enR c_TFrame p0.Left)]], .tup [.agg (.int .u8 r.1.Head.Kind :: .int .u8 r.1.Head.Sub :: .bool r.1.Head.ToDs :: .bool r.1.Head.FromDs :: .bool r.1.Head.More :: .bool r.1.Head.Retry :: .bool r.1.Head.Sleep :: .bool r.1.Head.MoreData :: .bool r.1.Head.Protected :: .int .i64 r.1.Head.Duration :: .int .u8 r.1.Head.A1.x0 :: .int .u8 r.1.Head.A1.x1 :: .int .u8 r.1.Head.A1.x2 :: .int .u8 r.1.Head.A1.x3 :: .int .u8 r.1.Head.A1.x4 :: .int .u8 r.1.Head.A1.x5 :: .int .u8 r.1.Head.A2.x0 :: .int .u8 r.1.Head.A2.x1 :: .int .u8 r.1.Head.A2.x2 :: .int .u8 r.1.Head.A2.x3 :: .int .u8 r.1.Head.A2.x4 :: .int .u8 r.1.Head.A2.x5 :: .int .u8 r.1.Head.A3.x0 :: .int .u8 r.1.Head.A3.x1 :: .int .u8 r.1.Head.A3.x2 :: .int .u8 r.1.Head.A3.x3 :: .int .u8 r.1.Head.A3.x4 :: .int .u8 r.1.Head.A3.x5 :: .int .u8 r.1.Head.A4.x0 :: .int .u8 r.1.Head.A4.x1 :: .int .u8 r.1.Head.A4.x2 :: .int .u8 r.1.Head.A4.x3 :: .int .u8 r.1.Head.A4.x4 :: .int .u8 r.1.Head.A4.x5 :: .int .i64 r.1.Head.Seq :: .int .i64 r.1.Head.Frag :: .int .i64 r.1.Head.Tid :: .int .u8 r.1.Head.Ack :: .bool r.1.Head.Amsdu :: .bool r.1.Head.Eosp :: .sl 0 1 0 r.1.Body.length false :: []), .agg [.int .i64 r.2.1.Aid, .sl 1 41 0 r.2.1.Left.length false], .int .i64 r.2.2], [.row 5 1 r.1.Body.length (enR c_u8 r.1.Body), .row 30 41 r.2.1.Left.length (enR c_TFrame r.2.1.Left)], (fun E vs F => FR_wk1 hw0.1 F (fun vs F => F)), by simp only [ren, renL, rnN_0, rnN_s, Nat.zero_add, Nat.reduceAdd], ⟨RenB_row nr_u8, RenB_row nr_TFrame, trivial⟩, ?_⟩
      rw [Try.ntmps13]
      simp only [List.length_cons, List.length_nil, Nat.reduceAdd, Nat.reduceSub, List.replicate_succ, List.replicate_zero, List.cons_append, List.nil_append]
      unfold F13 at H
      try dsimp only at H
      refine sq ctNo_ok ?_
      simp only [go_sem, Nat.reduceLeDiff, Nat.reduceLT, Nat.reduceAdd, Nat.reduceMul, Nat.reduceSub, Nat.reduceEqDiff, Nat.reduceBEq, Int.reduceToNat, reduceCtorEq]
      refine seqM ?_
      refine seqM ?_
      obtain ⟨r1, e2, H⟩ := bsi H
      refine rg ct13t0_ok ?_
      simp only [go_sem, Nat.reduceLeDiff, Nat.reduceLT, Nat.reduceAdd, Nat.reduceMul, Nat.reduceSub, Nat.reduceEqDiff, Nat.reduceBEq, Int.reduceToNat, reduceCtorEq, ct13t0_22, body22, e2]
      repeat ((with_reducible refine And.intro ?_ ?_); focus (first | (and_intros <;> first | (with_reducible trivial) | omega | assumption | exact nfc | first | exact rfl | exact trivial | exact fitI | exact .inr rfl | exact .inl rfl | exact fun x hx => absurd hx (by omega)) | grind))
      refine sq ctNo_ok ?_
      simp only [go_sem, Nat.reduceLeDiff, Nat.reduceLT, Nat.reduceAdd, Nat.reduceMul, Nat.reduceSub, Nat.reduceEqDiff, Nat.reduceBEq, Int.reduceToNat, reduceCtorEq]
      refine condM rfl trivial (fun hc => ?_) (fun hc => ?_)
      · replace H := cond_t hc H
        refine sq ctNo_ok ?_
        simp only [go_sem, Nat.reduceLeDiff, Nat.reduceLT, Nat.reduceAdd, Nat.reduceMul, Nat.reduceSub, Nat.reduceEqDiff, Nat.reduceBEq, Int.reduceToNat, reduceCtorEq]
        repeat ((with_reducible refine And.intro ?_ ?_); focus (first | (with_reducible trivial) | omega | grind))
        refine rg ctNo_ok ?_
        simp only [go_sem, Nat.reduceLeDiff, Nat.reduceLT, Nat.reduceAdd, Nat.reduceMul, Nat.reduceSub, Nat.reduceEqDiff, Nat.reduceBEq, Int.reduceToNat, reduceCtorEq]
        obtain rfl := Option.some.inj H
        refine ⟨[], ?_, ?_, [none, none], ?_, ?_, by rfl⟩
        · simp only [go_sem, Nat.reduceEqDiff, Nat.reduceBEq, Nat.reduceAdd]
        · simp only [go_sem, Nat.reduceEqDiff, Nat.reduceBEq, Nat.reduceAdd]
        · simp [fzV, fzL, inL, Cv, CvL, getM]
        · simp only [go_sem, Nat.reduceEqDiff, Nat.reduceBEq, Nat.reduceAdd, CvH]
          exact ⟨CvB_none, CvB_none⟩
      replace H := cond_f hc H
      refine rg ctNo_ok ?_
      simp only [go_sem, Nat.reduceLeDiff, Nat.reduceLT, Nat.reduceAdd, Nat.reduceMul, Nat.reduceSub, Nat.reduceEqDiff, Nat.reduceBEq, Int.reduceToNat, reduceCtorEq]
      refine seqM ?_
      refine sq ctNo_ok ?_
      simp only [go_sem, Nat.reduceLeDiff, Nat.reduceLT, Nat.reduceAdd, Nat.reduceMul, Nat.reduceSub, Nat.reduceEqDiff, Nat.reduceBEq, Int.reduceToNat, reduceCtorEq]
      repeat ((with_reducible refine And.intro ?_ ?_); focus (first | (and_intros <;> first | (with_reducible trivial) | omega | assumption | exact nfc | first | exact rfl | exact trivial | exact fitI | exact .inr rfl | exact .inl rfl | exact fun x hx => absurd hx (by omega)) | grind))
      refine condM rfl trivial (fun hc => ?_) (fun hc => ?_)
      · replace H := cond_t hc H
        refine sq ctNo_ok ?_
        simp only [go_sem, Nat.reduceLeDiff, Nat.reduceLT, Nat.reduceAdd, Nat.reduceMul, Nat.reduceSub, Nat.reduceEqDiff, Nat.reduceBEq, Int.reduceToNat, reduceCtorEq]
        repeat ((with_reducible refine And.intro ?_ ?_); focus (first | (with_reducible trivial) | omega | grind))
        refine rg ctNo_ok ?_
        simp only [go_sem, Nat.reduceLeDiff, Nat.reduceLT, Nat.reduceAdd, Nat.reduceMul, Nat.reduceSub, Nat.reduceEqDiff, Nat.reduceBEq, Int.reduceToNat, reduceCtorEq]
        obtain rfl := Option.some.inj H
        refine ⟨[], ?_, ?_, [none, none], ?_, ?_, by rfl⟩
        · simp only [go_sem, Nat.reduceEqDiff, Nat.reduceBEq, Nat.reduceAdd]
        · simp only [go_sem, Nat.reduceEqDiff, Nat.reduceBEq, Nat.reduceAdd]
        · simp [fzV, fzL, inL, Cv, CvL, getM]
        · simp only [go_sem, Nat.reduceEqDiff, Nat.reduceBEq, Nat.reduceAdd, CvH]
          exact ⟨CvB_none, CvB_none⟩
      replace H := cond_f hc H
      refine rg ctNo_ok ?_
      simp only [go_sem, Nat.reduceLeDiff, Nat.reduceLT, Nat.reduceAdd, Nat.reduceMul, Nat.reduceSub, Nat.reduceEqDiff, Nat.reduceBEq, Int.reduceToNat, reduceCtorEq]
      refine sq ctNo_ok ?_
      simp only [go_sem, Nat.reduceLeDiff, Nat.reduceLT, Nat.reduceAdd, Nat.reduceMul, Nat.reduceSub, Nat.reduceEqDiff, Nat.reduceBEq, Int.reduceToNat, reduceCtorEq]
      repeat ((with_reducible refine And.intro ?_ ?_); focus (first | (with_reducible trivial) | omega | grind))
      refine seqM ?_
      refine seqM ?_
      obtain ⟨f3, H⟩ := need_some.1 H
      replace f3 := slb_iff.1 f3
      refine rg ctNo_ok ?_
      simp only [go_sem, Nat.reduceLeDiff, Nat.reduceLT, Nat.reduceAdd, Nat.reduceMul, Nat.reduceSub, Nat.reduceEqDiff, Nat.reduceBEq, Int.reduceToNat, reduceCtorEq, f3]
      repeat ((with_reducible refine And.intro ?_ ?_); focus (first | (and_intros <;> first | (with_reducible trivial) | omega | assumption | exact nfc | first | exact rfl | exact trivial | exact fitI | exact .inr rfl | exact .inl rfl | exact fun x hx => absurd hx (by omega)) | grind))
      refine blkM ?_
      refine loop_den (fun s : Int × (List TFrame) => (.top :: .ptr 0 0 0 0 :: .ptr 1 0 0 0 :: .ptr 2 0 0 0 :: tp 22 (.ro 41 (p0.Left.length - 1) false (enR c_TFrame (p0.Left.drop 1)) :: .int .i64 (p0.Left.length - 1 : Nat) :: .int .i64 s.1 :: tp 17 []))) (fun s => [.lit 33 [.int .i64 p0.Aid, .ro 41 p0.Left.length false (enR c_TFrame p0.Left)], .lit 30 (.int .u8 0 :: .int .u8 0 :: .bool false :: .bool false :: .bool false :: .bool false :: .bool false :: .bool false :: .bool false :: .int .i64 0 :: .int .u8 0 :: .int .u8 0 :: .int .u8 0 :: .int .u8 0 :: .int .u8 0 :: .int .u8 0 :: .int .u8 0 :: .int .u8 0 :: .int .u8 0 :: .int .u8 0 :: .int .u8 0 :: .int .u8 0 :: .int .u8 0 :: .int .u8 0 :: .int .u8 0 :: .int .u8 0 :: .int .u8 0 :: .int .u8 0 :: .int .u8 0 :: .int .u8 0 :: .int .u8 0 :: .int .u8 0 :: .int .u8 0 :: .int .u8 0 :: .int .i64 0 :: .int .i64 0 :: .int .i64 0 :: .int .u8 0 :: .bool false :: .bool false :: .ro 0 0 true (fun _ _ => .top) :: []), .lit 33 [.int .i64 p0.Aid, .sl 3 41 0 s.2.length false], .row 30 41 s.2.length (enR c_TFrame s.2)]) (fun e : List TFrame => (.top :: .ptr 0 0 0 0 :: .ptr 1 0 0 0 :: .ptr 2 0 0 0 :: tp 42 [])) (fun e => [.lit 33 [.int .i64 p0.Aid, .ro 41 p0.Left.length false (enR c_TFrame p0.Left)], .lit 30 (.int .u8 0 :: .int .u8 0 :: .bool false :: .bool false :: .bool false :: .bool false :: .bool false :: .bool false :: .bool false :: .int .i64 0 :: .int .u8 0 :: .int .u8 0 :: .int .u8 0 :: .int .u8 0 :: .int .u8 0 :: .int .u8 0 :: .int .u8 0 :: .int .u8 0 :: .int .u8 0 :: .int .u8 0 :: .int .u8 0 :: .int .u8 0 :: .int .u8 0 :: .int .u8 0 :: .int .u8 0 :: .int .u8 0 :: .int .u8 0 :: .int .u8 0 :: .int .u8 0 :: .int .u8 0 :: .int .u8 0 :: .int .u8 0 :: .int .u8 0 :: .int .u8 0 :: .int .i64 0 :: .int .i64 0 :: .int .i64 0 :: .int .u8 0 :: .bool false :: .bool false :: .ro 0 0 true (fun _ _ => .top) :: []), .lit 33 [.int .i64 p0.Aid, .sl 3 41 0 e.length false], .row 30 41 e.length (enR c_TFrame e)]) H ?_ (fun s o H hn1_1 hn2_1 => ?_) (fun w1_3 H => ?_)
      · refine SubF_of ⟨[some 0, some 1, some 2, none], ?_, ?_, by rfl, by rfl⟩
        · simp [CvL, Cv, getM, tp]
        · exact ⟨(by simp [CvB, CvL, Cv, blkAt, geth, getM]), (by simp [CvB, CvL, Cv, blkAt, geth, getM]), (by simp [CvB, CvL, Cv, blkAt, geth, getM]), CvB_none, trivial⟩
      · obtain ⟨v1_1, v1_2⟩ := s
        unfold F13_L1 at H
        try dsimp only at H ⊢
        try simp only [tp]
        refine sq ctNo_ok ?_
        simp only [go_sem, Nat.reduceLeDiff, Nat.reduceLT, Nat.reduceAdd, Nat.reduceMul, Nat.reduceSub, Nat.reduceEqDiff, Nat.reduceBEq, Int.reduceToNat, reduceCtorEq]
        refine seqM ?_
        refine condM' rfl trivial (fun hc => ?_) (fun hc => ?_)
        · replace H := cond_f hc H
          refine rg ctNo_ok ?_
          simp only [go_sem, Nat.reduceLeDiff, Nat.reduceLT, Nat.reduceAdd, Nat.reduceMul, Nat.reduceSub, Nat.reduceEqDiff, Nat.reduceBEq, Int.reduceToNat, reduceCtorEq]
          refine ⟨_, (Option.some.inj H).symm, ?_⟩
          refine SubF_of ⟨[some 0, some 1, some 2, some 3], ?_, ?_, by rfl, by rfl⟩
          · simp [CvL, Cv, getM, tp]
          · exact ⟨(by simp [CvB, CvL, Cv, blkAt, geth, getM]), (by simp [CvB, CvL, Cv, blkAt, geth, getM]), (by simp [CvB, CvL, Cv, blkAt, geth, getM]), CvB_row nr_TFrame (by first | rfl | (simp; done) | (simp; omega)) (fun _ _ _ _ => rfl), trivial⟩
        replace H := cond_t hc H
        refine rg ctNo_ok ?_
        simp only [go_sem, Nat.reduceLeDiff, Nat.reduceLT, Nat.reduceAdd, Nat.reduceMul, Nat.reduceSub, Nat.reduceEqDiff, Nat.reduceBEq, Int.reduceToNat, reduceCtorEq]
        refine seqM ?_
        refine blkM ?_
        refine seqM ?_
        obtain ⟨f4, H⟩ := need_some.1 H
        replace f4 := inb_iff.1 f4
        refine rg ctNo_ok ?_
        simp only [go_sem, Nat.reduceLeDiff, Nat.reduceLT, Nat.reduceAdd, Nat.reduceMul, Nat.reduceSub, Nat.reduceEqDiff, Nat.reduceBEq, Int.reduceToNat, reduceCtorEq, f4]
        repeat ((with_reducible refine And.intro ?_ ?_); focus (first | (with_reducible trivial) | omega | grind))
        obtain ⟨r5, e6, H⟩ := bsi H
        obtain ⟨f7, H⟩ := need_some.1 H
        replace f7 := capb_iff.1 f7
        refine draw_rule shT_ok ct13t1_ok 2 (by kernel_rfl) (by kernel_rfl) ?_
        intro an han
        simp only [d_nil, d_cons, nxtD, xrD, xoD, roEq, minL, List.append_nil, refsOp, refs, refsL, mask, maskF, place, placeF, okLog, pairOk, hit, inL, slotsF, ren, renL, rnN, nrH, nrB, nrL, nr, dead0, deadS, List.replicate_zero, List.replicate_succ, Nat.sub_self, Nat.add_zero, Nat.zero_add, Nat.reduceSub, Nat.not_lt_zero, Nat.zero_le, Nat.lt_add_one, go_sem, Nat.reduceLeDiff, Nat.reduceLT, Nat.reduceAdd, Nat.reduceMul, Nat.reduceSub, Nat.reduceEqDiff, Nat.reduceBEq, Int.reduceToNat, reduceCtorEq, ct13t1_44, body44_0, e6, f7]
        repeat ((with_reducible refine And.intro ?_ ?_); focus (and_intros <;> first | (with_reducible trivial) | (show anB _ _ _ = true; subst han; kernel_rfl) | (show (anB _ _ _ && _) = true; subst han; kernel_rfl) | omega | assumption | exact nrc | exact nfc | first | exact rfl | exact trivial | exact fitI | exact .inr rfl | exact .inl rfl | exact fun x hx => absurd hx (by omega) | (intro x hx; (repeat (first | (and_intros <;> (first | exact rfl | exact trivial | exact fitI | exact .inr rfl | exact .inl rfl | exact fun x hx => absurd hx (by omega))) | (exfalso; omega) | (rcases x with _ | x))); done) | (refine Fit_app ?_ ?_ <;> first | exact fitI | (intro x hx; (repeat (first | (and_intros <;> (first | exact rfl | exact trivial | exact fitI | exact .inr rfl | exact .inl rfl | exact fun x hx => absurd hx (by omega))) | (exfalso; omega) | (rcases x with _ | x))); done) | (refine Fit_app ?_ ?_ <;> first | exact fitI | (intro x hx; (repeat (first | (and_intros <;> (first | exact rfl | exact trivial | exact fitI | exact .inr rfl | exact .inl rfl | exact fun x hx => absurd hx (by omega))) | (exfalso; omega) | (rcases x with _ | x))); done)))))
        refine rg ctNo_ok ?_
        simp only [go_sem, Nat.reduceLeDiff, Nat.reduceLT, Nat.reduceAdd, Nat.reduceMul, Nat.reduceSub, Nat.reduceEqDiff, Nat.reduceBEq, Int.reduceToNat, reduceCtorEq]
        refine ⟨_, (Option.some.inj H).symm, ?_⟩
        refine SubF_of ⟨[some 0, some 1, some 2, some 6], ?_, ?_, by rfl, by rfl⟩
        · simp [CvL, Cv, getM, tp]
        · exact ⟨(by simp [CvB, CvL, Cv, blkAt, geth, getM]), (by simp [CvB, CvL, Cv, blkAt, geth, getM]), (by simp [CvB, CvL, Cv, blkAt, geth, getM]), CvB_row nr_TFrame (by first | rfl | (simp; done) | (simp; omega)) (app_row (f := c_TFrame) v1_2 [r5] (fun _ _ _ _ => rfl) (lit_row (f := c_TFrame) [r5] (fun _ _ => rfl) rfl)), trivial⟩
      · try dsimp only at H ⊢
        try simp only [tp]
        try simp only [m_normal, k_normal, b_normal, kL_normal, r_normal]
        refine seqM ?_
        obtain ⟨f8, H⟩ := need_some.1 H
        replace f8 := inb_iff.1 f8
        obtain ⟨r9, e10, H⟩ := bsi H
        refine draw_rule shT_ok ct13t2_ok 1 (by kernel_rfl) (by kernel_rfl) ?_
        intro an han
        simp only [d_nil, d_cons, nxtD, xrD, xoD, roEq, minL, List.append_nil, refsOp, refs, refsL, mask, maskF, place, placeF, okLog, pairOk, hit, inL, slotsF, ren, renL, rnN, nrH, nrB, nrL, nr, dead0, deadS, List.replicate_zero, List.replicate_succ, Nat.sub_self, Nat.add_zero, Nat.zero_add, Nat.reduceSub, Nat.not_lt_zero, Nat.zero_le, Nat.lt_add_one, go_sem, Nat.reduceLeDiff, Nat.reduceLT, Nat.reduceAdd, Nat.reduceMul, Nat.reduceSub, Nat.reduceEqDiff, Nat.reduceBEq, Int.reduceToNat, reduceCtorEq, ct13t2_44, body44, f8, e10]
        repeat ((with_reducible refine And.intro ?_ ?_); focus (and_intros <;> first | (with_reducible trivial) | (show anB _ _ _ = true; subst han; kernel_rfl) | (show (anB _ _ _ && _) = true; subst han; kernel_rfl) | omega | assumption | exact nrc | exact nfc | first | exact rfl | exact trivial | exact fitI | exact .inr rfl | exact .inl rfl | exact fun x hx => absurd hx (by omega)))
        refine rg ctNo_ok ?_
        simp only [go_sem, Nat.reduceLeDiff, Nat.reduceLT, Nat.reduceAdd, Nat.reduceMul, Nat.reduceSub, Nat.reduceEqDiff, Nat.reduceBEq, Int.reduceToNat, reduceCtorEq]
        obtain rfl := Option.some.inj H
        refine ⟨[], ?_, ?_, [some 4, some 3], ?_, ?_, by rfl⟩
        · simp only [go_sem, Nat.reduceEqDiff, Nat.reduceBEq, Nat.reduceAdd]
        · simp only [go_sem, Nat.reduceEqDiff, Nat.reduceBEq, Nat.reduceAdd]
        · simp [fzV, fzL, inL, Cv, CvL, getM]
          all_goals first | exact (by first | rfl | (simp; done) | (simp; omega)) | exact (by first | rfl | (simp; done) | (simp; omega))
        · simp only [go_sem, Nat.reduceEqDiff, Nat.reduceBEq, Nat.reduceAdd, CvH]
          exact ⟨CvB_row nr_u8 (by first | rfl | (simp; done) | (simp; omega)) (fun _ _ _ _ => rfl), CvB_row nr_TFrame (by first | rfl | (simp; done) | (simp; omega)) (fun _ _ _ _ => rfl)⟩
    · cases hb
/-! hotspot/hotspotref35.ValidPeriod -/
noncomputable def F23_L1 (p0 : TPeriod) (v1_1 : Int) : Option (Lp (Int) ((Unit) ⊕ (Bool))) :=
  bif (bLt v1_1 (p0.Left.length : Nat)) then (need (inb v1_1 p0.Left.length) <| bif (!bB (((gd p0.Left v1_1.toNat).Head).Eosp) (bEq v1_1 (wr .i64 ((p0.Left.length : Nat) - 1)))) then (some (.done (.inr false))) else (some (.next (wr .i64 (v1_1 + 1))))) else (some (.done (.inl ())))
noncomputable def F23 (p0 : TPeriod) : Option (Bool) :=
  lp (loopD (fun s => F23_L1 p0 s) 0) (fun e => some ((bLe 1 p0.Aid) && (bLe p0.Aid 255))) some
noncomputable def body23 : List AV → AR
  | [v0] => .pure (aK 2 k_TPeriod v0 ∧ (F23 (g_TPeriod (aL v0))).isSome = true) (.bool (gt (F23 (g_TPeriod (aL v0)))))
  | _ => .fail
set_option maxHeartbeats 4000000 in
set_option maxRecDepth 20000 in
theorem ok23 : FnOk Try.prog 23 (pureC body23) := by
  refine pure_fnM body23 (rs := [.tmp 2]) Try.func23 (by kernel_rfl) rfl rfl ?_
  intro l ob v hb hob
  unfold body23 at hb
  split at hb
  · rename_i v0
    injection hb with q1 q2; subst q1 q2
    obtain ⟨hk0_0, hob⟩ := hob
    obtain ⟨r, H⟩ := Option.isSome_iff_exists.1 hob
    rw [H, gt_some]
    have hw0 := wA_TPeriod hk0_0
    generalize g_TPeriod (aL v0) = p0 at H hw0
    refine ⟨[.agg [.int .i64 p0.Aid, .ro 41 p0.Left.length false (enR c_TFrame p0.Left)]], _, (fun E vs F => FR_wk1 hw0.1 F (fun vs F => F)), rfl, rfl, ?_⟩
    rw [Try.ntmps23]
    simp only [List.length_cons, List.length_nil, Nat.reduceAdd, Nat.reduceSub, List.replicate_succ, List.replicate_zero, List.cons_append, List.nil_append]
    unfold F23 at H
    try dsimp only at H
    refine sq ctNo_ok ?_
    simp only [go_sem, Nat.reduceLeDiff, Nat.reduceLT, Nat.reduceAdd, Nat.reduceMul, Nat.reduceSub, Nat.reduceEqDiff, Nat.reduceBEq, Int.reduceToNat, reduceCtorEq]
    refine seqM ?_
    refine sq ctNo_ok ?_
    simp only [go_sem, Nat.reduceLeDiff, Nat.reduceLT, Nat.reduceAdd, Nat.reduceMul, Nat.reduceSub, Nat.reduceEqDiff, Nat.reduceBEq, Int.reduceToNat, reduceCtorEq]
    refine blkM ?_
    refine loop_den (fun s : Int => (.top :: .ptr 0 0 0 0 :: .top :: .int .i64 s :: tp 29 [])) (fun s => [.lit 33 [.int .i64 p0.Aid, .ro 41 p0.Left.length false (enR c_TFrame p0.Left)]]) (fun e : Unit => (.top :: .ptr 0 0 0 0 :: tp 31 [])) (fun e => [.lit 33 [.int .i64 p0.Aid, .ro 41 p0.Left.length false (enR c_TFrame p0.Left)]]) H ?_ (fun v1_1 o H hn1_1 hn2_1 => ?_) (fun e H => ?_)
    · refine SubF_of ⟨[some 0], ?_, ?_, by rfl, by rfl⟩
      · simp [CvL, Cv, getM, tp]
      · exact ⟨(by simp [CvB, CvL, Cv, blkAt, geth, getM]), trivial⟩
    · unfold F23_L1 at H
      try dsimp only at H ⊢
      try simp only [tp]
      refine seqM ?_
      refine sq ctNo_ok ?_
      simp only [go_sem, Nat.reduceLeDiff, Nat.reduceLT, Nat.reduceAdd, Nat.reduceMul, Nat.reduceSub, Nat.reduceEqDiff, Nat.reduceBEq, Int.reduceToNat, reduceCtorEq]
      repeat ((with_reducible refine And.intro ?_ ?_); focus (first | (and_intros <;> first | (with_reducible trivial) | omega | assumption | exact nfc | first | exact rfl | exact trivial | exact fitI | exact .inr rfl | exact .inl rfl | exact fun x hx => absurd hx (by omega)) | grind))
      refine condM' rfl trivial (fun hc => ?_) (fun hc => ?_)
      · replace H := cond_f hc H
        refine rg ctNo_ok ?_
        simp only [go_sem, Nat.reduceLeDiff, Nat.reduceLT, Nat.reduceAdd, Nat.reduceMul, Nat.reduceSub, Nat.reduceEqDiff, Nat.reduceBEq, Int.reduceToNat, reduceCtorEq]
        refine ⟨_, (Option.some.inj H).symm, ?_⟩
        refine SubF_of ⟨[some 0], ?_, ?_, by rfl, by rfl⟩
        · simp [CvL, Cv, getM, tp]
        · exact ⟨(by simp [CvB, CvL, Cv, blkAt, geth, getM]), trivial⟩
      replace H := cond_t hc H
      refine rg ctNo_ok ?_
      simp only [go_sem, Nat.reduceLeDiff, Nat.reduceLT, Nat.reduceAdd, Nat.reduceMul, Nat.reduceSub, Nat.reduceEqDiff, Nat.reduceBEq, Int.reduceToNat, reduceCtorEq]
      refine seqM ?_
      refine blkM ?_
      refine seqM ?_
      obtain ⟨f1, H⟩ := need_some.1 H
      replace f1 := inb_iff.1 f1
      refine draw_quiet shT_ok ctNo_ok (by kernel_rfl) (by kernel_rfl) ?_
      simp only [go_sem, Nat.reduceLeDiff, Nat.reduceLT, Nat.reduceAdd, Nat.reduceMul, Nat.reduceSub, Nat.reduceEqDiff, Nat.reduceBEq, Int.reduceToNat, reduceCtorEq, f1]
      repeat ((with_reducible refine And.intro ?_ ?_); focus (first | (and_intros <;> first | (with_reducible trivial) | omega | assumption | exact nfc | first | exact rfl | exact trivial | exact fitI | exact .inr rfl | exact .inl rfl | exact fun x hx => absurd hx (by omega)) | grind))
      refine condM rfl trivial (fun hc => ?_) (fun hc => ?_)
      · replace H := cond_t hc H
        refine sq ctNo_ok ?_
        simp only [go_sem, Nat.reduceLeDiff, Nat.reduceLT, Nat.reduceAdd, Nat.reduceMul, Nat.reduceSub, Nat.reduceEqDiff, Nat.reduceBEq, Int.reduceToNat, reduceCtorEq]
        refine rg ctNo_ok ?_
        simp only [go_sem, Nat.reduceLeDiff, Nat.reduceLT, Nat.reduceAdd, Nat.reduceMul, Nat.reduceSub, Nat.reduceEqDiff, Nat.reduceBEq, Int.reduceToNat, reduceCtorEq]
        have H := hn2_1 _ (Option.some.inj H).symm
        obtain rfl := Option.some.inj H
        first | rfl | simp only [Bool.and_false, Bool.false_and, Bool.and_true, Bool.true_and]
      replace H := cond_f hc H
      refine rg ctNo_ok ?_
      simp only [go_sem, Nat.reduceLeDiff, Nat.reduceLT, Nat.reduceAdd, Nat.reduceMul, Nat.reduceSub, Nat.reduceEqDiff, Nat.reduceBEq, Int.reduceToNat, reduceCtorEq]
      refine rg ctNo_ok ?_
      simp only [go_sem, Nat.reduceLeDiff, Nat.reduceLT, Nat.reduceAdd, Nat.reduceMul, Nat.reduceSub, Nat.reduceEqDiff, Nat.reduceBEq, Int.reduceToNat, reduceCtorEq]
      refine ⟨_, (Option.some.inj H).symm, ?_⟩
      refine SubF_of ⟨[some 0], ?_, ?_, by rfl, by rfl⟩
      · simp [CvL, Cv, getM, tp]
      · exact ⟨(by simp [CvB, CvL, Cv, blkAt, geth, getM]), trivial⟩
    · try dsimp only at H ⊢
      try simp only [tp]
      try simp only [m_normal, k_normal, b_normal, kL_normal, r_normal]
      refine sq ctNo_ok ?_
      simp only [go_sem, Nat.reduceLeDiff, Nat.reduceLT, Nat.reduceAdd, Nat.reduceMul, Nat.reduceSub, Nat.reduceEqDiff, Nat.reduceBEq, Int.reduceToNat, reduceCtorEq]
      repeat ((with_reducible refine And.intro ?_ ?_); focus (first | (with_reducible trivial) | omega | grind))
      refine rg ctNo_ok ?_
      simp only [go_sem, Nat.reduceLeDiff, Nat.reduceLT, Nat.reduceAdd, Nat.reduceMul, Nat.reduceSub, Nat.reduceEqDiff, Nat.reduceBEq, Int.reduceToNat, reduceCtorEq]
      obtain rfl := Option.some.inj H
      first | rfl | simp only [Bool.and_false, Bool.false_and, Bool.and_true, Bool.true_and]
  · cases hb
/-! hotspot/hotspotref35.Next -/
noncomputable def ct14t0 : Ct := tab [(23, pureC body23)]
theorem ct14t0_ok : CtOk Try.prog ct14t0 := tab_cons ok23 <| tab_nil
theorem ct14t0_23 (l : List AV) (h : List ABlk) : ct14t0 23 l h = pureC body23 l h := rfl
noncomputable def F14 (p0 : TPeriod) : Option (TFrame × TPeriod × Int) :=
  (F23 p0).bind fun r1 => bif (!r1) then (some ((TFrame.mk (THeader.mk 0 0 false false false false false false false 0 (A6u8.mk 0 0 0 0 0 0) (A6u8.mk 0 0 0 0 0 0) (A6u8.mk 0 0 0 0 0 0) (A6u8.mk 0 0 0 0 0 0) 0 0 0 0 false false) []), (TPeriod.mk 0 []), 8)) else (bif (bEq (p0.Left.length : Nat) 0) then (some ((TFrame.mk (THeader.mk 0 0 false false false false false false false 0 (A6u8.mk 0 0 0 0 0 0) (A6u8.mk 0 0 0 0 0 0) (A6u8.mk 0 0 0 0 0 0) (A6u8.mk 0 0 0 0 0 0) 0 0 0 0 false false) []), (TPeriod.mk 0 []), 6)) else (need (inb 0 p0.Left.length) <| need (slb 1 (p0.Left.length : Nat) p0.Left.length) <| some ((TFrame.mk (THeader.mk (((gd p0.Left 0).Head).Kind) (((gd p0.Left 0).Head).Sub) (((gd p0.Left 0).Head).ToDs) (((gd p0.Left 0).Head).FromDs) (((gd p0.Left 0).Head).More) (((gd p0.Left 0).Head).Retry) (((gd p0.Left 0).Head).Sleep) (((gd p0.Left 0).Head).MoreData) (((gd p0.Left 0).Head).Protected) (((gd p0.Left 0).Head).Duration) (A6u8.mk ((((gd p0.Left 0).Head).A1).x0) ((((gd p0.Left 0).Head).A1).x1) ((((gd p0.Left 0).Head).A1).x2) ((((gd p0.Left 0).Head).A1).x3) ((((gd p0.Left 0).Head).A1).x4) ((((gd p0.Left 0).Head).A1).x5)) (A6u8.mk ((((gd p0.Left 0).Head).A2).x0) ((((gd p0.Left 0).Head).A2).x1) ((((gd p0.Left 0).Head).A2).x2) ((((gd p0.Left 0).Head).A2).x3) ((((gd p0.Left 0).Head).A2).x4) ((((gd p0.Left 0).Head).A2).x5)) (A6u8.mk ((((gd p0.Left 0).Head).A3).x0) ((((gd p0.Left 0).Head).A3).x1) ((((gd p0.Left 0).Head).A3).x2) ((((gd p0.Left 0).Head).A3).x3) ((((gd p0.Left 0).Head).A3).x4) ((((gd p0.Left 0).Head).A3).x5)) (A6u8.mk ((((gd p0.Left 0).Head).A4).x0) ((((gd p0.Left 0).Head).A4).x1) ((((gd p0.Left 0).Head).A4).x2) ((((gd p0.Left 0).Head).A4).x3) ((((gd p0.Left 0).Head).A4).x4) ((((gd p0.Left 0).Head).A4).x5)) (((gd p0.Left 0).Head).Seq) (((gd p0.Left 0).Head).Frag) (((gd p0.Left 0).Head).Tid) (((gd p0.Left 0).Head).Ack) (((gd p0.Left 0).Head).Amsdu) (((gd p0.Left 0).Head).Eosp)) ((gd p0.Left 0).Body)), (TPeriod.mk p0.Aid (p0.Left.drop 1)), 0)))
noncomputable def body14 : List AV → Nat → AR
  | [v0], _ => .pure (aK 2 k_TPeriod v0 ∧ (F14 (g_TPeriod (aL v0))).isSome = true) (.tup [.agg (.int .u8 ((((gt (F14 (g_TPeriod (aL v0)))).1).Head).Kind) :: .int .u8 ((((gt (F14 (g_TPeriod (aL v0)))).1).Head).Sub) :: .bool ((((gt (F14 (g_TPeriod (aL v0)))).1).Head).ToDs) :: .bool ((((gt (F14 (g_TPeriod (aL v0)))).1).Head).FromDs) :: .bool ((((gt (F14 (g_TPeriod (aL v0)))).1).Head).More) :: .bool ((((gt (F14 (g_TPeriod (aL v0)))).1).Head).Retry) :: .bool ((((gt (F14 (g_TPeriod (aL v0)))).1).Head).Sleep) :: .bool ((((gt (F14 (g_TPeriod (aL v0)))).1).Head).MoreData) :: .bool ((((gt (F14 (g_TPeriod (aL v0)))).1).Head).Protected) :: .int .i64 ((((gt (F14 (g_TPeriod (aL v0)))).1).Head).Duration) :: .int .u8 (((((gt (F14 (g_TPeriod (aL v0)))).1).Head).A1).x0) :: .int .u8 (((((gt (F14 (g_TPeriod (aL v0)))).1).Head).A1).x1) :: .int .u8 (((((gt (F14 (g_TPeriod (aL v0)))).1).Head).A1).x2) :: .int .u8 (((((gt (F14 (g_TPeriod (aL v0)))).1).Head).A1).x3) :: .int .u8 (((((gt (F14 (g_TPeriod (aL v0)))).1).Head).A1).x4) :: .int .u8 (((((gt (F14 (g_TPeriod (aL v0)))).1).Head).A1).x5) :: .int .u8 (((((gt (F14 (g_TPeriod (aL v0)))).1).Head).A2).x0) :: .int .u8 (((((gt (F14 (g_TPeriod (aL v0)))).1).Head).A2).x1) :: .int .u8 (((((gt (F14 (g_TPeriod (aL v0)))).1).Head).A2).x2) :: .int .u8 (((((gt (F14 (g_TPeriod (aL v0)))).1).Head).A2).x3) :: .int .u8 (((((gt (F14 (g_TPeriod (aL v0)))).1).Head).A2).x4) :: .int .u8 (((((gt (F14 (g_TPeriod (aL v0)))).1).Head).A2).x5) :: .int .u8 (((((gt (F14 (g_TPeriod (aL v0)))).1).Head).A3).x0) :: .int .u8 (((((gt (F14 (g_TPeriod (aL v0)))).1).Head).A3).x1) :: .int .u8 (((((gt (F14 (g_TPeriod (aL v0)))).1).Head).A3).x2) :: .int .u8 (((((gt (F14 (g_TPeriod (aL v0)))).1).Head).A3).x3) :: .int .u8 (((((gt (F14 (g_TPeriod (aL v0)))).1).Head).A3).x4) :: .int .u8 (((((gt (F14 (g_TPeriod (aL v0)))).1).Head).A3).x5) :: .int .u8 (((((gt (F14 (g_TPeriod (aL v0)))).1).Head).A4).x0) :: .int .u8 (((((gt (F14 (g_TPeriod (aL v0)))).1).Head).A4).x1) :: .int .u8 (((((gt (F14 (g_TPeriod (aL v0)))).1).Head).A4).x2) :: .int .u8 (((((gt (F14 (g_TPeriod (aL v0)))).1).Head).A4).x3) :: .int .u8 (((((gt (F14 (g_TPeriod (aL v0)))).1).Head).A4).x4) :: .int .u8 (((((gt (F14 (g_TPeriod (aL v0)))).1).Head).A4).x5) :: .int .i64 ((((gt (F14 (g_TPeriod (aL v0)))).1).Head).Seq) :: .int .i64 ((((gt (F14 (g_TPeriod (aL v0)))).1).Head).Frag) :: .int .i64 ((((gt (F14 (g_TPeriod (aL v0)))).1).Head).Tid) :: .int .u8 ((((gt (F14 (g_TPeriod (aL v0)))).1).Head).Ack) :: .bool ((((gt (F14 (g_TPeriod (aL v0)))).1).Head).Amsdu) :: .bool ((((gt (F14 (g_TPeriod (aL v0)))).1).Head).Eosp) :: .ro 1 ((((gt (F14 (g_TPeriod (aL v0)))).1).Body).length) false (enR c_u8 (((gt (F14 (g_TPeriod (aL v0)))).1).Body)) :: []), .agg [.int .i64 (((gt (F14 (g_TPeriod (aL v0)))).2.1).Aid), .ro 41 ((((gt (F14 (g_TPeriod (aL v0)))).2.1).Left).length) false (enR c_TFrame (((gt (F14 (g_TPeriod (aL v0)))).2.1).Left))], .int .i64 ((gt (F14 (g_TPeriod (aL v0)))).2.2)])
  | _, _ => .fail
set_option maxHeartbeats 4000000 in
set_option maxRecDepth 20000 in
theorem ok14 : FnOk Try.prog 14 (genC body14) := by
  refine gen_fn body14 (rs := [.cell 2 30, .cell 3 33, .tmp 4]) Try.func14 (by kernel_rfl) rfl rfl ?_
  intro l s ob v ns hb hob
  rcases hb with ⟨hb, rfl⟩ | hb
  · unfold body14 at hb
    split at hb
    · rename_i v0
      injection hb with q1 q2; subst q1 q2
      obtain ⟨hk0_0, hob⟩ := hob
      obtain ⟨r, H⟩ := Option.isSome_iff_exists.1 hob
      rw [H, gt_some]
      have hw0 := wA_TPeriod hk0_0
      generalize g_TPeriod (aL v0) = p0 at H hw0
      refine ⟨[.agg [.int .i64 p0.Aid, .ro 41 p0.Left.length false (enR c_TFrame p0.Left)]], .tup [.agg (.int .u8 r.1.Head.Kind :: .int .u8 r.1.Head.Sub :: .bool r.1.Head.ToDs :: .bool r.1.Head.FromDs :: .bool r.1.Head.More :: .bool r.1.Head.Retry :: .bool r.1.Head.Sleep :: .bool r.1.Head.MoreData :: .bool r.1.Head.Protected :: .int .i64 r.1.Head.Duration :: .int .u8 r.1.Head.A1.x0 :: .int .u8 r.1.Head.A1.x1 :: .int .u8 r.1.Head.A1.x2 :: .int .u8 r.1.Head.A1.x3 :: .int .u8 r.1.Head.A1.x4 :: .int .u8 r.1.Head.A1.x5 :: .int .u8 r.1.Head.A2.x0 :: .int .u8 r.1.Head.A2.x1 :: .int .u8 r.1.Head.A2.x2 :: .int .u8 r.1.Head.A2.x3 :: .int .u8 r.1.Head.A2.x4 :: .int .u8 r.1.Head.A2.x5 :: .int .u8 r.1.Head.A3.x0 :: .int .u8 r.1.Head.A3.x1 :: .int .u8 r.1.Head.A3.x2 :: .int .u8 r.1.Head.A3.x3 :: .int .u8 r.1.Head.A3.x4 :: .int .u8 r.1.Head.A3.x5 :: .int .u8 r.1.Head.A4.x0 :: .int .u8 r.1.Head.A4.x1 :: .int .u8 r.1.Head.A4.x2 :: .int .u8 r.1.Head.A4.x3 :: .int .u8 r.1.Head.A4.x4 :: .int .u8 r.1.Head.A4.x5 :: .int .i64 r.1.Head.Seq :: .int .i64 r.1.Head.Frag :: .int .i64 r.1.Head.Tid :: .int .u8 r.1.Head.Ack :: .bool r.1.Head.Amsdu :: .bool r.1.Head.Eosp :: .ro 1 r.1.Body.length false (enR c_u8 r.1.Body) :: []), .agg [.int .i64 r.2.1.Aid, .ro 41 r.2.1.Left.length false (enR c_TFrame r.2.1.Left)], .int .i64 r.2.2], [], (fun E vs F => FR_wk1 hw0.1 F (fun vs F => F)), by simp only [ren, renL], trivial, ?_⟩
      rw [Try.ntmps14]
      simp only [List.length_cons, List.length_nil, Nat.reduceAdd, Nat.reduceSub, List.replicate_succ, List.replicate_zero, List.cons_append, List.nil_append]
      unfold F14 at H
      try dsimp only at H
      refine sq ctNo_ok ?_
      simp only [go_sem, Nat.reduceLeDiff, Nat.reduceLT, Nat.reduceAdd, Nat.reduceMul, Nat.reduceSub, Nat.reduceEqDiff, Nat.reduceBEq, Int.reduceToNat, reduceCtorEq]
      refine seqM ?_
      refine seqM ?_
      obtain ⟨r1, e2, H⟩ := bsi H
      refine rg ct14t0_ok ?_
      simp only [go_sem, Nat.reduceLeDiff, Nat.reduceLT, Nat.reduceAdd, Nat.reduceMul, Nat.reduceSub, Nat.reduceEqDiff, Nat.reduceBEq, Int.reduceToNat, reduceCtorEq, ct14t0_23, body23, e2]
      repeat ((with_reducible refine And.intro ?_ ?_); focus (first | (and_intros <;> first | (with_reducible trivial) | omega | assumption | exact nfc | first | exact rfl | exact trivial | exact fitI | exact .inr rfl | exact .inl rfl | exact fun x hx => absurd hx (by omega)) | grind))
      refine condM rfl trivial (fun hc => ?_) (fun hc => ?_)
      · replace H := cond_t hc H
        refine sq ctNo_ok ?_
        simp only [go_sem, Nat.reduceLeDiff, Nat.reduceLT, Nat.reduceAdd, Nat.reduceMul, Nat.reduceSub, Nat.reduceEqDiff, Nat.reduceBEq, Int.reduceToNat, reduceCtorEq]
        repeat ((with_reducible refine And.intro ?_ ?_); focus (first | (with_reducible trivial) | omega | grind))
        refine rg ctNo_ok ?_
        simp only [go_sem, Nat.reduceLeDiff, Nat.reduceLT, Nat.reduceAdd, Nat.reduceMul, Nat.reduceSub, Nat.reduceEqDiff, Nat.reduceBEq, Int.reduceToNat, reduceCtorEq]
        obtain rfl := Option.some.inj H
        refine ⟨[0, 1, 2], ?_, ?_, [], ?_, ?_, rfl⟩
        · simp only [go_sem, Nat.reduceEqDiff, Nat.reduceBEq, Nat.reduceAdd]
          try (and_intros <;> first | (with_reducible trivial) | omega | exact nfc | trivial)
        · simp only [go_sem, Nat.reduceEqDiff, Nat.reduceBEq, Nat.reduceAdd]
          try (and_intros <;> first | (with_reducible trivial) | omega | exact nfc | trivial)
        · simp only [go_sem, Nat.reduceEqDiff, Nat.reduceBEq, Nat.reduceAdd]
          exact Cv_tup (CvL_cons (Cv_agg (CvL_cons Cv_int (CvL_cons Cv_int (CvL_cons Cv_bool (CvL_cons Cv_bool (CvL_cons Cv_bool (CvL_cons Cv_bool (CvL_cons Cv_bool (CvL_cons Cv_bool (CvL_cons Cv_bool (CvL_cons Cv_int (CvL_cons Cv_int (CvL_cons Cv_int (CvL_cons Cv_int (CvL_cons Cv_int (CvL_cons Cv_int (CvL_cons Cv_int (CvL_cons Cv_int (CvL_cons Cv_int (CvL_cons Cv_int (CvL_cons Cv_int (CvL_cons Cv_int (CvL_cons Cv_int (CvL_cons Cv_int (CvL_cons Cv_int (CvL_cons Cv_int (CvL_cons Cv_int (CvL_cons Cv_int (CvL_cons Cv_int (CvL_cons Cv_int (CvL_cons Cv_int (CvL_cons Cv_int (CvL_cons Cv_int (CvL_cons Cv_int (CvL_cons Cv_int (CvL_cons Cv_int (CvL_cons Cv_int (CvL_cons Cv_int (CvL_cons Cv_int (CvL_cons Cv_bool (CvL_cons Cv_bool (CvL_cons (Cv_ronil (α := Int)) CvL_nil)))))))))))))))))))))))))))))))))))))))))) (CvL_cons (Cv_agg (CvL_cons Cv_int (CvL_cons (Cv_ronil (α := TFrame)) CvL_nil))) (CvL_cons Cv_int CvL_nil)))
        · simp only [go_sem, Nat.reduceEqDiff, Nat.reduceBEq, Nat.reduceAdd, CvH]
      replace H := cond_f hc H
      refine rg ctNo_ok ?_
      simp only [go_sem, Nat.reduceLeDiff, Nat.reduceLT, Nat.reduceAdd, Nat.reduceMul, Nat.reduceSub, Nat.reduceEqDiff, Nat.reduceBEq, Int.reduceToNat, reduceCtorEq]
      refine seqM ?_
      refine sq ctNo_ok ?_
      simp only [go_sem, Nat.reduceLeDiff, Nat.reduceLT, Nat.reduceAdd, Nat.reduceMul, Nat.reduceSub, Nat.reduceEqDiff, Nat.reduceBEq, Int.reduceToNat, reduceCtorEq]
      repeat ((with_reducible refine And.intro ?_ ?_); focus (first | (and_intros <;> first | (with_reducible trivial) | omega | assumption | exact nfc | first | exact rfl | exact trivial | exact fitI | exact .inr rfl | exact .inl rfl | exact fun x hx => absurd hx (by omega)) | grind))
      refine condM rfl trivial (fun hc => ?_) (fun hc => ?_)
      · replace H := cond_t hc H
        refine sq ctNo_ok ?_
        simp only [go_sem, Nat.reduceLeDiff, Nat.reduceLT, Nat.reduceAdd, Nat.reduceMul, Nat.reduceSub, Nat.reduceEqDiff, Nat.reduceBEq, Int.reduceToNat, reduceCtorEq]
        repeat ((with_reducible refine And.intro ?_ ?_); focus (first | (with_reducible trivial) | omega | grind))
        refine rg ctNo_ok ?_
        simp only [go_sem, Nat.reduceLeDiff, Nat.reduceLT, Nat.reduceAdd, Nat.reduceMul, Nat.reduceSub, Nat.reduceEqDiff, Nat.reduceBEq, Int.reduceToNat, reduceCtorEq]
        obtain rfl := Option.some.inj H
        refine ⟨[0, 1, 2], ?_, ?_, [], ?_, ?_, rfl⟩
        · simp only [go_sem, Nat.reduceEqDiff, Nat.reduceBEq, Nat.reduceAdd]
          try (and_intros <;> first | (with_reducible trivial) | omega | exact nfc | trivial)
        · simp only [go_sem, Nat.reduceEqDiff, Nat.reduceBEq, Nat.reduceAdd]
          try (and_intros <;> first | (with_reducible trivial) | omega | exact nfc | trivial)
        · simp only [go_sem, Nat.reduceEqDiff, Nat.reduceBEq, Nat.reduceAdd]
          exact Cv_tup (CvL_cons (Cv_agg (CvL_cons Cv_int (CvL_cons Cv_int (CvL_cons Cv_bool (CvL_cons Cv_bool (CvL_cons Cv_bool (CvL_cons Cv_bool (CvL_cons Cv_bool (CvL_cons Cv_bool (CvL_cons Cv_bool (CvL_cons Cv_int (CvL_cons Cv_int (CvL_cons Cv_int (CvL_cons Cv_int (CvL_cons Cv_int (CvL_cons Cv_int (CvL_cons Cv_int (CvL_cons Cv_int (CvL_cons Cv_int (CvL_cons Cv_int (CvL_cons Cv_int (CvL_cons Cv_int (CvL_cons Cv_int (CvL_cons Cv_int (CvL_cons Cv_int (CvL_cons Cv_int (CvL_cons Cv_int (CvL_cons Cv_int (CvL_cons Cv_int (CvL_cons Cv_int (CvL_cons Cv_int (CvL_cons Cv_int (CvL_cons Cv_int (CvL_cons Cv_int (CvL_cons Cv_int (CvL_cons Cv_int (CvL_cons Cv_int (CvL_cons Cv_int (CvL_cons Cv_int (CvL_cons Cv_bool (CvL_cons Cv_bool (CvL_cons (Cv_ronil (α := Int)) CvL_nil)))))))))))))))))))))))))))))))))))))))))) (CvL_cons (Cv_agg (CvL_cons Cv_int (CvL_cons (Cv_ronil (α := TFrame)) CvL_nil))) (CvL_cons Cv_int CvL_nil)))
        · simp only [go_sem, Nat.reduceEqDiff, Nat.reduceBEq, Nat.reduceAdd, CvH]
      replace H := cond_f hc H
      refine rg ctNo_ok ?_
      simp only [go_sem, Nat.reduceLeDiff, Nat.reduceLT, Nat.reduceAdd, Nat.reduceMul, Nat.reduceSub, Nat.reduceEqDiff, Nat.reduceBEq, Int.reduceToNat, reduceCtorEq]
      refine seqM ?_
      obtain ⟨f3, H⟩ := need_some.1 H
      replace f3 := inb_iff.1 f3
      obtain ⟨f4, H⟩ := need_some.1 H
      replace f4 := slb_iff.1 f4
      refine draw_rule shT_ok ctNo_ok 0 (by kernel_rfl) (by kernel_rfl) ?_
      intro an han
      simp only [d_nil, d_cons, nxtD, xrD, xoD, roEq, minL, List.append_nil, refsOp, refs, refsL, mask, maskF, place, placeF, okLog, pairOk, hit, inL, slotsF, ren, renL, rnN, nrH, nrB, nrL, nr, dead0, deadS, List.replicate_zero, List.replicate_succ, Nat.sub_self, Nat.add_zero, Nat.zero_add, Nat.reduceSub, Nat.not_lt_zero, Nat.zero_le, Nat.lt_add_one, go_sem, Nat.reduceLeDiff, Nat.reduceLT, Nat.reduceAdd, Nat.reduceMul, Nat.reduceSub, Nat.reduceEqDiff, Nat.reduceBEq, Int.reduceToNat, reduceCtorEq, f3, f4]
      repeat ((with_reducible refine And.intro ?_ ?_); focus (and_intros <;> first | (with_reducible trivial) | (show anB _ _ _ = true; subst han; kernel_rfl) | (show (anB _ _ _ && _) = true; subst han; kernel_rfl) | omega | assumption | exact nrc | exact nfc | first | exact rfl | exact trivial | exact fitI | exact .inr rfl | exact .inl rfl | exact fun x hx => absurd hx (by omega)))
      refine rg ctNo_ok ?_
      simp only [go_sem, Nat.reduceLeDiff, Nat.reduceLT, Nat.reduceAdd, Nat.reduceMul, Nat.reduceSub, Nat.reduceEqDiff, Nat.reduceBEq, Int.reduceToNat, reduceCtorEq]
      obtain rfl := Option.some.inj H
      refine ⟨[0, 1, 2], ?_, ?_, [], ?_, ?_, rfl⟩
      · simp only [go_sem, Nat.reduceEqDiff, Nat.reduceBEq, Nat.reduceAdd]
        try (and_intros <;> first | (with_reducible trivial) | omega | exact nfc | trivial)
      · simp only [go_sem, Nat.reduceEqDiff, Nat.reduceBEq, Nat.reduceAdd]
        try (and_intros <;> first | (with_reducible trivial) | omega | exact nfc | trivial)
      · simp only [go_sem, Nat.reduceEqDiff, Nat.reduceBEq, Nat.reduceAdd]
        exact Cv_tup (CvL_cons (Cv_agg (CvL_cons Cv_int (CvL_cons Cv_int (CvL_cons Cv_bool (CvL_cons Cv_bool (CvL_cons Cv_bool (CvL_cons Cv_bool (CvL_cons Cv_bool (CvL_cons Cv_bool (CvL_cons Cv_bool (CvL_cons Cv_int (CvL_cons Cv_int (CvL_cons Cv_int (CvL_cons Cv_int (CvL_cons Cv_int (CvL_cons Cv_int (CvL_cons Cv_int (CvL_cons Cv_int (CvL_cons Cv_int (CvL_cons Cv_int (CvL_cons Cv_int (CvL_cons Cv_int (CvL_cons Cv_int (CvL_cons Cv_int (CvL_cons Cv_int (CvL_cons Cv_int (CvL_cons Cv_int (CvL_cons Cv_int (CvL_cons Cv_int (CvL_cons Cv_int (CvL_cons Cv_int (CvL_cons Cv_int (CvL_cons Cv_int (CvL_cons Cv_int (CvL_cons Cv_int (CvL_cons Cv_int (CvL_cons Cv_int (CvL_cons Cv_int (CvL_cons Cv_int (CvL_cons Cv_bool (CvL_cons Cv_bool (CvL_cons (Cv_nf (by simp only [nref])) CvL_nil)))))))))))))))))))))))))))))))))))))))))) (CvL_cons (Cv_agg (CvL_cons Cv_int (CvL_cons (ro_row (by rw [List.length_drop]) (fun _ _ _ _ => rfl)) CvL_nil))) (CvL_cons Cv_int CvL_nil)))
      · simp only [go_sem, Nat.reduceEqDiff, Nat.reduceBEq, Nat.reduceAdd, CvH]
    · cases hb
  · unfold body14 at hb
    split at hb <;> cases hb
/-! hotspot/hotspotref05.Same -/
noncomputable def F15 (p0 : TFrame) (p1 : TFrame) : Option (Bool) :=
  need (bif (bEq p0.Head.Kind p1.Head.Kind && (bEq p0.Head.Sub p1.Head.Sub && (bB p0.Head.ToDs p1.Head.ToDs && (bB p0.Head.FromDs p1.Head.FromDs && (bB p0.Head.More p1.Head.More && (bB p0.Head.Retry p1.Head.Retry && (bB p0.Head.Sleep p1.Head.Sleep && (bB p0.Head.MoreData p1.Head.MoreData && (bB p0.Head.Protected p1.Head.Protected && (bEq p0.Head.Duration p1.Head.Duration && (bEq p0.Head.A1.x0 p1.Head.A1.x0 && (bEq p0.Head.A1.x1 p1.Head.A1.x1 && (bEq p0.Head.A1.x2 p1.Head.A1.x2 && (bEq p0.Head.A1.x3 p1.Head.A1.x3 && (bEq p0.Head.A1.x4 p1.Head.A1.x4 && (bEq p0.Head.A1.x5 p1.Head.A1.x5 && (bEq p0.Head.A2.x0 p1.Head.A2.x0 && (bEq p0.Head.A2.x1 p1.Head.A2.x1 && (bEq p0.Head.A2.x2 p1.Head.A2.x2 && (bEq p0.Head.A2.x3 p1.Head.A2.x3 && (bEq p0.Head.A2.x4 p1.Head.A2.x4 && (bEq p0.Head.A2.x5 p1.Head.A2.x5 && (bEq p0.Head.A3.x0 p1.Head.A3.x0 && (bEq p0.Head.A3.x1 p1.Head.A3.x1 && (bEq p0.Head.A3.x2 p1.Head.A3.x2 && (bEq p0.Head.A3.x3 p1.Head.A3.x3 && (bEq p0.Head.A3.x4 p1.Head.A3.x4 && (bEq p0.Head.A3.x5 p1.Head.A3.x5 && (bEq p0.Head.A4.x0 p1.Head.A4.x0 && (bEq p0.Head.A4.x1 p1.Head.A4.x1 && (bEq p0.Head.A4.x2 p1.Head.A4.x2 && (bEq p0.Head.A4.x3 p1.Head.A4.x3 && (bEq p0.Head.A4.x4 p1.Head.A4.x4 && (bEq p0.Head.A4.x5 p1.Head.A4.x5 && (bEq p0.Head.Seq p1.Head.Seq && (bEq p0.Head.Frag p1.Head.Frag && (bEq p0.Head.Tid p1.Head.Tid && (bEq p0.Head.Ack p1.Head.Ack && (bB p0.Head.Amsdu p1.Head.Amsdu && (bB p0.Head.Eosp p1.Head.Eosp)))))))))))))))))))))))))))))))))))))))) then u8b p0.Body.length (enR c_u8 p0.Body) else true) <| need (bif (bEq p0.Head.Kind p1.Head.Kind && (bEq p0.Head.Sub p1.Head.Sub && (bB p0.Head.ToDs p1.Head.ToDs && (bB p0.Head.FromDs p1.Head.FromDs && (bB p0.Head.More p1.Head.More && (bB p0.Head.Retry p1.Head.Retry && (bB p0.Head.Sleep p1.Head.Sleep && (bB p0.Head.MoreData p1.Head.MoreData && (bB p0.Head.Protected p1.Head.Protected && (bEq p0.Head.Duration p1.Head.Duration && (bEq p0.Head.A1.x0 p1.Head.A1.x0 && (bEq p0.Head.A1.x1 p1.Head.A1.x1 && (bEq p0.Head.A1.x2 p1.Head.A1.x2 && (bEq p0.Head.A1.x3 p1.Head.A1.x3 && (bEq p0.Head.A1.x4 p1.Head.A1.x4 && (bEq p0.Head.A1.x5 p1.Head.A1.x5 && (bEq p0.Head.A2.x0 p1.Head.A2.x0 && (bEq p0.Head.A2.x1 p1.Head.A2.x1 && (bEq p0.Head.A2.x2 p1.Head.A2.x2 && (bEq p0.Head.A2.x3 p1.Head.A2.x3 && (bEq p0.Head.A2.x4 p1.Head.A2.x4 && (bEq p0.Head.A2.x5 p1.Head.A2.x5 && (bEq p0.Head.A3.x0 p1.Head.A3.x0 && (bEq p0.Head.A3.x1 p1.Head.A3.x1 && (bEq p0.Head.A3.x2 p1.Head.A3.x2 && (bEq p0.Head.A3.x3 p1.Head.A3.x3 && (bEq p0.Head.A3.x4 p1.Head.A3.x4 && (bEq p0.Head.A3.x5 p1.Head.A3.x5 && (bEq p0.Head.A4.x0 p1.Head.A4.x0 && (bEq p0.Head.A4.x1 p1.Head.A4.x1 && (bEq p0.Head.A4.x2 p1.Head.A4.x2 && (bEq p0.Head.A4.x3 p1.Head.A4.x3 && (bEq p0.Head.A4.x4 p1.Head.A4.x4 && (bEq p0.Head.A4.x5 p1.Head.A4.x5 && (bEq p0.Head.Seq p1.Head.Seq && (bEq p0.Head.Frag p1.Head.Frag && (bEq p0.Head.Tid p1.Head.Tid && (bEq p0.Head.Ack p1.Head.Ack && (bB p0.Head.Amsdu p1.Head.Amsdu && (bB p0.Head.Eosp p1.Head.Eosp)))))))))))))))))))))))))))))))))))))))) then u8b p1.Body.length (enR c_u8 p1.Body) else true) <| some ((bEq p0.Head.Kind p1.Head.Kind && (bEq p0.Head.Sub p1.Head.Sub && (bB p0.Head.ToDs p1.Head.ToDs && (bB p0.Head.FromDs p1.Head.FromDs && (bB p0.Head.More p1.Head.More && (bB p0.Head.Retry p1.Head.Retry && (bB p0.Head.Sleep p1.Head.Sleep && (bB p0.Head.MoreData p1.Head.MoreData && (bB p0.Head.Protected p1.Head.Protected && (bEq p0.Head.Duration p1.Head.Duration && (bEq p0.Head.A1.x0 p1.Head.A1.x0 && (bEq p0.Head.A1.x1 p1.Head.A1.x1 && (bEq p0.Head.A1.x2 p1.Head.A1.x2 && (bEq p0.Head.A1.x3 p1.Head.A1.x3 && (bEq p0.Head.A1.x4 p1.Head.A1.x4 && (bEq p0.Head.A1.x5 p1.Head.A1.x5 && (bEq p0.Head.A2.x0 p1.Head.A2.x0 && (bEq p0.Head.A2.x1 p1.Head.A2.x1 && (bEq p0.Head.A2.x2 p1.Head.A2.x2 && (bEq p0.Head.A2.x3 p1.Head.A2.x3 && (bEq p0.Head.A2.x4 p1.Head.A2.x4 && (bEq p0.Head.A2.x5 p1.Head.A2.x5 && (bEq p0.Head.A3.x0 p1.Head.A3.x0 && (bEq p0.Head.A3.x1 p1.Head.A3.x1 && (bEq p0.Head.A3.x2 p1.Head.A3.x2 && (bEq p0.Head.A3.x3 p1.Head.A3.x3 && (bEq p0.Head.A3.x4 p1.Head.A3.x4 && (bEq p0.Head.A3.x5 p1.Head.A3.x5 && (bEq p0.Head.A4.x0 p1.Head.A4.x0 && (bEq p0.Head.A4.x1 p1.Head.A4.x1 && (bEq p0.Head.A4.x2 p1.Head.A4.x2 && (bEq p0.Head.A4.x3 p1.Head.A4.x3 && (bEq p0.Head.A4.x4 p1.Head.A4.x4 && (bEq p0.Head.A4.x5 p1.Head.A4.x5 && (bEq p0.Head.Seq p1.Head.Seq && (bEq p0.Head.Frag p1.Head.Frag && (bEq p0.Head.Tid p1.Head.Tid && (bEq p0.Head.Ack p1.Head.Ack && (bB p0.Head.Amsdu p1.Head.Amsdu && (bB p0.Head.Eosp p1.Head.Eosp)))))))))))))))))))))))))))))))))))))))) && (sEq (bytesC p0.Body.length (enR c_u8 p0.Body)) (bytesC p1.Body.length (enR c_u8 p1.Body))))
noncomputable def body15 : List AV → AR
  | [v0, v1] => .pure (aK 41 k_TFrame v0 ∧ aK 41 k_TFrame v1 ∧ (F15 (g_TFrame (aL v0)) (g_TFrame (aL v1))).isSome = true) (.bool (gt (F15 (g_TFrame (aL v0)) (g_TFrame (aL v1)))))
  | _ => .fail
set_option maxHeartbeats 4000000 in
set_option maxRecDepth 20000 in
theorem ok15 : FnOk Try.prog 15 (pureC body15) := by
  refine pure_fnM body15 (rs := [.tmp 4]) Try.func15 (by kernel_rfl) rfl rfl ?_
  intro l ob v hb hob
  unfold body15 at hb
  split at hb
  · rename_i v0 v1
    injection hb with q1 q2; subst q1 q2
    obtain ⟨hk0_0, hk1_0, hob⟩ := hob
    obtain ⟨r, H⟩ := Option.isSome_iff_exists.1 hob
    rw [H, gt_some]
    have hw0 := wA_TFrame hk0_0
    have hw1 := wA_TFrame hk1_0
    generalize g_TFrame (aL v0) = p0 at H hw0
    generalize g_TFrame (aL v1) = p1 at H hw1
    refine ⟨[.agg (.int .u8 p0.Head.Kind :: .int .u8 p0.Head.Sub :: .bool p0.Head.ToDs :: .bool p0.Head.FromDs :: .bool p0.Head.More :: .bool p0.Head.Retry :: .bool p0.Head.Sleep :: .bool p0.Head.MoreData :: .bool p0.Head.Protected :: .int .i64 p0.Head.Duration :: .int .u8 p0.Head.A1.x0 :: .int .u8 p0.Head.A1.x1 :: .int .u8 p0.Head.A1.x2 :: .int .u8 p0.Head.A1.x3 :: .int .u8 p0.Head.A1.x4 :: .int .u8 p0.Head.A1.x5 :: .int .u8 p0.Head.A2.x0 :: .int .u8 p0.Head.A2.x1 :: .int .u8 p0.Head.A2.x2 :: .int .u8 p0.Head.A2.x3 :: .int .u8 p0.Head.A2.x4 :: .int .u8 p0.Head.A2.x5 :: .int .u8 p0.Head.A3.x0 :: .int .u8 p0.Head.A3.x1 :: .int .u8 p0.Head.A3.x2 :: .int .u8 p0.Head.A3.x3 :: .int .u8 p0.Head.A3.x4 :: .int .u8 p0.Head.A3.x5 :: .int .u8 p0.Head.A4.x0 :: .int .u8 p0.Head.A4.x1 :: .int .u8 p0.Head.A4.x2 :: .int .u8 p0.Head.A4.x3 :: .int .u8 p0.Head.A4.x4 :: .int .u8 p0.Head.A4.x5 :: .int .i64 p0.Head.Seq :: .int .i64 p0.Head.Frag :: .int .i64 p0.Head.Tid :: .int .u8 p0.Head.Ack :: .bool p0.Head.Amsdu :: .bool p0.Head.Eosp :: .ro 1 p0.Body.length false (enR c_u8 p0.Body) :: []), .agg (.int .u8 p1.Head.Kind :: .int .u8 p1.Head.Sub :: .bool p1.Head.ToDs :: .bool p1.Head.FromDs :: .bool p1.Head.More :: .bool p1.Head.Retry :: .bool p1.Head.Sleep :: .bool p1.Head.MoreData :: .bool p1.Head.Protected :: .int .i64 p1.Head.Duration :: .int .u8 p1.Head.A1.x0 :: .int .u8 p1.Head.A1.x1 :: .int .u8 p1.Head.A1.x2 :: .int .u8 p1.Head.A1.x3 :: .int .u8 p1.Head.A1.x4 :: .int .u8 p1.Head.A1.x5 :: .int .u8 p1.Head.A2.x0 :: .int .u8 p1.Head.A2.x1 :: .int .u8 p1.Head.A2.x2 :: .int .u8 p1.Head.A2.x3 :: .int .u8 p1.Head.A2.x4 :: .int .u8 p1.Head.A2.x5 :: .int .u8 p1.Head.A3.x0 :: .int .u8 p1.Head.A3.x1 :: .int .u8 p1.Head.A3.x2 :: .int .u8 p1.Head.A3.x3 :: .int .u8 p1.Head.A3.x4 :: .int .u8 p1.Head.A3.x5 :: .int .u8 p1.Head.A4.x0 :: .int .u8 p1.Head.A4.x1 :: .int .u8 p1.Head.A4.x2 :: .int .u8 p1.Head.A4.x3 :: .int .u8 p1.Head.A4.x4 :: .int .u8 p1.Head.A4.x5 :: .int .i64 p1.Head.Seq :: .int .i64 p1.Head.Frag :: .int .i64 p1.Head.Tid :: .int .u8 p1.Head.Ack :: .bool p1.Head.Amsdu :: .bool p1.Head.Eosp :: .ro 1 p1.Body.length false (enR c_u8 p1.Body) :: [])], _, (fun E vs F => FR_wk1 hw0.1 F (fun vs F => FR_wk1 hw1.1 F (fun vs F => F))), rfl, rfl, ?_⟩
    rw [Try.ntmps15]
    simp only [List.length_cons, List.length_nil, Nat.reduceAdd, Nat.reduceSub, List.replicate_succ, List.replicate_zero, List.cons_append, List.nil_append]
    unfold F15 at H
    try dsimp only at H
    refine sq ctNo_ok ?_
    simp only [go_sem, Nat.reduceLeDiff, Nat.reduceLT, Nat.reduceAdd, Nat.reduceMul, Nat.reduceSub, Nat.reduceEqDiff, Nat.reduceBEq, Int.reduceToNat, reduceCtorEq]
    refine seqM ?_
    obtain ⟨f1, H⟩ := need_some.1 H
    replace f1 := g_iff.1 f1
    replace f1 := fun g => u8b_iff.1 (f1 g)
    obtain ⟨f2, H⟩ := need_some.1 H
    replace f2 := g_iff.1 f2
    replace f2 := fun g => u8b_iff.1 (f2 g)
    refine rg ctNo_ok ?_
    simp only [go_sem, Nat.reduceLeDiff, Nat.reduceLT, Nat.reduceAdd, Nat.reduceMul, Nat.reduceSub, Nat.reduceEqDiff, Nat.reduceBEq, Int.reduceToNat, reduceCtorEq]
    repeat ((with_reducible refine And.intro ?_ ?_); focus (first | (with_reducible trivial) | omega | exact f1 | exact f2 | (intro g; have q := f1 (by first | exact g | (rw [g]; rfl) | simpa using g); first | exact q | exact ⟨q.1, q.2.1⟩ | exact q.2.2 | omega | exact ⟨g, q⟩ | exact ⟨trivial, q⟩ | exact ⟨g, q.1, q.2.1⟩ | exact ⟨g, q.2.2⟩) | (intro g; have q := f2 (by first | exact g | (rw [g]; rfl) | simpa using g); first | exact q | exact ⟨q.1, q.2.1⟩ | exact q.2.2 | omega | exact ⟨g, q⟩ | exact ⟨trivial, q⟩ | exact ⟨g, q.1, q.2.1⟩ | exact ⟨g, q.2.2⟩) | grind))
    refine rg ctNo_ok ?_
    simp only [go_sem, Nat.reduceLeDiff, Nat.reduceLT, Nat.reduceAdd, Nat.reduceMul, Nat.reduceSub, Nat.reduceEqDiff, Nat.reduceBEq, Int.reduceToNat, reduceCtorEq]
    obtain rfl := Option.some.inj H
    first | rfl | simp only [Bool.and_false, Bool.false_and, Bool.and_true, Bool.true_and]
  · cases hb
/-! hotspot/hotspotref05.SameAll -/
noncomputable def ct45t0 : Ct := tab [(15, pureC body15)]
theorem ct45t0_ok : CtOk Try.prog ct45t0 := tab_cons ok15 <| tab_nil
theorem ct45t0_15 (l : List AV) (h : List ABlk) : ct45t0 15 l h = pureC body15 l h := rfl
noncomputable def F45_L1 (p0 : List TFrame) (p1 : List TFrame) (v1_1 : Int) : Option (Lp (Int) ((Unit) ⊕ (Bool))) :=
  bif (bLt v1_1 (p0.length : Nat)) then (need (inb v1_1 p0.length) <| need (inb v1_1 p1.length) <| (F15 (TFrame.mk (THeader.mk (((gd p0 v1_1.toNat).Head).Kind) (((gd p0 v1_1.toNat).Head).Sub) (((gd p0 v1_1.toNat).Head).ToDs) (((gd p0 v1_1.toNat).Head).FromDs) (((gd p0 v1_1.toNat).Head).More) (((gd p0 v1_1.toNat).Head).Retry) (((gd p0 v1_1.toNat).Head).Sleep) (((gd p0 v1_1.toNat).Head).MoreData) (((gd p0 v1_1.toNat).Head).Protected) (((gd p0 v1_1.toNat).Head).Duration) (A6u8.mk ((((gd p0 v1_1.toNat).Head).A1).x0) ((((gd p0 v1_1.toNat).Head).A1).x1) ((((gd p0 v1_1.toNat).Head).A1).x2) ((((gd p0 v1_1.toNat).Head).A1).x3) ((((gd p0 v1_1.toNat).Head).A1).x4) ((((gd p0 v1_1.toNat).Head).A1).x5)) (A6u8.mk ((((gd p0 v1_1.toNat).Head).A2).x0) ((((gd p0 v1_1.toNat).Head).A2).x1) ((((gd p0 v1_1.toNat).Head).A2).x2) ((((gd p0 v1_1.toNat).Head).A2).x3) ((((gd p0 v1_1.toNat).Head).A2).x4) ((((gd p0 v1_1.toNat).Head).A2).x5)) (A6u8.mk ((((gd p0 v1_1.toNat).Head).A3).x0) ((((gd p0 v1_1.toNat).Head).A3).x1) ((((gd p0 v1_1.toNat).Head).A3).x2) ((((gd p0 v1_1.toNat).Head).A3).x3) ((((gd p0 v1_1.toNat).Head).A3).x4) ((((gd p0 v1_1.toNat).Head).A3).x5)) (A6u8.mk ((((gd p0 v1_1.toNat).Head).A4).x0) ((((gd p0 v1_1.toNat).Head).A4).x1) ((((gd p0 v1_1.toNat).Head).A4).x2) ((((gd p0 v1_1.toNat).Head).A4).x3) ((((gd p0 v1_1.toNat).Head).A4).x4) ((((gd p0 v1_1.toNat).Head).A4).x5)) (((gd p0 v1_1.toNat).Head).Seq) (((gd p0 v1_1.toNat).Head).Frag) (((gd p0 v1_1.toNat).Head).Tid) (((gd p0 v1_1.toNat).Head).Ack) (((gd p0 v1_1.toNat).Head).Amsdu) (((gd p0 v1_1.toNat).Head).Eosp)) ((gd p0 v1_1.toNat).Body)) (TFrame.mk (THeader.mk (((gd p1 v1_1.toNat).Head).Kind) (((gd p1 v1_1.toNat).Head).Sub) (((gd p1 v1_1.toNat).Head).ToDs) (((gd p1 v1_1.toNat).Head).FromDs) (((gd p1 v1_1.toNat).Head).More) (((gd p1 v1_1.toNat).Head).Retry) (((gd p1 v1_1.toNat).Head).Sleep) (((gd p1 v1_1.toNat).Head).MoreData) (((gd p1 v1_1.toNat).Head).Protected) (((gd p1 v1_1.toNat).Head).Duration) (A6u8.mk ((((gd p1 v1_1.toNat).Head).A1).x0) ((((gd p1 v1_1.toNat).Head).A1).x1) ((((gd p1 v1_1.toNat).Head).A1).x2) ((((gd p1 v1_1.toNat).Head).A1).x3) ((((gd p1 v1_1.toNat).Head).A1).x4) ((((gd p1 v1_1.toNat).Head).A1).x5)) (A6u8.mk ((((gd p1 v1_1.toNat).Head).A2).x0) ((((gd p1 v1_1.toNat).Head).A2).x1) ((((gd p1 v1_1.toNat).Head).A2).x2) ((((gd p1 v1_1.toNat).Head).A2).x3) ((((gd p1 v1_1.toNat).Head).A2).x4) ((((gd p1 v1_1.toNat).Head).A2).x5)) (A6u8.mk ((((gd p1 v1_1.toNat).Head).A3).x0) ((((gd p1 v1_1.toNat).Head).A3).x1) ((((gd p1 v1_1.toNat).Head).A3).x2) ((((gd p1 v1_1.toNat).Head).A3).x3) ((((gd p1 v1_1.toNat).Head).A3).x4) ((((gd p1 v1_1.toNat).Head).A3).x5)) (A6u8.mk ((((gd p1 v1_1.toNat).Head).A4).x0) ((((gd p1 v1_1.toNat).Head).A4).x1) ((((gd p1 v1_1.toNat).Head).A4).x2) ((((gd p1 v1_1.toNat).Head).A4).x3) ((((gd p1 v1_1.toNat).Head).A4).x4) ((((gd p1 v1_1.toNat).Head).A4).x5)) (((gd p1 v1_1.toNat).Head).Seq) (((gd p1 v1_1.toNat).Head).Frag) (((gd p1 v1_1.toNat).Head).Tid) (((gd p1 v1_1.toNat).Head).Ack) (((gd p1 v1_1.toNat).Head).Amsdu) (((gd p1 v1_1.toNat).Head).Eosp)) ((gd p1 v1_1.toNat).Body))).bind fun r3 => bif (!r3) then (some (.done (.inr false))) else (some (.next (wr .i64 (v1_1 + 1))))) else (some (.done (.inl ())))
noncomputable def F45 (p0 : List TFrame) (p1 : List TFrame) : Option (Bool) :=
  bif (!bEq (p0.length : Nat) (p1.length : Nat)) then (some false) else (lp (loopD (fun s => F45_L1 p0 p1 s) 0) (fun e => some true) some)
noncomputable def body45 : List AV → AR
  | [v0, v1] => .pure (lK k_TFrame 41 v0 ∧ lK k_TFrame 41 v1 ∧ (F45 (lA g_TFrame v0) (lA g_TFrame v1)).isSome = true) (.bool (gt (F45 (lA g_TFrame v0) (lA g_TFrame v1))))
  | _ => .fail
set_option maxHeartbeats 4000000 in
set_option maxRecDepth 20000 in
theorem ok45 : FnOk Try.prog 45 (pureC body45) := by
  refine pure_fnM body45 (rs := [.tmp 4]) Try.func45 (by kernel_rfl) rfl rfl ?_
  intro l ob v hb hob
  unfold body45 at hb
  split at hb
  · rename_i v0 v1
    injection hb with q1 q2; subst q1 q2
    obtain ⟨hk0_0, hk1_0, hob⟩ := hob
    obtain ⟨r, H⟩ := Option.isSome_iff_exists.1 hob
    rw [H, gt_some]
    have hw0 := lK_wk (fun r h => w_TFrame h) hk0_0
    have hw1 := lK_wk (fun r h => w_TFrame h) hk1_0
    generalize lA g_TFrame v0 = p0 at H hw0
    generalize lA g_TFrame v1 = p1 at H hw1
    refine ⟨[.ro 41 p0.length false (enR c_TFrame p0), .ro 41 p1.length false (enR c_TFrame p1)], _, (fun E vs F => FR_wk1 hw0.1 F (fun vs F => FR_wk1 hw1.1 F (fun vs F => F))), rfl, rfl, ?_⟩
    rw [Try.ntmps45]
    simp only [List.length_cons, List.length_nil, Nat.reduceAdd, Nat.reduceSub, List.replicate_succ, List.replicate_zero, List.cons_append, List.nil_append]
    unfold F45 at H
    try dsimp only at H
    refine sq ctNo_ok ?_
    simp only [go_sem, Nat.reduceLeDiff, Nat.reduceLT, Nat.reduceAdd, Nat.reduceMul, Nat.reduceSub, Nat.reduceEqDiff, Nat.reduceBEq, Int.reduceToNat, reduceCtorEq]
    refine seqM ?_
    refine sq ctNo_ok ?_
    simp only [go_sem, Nat.reduceLeDiff, Nat.reduceLT, Nat.reduceAdd, Nat.reduceMul, Nat.reduceSub, Nat.reduceEqDiff, Nat.reduceBEq, Int.reduceToNat, reduceCtorEq]
    repeat ((with_reducible refine And.intro ?_ ?_); focus (first | (and_intros <;> first | (with_reducible trivial) | omega | assumption | exact nfc | first | exact rfl | exact trivial | exact fitI | exact .inr rfl | exact .inl rfl | exact fun x hx => absurd hx (by omega)) | grind))
    refine condM rfl trivial (fun hc => ?_) (fun hc => ?_)
    · replace H := cond_t hc H
      refine sq ctNo_ok ?_
      simp only [go_sem, Nat.reduceLeDiff, Nat.reduceLT, Nat.reduceAdd, Nat.reduceMul, Nat.reduceSub, Nat.reduceEqDiff, Nat.reduceBEq, Int.reduceToNat, reduceCtorEq]
      refine rg ctNo_ok ?_
      simp only [go_sem, Nat.reduceLeDiff, Nat.reduceLT, Nat.reduceAdd, Nat.reduceMul, Nat.reduceSub, Nat.reduceEqDiff, Nat.reduceBEq, Int.reduceToNat, reduceCtorEq]
      obtain rfl := Option.some.inj H
      first | rfl | simp only [Bool.and_false, Bool.false_and, Bool.and_true, Bool.true_and]
    replace H := cond_f hc H
    refine rg ctNo_ok ?_
    simp only [go_sem, Nat.reduceLeDiff, Nat.reduceLT, Nat.reduceAdd, Nat.reduceMul, Nat.reduceSub, Nat.reduceEqDiff, Nat.reduceBEq, Int.reduceToNat, reduceCtorEq]
    refine seqM ?_
    refine sq ctNo_ok ?_
    simp only [go_sem, Nat.reduceLeDiff, Nat.reduceLT, Nat.reduceAdd, Nat.reduceMul, Nat.reduceSub, Nat.reduceEqDiff, Nat.reduceBEq, Int.reduceToNat, reduceCtorEq]
    refine blkM ?_
    refine loop_den (fun s : Int => (.ro 41 p0.length false (enR c_TFrame p0) :: .ro 41 p1.length false (enR c_TFrame p1) :: .top :: .top :: .top :: .int .i64 s :: tp 21 [])) (fun s => []) (fun e : Unit => (tp 27 [])) (fun e => []) H ?_ (fun v1_1 o H hn1_1 hn2_1 => ?_) (fun e H => ?_)
    · refine SubF_of ⟨[], ?_, ?_, by rfl, by rfl⟩
      · simp [CvL, Cv, getM, tp]
      · trivial
    · unfold F45_L1 at H
      try dsimp only at H ⊢
      try simp only [tp]
      refine seqM ?_
      refine sq ctNo_ok ?_
      simp only [go_sem, Nat.reduceLeDiff, Nat.reduceLT, Nat.reduceAdd, Nat.reduceMul, Nat.reduceSub, Nat.reduceEqDiff, Nat.reduceBEq, Int.reduceToNat, reduceCtorEq]
      repeat ((with_reducible refine And.intro ?_ ?_); focus (first | (and_intros <;> first | (with_reducible trivial) | omega | assumption | exact nfc | first | exact rfl | exact trivial | exact fitI | exact .inr rfl | exact .inl rfl | exact fun x hx => absurd hx (by omega)) | grind))
      refine condM' rfl trivial (fun hc => ?_) (fun hc => ?_)
      · replace H := cond_f hc H
        refine rg ctNo_ok ?_
        simp only [go_sem, Nat.reduceLeDiff, Nat.reduceLT, Nat.reduceAdd, Nat.reduceMul, Nat.reduceSub, Nat.reduceEqDiff, Nat.reduceBEq, Int.reduceToNat, reduceCtorEq]
        refine ⟨_, (Option.some.inj H).symm, ?_⟩
        refine SubF_of ⟨[], ?_, ?_, by rfl, by rfl⟩
        · simp [CvL, Cv, getM, tp]
        · trivial
      replace H := cond_t hc H
      refine rg ctNo_ok ?_
      simp only [go_sem, Nat.reduceLeDiff, Nat.reduceLT, Nat.reduceAdd, Nat.reduceMul, Nat.reduceSub, Nat.reduceEqDiff, Nat.reduceBEq, Int.reduceToNat, reduceCtorEq]
      refine seqM ?_
      refine blkM ?_
      refine seqM ?_
      obtain ⟨f1, H⟩ := need_some.1 H
      replace f1 := inb_iff.1 f1
      obtain ⟨f2, H⟩ := need_some.1 H
      replace f2 := inb_iff.1 f2
      obtain ⟨r3, e4, H⟩ := bsi H
      refine draw_quiet shT_ok ct45t0_ok (by kernel_rfl) (by kernel_rfl) ?_
      simp only [go_sem, Nat.reduceLeDiff, Nat.reduceLT, Nat.reduceAdd, Nat.reduceMul, Nat.reduceSub, Nat.reduceEqDiff, Nat.reduceBEq, Int.reduceToNat, reduceCtorEq, ct45t0_15, body15, f1, f2, e4]
      repeat ((with_reducible refine And.intro ?_ ?_); focus (first | (and_intros <;> first | (with_reducible trivial) | omega | assumption | exact nfc | first | exact rfl | exact trivial | exact fitI | exact .inr rfl | exact .inl rfl | exact fun x hx => absurd hx (by omega)) | grind))
      refine condM rfl trivial (fun hc => ?_) (fun hc => ?_)
      · replace H := cond_t hc H
        refine sq ctNo_ok ?_
        simp only [go_sem, Nat.reduceLeDiff, Nat.reduceLT, Nat.reduceAdd, Nat.reduceMul, Nat.reduceSub, Nat.reduceEqDiff, Nat.reduceBEq, Int.reduceToNat, reduceCtorEq]
        refine rg ctNo_ok ?_
        simp only [go_sem, Nat.reduceLeDiff, Nat.reduceLT, Nat.reduceAdd, Nat.reduceMul, Nat.reduceSub, Nat.reduceEqDiff, Nat.reduceBEq, Int.reduceToNat, reduceCtorEq]
        have H := hn2_1 _ (Option.some.inj H).symm
        obtain rfl := Option.some.inj H
        first | rfl | simp only [Bool.and_false, Bool.false_and, Bool.and_true, Bool.true_and]
      replace H := cond_f hc H
      refine rg ctNo_ok ?_
      simp only [go_sem, Nat.reduceLeDiff, Nat.reduceLT, Nat.reduceAdd, Nat.reduceMul, Nat.reduceSub, Nat.reduceEqDiff, Nat.reduceBEq, Int.reduceToNat, reduceCtorEq]
      refine rg ctNo_ok ?_
      simp only [go_sem, Nat.reduceLeDiff, Nat.reduceLT, Nat.reduceAdd, Nat.reduceMul, Nat.reduceSub, Nat.reduceEqDiff, Nat.reduceBEq, Int.reduceToNat, reduceCtorEq]
      refine ⟨_, (Option.some.inj H).symm, ?_⟩
      refine SubF_of ⟨[], ?_, ?_, by rfl, by rfl⟩
      · simp [CvL, Cv, getM, tp]
      · trivial
    · try dsimp only at H ⊢
      try simp only [tp]
      try simp only [m_normal, k_normal, b_normal, kL_normal, r_normal]
      refine sq ctNo_ok ?_
      simp only [go_sem, Nat.reduceLeDiff, Nat.reduceLT, Nat.reduceAdd, Nat.reduceMul, Nat.reduceSub, Nat.reduceEqDiff, Nat.reduceBEq, Int.reduceToNat, reduceCtorEq]
      refine rg ctNo_ok ?_
      simp only [go_sem, Nat.reduceLeDiff, Nat.reduceLT, Nat.reduceAdd, Nat.reduceMul, Nat.reduceSub, Nat.reduceEqDiff, Nat.reduceBEq, Int.reduceToNat, reduceCtorEq]
      obtain rfl := Option.some.inj H
      first | rfl | simp only [Bool.and_false, Bool.false_and, Bool.and_true, Bool.true_and]
  · cases hb
/-! hotspot/hotspotref35.Same -/
noncomputable def ct16t0 : Ct := tab [(45, pureC body45)]
theorem ct16t0_ok : CtOk Try.prog ct16t0 := tab_cons ok45 <| tab_nil
theorem ct16t0_45 (l : List AV) (h : List ABlk) : ct16t0 45 l h = pureC body45 l h := rfl
noncomputable def F16 (p0 : TPeriod) (p1 : TPeriod) : Option (Bool) :=
  need (bif (bEq p0.Aid p1.Aid) then ((F45 p0.Left p1.Left).isSome) else true) <| some ((bEq p0.Aid p1.Aid) && (gt (F45 p0.Left p1.Left)))
noncomputable def body16 : List AV → AR
  | [v0, v1] => .pure (aK 2 k_TPeriod v0 ∧ aK 2 k_TPeriod v1 ∧ (F16 (g_TPeriod (aL v0)) (g_TPeriod (aL v1))).isSome = true) (.bool (gt (F16 (g_TPeriod (aL v0)) (g_TPeriod (aL v1)))))
  | _ => .fail
set_option maxHeartbeats 4000000 in
set_option maxRecDepth 20000 in
theorem ok16 : FnOk Try.prog 16 (pureC body16) := by
  refine pure_fnM body16 (rs := [.tmp 4]) Try.func16 (by kernel_rfl) rfl rfl ?_
  intro l ob v hb hob
  unfold body16 at hb
  split at hb
  · rename_i v0 v1
    injection hb with q1 q2; subst q1 q2
    obtain ⟨hk0_0, hk1_0, hob⟩ := hob
    obtain ⟨r, H⟩ := Option.isSome_iff_exists.1 hob
    rw [H, gt_some]
    have hw0 := wA_TPeriod hk0_0
    have hw1 := wA_TPeriod hk1_0
    generalize g_TPeriod (aL v0) = p0 at H hw0
    generalize g_TPeriod (aL v1) = p1 at H hw1
    refine ⟨[.agg [.int .i64 p0.Aid, .ro 41 p0.Left.length false (enR c_TFrame p0.Left)], .agg [.int .i64 p1.Aid, .ro 41 p1.Left.length false (enR c_TFrame p1.Left)]], _, (fun E vs F => FR_wk1 hw0.1 F (fun vs F => FR_wk1 hw1.1 F (fun vs F => F))), rfl, rfl, ?_⟩
    rw [Try.ntmps16]
    simp only [List.length_cons, List.length_nil, Nat.reduceAdd, Nat.reduceSub, List.replicate_succ, List.replicate_zero, List.cons_append, List.nil_append]
    unfold F16 at H
    try dsimp only at H
    refine sq ctNo_ok ?_
    simp only [go_sem, Nat.reduceLeDiff, Nat.reduceLT, Nat.reduceAdd, Nat.reduceMul, Nat.reduceSub, Nat.reduceEqDiff, Nat.reduceBEq, Int.reduceToNat, reduceCtorEq]
    refine seqM ?_
    obtain ⟨f1, H⟩ := need_some.1 H
    replace f1 := g_iff.1 f1
    refine rg ct16t0_ok ?_
    simp only [go_sem, Nat.reduceLeDiff, Nat.reduceLT, Nat.reduceAdd, Nat.reduceMul, Nat.reduceSub, Nat.reduceEqDiff, Nat.reduceBEq, Int.reduceToNat, reduceCtorEq, ct16t0_45, body45]
    repeat ((with_reducible refine And.intro ?_ ?_); focus (first | (with_reducible trivial) | omega | exact f1 | (intro g; have q := f1 (by first | exact g | (rw [g]; rfl) | simpa using g); first | exact q | exact ⟨q.1, q.2.1⟩ | exact q.2.2 | omega | exact ⟨g, q⟩ | exact ⟨trivial, q⟩ | exact ⟨g, q.1, q.2.1⟩ | exact ⟨g, q.2.2⟩) | (intro g; (try have q0 := f1 (by first | exact g | (rw [g]; rfl) | simpa using g)); and_intros <;> first | (with_reducible trivial) | assumption | exact nfc | (intro g2; rw [g, g2]; rfl) | (intro g2; assumption) | (simp only [g, Bool.true_and, Bool.and_true, Bool.not_false, Bool.not_true]; assumption) | grind) | (and_intros <;> first | (with_reducible trivial) | omega | assumption | exact nfc | first | exact rfl | exact trivial | exact fitI | exact .inr rfl | exact .inl rfl | exact fun x hx => absurd hx (by omega)) | grind))
    refine rg ctNo_ok ?_
    simp only [go_sem, Nat.reduceLeDiff, Nat.reduceLT, Nat.reduceAdd, Nat.reduceMul, Nat.reduceSub, Nat.reduceEqDiff, Nat.reduceBEq, Int.reduceToNat, reduceCtorEq]
    obtain rfl := Option.some.inj H
    first | rfl | simp only [Bool.and_false, Bool.false_and, Bool.and_true, Bool.true_and]
  · cases hb
/-! hotspot/hotspotref05.Twin -/
noncomputable def F17 (p0 : TFrame) : Option (TFrame) :=
  need (capb 1 p0.Body.length) <| some (TFrame.mk (THeader.mk p0.Head.Kind p0.Head.Sub p0.Head.ToDs p0.Head.FromDs p0.Head.More p0.Head.Retry p0.Head.Sleep p0.Head.MoreData p0.Head.Protected p0.Head.Duration (A6u8.mk p0.Head.A1.x0 p0.Head.A1.x1 p0.Head.A1.x2 p0.Head.A1.x3 p0.Head.A1.x4 p0.Head.A1.x5) (A6u8.mk p0.Head.A2.x0 p0.Head.A2.x1 p0.Head.A2.x2 p0.Head.A2.x3 p0.Head.A2.x4 p0.Head.A2.x5) (A6u8.mk p0.Head.A3.x0 p0.Head.A3.x1 p0.Head.A3.x2 p0.Head.A3.x3 p0.Head.A3.x4 p0.Head.A3.x5) (A6u8.mk p0.Head.A4.x0 p0.Head.A4.x1 p0.Head.A4.x2 p0.Head.A4.x3 p0.Head.A4.x4 p0.Head.A4.x5) p0.Head.Seq p0.Head.Frag p0.Head.Tid p0.Head.Ack p0.Head.Amsdu p0.Head.Eosp) ([] ++ p0.Body))
noncomputable def body17 : List AV → List ABlk → ED
  | [v0], h => .ed [] (aK 41 k_TFrame (roD (deadL h []) v0) ∧ roDOb (deadL h []) v0 ∧ (F17 (g_TFrame (aL (roD (deadL h []) v0)))).isSome = true) (.agg (.int .u8 (((gt (F17 (g_TFrame (aL (roD (deadL h []) v0))))).Head).Kind) :: .int .u8 (((gt (F17 (g_TFrame (aL (roD (deadL h []) v0))))).Head).Sub) :: .bool (((gt (F17 (g_TFrame (aL (roD (deadL h []) v0))))).Head).ToDs) :: .bool (((gt (F17 (g_TFrame (aL (roD (deadL h []) v0))))).Head).FromDs) :: .bool (((gt (F17 (g_TFrame (aL (roD (deadL h []) v0))))).Head).More) :: .bool (((gt (F17 (g_TFrame (aL (roD (deadL h []) v0))))).Head).Retry) :: .bool (((gt (F17 (g_TFrame (aL (roD (deadL h []) v0))))).Head).Sleep) :: .bool (((gt (F17 (g_TFrame (aL (roD (deadL h []) v0))))).Head).MoreData) :: .bool (((gt (F17 (g_TFrame (aL (roD (deadL h []) v0))))).Head).Protected) :: .int .i64 (((gt (F17 (g_TFrame (aL (roD (deadL h []) v0))))).Head).Duration) :: .int .u8 ((((gt (F17 (g_TFrame (aL (roD (deadL h []) v0))))).Head).A1).x0) :: .int .u8 ((((gt (F17 (g_TFrame (aL (roD (deadL h []) v0))))).Head).A1).x1) :: .int .u8 ((((gt (F17 (g_TFrame (aL (roD (deadL h []) v0))))).Head).A1).x2) :: .int .u8 ((((gt (F17 (g_TFrame (aL (roD (deadL h []) v0))))).Head).A1).x3) :: .int .u8 ((((gt (F17 (g_TFrame (aL (roD (deadL h []) v0))))).Head).A1).x4) :: .int .u8 ((((gt (F17 (g_TFrame (aL (roD (deadL h []) v0))))).Head).A1).x5) :: .int .u8 ((((gt (F17 (g_TFrame (aL (roD (deadL h []) v0))))).Head).A2).x0) :: .int .u8 ((((gt (F17 (g_TFrame (aL (roD (deadL h []) v0))))).Head).A2).x1) :: .int .u8 ((((gt (F17 (g_TFrame (aL (roD (deadL h []) v0))))).Head).A2).x2) :: .int .u8 ((((gt (F17 (g_TFrame (aL (roD (deadL h []) v0))))).Head).A2).x3) :: .int .u8 ((((gt (F17 (g_TFrame (aL (roD (deadL h []) v0))))).Head).A2).x4) :: .int .u8 ((((gt (F17 (g_TFrame (aL (roD (deadL h []) v0))))).Head).A2).x5) :: .int .u8 ((((gt (F17 (g_TFrame (aL (roD (deadL h []) v0))))).Head).A3).x0) :: .int .u8 ((((gt (F17 (g_TFrame (aL (roD (deadL h []) v0))))).Head).A3).x1) :: .int .u8 ((((gt (F17 (g_TFrame (aL (roD (deadL h []) v0))))).Head).A3).x2) :: .int .u8 ((((gt (F17 (g_TFrame (aL (roD (deadL h []) v0))))).Head).A3).x3) :: .int .u8 ((((gt (F17 (g_TFrame (aL (roD (deadL h []) v0))))).Head).A3).x4) :: .int .u8 ((((gt (F17 (g_TFrame (aL (roD (deadL h []) v0))))).Head).A3).x5) :: .int .u8 ((((gt (F17 (g_TFrame (aL (roD (deadL h []) v0))))).Head).A4).x0) :: .int .u8 ((((gt (F17 (g_TFrame (aL (roD (deadL h []) v0))))).Head).A4).x1) :: .int .u8 ((((gt (F17 (g_TFrame (aL (roD (deadL h []) v0))))).Head).A4).x2) :: .int .u8 ((((gt (F17 (g_TFrame (aL (roD (deadL h []) v0))))).Head).A4).x3) :: .int .u8 ((((gt (F17 (g_TFrame (aL (roD (deadL h []) v0))))).Head).A4).x4) :: .int .u8 ((((gt (F17 (g_TFrame (aL (roD (deadL h []) v0))))).Head).A4).x5) :: .int .i64 (((gt (F17 (g_TFrame (aL (roD (deadL h []) v0))))).Head).Seq) :: .int .i64 (((gt (F17 (g_TFrame (aL (roD (deadL h []) v0))))).Head).Frag) :: .int .i64 (((gt (F17 (g_TFrame (aL (roD (deadL h []) v0))))).Head).Tid) :: .int .u8 (((gt (F17 (g_TFrame (aL (roD (deadL h []) v0))))).Head).Ack) :: .bool (((gt (F17 (g_TFrame (aL (roD (deadL h []) v0))))).Head).Amsdu) :: .bool (((gt (F17 (g_TFrame (aL (roD (deadL h []) v0))))).Head).Eosp) :: .sl 0 1 0 (((gt (F17 (g_TFrame (aL (roD (deadL h []) v0))))).Body).length) false :: [])) [.row 5 1 (((gt (F17 (g_TFrame (aL (roD (deadL h []) v0))))).Body).length) (enR c_u8 ((gt (F17 (g_TFrame (aL (roD (deadL h []) v0))))).Body))]
  | _, _ => .fail
set_option maxHeartbeats 4000000 in
set_option maxRecDepth 20000 in
theorem ok17 : FnOk Try.prog 17 (edC body17) := by
  refine edit_fnV body17 (rs := [.cell 2 30]) Try.func17 (by kernel_rfl) rfl rfl ?_
  intro l h bs ob q0 g0 hb hob
  unfold body17 at hb
  split at hb
  · rename_i v0
    injection hb with q1 q2 q3 q4; subst q1 q2 q3 q4
    obtain ⟨hk0_0, hk0_1, hob⟩ := hob
    obtain ⟨r, H⟩ := Option.isSome_iff_exists.1 hob
    rw [H, gt_some]
    have hw0 := wA_TFrame hk0_0
    obtain ⟨p0, hp_p0⟩ : ∃ p0, p0 = g_TFrame (aL (roD (deadL h []) v0)) := ⟨_, rfl⟩
    rw [← hp_p0] at H hw0
    refine ⟨[.agg (.int .u8 p0.Head.Kind :: .int .u8 p0.Head.Sub :: .bool p0.Head.ToDs :: .bool p0.Head.FromDs :: .bool p0.Head.More :: .bool p0.Head.Retry :: .bool p0.Head.Sleep :: .bool p0.Head.MoreData :: .bool p0.Head.Protected :: .int .i64 p0.Head.Duration :: .int .u8 p0.Head.A1.x0 :: .int .u8 p0.Head.A1.x1 :: .int .u8 p0.Head.A1.x2 :: .int .u8 p0.Head.A1.x3 :: .int .u8 p0.Head.A1.x4 :: .int .u8 p0.Head.A1.x5 :: .int .u8 p0.Head.A2.x0 :: .int .u8 p0.Head.A2.x1 :: .int .u8 p0.Head.A2.x2 :: .int .u8 p0.Head.A2.x3 :: .int .u8 p0.Head.A2.x4 :: .int .u8 p0.Head.A2.x5 :: .int .u8 p0.Head.A3.x0 :: .int .u8 p0.Head.A3.x1 :: .int .u8 p0.Head.A3.x2 :: .int .u8 p0.Head.A3.x3 :: .int .u8 p0.Head.A3.x4 :: .int .u8 p0.Head.A3.x5 :: .int .u8 p0.Head.A4.x0 :: .int .u8 p0.Head.A4.x1 :: .int .u8 p0.Head.A4.x2 :: .int .u8 p0.Head.A4.x3 :: .int .u8 p0.Head.A4.x4 :: .int .u8 p0.Head.A4.x5 :: .int .i64 p0.Head.Seq :: .int .i64 p0.Head.Frag :: .int .i64 p0.Head.Tid :: .int .u8 p0.Head.Ack :: .bool p0.Head.Amsdu :: .bool p0.Head.Eosp :: .ro 1 p0.Body.length false (enR c_u8 p0.Body) :: [])], [], rfl, ⟨(EW_view hk0_1 hw0), trivial⟩, trivial, trivial, ⟨(nfB_en nr_u8), trivial⟩, ⟨noroB_en, trivial⟩, (by first | (simp only [noro, noroL, and_self]; done) | (simp only [noro, noroL]; and_intros <;> first | trivial | exact noro_bif (by simp only [noro]) (by simp only [noro]) | (simp only [noro, noroL, and_self]))), ?_⟩
    rw [Try.ntmps17]
    simp only [List.length_cons, List.length_nil, Nat.reduceAdd, Nat.reduceSub, List.replicate_succ, List.replicate_zero, List.cons_append, List.nil_append]
    unfold F17 at H
    try dsimp only at H
    refine sq ctNo_ok ?_
    simp only [go_sem, Nat.reduceLeDiff, Nat.reduceLT, Nat.reduceAdd, Nat.reduceMul, Nat.reduceSub, Nat.reduceEqDiff, Nat.reduceBEq, Int.reduceToNat, reduceCtorEq]
    refine seqM ?_
    obtain ⟨f1, H⟩ := need_some.1 H
    replace f1 := capb_iff.1 f1
    refine draw_rule shT_ok ctNo_ok 2 (by kernel_rfl) (by kernel_rfl) ?_
    intro an han
    simp only [d_nil, d_cons, nxtD, xrD, xoD, roEq, minL, List.append_nil, refsOp, refs, refsL, mask, maskF, place, placeF, okLog, pairOk, hit, inL, slotsF, ren, renL, rnN, nrH, nrB, nrL, nr, dead0, deadS, List.replicate_zero, List.replicate_succ, Nat.sub_self, Nat.add_zero, Nat.zero_add, Nat.reduceSub, Nat.not_lt_zero, Nat.zero_le, Nat.lt_add_one, go_sem, Nat.reduceLeDiff, Nat.reduceLT, Nat.reduceAdd, Nat.reduceMul, Nat.reduceSub, Nat.reduceEqDiff, Nat.reduceBEq, Int.reduceToNat, reduceCtorEq, f1]
    repeat ((with_reducible refine And.intro ?_ ?_); focus (and_intros <;> first | (with_reducible trivial) | (show anB _ _ _ = true; subst han; kernel_rfl) | (show (anB _ _ _ && _) = true; subst han; kernel_rfl) | omega | assumption | exact nrc | exact nfc | first | exact rfl | exact trivial | exact fitI | exact .inr rfl | exact .inl rfl | exact fun x hx => absurd hx (by omega) | (intro x hx; (repeat (first | (and_intros <;> (first | exact rfl | exact trivial | exact fitI | exact .inr rfl | exact .inl rfl | exact fun x hx => absurd hx (by omega))) | (exfalso; omega) | (rcases x with _ | x))); done) | (refine Fit_app ?_ ?_ <;> first | exact fitI | (intro x hx; (repeat (first | (and_intros <;> (first | exact rfl | exact trivial | exact fitI | exact .inr rfl | exact .inl rfl | exact fun x hx => absurd hx (by omega))) | (exfalso; omega) | (rcases x with _ | x))); done) | (refine Fit_app ?_ ?_ <;> first | exact fitI | (intro x hx; (repeat (first | (and_intros <;> (first | exact rfl | exact trivial | exact fitI | exact .inr rfl | exact .inl rfl | exact fun x hx => absurd hx (by omega))) | (exfalso; omega) | (rcases x with _ | x))); done)))))
    refine rg ctNo_ok ?_
    simp only [go_sem, Nat.reduceLeDiff, Nat.reduceLT, Nat.reduceAdd, Nat.reduceMul, Nat.reduceSub, Nat.reduceEqDiff, Nat.reduceBEq, Int.reduceToNat, reduceCtorEq]
    obtain rfl := Option.some.inj H
    refine RetE_mk [] [some 3] ?_ ?_ ?_ ?_ (by rfl) (by rfl)
    · simp only [go_sem, Nat.reduceEqDiff, Nat.reduceBEq, Nat.reduceAdd]
      try (and_intros <;> first | (with_reducible trivial) | omega | exact nfc | trivial)
    · simp only [go_sem, Nat.reduceEqDiff, Nat.reduceBEq, Nat.reduceAdd]
      try (and_intros <;> first | (with_reducible trivial) | omega | exact nfc | trivial)
    · simp only [go_sem, Nat.reduceEqDiff, Nat.reduceBEq, Nat.reduceAdd]
      exact (by first | (simp [Cv, CvL, getM, gt_some]; done) | (simp [Cv, CvL, getM, gt_some]; omega))
    · simp only [go_sem, Nat.reduceEqDiff, Nat.reduceBEq, Nat.reduceAdd, CvH, gt_some, Option.isSome_some, Option.isSome_none]
      exact CvB_row nr_u8 (by first | rfl | (simp; done) | (simp; omega)) (app_row (f := c_u8) [] p0.Body (lit_row (f := c_u8) [] (fun _ _ => rfl) rfl) (fun _ _ _ _ => rfl))
  · cases hb
/-! hotspot/trigger.Check -/
noncomputable def F20 (p0 : TTriggerPlan) : Option (Int) :=
  bif ((((bLt 15 p0.Start) || (bLt 15 p0.Deliver)) || (bLt p0.Most 0)) || (bLt 16 p0.Most)) then (some 8) else (some 0)
noncomputable def body20 : List AV → AR
  | [v0] => .pure (aK 3 k_TTriggerPlan v0 ∧ (F20 (g_TTriggerPlan (aL v0))).isSome = true) (.int .i64 (gt (F20 (g_TTriggerPlan (aL v0)))))
  | _ => .fail
set_option maxHeartbeats 4000000 in
set_option maxRecDepth 20000 in
theorem ok20 : FnOk Try.prog 20 (pureC body20) := by
  refine pure_fnM body20 (rs := [.tmp 2]) Try.func20 (by kernel_rfl) rfl rfl ?_
  intro l ob v hb hob
  unfold body20 at hb
  split at hb
  · rename_i v0
    injection hb with q1 q2; subst q1 q2
    obtain ⟨hk0_0, hob⟩ := hob
    obtain ⟨r, H⟩ := Option.isSome_iff_exists.1 hob
    rw [H, gt_some]
    have hw0 := wA_TTriggerPlan hk0_0
    generalize g_TTriggerPlan (aL v0) = p0 at H hw0
    refine ⟨[.agg [.int .u8 p0.Start, .int .u8 p0.Deliver, .int .i64 p0.Most]], _, (fun E vs F => FR_wk1 hw0.1 F (fun vs F => F)), rfl, rfl, ?_⟩
    rw [Try.ntmps20]
    simp only [List.length_cons, List.length_nil, Nat.reduceAdd, Nat.reduceSub, List.replicate_succ, List.replicate_zero, List.cons_append, List.nil_append]
    unfold F20 at H
    try dsimp only at H
    refine sq ctNo_ok ?_
    simp only [go_sem, Nat.reduceLeDiff, Nat.reduceLT, Nat.reduceAdd, Nat.reduceMul, Nat.reduceSub, Nat.reduceEqDiff, Nat.reduceBEq, Int.reduceToNat, reduceCtorEq]
    refine seqM ?_
    refine sq ctNo_ok ?_
    simp only [go_sem, Nat.reduceLeDiff, Nat.reduceLT, Nat.reduceAdd, Nat.reduceMul, Nat.reduceSub, Nat.reduceEqDiff, Nat.reduceBEq, Int.reduceToNat, reduceCtorEq]
    repeat ((with_reducible refine And.intro ?_ ?_); focus (first | (with_reducible trivial) | omega | grind))
    refine condM rfl trivial (fun hc => ?_) (fun hc => ?_)
    · replace H := cond_t hc H
      refine sq ctNo_ok ?_
      simp only [go_sem, Nat.reduceLeDiff, Nat.reduceLT, Nat.reduceAdd, Nat.reduceMul, Nat.reduceSub, Nat.reduceEqDiff, Nat.reduceBEq, Int.reduceToNat, reduceCtorEq]
      refine rg ctNo_ok ?_
      simp only [go_sem, Nat.reduceLeDiff, Nat.reduceLT, Nat.reduceAdd, Nat.reduceMul, Nat.reduceSub, Nat.reduceEqDiff, Nat.reduceBEq, Int.reduceToNat, reduceCtorEq]
      obtain rfl := Option.some.inj H
      first | rfl | simp only [Bool.and_false, Bool.false_and, Bool.and_true, Bool.true_and]
    replace H := cond_f hc H
    refine rg ctNo_ok ?_
    simp only [go_sem, Nat.reduceLeDiff, Nat.reduceLT, Nat.reduceAdd, Nat.reduceMul, Nat.reduceSub, Nat.reduceEqDiff, Nat.reduceBEq, Int.reduceToNat, reduceCtorEq]
    refine sq ctNo_ok ?_
    simp only [go_sem, Nat.reduceLeDiff, Nat.reduceLT, Nat.reduceAdd, Nat.reduceMul, Nat.reduceSub, Nat.reduceEqDiff, Nat.reduceBEq, Int.reduceToNat, reduceCtorEq]
    refine rg ctNo_ok ?_
    simp only [go_sem, Nat.reduceLeDiff, Nat.reduceLT, Nat.reduceAdd, Nat.reduceMul, Nat.reduceSub, Nat.reduceEqDiff, Nat.reduceBEq, Int.reduceToNat, reduceCtorEq]
    obtain rfl := Option.some.inj H
    first | rfl | simp only [Bool.and_false, Bool.false_and, Bool.and_true, Bool.true_and]
  · cases hb
/-! hotspot/header.Category -/
noncomputable def F46 (p0 : Int) : Option (Int × Int) :=
  bif ((bLt p0 0) || (bLt 7 p0)) then (some (0, 2)) else (need (inb p0 8) <| some ((gd [1, 0, 0, 1, 2, 2, 3, 3] p0.toNat), 0))
noncomputable def body46 : List AV → AR
  | [v0] => .pure (iK .i64 v0 ∧ (F46 (iA v0)).isSome = true) (.tup [.int .u8 ((gt (F46 (iA v0))).1), .int .i64 ((gt (F46 (iA v0))).2)])
  | _ => .fail
set_option maxHeartbeats 4000000 in
set_option maxRecDepth 20000 in
theorem ok46 : FnOk Try.prog 46 (pureC body46) := by
  refine pure_fnM body46 (rs := [.tmp 2, .tmp 3]) Try.func46 (by kernel_rfl) rfl rfl ?_
  intro l ob v hb hob
  unfold body46 at hb
  split at hb
  · rename_i v0
    injection hb with q1 q2; subst q1 q2
    obtain ⟨hk0_0, hob⟩ := hob
    obtain ⟨r, H⟩ := Option.isSome_iff_exists.1 hob
    rw [H, gt_some]
    have hw0 := iK_wk hk0_0
    generalize iA v0 = p0 at H hw0
    refine ⟨[.int .i64 p0], _, (fun E vs F => FR_wk1 hw0.1 F (fun vs F => F)), rfl, rfl, ?_⟩
    rw [Try.ntmps46]
    simp only [List.length_cons, List.length_nil, Nat.reduceAdd, Nat.reduceSub, List.replicate_succ, List.replicate_zero, List.cons_append, List.nil_append]
    unfold F46 at H
    try dsimp only at H
    refine sq ctNo_ok ?_
    simp only [go_sem, Nat.reduceLeDiff, Nat.reduceLT, Nat.reduceAdd, Nat.reduceMul, Nat.reduceSub, Nat.reduceEqDiff, Nat.reduceBEq, Int.reduceToNat, reduceCtorEq]
    refine seqM ?_
    refine sq ctNo_ok ?_
    simp only [go_sem, Nat.reduceLeDiff, Nat.reduceLT, Nat.reduceAdd, Nat.reduceMul, Nat.reduceSub, Nat.reduceEqDiff, Nat.reduceBEq, Int.reduceToNat, reduceCtorEq]
    repeat ((with_reducible refine And.intro ?_ ?_); focus (first | (with_reducible trivial) | omega | grind))
    refine condM rfl trivial (fun hc => ?_) (fun hc => ?_)
    · replace H := cond_t hc H
      refine sq ctNo_ok ?_
      simp only [go_sem, Nat.reduceLeDiff, Nat.reduceLT, Nat.reduceAdd, Nat.reduceMul, Nat.reduceSub, Nat.reduceEqDiff, Nat.reduceBEq, Int.reduceToNat, reduceCtorEq]
      refine rg ctNo_ok ?_
      simp only [go_sem, Nat.reduceLeDiff, Nat.reduceLT, Nat.reduceAdd, Nat.reduceMul, Nat.reduceSub, Nat.reduceEqDiff, Nat.reduceBEq, Int.reduceToNat, reduceCtorEq]
      obtain rfl := Option.some.inj H
      first | rfl | simp only [Bool.and_false, Bool.false_and, Bool.and_true, Bool.true_and]
    replace H := cond_f hc H
    refine rg ctNo_ok ?_
    simp only [go_sem, Nat.reduceLeDiff, Nat.reduceLT, Nat.reduceAdd, Nat.reduceMul, Nat.reduceSub, Nat.reduceEqDiff, Nat.reduceBEq, Int.reduceToNat, reduceCtorEq]
    refine seqM ?_
    obtain ⟨f1, H⟩ := need_some.1 H
    replace f1 := inb_iff.1 f1
    have gi2 := getL_ints (k := .u8) [1, 0, 0, 1, 2, 2, 3, 3] p0.toNat (by simp only [List.length_cons, List.length_nil]; omega)
    simp only [List.map_cons, List.map_nil] at gi2
    refine rg ctNo_ok ?_
    simp only [go_sem, Nat.reduceLeDiff, Nat.reduceLT, Nat.reduceAdd, Nat.reduceMul, Nat.reduceSub, Nat.reduceEqDiff, Nat.reduceBEq, Int.reduceToNat, reduceCtorEq, f1, gi2]
    repeat ((with_reducible refine And.intro ?_ ?_); focus (first | (with_reducible trivial) | omega | grind))
    refine rg ctNo_ok ?_
    simp only [go_sem, Nat.reduceLeDiff, Nat.reduceLT, Nat.reduceAdd, Nat.reduceMul, Nat.reduceSub, Nat.reduceEqDiff, Nat.reduceBEq, Int.reduceToNat, reduceCtorEq]
    obtain rfl := Option.some.inj H
    first | rfl | simp only [Bool.and_false, Bool.false_and, Bool.and_true, Bool.true_and]
  · cases hb
/-! hotspot/trigger.Starts -/
noncomputable def ct18t0 : Ct := tab [(20, pureC body20)]
theorem ct18t0_ok : CtOk Try.prog ct18t0 := tab_cons ok20 <| tab_nil
theorem ct18t0_20 (l : List AV) (h : List ABlk) : ct18t0 20 l h = pureC body20 l h := rfl
noncomputable def ct18t1 : Ct := tab [(46, pureC body46)]
theorem ct18t1_ok : CtOk Try.prog ct18t1 := tab_cons ok46 <| tab_nil
theorem ct18t1_46 (l : List AV) (h : List ABlk) : ct18t1 46 l h = pureC body46 l h := rfl
noncomputable def F18 (p0 : TTriggerPlan) (p1 : TFrame) : Option (Bool) :=
  (F20 p0).bind fun r1 => bif (((((!bEq r1 0) || (!bEq p1.Head.Kind 2)) || ((!bEq p1.Head.Sub 8) && (!bEq p1.Head.Sub 12))) || (!p1.Head.ToDs)) || p1.Head.FromDs) then (some false) else ((F46 p1.Head.Tid).bind fun r3 => need (bif (bEq r3.2 0) then bLe 0 r3.1 else true) <| some ((bEq r3.2 0) && (bEq (andI .u8 (shrI .u8 p0.Start r3.1) 1) 1)))
noncomputable def body18 : List AV → AR
  | [v0, v1] => .pure (aK 3 k_TTriggerPlan v0 ∧ aK 41 k_TFrame v1 ∧ (F18 (g_TTriggerPlan (aL v0)) (g_TFrame (aL v1))).isSome = true) (.bool (gt (F18 (g_TTriggerPlan (aL v0)) (g_TFrame (aL v1)))))
  | _ => .fail
set_option maxHeartbeats 4000000 in
set_option maxRecDepth 20000 in
theorem ok18 : FnOk Try.prog 18 (pureC body18) := by
  refine pure_fnM body18 (rs := [.tmp 4]) Try.func18 (by kernel_rfl) rfl rfl ?_
  intro l ob v hb hob
  unfold body18 at hb
  split at hb
  · rename_i v0 v1
    injection hb with q1 q2; subst q1 q2
    obtain ⟨hk0_0, hk1_0, hob⟩ := hob
    obtain ⟨r, H⟩ := Option.isSome_iff_exists.1 hob
    rw [H, gt_some]
    have hw0 := wA_TTriggerPlan hk0_0
    have hw1 := wA_TFrame hk1_0
    generalize g_TTriggerPlan (aL v0) = p0 at H hw0
    generalize g_TFrame (aL v1) = p1 at H hw1
    refine ⟨[.agg [.int .u8 p0.Start, .int .u8 p0.Deliver, .int .i64 p0.Most], .agg (.int .u8 p1.Head.Kind :: .int .u8 p1.Head.Sub :: .bool p1.Head.ToDs :: .bool p1.Head.FromDs :: .bool p1.Head.More :: .bool p1.Head.Retry :: .bool p1.Head.Sleep :: .bool p1.Head.MoreData :: .bool p1.Head.Protected :: .int .i64 p1.Head.Duration :: .int .u8 p1.Head.A1.x0 :: .int .u8 p1.Head.A1.x1 :: .int .u8 p1.Head.A1.x2 :: .int .u8 p1.Head.A1.x3 :: .int .u8 p1.Head.A1.x4 :: .int .u8 p1.Head.A1.x5 :: .int .u8 p1.Head.A2.x0 :: .int .u8 p1.Head.A2.x1 :: .int .u8 p1.Head.A2.x2 :: .int .u8 p1.Head.A2.x3 :: .int .u8 p1.Head.A2.x4 :: .int .u8 p1.Head.A2.x5 :: .int .u8 p1.Head.A3.x0 :: .int .u8 p1.Head.A3.x1 :: .int .u8 p1.Head.A3.x2 :: .int .u8 p1.Head.A3.x3 :: .int .u8 p1.Head.A3.x4 :: .int .u8 p1.Head.A3.x5 :: .int .u8 p1.Head.A4.x0 :: .int .u8 p1.Head.A4.x1 :: .int .u8 p1.Head.A4.x2 :: .int .u8 p1.Head.A4.x3 :: .int .u8 p1.Head.A4.x4 :: .int .u8 p1.Head.A4.x5 :: .int .i64 p1.Head.Seq :: .int .i64 p1.Head.Frag :: .int .i64 p1.Head.Tid :: .int .u8 p1.Head.Ack :: .bool p1.Head.Amsdu :: .bool p1.Head.Eosp :: .ro 1 p1.Body.length false (enR c_u8 p1.Body) :: [])], _, (fun E vs F => FR_wk1 hw0.1 F (fun vs F => FR_wk1 hw1.1 F (fun vs F => F))), rfl, rfl, ?_⟩
    rw [Try.ntmps18]
    simp only [List.length_cons, List.length_nil, Nat.reduceAdd, Nat.reduceSub, List.replicate_succ, List.replicate_zero, List.cons_append, List.nil_append]
    unfold F18 at H
    try dsimp only at H
    refine sq ctNo_ok ?_
    simp only [go_sem, Nat.reduceLeDiff, Nat.reduceLT, Nat.reduceAdd, Nat.reduceMul, Nat.reduceSub, Nat.reduceEqDiff, Nat.reduceBEq, Int.reduceToNat, reduceCtorEq]
    refine sq ctNo_ok ?_
    simp only [go_sem, Nat.reduceLeDiff, Nat.reduceLT, Nat.reduceAdd, Nat.reduceMul, Nat.reduceSub, Nat.reduceEqDiff, Nat.reduceBEq, Int.reduceToNat, reduceCtorEq]
    repeat ((with_reducible refine And.intro ?_ ?_); focus (first | (with_reducible trivial) | omega | grind))
    refine seqM ?_
    refine seqM ?_
    obtain ⟨r1, e2, H⟩ := bsi H
    refine rg ct18t0_ok ?_
    simp only [go_sem, Nat.reduceLeDiff, Nat.reduceLT, Nat.reduceAdd, Nat.reduceMul, Nat.reduceSub, Nat.reduceEqDiff, Nat.reduceBEq, Int.reduceToNat, reduceCtorEq, ct18t0_20, body20, e2]
    repeat ((with_reducible refine And.intro ?_ ?_); focus (first | (with_reducible trivial) | omega | (intro g; and_intros <;> first | (with_reducible trivial) | assumption | exact nfc | (intro g2; rw [g, g2]; rfl) | (intro g2; assumption) | (simp only [g, Bool.true_and, Bool.and_true, Bool.not_false, Bool.not_true]; assumption) | grind) | (and_intros <;> first | (with_reducible trivial) | omega | assumption | exact nfc | first | exact rfl | exact trivial | exact fitI | exact .inr rfl | exact .inl rfl | exact fun x hx => absurd hx (by omega)) | grind))
    refine condM rfl trivial (fun hc => ?_) (fun hc => ?_)
    · replace H := cond_t hc H
      refine sq ctNo_ok ?_
      simp only [go_sem, Nat.reduceLeDiff, Nat.reduceLT, Nat.reduceAdd, Nat.reduceMul, Nat.reduceSub, Nat.reduceEqDiff, Nat.reduceBEq, Int.reduceToNat, reduceCtorEq]
      refine rg ctNo_ok ?_
      simp only [go_sem, Nat.reduceLeDiff, Nat.reduceLT, Nat.reduceAdd, Nat.reduceMul, Nat.reduceSub, Nat.reduceEqDiff, Nat.reduceBEq, Int.reduceToNat, reduceCtorEq]
      obtain rfl := Option.some.inj H
      first | rfl | simp only [Bool.and_false, Bool.false_and, Bool.and_true, Bool.true_and]
    replace H := cond_f hc H
    refine rg ctNo_ok ?_
    simp only [go_sem, Nat.reduceLeDiff, Nat.reduceLT, Nat.reduceAdd, Nat.reduceMul, Nat.reduceSub, Nat.reduceEqDiff, Nat.reduceBEq, Int.reduceToNat, reduceCtorEq]
    refine seqM ?_
    obtain ⟨r3, e4, H⟩ := bsi H
    refine rg ct18t1_ok ?_
    simp only [go_sem, Nat.reduceLeDiff, Nat.reduceLT, Nat.reduceAdd, Nat.reduceMul, Nat.reduceSub, Nat.reduceEqDiff, Nat.reduceBEq, Int.reduceToNat, reduceCtorEq, ct18t1_46, body46, e4]
    repeat ((with_reducible refine And.intro ?_ ?_); focus (first | (and_intros <;> first | (with_reducible trivial) | omega | assumption | exact nfc | first | exact rfl | exact trivial | exact fitI | exact .inr rfl | exact .inl rfl | exact fun x hx => absurd hx (by omega)) | grind))
    refine seqM ?_
    obtain ⟨f5, H⟩ := need_some.1 H
    replace f5 := g_iff.1 f5
    replace f5 := fun g => bLe_iff.1 (f5 g)
    refine rg ctNo_ok ?_
    simp only [go_sem, Nat.reduceLeDiff, Nat.reduceLT, Nat.reduceAdd, Nat.reduceMul, Nat.reduceSub, Nat.reduceEqDiff, Nat.reduceBEq, Int.reduceToNat, reduceCtorEq]
    repeat ((with_reducible refine And.intro ?_ ?_); focus (first | (with_reducible trivial) | omega | exact f5 | (intro g; have q := f5 (by first | exact g | (rw [g]; rfl) | simpa using g); first | exact q | exact ⟨q.1, q.2.1⟩ | exact q.2.2 | omega | exact ⟨g, q⟩ | exact ⟨trivial, q⟩ | exact ⟨g, q.1, q.2.1⟩ | exact ⟨g, q.2.2⟩) | grind))
    refine rg ctNo_ok ?_
    simp only [go_sem, Nat.reduceLeDiff, Nat.reduceLT, Nat.reduceAdd, Nat.reduceMul, Nat.reduceSub, Nat.reduceEqDiff, Nat.reduceBEq, Int.reduceToNat, reduceCtorEq]
    obtain rfl := Option.some.inj H
    first | rfl | simp only [Bool.and_false, Bool.false_and, Bool.and_true, Bool.true_and]
  · cases hb
/-! hotspot/hotspotref05.Category -/
noncomputable def F42 (p0 : Int) : Option (Int × Int) :=
  bif ((bLt p0 0) || (bLt 7 p0)) then (some (0, 2)) else (need (inb p0 8) <| some ((gd [1, 0, 0, 1, 2, 2, 3, 3] p0.toNat), 0))
noncomputable def body42 : List AV → AR
  | [v0] => .pure (iK .i64 v0 ∧ (F42 (iA v0)).isSome = true) (.tup [.int .u8 ((gt (F42 (iA v0))).1), .int .i64 ((gt (F42 (iA v0))).2)])
  | _ => .fail
set_option maxHeartbeats 4000000 in
set_option maxRecDepth 20000 in
theorem ok42 : FnOk Try.prog 42 (pureC body42) := by
  refine pure_fnM body42 (rs := [.tmp 2, .tmp 3]) Try.func42 (by kernel_rfl) rfl rfl ?_
  intro l ob v hb hob
  unfold body42 at hb
  split at hb
  · rename_i v0
    injection hb with q1 q2; subst q1 q2
    obtain ⟨hk0_0, hob⟩ := hob
    obtain ⟨r, H⟩ := Option.isSome_iff_exists.1 hob
    rw [H, gt_some]
    have hw0 := iK_wk hk0_0
    generalize iA v0 = p0 at H hw0
    refine ⟨[.int .i64 p0], _, (fun E vs F => FR_wk1 hw0.1 F (fun vs F => F)), rfl, rfl, ?_⟩
    rw [Try.ntmps42]
    simp only [List.length_cons, List.length_nil, Nat.reduceAdd, Nat.reduceSub, List.replicate_succ, List.replicate_zero, List.cons_append, List.nil_append]
    unfold F42 at H
    try dsimp only at H
    refine sq ctNo_ok ?_
    simp only [go_sem, Nat.reduceLeDiff, Nat.reduceLT, Nat.reduceAdd, Nat.reduceMul, Nat.reduceSub, Nat.reduceEqDiff, Nat.reduceBEq, Int.reduceToNat, reduceCtorEq]
    refine seqM ?_
    refine sq ctNo_ok ?_
    simp only [go_sem, Nat.reduceLeDiff, Nat.reduceLT, Nat.reduceAdd, Nat.reduceMul, Nat.reduceSub, Nat.reduceEqDiff, Nat.reduceBEq, Int.reduceToNat, reduceCtorEq]
    repeat ((with_reducible refine And.intro ?_ ?_); focus (first | (with_reducible trivial) | omega | grind))
    refine condM rfl trivial (fun hc => ?_) (fun hc => ?_)
    · replace H := cond_t hc H
      refine sq ctNo_ok ?_
      simp only [go_sem, Nat.reduceLeDiff, Nat.reduceLT, Nat.reduceAdd, Nat.reduceMul, Nat.reduceSub, Nat.reduceEqDiff, Nat.reduceBEq, Int.reduceToNat, reduceCtorEq]
      refine rg ctNo_ok ?_
      simp only [go_sem, Nat.reduceLeDiff, Nat.reduceLT, Nat.reduceAdd, Nat.reduceMul, Nat.reduceSub, Nat.reduceEqDiff, Nat.reduceBEq, Int.reduceToNat, reduceCtorEq]
      obtain rfl := Option.some.inj H
      first | rfl | simp only [Bool.and_false, Bool.false_and, Bool.and_true, Bool.true_and]
    replace H := cond_f hc H
    refine rg ctNo_ok ?_
    simp only [go_sem, Nat.reduceLeDiff, Nat.reduceLT, Nat.reduceAdd, Nat.reduceMul, Nat.reduceSub, Nat.reduceEqDiff, Nat.reduceBEq, Int.reduceToNat, reduceCtorEq]
    refine seqM ?_
    obtain ⟨f1, H⟩ := need_some.1 H
    replace f1 := inb_iff.1 f1
    have gi2 := litC_ints (k := .u8) [1, 0, 0, 1, 2, 2, 3, 3] _ p0.toNat (by rfl : [.int .u8 1, .int .u8 0, .int .u8 0, .int .u8 1, .int .u8 2, .int .u8 2, .int .u8 3, .int .u8 3] = _) (by simp only [List.length_cons, List.length_nil]; omega)
    refine rg ctNo_ok ?_
    simp only [go_sem, Nat.reduceLeDiff, Nat.reduceLT, Nat.reduceAdd, Nat.reduceMul, Nat.reduceSub, Nat.reduceEqDiff, Nat.reduceBEq, Int.reduceToNat, reduceCtorEq, f1, gi2]
    repeat ((with_reducible refine And.intro ?_ ?_); focus (first | (with_reducible trivial) | omega | grind))
    refine rg ctNo_ok ?_
    simp only [go_sem, Nat.reduceLeDiff, Nat.reduceLT, Nat.reduceAdd, Nat.reduceMul, Nat.reduceSub, Nat.reduceEqDiff, Nat.reduceBEq, Int.reduceToNat, reduceCtorEq]
    obtain rfl := Option.some.inj H
    first | rfl | simp only [Bool.and_false, Bool.false_and, Bool.and_true, Bool.true_and]
  · cases hb
/-! hotspot/hotspotref35.Valid -/
noncomputable def F21 (p0 : TTriggerPlan) : Option (Bool) :=
  some ((((bLt p0.Start 16) && (bLt p0.Deliver 16)) && (bLe 0 p0.Most)) && (bLe p0.Most 16))
noncomputable def body21 : List AV → AR
  | [v0] => .pure (aK 3 k_TTriggerPlan v0 ∧ (F21 (g_TTriggerPlan (aL v0))).isSome = true) (.bool (gt (F21 (g_TTriggerPlan (aL v0)))))
  | _ => .fail
set_option maxHeartbeats 4000000 in
set_option maxRecDepth 20000 in
theorem ok21 : FnOk Try.prog 21 (pureC body21) := by
  refine pure_fnM body21 (rs := [.tmp 2]) Try.func21 (by kernel_rfl) rfl rfl ?_
  intro l ob v hb hob
  unfold body21 at hb
  split at hb
  · rename_i v0
    injection hb with q1 q2; subst q1 q2
    obtain ⟨hk0_0, hob⟩ := hob
    obtain ⟨r, H⟩ := Option.isSome_iff_exists.1 hob
    rw [H, gt_some]
    have hw0 := wA_TTriggerPlan hk0_0
    generalize g_TTriggerPlan (aL v0) = p0 at H hw0
    refine ⟨[.agg [.int .u8 p0.Start, .int .u8 p0.Deliver, .int .i64 p0.Most]], _, (fun E vs F => FR_wk1 hw0.1 F (fun vs F => F)), rfl, rfl, ?_⟩
    rw [Try.ntmps21]
    simp only [List.length_cons, List.length_nil, Nat.reduceAdd, Nat.reduceSub, List.replicate_succ, List.replicate_zero, List.cons_append, List.nil_append]
    unfold F21 at H
    try dsimp only at H
    refine sq ctNo_ok ?_
    simp only [go_sem, Nat.reduceLeDiff, Nat.reduceLT, Nat.reduceAdd, Nat.reduceMul, Nat.reduceSub, Nat.reduceEqDiff, Nat.reduceBEq, Int.reduceToNat, reduceCtorEq]
    refine sq ctNo_ok ?_
    simp only [go_sem, Nat.reduceLeDiff, Nat.reduceLT, Nat.reduceAdd, Nat.reduceMul, Nat.reduceSub, Nat.reduceEqDiff, Nat.reduceBEq, Int.reduceToNat, reduceCtorEq]
    repeat ((with_reducible refine And.intro ?_ ?_); focus (first | (with_reducible trivial) | omega | grind))
    refine rg ctNo_ok ?_
    simp only [go_sem, Nat.reduceLeDiff, Nat.reduceLT, Nat.reduceAdd, Nat.reduceMul, Nat.reduceSub, Nat.reduceEqDiff, Nat.reduceBEq, Int.reduceToNat, reduceCtorEq]
    obtain rfl := Option.some.inj H
    first | rfl | simp only [Bool.and_false, Bool.false_and, Bool.and_true, Bool.true_and]
  · cases hb
/-! hotspot/hotspotref35.Bit -/
noncomputable def F36_L1 (p1 : Int) (v1_1 : Int) (v1_2 : Int) : Option (Lp (Int × Int) ((Int) ⊕ (Bool))) :=
  bif (bLt v1_2 p1) then (some (.next (wr .u8 (v1_1.tdiv 2), wr .u8 (v1_2 + 1)))) else (some (.done (.inl v1_1)))
noncomputable def F36 (p0 : Int) (p1 : Int) : Option (Bool) :=
  lp (loopD (fun s => F36_L1 p1 s.1 s.2) (p0, 0)) (fun w1_3 => some (bEq (w1_3.tmod 2) 1)) some
noncomputable def body36 : List AV → AR
  | [v0, v1] => .pure (iK .u8 v0 ∧ iK .u8 v1 ∧ (F36 (iA v0) (iA v1)).isSome = true) (.bool (gt (F36 (iA v0) (iA v1))))
  | _ => .fail
set_option maxHeartbeats 4000000 in
set_option maxRecDepth 20000 in
theorem ok36 : FnOk Try.prog 36 (pureC body36) := by
  refine pure_fnM body36 (rs := [.tmp 4]) Try.func36 (by kernel_rfl) rfl rfl ?_
  intro l ob v hb hob
  unfold body36 at hb
  split at hb
  · rename_i v0 v1
    injection hb with q1 q2; subst q1 q2
    obtain ⟨hk0_0, hk1_0, hob⟩ := hob
    obtain ⟨r, H⟩ := Option.isSome_iff_exists.1 hob
    rw [H, gt_some]
    have hw0 := iK_wk hk0_0
    have hw1 := iK_wk hk1_0
    generalize iA v0 = p0 at H hw0
    generalize iA v1 = p1 at H hw1
    refine ⟨[.int .u8 p0, .int .u8 p1], _, (fun E vs F => FR_wk1 hw0.1 F (fun vs F => FR_wk1 hw1.1 F (fun vs F => F))), rfl, rfl, ?_⟩
    rw [Try.ntmps36]
    simp only [List.length_cons, List.length_nil, Nat.reduceAdd, Nat.reduceSub, List.replicate_succ, List.replicate_zero, List.cons_append, List.nil_append]
    unfold F36 at H
    try dsimp only at H
    refine sq ctNo_ok ?_
    simp only [go_sem, Nat.reduceLeDiff, Nat.reduceLT, Nat.reduceAdd, Nat.reduceMul, Nat.reduceSub, Nat.reduceEqDiff, Nat.reduceBEq, Int.reduceToNat, reduceCtorEq]
    refine seqM ?_
    refine sq ctNo_ok ?_
    simp only [go_sem, Nat.reduceLeDiff, Nat.reduceLT, Nat.reduceAdd, Nat.reduceMul, Nat.reduceSub, Nat.reduceEqDiff, Nat.reduceBEq, Int.reduceToNat, reduceCtorEq]
    refine blkM ?_
    refine loop_den (fun s : Int × Int => (.int .u8 s.1 :: .int .u8 p1 :: .top :: .top :: .top :: .int .u8 s.2 :: tp 10 [])) (fun s => []) (fun e : Int => (.int .u8 e :: tp 15 [])) (fun e => []) H ?_ (fun s o H hn1_1 hn2_1 => ?_) (fun w1_3 H => ?_)
    · refine SubF_of ⟨[], ?_, ?_, by rfl, by rfl⟩
      · simp [CvL, Cv, getM, tp]
      · trivial
    · obtain ⟨v1_1, v1_2⟩ := s
      unfold F36_L1 at H
      try dsimp only at H ⊢
      try simp only [tp]
      refine seqM ?_
      refine sq ctNo_ok ?_
      simp only [go_sem, Nat.reduceLeDiff, Nat.reduceLT, Nat.reduceAdd, Nat.reduceMul, Nat.reduceSub, Nat.reduceEqDiff, Nat.reduceBEq, Int.reduceToNat, reduceCtorEq]
      refine condM' rfl trivial (fun hc => ?_) (fun hc => ?_)
      · replace H := cond_f hc H
        refine rg ctNo_ok ?_
        simp only [go_sem, Nat.reduceLeDiff, Nat.reduceLT, Nat.reduceAdd, Nat.reduceMul, Nat.reduceSub, Nat.reduceEqDiff, Nat.reduceBEq, Int.reduceToNat, reduceCtorEq]
        refine ⟨_, (Option.some.inj H).symm, ?_⟩
        refine SubF_of ⟨[], ?_, ?_, by rfl, by rfl⟩
        · simp [CvL, Cv, getM, tp]
        · trivial
      replace H := cond_t hc H
      refine rg ctNo_ok ?_
      simp only [go_sem, Nat.reduceLeDiff, Nat.reduceLT, Nat.reduceAdd, Nat.reduceMul, Nat.reduceSub, Nat.reduceEqDiff, Nat.reduceBEq, Int.reduceToNat, reduceCtorEq]
      refine seqM ?_
      refine blkM ?_
      refine rg ctNo_ok ?_
      simp only [go_sem, Nat.reduceLeDiff, Nat.reduceLT, Nat.reduceAdd, Nat.reduceMul, Nat.reduceSub, Nat.reduceEqDiff, Nat.reduceBEq, Int.reduceToNat, reduceCtorEq]
      repeat ((with_reducible refine And.intro ?_ ?_); focus (first | (with_reducible trivial) | omega | grind))
      refine rg ctNo_ok ?_
      simp only [go_sem, Nat.reduceLeDiff, Nat.reduceLT, Nat.reduceAdd, Nat.reduceMul, Nat.reduceSub, Nat.reduceEqDiff, Nat.reduceBEq, Int.reduceToNat, reduceCtorEq]
      refine ⟨_, (Option.some.inj H).symm, ?_⟩
      refine SubF_of ⟨[], ?_, ?_, by rfl, by rfl⟩
      · simp [CvL, Cv, getM, tp]
      · trivial
    · try dsimp only at H ⊢
      try simp only [tp]
      try simp only [m_normal, k_normal, b_normal, kL_normal, r_normal]
      refine sq ctNo_ok ?_
      simp only [go_sem, Nat.reduceLeDiff, Nat.reduceLT, Nat.reduceAdd, Nat.reduceMul, Nat.reduceSub, Nat.reduceEqDiff, Nat.reduceBEq, Int.reduceToNat, reduceCtorEq]
      repeat ((with_reducible refine And.intro ?_ ?_); focus (first | (with_reducible trivial) | omega | grind))
      refine rg ctNo_ok ?_
      simp only [go_sem, Nat.reduceLeDiff, Nat.reduceLT, Nat.reduceAdd, Nat.reduceMul, Nat.reduceSub, Nat.reduceEqDiff, Nat.reduceBEq, Int.reduceToNat, reduceCtorEq]
      obtain rfl := Option.some.inj H
      first | rfl | simp only [Bool.and_false, Bool.false_and, Bool.and_true, Bool.true_and]
  · cases hb
/-! hotspot/hotspotref35.Starts -/
noncomputable def ct19t0 : Ct := tab [(42, pureC body42)]
theorem ct19t0_ok : CtOk Try.prog ct19t0 := tab_cons ok42 <| tab_nil
theorem ct19t0_42 (l : List AV) (h : List ABlk) : ct19t0 42 l h = pureC body42 l h := rfl
noncomputable def ct19t1 : Ct := tab [(21, pureC body21), (36, pureC body36)]
theorem ct19t1_ok : CtOk Try.prog ct19t1 := tab_cons ok21 <| tab_cons ok36 <| tab_nil
theorem ct19t1_21 (l : List AV) (h : List ABlk) : ct19t1 21 l h = pureC body21 l h := rfl
theorem ct19t1_36 (l : List AV) (h : List ABlk) : ct19t1 36 l h = pureC body36 l h := rfl
noncomputable def F19 (p0 : TTriggerPlan) (p1 : TFrame) : Option (Bool) :=
  (F42 p1.Head.Tid).bind fun r1 => (F21 p0).bind fun r3 => need (bif ((((r3 && ((bEq p1.Head.Kind 2) && ((bEq p1.Head.Sub 8) || (bEq p1.Head.Sub 12)))) && p1.Head.ToDs) && (!p1.Head.FromDs)) && (bEq r1.2 0)) then ((F36 p0.Start r1.1).isSome) else true) <| some (((((r3 && ((bEq p1.Head.Kind 2) && ((bEq p1.Head.Sub 8) || (bEq p1.Head.Sub 12)))) && p1.Head.ToDs) && (!p1.Head.FromDs)) && (bEq r1.2 0)) && (gt (F36 p0.Start r1.1)))
noncomputable def body19 : List AV → AR
  | [v0, v1] => .pure (aK 3 k_TTriggerPlan v0 ∧ aK 41 k_TFrame v1 ∧ (F19 (g_TTriggerPlan (aL v0)) (g_TFrame (aL v1))).isSome = true) (.bool (gt (F19 (g_TTriggerPlan (aL v0)) (g_TFrame (aL v1)))))
  | _ => .fail
set_option maxHeartbeats 4000000 in
set_option maxRecDepth 20000 in
theorem ok19 : FnOk Try.prog 19 (pureC body19) := by
  refine pure_fnM body19 (rs := [.tmp 4]) Try.func19 (by kernel_rfl) rfl rfl ?_
  intro l ob v hb hob
  unfold body19 at hb
  split at hb
  · rename_i v0 v1
    injection hb with q1 q2; subst q1 q2
    obtain ⟨hk0_0, hk1_0, hob⟩ := hob
    obtain ⟨r, H⟩ := Option.isSome_iff_exists.1 hob
    rw [H, gt_some]
    have hw0 := wA_TTriggerPlan hk0_0
    have hw1 := wA_TFrame hk1_0
    generalize g_TTriggerPlan (aL v0) = p0 at H hw0
    generalize g_TFrame (aL v1) = p1 at H hw1
    refine ⟨[.agg [.int .u8 p0.Start, .int .u8 p0.Deliver, .int .i64 p0.Most], .agg (.int .u8 p1.Head.Kind :: .int .u8 p1.Head.Sub :: .bool p1.Head.ToDs :: .bool p1.Head.FromDs :: .bool p1.Head.More :: .bool p1.Head.Retry :: .bool p1.Head.Sleep :: .bool p1.Head.MoreData :: .bool p1.Head.Protected :: .int .i64 p1.Head.Duration :: .int .u8 p1.Head.A1.x0 :: .int .u8 p1.Head.A1.x1 :: .int .u8 p1.Head.A1.x2 :: .int .u8 p1.Head.A1.x3 :: .int .u8 p1.Head.A1.x4 :: .int .u8 p1.Head.A1.x5 :: .int .u8 p1.Head.A2.x0 :: .int .u8 p1.Head.A2.x1 :: .int .u8 p1.Head.A2.x2 :: .int .u8 p1.Head.A2.x3 :: .int .u8 p1.Head.A2.x4 :: .int .u8 p1.Head.A2.x5 :: .int .u8 p1.Head.A3.x0 :: .int .u8 p1.Head.A3.x1 :: .int .u8 p1.Head.A3.x2 :: .int .u8 p1.Head.A3.x3 :: .int .u8 p1.Head.A3.x4 :: .int .u8 p1.Head.A3.x5 :: .int .u8 p1.Head.A4.x0 :: .int .u8 p1.Head.A4.x1 :: .int .u8 p1.Head.A4.x2 :: .int .u8 p1.Head.A4.x3 :: .int .u8 p1.Head.A4.x4 :: .int .u8 p1.Head.A4.x5 :: .int .i64 p1.Head.Seq :: .int .i64 p1.Head.Frag :: .int .i64 p1.Head.Tid :: .int .u8 p1.Head.Ack :: .bool p1.Head.Amsdu :: .bool p1.Head.Eosp :: .ro 1 p1.Body.length false (enR c_u8 p1.Body) :: [])], _, (fun E vs F => FR_wk1 hw0.1 F (fun vs F => FR_wk1 hw1.1 F (fun vs F => F))), rfl, rfl, ?_⟩
    rw [Try.ntmps19]
    simp only [List.length_cons, List.length_nil, Nat.reduceAdd, Nat.reduceSub, List.replicate_succ, List.replicate_zero, List.cons_append, List.nil_append]
    unfold F19 at H
    try dsimp only at H
    refine sq ctNo_ok ?_
    simp only [go_sem, Nat.reduceLeDiff, Nat.reduceLT, Nat.reduceAdd, Nat.reduceMul, Nat.reduceSub, Nat.reduceEqDiff, Nat.reduceBEq, Int.reduceToNat, reduceCtorEq]
    refine seqM ?_
    obtain ⟨r1, e2, H⟩ := bsi H
    refine rg ct19t0_ok ?_
    simp only [go_sem, Nat.reduceLeDiff, Nat.reduceLT, Nat.reduceAdd, Nat.reduceMul, Nat.reduceSub, Nat.reduceEqDiff, Nat.reduceBEq, Int.reduceToNat, reduceCtorEq, ct19t0_42, body42, e2]
    repeat ((with_reducible refine And.intro ?_ ?_); focus (first | (and_intros <;> first | (with_reducible trivial) | omega | assumption | exact nfc | first | exact rfl | exact trivial | exact fitI | exact .inr rfl | exact .inl rfl | exact fun x hx => absurd hx (by omega)) | grind))
    refine sq ctNo_ok ?_
    simp only [go_sem, Nat.reduceLeDiff, Nat.reduceLT, Nat.reduceAdd, Nat.reduceMul, Nat.reduceSub, Nat.reduceEqDiff, Nat.reduceBEq, Int.reduceToNat, reduceCtorEq]
    repeat ((with_reducible refine And.intro ?_ ?_); focus (first | (with_reducible trivial) | omega | grind))
    refine seqM ?_
    obtain ⟨r3, e4, H⟩ := bsi H
    obtain ⟨f5, H⟩ := need_some.1 H
    replace f5 := g_iff.1 f5
    refine rg ct19t1_ok ?_
    simp only [go_sem, Nat.reduceLeDiff, Nat.reduceLT, Nat.reduceAdd, Nat.reduceMul, Nat.reduceSub, Nat.reduceEqDiff, Nat.reduceBEq, Int.reduceToNat, reduceCtorEq, ct19t1_21, body21, ct19t1_36, body36, e4]
    repeat ((with_reducible refine And.intro ?_ ?_); focus (first | (with_reducible trivial) | omega | exact f5 | (intro g; have q := f5 (by first | exact g | (rw [g]; rfl) | simpa using g); first | exact q | exact ⟨q.1, q.2.1⟩ | exact q.2.2 | omega | exact ⟨g, q⟩ | exact ⟨trivial, q⟩ | exact ⟨g, q.1, q.2.1⟩ | exact ⟨g, q.2.2⟩) | (intro g; (try have q0 := f5 (by first | exact g | (rw [g]; rfl) | simpa using g)); and_intros <;> first | (with_reducible trivial) | assumption | exact nfc | (intro g2; rw [g, g2]; rfl) | (intro g2; assumption) | (simp only [g, Bool.true_and, Bool.and_true, Bool.not_false, Bool.not_true]; assumption) | grind) | (and_intros <;> first | (with_reducible trivial) | omega | assumption | exact nfc | first | exact rfl | exact trivial | exact fitI | exact .inr rfl | exact .inl rfl | exact fun x hx => absurd hx (by omega)) | grind))
    refine rg ctNo_ok ?_
    simp only [go_sem, Nat.reduceLeDiff, Nat.reduceLT, Nat.reduceAdd, Nat.reduceMul, Nat.reduceSub, Nat.reduceEqDiff, Nat.reduceBEq, Int.reduceToNat, reduceCtorEq]
    obtain rfl := Option.some.inj H
    first | rfl | simp only [Bool.and_false, Bool.false_and, Bool.and_true, Bool.true_and]
  · cases hb
/-! hotspot/hotspotlaw35.TriggerTells -/
noncomputable def ct3t0 : Ct := tab [(11, pureC body11), (12, pureC body12)]
theorem ct3t0_ok : CtOk Try.prog ct3t0 := tab_cons ok11 <| tab_cons ok12 <| tab_nil
theorem ct3t0_11 (l : List AV) (h : List ABlk) : ct3t0 11 l h = pureC body11 l h := rfl
theorem ct3t0_12 (l : List AV) (h : List ABlk) : ct3t0 12 l h = pureC body12 l h := rfl
noncomputable def ct3t1 : Ct := tab [(13, genC body13)]
theorem ct3t1_ok : CtOk Try.prog ct3t1 := tab_cons ok13 <| tab_nil
theorem ct3t1_13 (l : List AV) (h : List ABlk) : ct3t1 13 l h = genC body13 l h := rfl
noncomputable def ct3t2 : Ct := tab [(14, genC body14)]
theorem ct3t2_ok : CtOk Try.prog ct3t2 := tab_cons ok14 <| tab_nil
theorem ct3t2_14 (l : List AV) (h : List ABlk) : ct3t2 14 l h = genC body14 l h := rfl
noncomputable def ct3t3 : Ct := tab [(15, pureC body15), (16, pureC body16)]
theorem ct3t3_ok : CtOk Try.prog ct3t3 := tab_cons ok15 <| tab_cons ok16 <| tab_nil
theorem ct3t3_15 (l : List AV) (h : List ABlk) : ct3t3 15 l h = pureC body15 l h := rfl
theorem ct3t3_16 (l : List AV) (h : List ABlk) : ct3t3 16 l h = pureC body16 l h := rfl
noncomputable def ct3t4 : Ct := tab [(17, edC body17)]
theorem ct3t4_ok : CtOk Try.prog ct3t4 := tab_cons ok17 <| tab_nil
theorem ct3t4_17 (l : List AV) (h : List ABlk) : ct3t4 17 l h = edC body17 l h := rfl
noncomputable def ct3t5 : Ct := tab [(15, pureC body15), (18, pureC body18), (19, pureC body19), (20, pureC body20), (21, pureC body21), (22, pureC body22), (23, pureC body23)]
theorem ct3t5_ok : CtOk Try.prog ct3t5 := tab_cons ok15 <| tab_cons ok18 <| tab_cons ok19 <| tab_cons ok20 <| tab_cons ok21 <| tab_cons ok22 <| tab_cons ok23 <| tab_nil
theorem ct3t5_15 (l : List AV) (h : List ABlk) : ct3t5 15 l h = pureC body15 l h := rfl
theorem ct3t5_18 (l : List AV) (h : List ABlk) : ct3t5 18 l h = pureC body18 l h := rfl
theorem ct3t5_19 (l : List AV) (h : List ABlk) : ct3t5 19 l h = pureC body19 l h := rfl
theorem ct3t5_20 (l : List AV) (h : List ABlk) : ct3t5 20 l h = pureC body20 l h := rfl
theorem ct3t5_21 (l : List AV) (h : List ABlk) : ct3t5 21 l h = pureC body21 l h := rfl
theorem ct3t5_22 (l : List AV) (h : List ABlk) : ct3t5 22 l h = pureC body22 l h := rfl
theorem ct3t5_23 (l : List AV) (h : List ABlk) : ct3t5 23 l h = pureC body23 l h := rfl
noncomputable def F3_L1 (v1_1 : Int) (v1_2 : List Int) : Option (Lp (Int × (List Int)) ((Unit) ⊕ (Bool))) :=
  bif (bLt v1_1 (v1_2.length : Nat)) then (need (inb v1_1 v1_2.length) <| need (inb v1_1 v1_2.length) <| some (.next (wr .i64 (v1_1 + 1), (v1_2.set v1_1.toNat (wr .u8 ((gd v1_2 v1_1.toNat) + 1)))))) else (some (.done (.inl ())))
noncomputable def F3 (p0 : TTriggerPlan) (p1 : TFrame) (p2 : TPeriod) : Option (Bool) :=
  (F11 p1).bind fun r1 => need (bif (!r1) then ((F12 p2).isSome) else true) <| bif (r1 || (gt (F12 p2))) then (some true) else ((F13 p2).bind fun r4 => (F14 p2).bind fun r6 => (F15 (TFrame.mk (THeader.mk r4.1.Head.Kind r4.1.Head.Sub r4.1.Head.ToDs r4.1.Head.FromDs r4.1.Head.More r4.1.Head.Retry r4.1.Head.Sleep r4.1.Head.MoreData r4.1.Head.Protected r4.1.Head.Duration (A6u8.mk r4.1.Head.A1.x0 r4.1.Head.A1.x1 r4.1.Head.A1.x2 r4.1.Head.A1.x3 r4.1.Head.A1.x4 r4.1.Head.A1.x5) (A6u8.mk r4.1.Head.A2.x0 r4.1.Head.A2.x1 r4.1.Head.A2.x2 r4.1.Head.A2.x3 r4.1.Head.A2.x4 r4.1.Head.A2.x5) (A6u8.mk r4.1.Head.A3.x0 r4.1.Head.A3.x1 r4.1.Head.A3.x2 r4.1.Head.A3.x3 r4.1.Head.A3.x4 r4.1.Head.A3.x5) (A6u8.mk r4.1.Head.A4.x0 r4.1.Head.A4.x1 r4.1.Head.A4.x2 r4.1.Head.A4.x3 r4.1.Head.A4.x4 r4.1.Head.A4.x5) r4.1.Head.Seq r4.1.Head.Frag r4.1.Head.Tid r4.1.Head.Ack r4.1.Head.Amsdu r4.1.Head.Eosp) r4.1.Body) r6.1).bind fun r8 => need (bif r8 then ((F16 (TPeriod.mk r4.2.1.Aid r4.2.1.Left) r6.2.1).isSome) else true) <| (F17 r6.1).bind fun r11 => lp (loopD (fun s => F3_L1 s.1 s.2) (0, r4.1.Body)) (fun e => need (bif (((r8 && (gt (F16 (TPeriod.mk r4.2.1.Aid r4.2.1.Left) r6.2.1))) && (bEq r4.2.2 r6.2.2)) && (!((bEq (p2.Left.length : Nat) 0) || (!bEq r4.2.2 0)))) then inb 0 p2.Left.length else true) <| need (bif (((r8 && (gt (F16 (TPeriod.mk r4.2.1.Aid r4.2.1.Left) r6.2.1))) && (bEq r4.2.2 r6.2.2)) && (!((bEq (p2.Left.length : Nat) 0) || (!bEq r4.2.2 0)))) then ((F15 (TFrame.mk (THeader.mk (((gd p2.Left 0).Head).Kind) (((gd p2.Left 0).Head).Sub) (((gd p2.Left 0).Head).ToDs) (((gd p2.Left 0).Head).FromDs) (((gd p2.Left 0).Head).More) (((gd p2.Left 0).Head).Retry) (((gd p2.Left 0).Head).Sleep) (((gd p2.Left 0).Head).MoreData) (((gd p2.Left 0).Head).Protected) (((gd p2.Left 0).Head).Duration) (A6u8.mk ((((gd p2.Left 0).Head).A1).x0) ((((gd p2.Left 0).Head).A1).x1) ((((gd p2.Left 0).Head).A1).x2) ((((gd p2.Left 0).Head).A1).x3) ((((gd p2.Left 0).Head).A1).x4) ((((gd p2.Left 0).Head).A1).x5)) (A6u8.mk ((((gd p2.Left 0).Head).A2).x0) ((((gd p2.Left 0).Head).A2).x1) ((((gd p2.Left 0).Head).A2).x2) ((((gd p2.Left 0).Head).A2).x3) ((((gd p2.Left 0).Head).A2).x4) ((((gd p2.Left 0).Head).A2).x5)) (A6u8.mk ((((gd p2.Left 0).Head).A3).x0) ((((gd p2.Left 0).Head).A3).x1) ((((gd p2.Left 0).Head).A3).x2) ((((gd p2.Left 0).Head).A3).x3) ((((gd p2.Left 0).Head).A3).x4) ((((gd p2.Left 0).Head).A3).x5)) (A6u8.mk ((((gd p2.Left 0).Head).A4).x0) ((((gd p2.Left 0).Head).A4).x1) ((((gd p2.Left 0).Head).A4).x2) ((((gd p2.Left 0).Head).A4).x3) ((((gd p2.Left 0).Head).A4).x4) ((((gd p2.Left 0).Head).A4).x5)) (((gd p2.Left 0).Head).Seq) (((gd p2.Left 0).Head).Frag) (((gd p2.Left 0).Head).Tid) (((gd p2.Left 0).Head).Ack) (((gd p2.Left 0).Head).Amsdu) (((gd p2.Left 0).Head).Eosp)) ((gd p2.Left 0).Body)) (TFrame.mk (THeader.mk r11.Head.Kind r11.Head.Sub r11.Head.ToDs r11.Head.FromDs r11.Head.More r11.Head.Retry r11.Head.Sleep r11.Head.MoreData r11.Head.Protected r11.Head.Duration (A6u8.mk r11.Head.A1.x0 r11.Head.A1.x1 r11.Head.A1.x2 r11.Head.A1.x3 r11.Head.A1.x4 r11.Head.A1.x5) (A6u8.mk r11.Head.A2.x0 r11.Head.A2.x1 r11.Head.A2.x2 r11.Head.A2.x3 r11.Head.A2.x4 r11.Head.A2.x5) (A6u8.mk r11.Head.A3.x0 r11.Head.A3.x1 r11.Head.A3.x2 r11.Head.A3.x3 r11.Head.A3.x4 r11.Head.A3.x5) (A6u8.mk r11.Head.A4.x0 r11.Head.A4.x1 r11.Head.A4.x2 r11.Head.A4.x3 r11.Head.A4.x4 r11.Head.A4.x5) r11.Head.Seq r11.Head.Frag r11.Head.Tid r11.Head.Ack r11.Head.Amsdu r11.Head.Eosp) r11.Body)).isSome) else true) <| need (bif (((r8 && (gt (F16 (TPeriod.mk r4.2.1.Aid r4.2.1.Left) r6.2.1))) && (bEq r4.2.2 r6.2.2)) && (((bEq (p2.Left.length : Nat) 0) || (!bEq r4.2.2 0)) || (gt (F15 (TFrame.mk (THeader.mk (((gd p2.Left 0).Head).Kind) (((gd p2.Left 0).Head).Sub) (((gd p2.Left 0).Head).ToDs) (((gd p2.Left 0).Head).FromDs) (((gd p2.Left 0).Head).More) (((gd p2.Left 0).Head).Retry) (((gd p2.Left 0).Head).Sleep) (((gd p2.Left 0).Head).MoreData) (((gd p2.Left 0).Head).Protected) (((gd p2.Left 0).Head).Duration) (A6u8.mk ((((gd p2.Left 0).Head).A1).x0) ((((gd p2.Left 0).Head).A1).x1) ((((gd p2.Left 0).Head).A1).x2) ((((gd p2.Left 0).Head).A1).x3) ((((gd p2.Left 0).Head).A1).x4) ((((gd p2.Left 0).Head).A1).x5)) (A6u8.mk ((((gd p2.Left 0).Head).A2).x0) ((((gd p2.Left 0).Head).A2).x1) ((((gd p2.Left 0).Head).A2).x2) ((((gd p2.Left 0).Head).A2).x3) ((((gd p2.Left 0).Head).A2).x4) ((((gd p2.Left 0).Head).A2).x5)) (A6u8.mk ((((gd p2.Left 0).Head).A3).x0) ((((gd p2.Left 0).Head).A3).x1) ((((gd p2.Left 0).Head).A3).x2) ((((gd p2.Left 0).Head).A3).x3) ((((gd p2.Left 0).Head).A3).x4) ((((gd p2.Left 0).Head).A3).x5)) (A6u8.mk ((((gd p2.Left 0).Head).A4).x0) ((((gd p2.Left 0).Head).A4).x1) ((((gd p2.Left 0).Head).A4).x2) ((((gd p2.Left 0).Head).A4).x3) ((((gd p2.Left 0).Head).A4).x4) ((((gd p2.Left 0).Head).A4).x5)) (((gd p2.Left 0).Head).Seq) (((gd p2.Left 0).Head).Frag) (((gd p2.Left 0).Head).Tid) (((gd p2.Left 0).Head).Ack) (((gd p2.Left 0).Head).Amsdu) (((gd p2.Left 0).Head).Eosp)) ((gd p2.Left 0).Body)) (TFrame.mk (THeader.mk r11.Head.Kind r11.Head.Sub r11.Head.ToDs r11.Head.FromDs r11.Head.More r11.Head.Retry r11.Head.Sleep r11.Head.MoreData r11.Head.Protected r11.Head.Duration (A6u8.mk r11.Head.A1.x0 r11.Head.A1.x1 r11.Head.A1.x2 r11.Head.A1.x3 r11.Head.A1.x4 r11.Head.A1.x5) (A6u8.mk r11.Head.A2.x0 r11.Head.A2.x1 r11.Head.A2.x2 r11.Head.A2.x3 r11.Head.A2.x4 r11.Head.A2.x5) (A6u8.mk r11.Head.A3.x0 r11.Head.A3.x1 r11.Head.A3.x2 r11.Head.A3.x3 r11.Head.A3.x4 r11.Head.A3.x5) (A6u8.mk r11.Head.A4.x0 r11.Head.A4.x1 r11.Head.A4.x2 r11.Head.A4.x3 r11.Head.A4.x4 r11.Head.A4.x5) r11.Head.Seq r11.Head.Frag r11.Head.Tid r11.Head.Ack r11.Head.Amsdu r11.Head.Eosp) r11.Body))))) then ((F18 p0 p1).isSome) else true) <| need (bif (((r8 && (gt (F16 (TPeriod.mk r4.2.1.Aid r4.2.1.Left) r6.2.1))) && (bEq r4.2.2 r6.2.2)) && (((bEq (p2.Left.length : Nat) 0) || (!bEq r4.2.2 0)) || (gt (F15 (TFrame.mk (THeader.mk (((gd p2.Left 0).Head).Kind) (((gd p2.Left 0).Head).Sub) (((gd p2.Left 0).Head).ToDs) (((gd p2.Left 0).Head).FromDs) (((gd p2.Left 0).Head).More) (((gd p2.Left 0).Head).Retry) (((gd p2.Left 0).Head).Sleep) (((gd p2.Left 0).Head).MoreData) (((gd p2.Left 0).Head).Protected) (((gd p2.Left 0).Head).Duration) (A6u8.mk ((((gd p2.Left 0).Head).A1).x0) ((((gd p2.Left 0).Head).A1).x1) ((((gd p2.Left 0).Head).A1).x2) ((((gd p2.Left 0).Head).A1).x3) ((((gd p2.Left 0).Head).A1).x4) ((((gd p2.Left 0).Head).A1).x5)) (A6u8.mk ((((gd p2.Left 0).Head).A2).x0) ((((gd p2.Left 0).Head).A2).x1) ((((gd p2.Left 0).Head).A2).x2) ((((gd p2.Left 0).Head).A2).x3) ((((gd p2.Left 0).Head).A2).x4) ((((gd p2.Left 0).Head).A2).x5)) (A6u8.mk ((((gd p2.Left 0).Head).A3).x0) ((((gd p2.Left 0).Head).A3).x1) ((((gd p2.Left 0).Head).A3).x2) ((((gd p2.Left 0).Head).A3).x3) ((((gd p2.Left 0).Head).A3).x4) ((((gd p2.Left 0).Head).A3).x5)) (A6u8.mk ((((gd p2.Left 0).Head).A4).x0) ((((gd p2.Left 0).Head).A4).x1) ((((gd p2.Left 0).Head).A4).x2) ((((gd p2.Left 0).Head).A4).x3) ((((gd p2.Left 0).Head).A4).x4) ((((gd p2.Left 0).Head).A4).x5)) (((gd p2.Left 0).Head).Seq) (((gd p2.Left 0).Head).Frag) (((gd p2.Left 0).Head).Tid) (((gd p2.Left 0).Head).Ack) (((gd p2.Left 0).Head).Amsdu) (((gd p2.Left 0).Head).Eosp)) ((gd p2.Left 0).Body)) (TFrame.mk (THeader.mk r11.Head.Kind r11.Head.Sub r11.Head.ToDs r11.Head.FromDs r11.Head.More r11.Head.Retry r11.Head.Sleep r11.Head.MoreData r11.Head.Protected r11.Head.Duration (A6u8.mk r11.Head.A1.x0 r11.Head.A1.x1 r11.Head.A1.x2 r11.Head.A1.x3 r11.Head.A1.x4 r11.Head.A1.x5) (A6u8.mk r11.Head.A2.x0 r11.Head.A2.x1 r11.Head.A2.x2 r11.Head.A2.x3 r11.Head.A2.x4 r11.Head.A2.x5) (A6u8.mk r11.Head.A3.x0 r11.Head.A3.x1 r11.Head.A3.x2 r11.Head.A3.x3 r11.Head.A3.x4 r11.Head.A3.x5) (A6u8.mk r11.Head.A4.x0 r11.Head.A4.x1 r11.Head.A4.x2 r11.Head.A4.x3 r11.Head.A4.x4 r11.Head.A4.x5) r11.Head.Seq r11.Head.Frag r11.Head.Tid r11.Head.Ack r11.Head.Amsdu r11.Head.Eosp) r11.Body))))) then ((F19 p0 p1).isSome) else true) <| need (bif ((((r8 && (gt (F16 (TPeriod.mk r4.2.1.Aid r4.2.1.Left) r6.2.1))) && (bEq r4.2.2 r6.2.2)) && (((bEq (p2.Left.length : Nat) 0) || (!bEq r4.2.2 0)) || (gt (F15 (TFrame.mk (THeader.mk (((gd p2.Left 0).Head).Kind) (((gd p2.Left 0).Head).Sub) (((gd p2.Left 0).Head).ToDs) (((gd p2.Left 0).Head).FromDs) (((gd p2.Left 0).Head).More) (((gd p2.Left 0).Head).Retry) (((gd p2.Left 0).Head).Sleep) (((gd p2.Left 0).Head).MoreData) (((gd p2.Left 0).Head).Protected) (((gd p2.Left 0).Head).Duration) (A6u8.mk ((((gd p2.Left 0).Head).A1).x0) ((((gd p2.Left 0).Head).A1).x1) ((((gd p2.Left 0).Head).A1).x2) ((((gd p2.Left 0).Head).A1).x3) ((((gd p2.Left 0).Head).A1).x4) ((((gd p2.Left 0).Head).A1).x5)) (A6u8.mk ((((gd p2.Left 0).Head).A2).x0) ((((gd p2.Left 0).Head).A2).x1) ((((gd p2.Left 0).Head).A2).x2) ((((gd p2.Left 0).Head).A2).x3) ((((gd p2.Left 0).Head).A2).x4) ((((gd p2.Left 0).Head).A2).x5)) (A6u8.mk ((((gd p2.Left 0).Head).A3).x0) ((((gd p2.Left 0).Head).A3).x1) ((((gd p2.Left 0).Head).A3).x2) ((((gd p2.Left 0).Head).A3).x3) ((((gd p2.Left 0).Head).A3).x4) ((((gd p2.Left 0).Head).A3).x5)) (A6u8.mk ((((gd p2.Left 0).Head).A4).x0) ((((gd p2.Left 0).Head).A4).x1) ((((gd p2.Left 0).Head).A4).x2) ((((gd p2.Left 0).Head).A4).x3) ((((gd p2.Left 0).Head).A4).x4) ((((gd p2.Left 0).Head).A4).x5)) (((gd p2.Left 0).Head).Seq) (((gd p2.Left 0).Head).Frag) (((gd p2.Left 0).Head).Tid) (((gd p2.Left 0).Head).Ack) (((gd p2.Left 0).Head).Amsdu) (((gd p2.Left 0).Head).Eosp)) ((gd p2.Left 0).Body)) (TFrame.mk (THeader.mk r11.Head.Kind r11.Head.Sub r11.Head.ToDs r11.Head.FromDs r11.Head.More r11.Head.Retry r11.Head.Sleep r11.Head.MoreData r11.Head.Protected r11.Head.Duration (A6u8.mk r11.Head.A1.x0 r11.Head.A1.x1 r11.Head.A1.x2 r11.Head.A1.x3 r11.Head.A1.x4 r11.Head.A1.x5) (A6u8.mk r11.Head.A2.x0 r11.Head.A2.x1 r11.Head.A2.x2 r11.Head.A2.x3 r11.Head.A2.x4 r11.Head.A2.x5) (A6u8.mk r11.Head.A3.x0 r11.Head.A3.x1 r11.Head.A3.x2 r11.Head.A3.x3 r11.Head.A3.x4 r11.Head.A3.x5) (A6u8.mk r11.Head.A4.x0 r11.Head.A4.x1 r11.Head.A4.x2 r11.Head.A4.x3 r11.Head.A4.x4 r11.Head.A4.x5) r11.Head.Seq r11.Head.Frag r11.Head.Tid r11.Head.Ack r11.Head.Amsdu r11.Head.Eosp) r11.Body))))) && (bB (gt (F18 p0 p1)) (gt (F19 p0 p1)))) then ((F20 p0).isSome) else true) <| need (bif ((((r8 && (gt (F16 (TPeriod.mk r4.2.1.Aid r4.2.1.Left) r6.2.1))) && (bEq r4.2.2 r6.2.2)) && (((bEq (p2.Left.length : Nat) 0) || (!bEq r4.2.2 0)) || (gt (F15 (TFrame.mk (THeader.mk (((gd p2.Left 0).Head).Kind) (((gd p2.Left 0).Head).Sub) (((gd p2.Left 0).Head).ToDs) (((gd p2.Left 0).Head).FromDs) (((gd p2.Left 0).Head).More) (((gd p2.Left 0).Head).Retry) (((gd p2.Left 0).Head).Sleep) (((gd p2.Left 0).Head).MoreData) (((gd p2.Left 0).Head).Protected) (((gd p2.Left 0).Head).Duration) (A6u8.mk ((((gd p2.Left 0).Head).A1).x0) ((((gd p2.Left 0).Head).A1).x1) ((((gd p2.Left 0).Head).A1).x2) ((((gd p2.Left 0).Head).A1).x3) ((((gd p2.Left 0).Head).A1).x4) ((((gd p2.Left 0).Head).A1).x5)) (A6u8.mk ((((gd p2.Left 0).Head).A2).x0) ((((gd p2.Left 0).Head).A2).x1) ((((gd p2.Left 0).Head).A2).x2) ((((gd p2.Left 0).Head).A2).x3) ((((gd p2.Left 0).Head).A2).x4) ((((gd p2.Left 0).Head).A2).x5)) (A6u8.mk ((((gd p2.Left 0).Head).A3).x0) ((((gd p2.Left 0).Head).A3).x1) ((((gd p2.Left 0).Head).A3).x2) ((((gd p2.Left 0).Head).A3).x3) ((((gd p2.Left 0).Head).A3).x4) ((((gd p2.Left 0).Head).A3).x5)) (A6u8.mk ((((gd p2.Left 0).Head).A4).x0) ((((gd p2.Left 0).Head).A4).x1) ((((gd p2.Left 0).Head).A4).x2) ((((gd p2.Left 0).Head).A4).x3) ((((gd p2.Left 0).Head).A4).x4) ((((gd p2.Left 0).Head).A4).x5)) (((gd p2.Left 0).Head).Seq) (((gd p2.Left 0).Head).Frag) (((gd p2.Left 0).Head).Tid) (((gd p2.Left 0).Head).Ack) (((gd p2.Left 0).Head).Amsdu) (((gd p2.Left 0).Head).Eosp)) ((gd p2.Left 0).Body)) (TFrame.mk (THeader.mk r11.Head.Kind r11.Head.Sub r11.Head.ToDs r11.Head.FromDs r11.Head.More r11.Head.Retry r11.Head.Sleep r11.Head.MoreData r11.Head.Protected r11.Head.Duration (A6u8.mk r11.Head.A1.x0 r11.Head.A1.x1 r11.Head.A1.x2 r11.Head.A1.x3 r11.Head.A1.x4 r11.Head.A1.x5) (A6u8.mk r11.Head.A2.x0 r11.Head.A2.x1 r11.Head.A2.x2 r11.Head.A2.x3 r11.Head.A2.x4 r11.Head.A2.x5) (A6u8.mk r11.Head.A3.x0 r11.Head.A3.x1 r11.Head.A3.x2 r11.Head.A3.x3 r11.Head.A3.x4 r11.Head.A3.x5) (A6u8.mk r11.Head.A4.x0 r11.Head.A4.x1 r11.Head.A4.x2 r11.Head.A4.x3 r11.Head.A4.x4 r11.Head.A4.x5) r11.Head.Seq r11.Head.Frag r11.Head.Tid r11.Head.Ack r11.Head.Amsdu r11.Head.Eosp) r11.Body))))) && (bB (gt (F18 p0 p1)) (gt (F19 p0 p1)))) then ((F21 p0).isSome) else true) <| need (bif (((((r8 && (gt (F16 (TPeriod.mk r4.2.1.Aid r4.2.1.Left) r6.2.1))) && (bEq r4.2.2 r6.2.2)) && (((bEq (p2.Left.length : Nat) 0) || (!bEq r4.2.2 0)) || (gt (F15 (TFrame.mk (THeader.mk (((gd p2.Left 0).Head).Kind) (((gd p2.Left 0).Head).Sub) (((gd p2.Left 0).Head).ToDs) (((gd p2.Left 0).Head).FromDs) (((gd p2.Left 0).Head).More) (((gd p2.Left 0).Head).Retry) (((gd p2.Left 0).Head).Sleep) (((gd p2.Left 0).Head).MoreData) (((gd p2.Left 0).Head).Protected) (((gd p2.Left 0).Head).Duration) (A6u8.mk ((((gd p2.Left 0).Head).A1).x0) ((((gd p2.Left 0).Head).A1).x1) ((((gd p2.Left 0).Head).A1).x2) ((((gd p2.Left 0).Head).A1).x3) ((((gd p2.Left 0).Head).A1).x4) ((((gd p2.Left 0).Head).A1).x5)) (A6u8.mk ((((gd p2.Left 0).Head).A2).x0) ((((gd p2.Left 0).Head).A2).x1) ((((gd p2.Left 0).Head).A2).x2) ((((gd p2.Left 0).Head).A2).x3) ((((gd p2.Left 0).Head).A2).x4) ((((gd p2.Left 0).Head).A2).x5)) (A6u8.mk ((((gd p2.Left 0).Head).A3).x0) ((((gd p2.Left 0).Head).A3).x1) ((((gd p2.Left 0).Head).A3).x2) ((((gd p2.Left 0).Head).A3).x3) ((((gd p2.Left 0).Head).A3).x4) ((((gd p2.Left 0).Head).A3).x5)) (A6u8.mk ((((gd p2.Left 0).Head).A4).x0) ((((gd p2.Left 0).Head).A4).x1) ((((gd p2.Left 0).Head).A4).x2) ((((gd p2.Left 0).Head).A4).x3) ((((gd p2.Left 0).Head).A4).x4) ((((gd p2.Left 0).Head).A4).x5)) (((gd p2.Left 0).Head).Seq) (((gd p2.Left 0).Head).Frag) (((gd p2.Left 0).Head).Tid) (((gd p2.Left 0).Head).Ack) (((gd p2.Left 0).Head).Amsdu) (((gd p2.Left 0).Head).Eosp)) ((gd p2.Left 0).Body)) (TFrame.mk (THeader.mk r11.Head.Kind r11.Head.Sub r11.Head.ToDs r11.Head.FromDs r11.Head.More r11.Head.Retry r11.Head.Sleep r11.Head.MoreData r11.Head.Protected r11.Head.Duration (A6u8.mk r11.Head.A1.x0 r11.Head.A1.x1 r11.Head.A1.x2 r11.Head.A1.x3 r11.Head.A1.x4 r11.Head.A1.x5) (A6u8.mk r11.Head.A2.x0 r11.Head.A2.x1 r11.Head.A2.x2 r11.Head.A2.x3 r11.Head.A2.x4 r11.Head.A2.x5) (A6u8.mk r11.Head.A3.x0 r11.Head.A3.x1 r11.Head.A3.x2 r11.Head.A3.x3 r11.Head.A3.x4 r11.Head.A3.x5) (A6u8.mk r11.Head.A4.x0 r11.Head.A4.x1 r11.Head.A4.x2 r11.Head.A4.x3 r11.Head.A4.x4 r11.Head.A4.x5) r11.Head.Seq r11.Head.Frag r11.Head.Tid r11.Head.Ack r11.Head.Amsdu r11.Head.Eosp) r11.Body))))) && (bB (gt (F18 p0 p1)) (gt (F19 p0 p1)))) && (bB (bEq (gt (F20 p0)) 0) (gt (F21 p0)))) then ((F22 p2).isSome) else true) <| need (bif (((((r8 && (gt (F16 (TPeriod.mk r4.2.1.Aid r4.2.1.Left) r6.2.1))) && (bEq r4.2.2 r6.2.2)) && (((bEq (p2.Left.length : Nat) 0) || (!bEq r4.2.2 0)) || (gt (F15 (TFrame.mk (THeader.mk (((gd p2.Left 0).Head).Kind) (((gd p2.Left 0).Head).Sub) (((gd p2.Left 0).Head).ToDs) (((gd p2.Left 0).Head).FromDs) (((gd p2.Left 0).Head).More) (((gd p2.Left 0).Head).Retry) (((gd p2.Left 0).Head).Sleep) (((gd p2.Left 0).Head).MoreData) (((gd p2.Left 0).Head).Protected) (((gd p2.Left 0).Head).Duration) (A6u8.mk ((((gd p2.Left 0).Head).A1).x0) ((((gd p2.Left 0).Head).A1).x1) ((((gd p2.Left 0).Head).A1).x2) ((((gd p2.Left 0).Head).A1).x3) ((((gd p2.Left 0).Head).A1).x4) ((((gd p2.Left 0).Head).A1).x5)) (A6u8.mk ((((gd p2.Left 0).Head).A2).x0) ((((gd p2.Left 0).Head).A2).x1) ((((gd p2.Left 0).Head).A2).x2) ((((gd p2.Left 0).Head).A2).x3) ((((gd p2.Left 0).Head).A2).x4) ((((gd p2.Left 0).Head).A2).x5)) (A6u8.mk ((((gd p2.Left 0).Head).A3).x0) ((((gd p2.Left 0).Head).A3).x1) ((((gd p2.Left 0).Head).A3).x2) ((((gd p2.Left 0).Head).A3).x3) ((((gd p2.Left 0).Head).A3).x4) ((((gd p2.Left 0).Head).A3).x5)) (A6u8.mk ((((gd p2.Left 0).Head).A4).x0) ((((gd p2.Left 0).Head).A4).x1) ((((gd p2.Left 0).Head).A4).x2) ((((gd p2.Left 0).Head).A4).x3) ((((gd p2.Left 0).Head).A4).x4) ((((gd p2.Left 0).Head).A4).x5)) (((gd p2.Left 0).Head).Seq) (((gd p2.Left 0).Head).Frag) (((gd p2.Left 0).Head).Tid) (((gd p2.Left 0).Head).Ack) (((gd p2.Left 0).Head).Amsdu) (((gd p2.Left 0).Head).Eosp)) ((gd p2.Left 0).Body)) (TFrame.mk (THeader.mk r11.Head.Kind r11.Head.Sub r11.Head.ToDs r11.Head.FromDs r11.Head.More r11.Head.Retry r11.Head.Sleep r11.Head.MoreData r11.Head.Protected r11.Head.Duration (A6u8.mk r11.Head.A1.x0 r11.Head.A1.x1 r11.Head.A1.x2 r11.Head.A1.x3 r11.Head.A1.x4 r11.Head.A1.x5) (A6u8.mk r11.Head.A2.x0 r11.Head.A2.x1 r11.Head.A2.x2 r11.Head.A2.x3 r11.Head.A2.x4 r11.Head.A2.x5) (A6u8.mk r11.Head.A3.x0 r11.Head.A3.x1 r11.Head.A3.x2 r11.Head.A3.x3 r11.Head.A3.x4 r11.Head.A3.x5) (A6u8.mk r11.Head.A4.x0 r11.Head.A4.x1 r11.Head.A4.x2 r11.Head.A4.x3 r11.Head.A4.x4 r11.Head.A4.x5) r11.Head.Seq r11.Head.Frag r11.Head.Tid r11.Head.Ack r11.Head.Amsdu r11.Head.Eosp) r11.Body))))) && (bB (gt (F18 p0 p1)) (gt (F19 p0 p1)))) && (bB (bEq (gt (F20 p0)) 0) (gt (F21 p0)))) then ((F23 p2).isSome) else true) <| some ((((((r8 && (gt (F16 (TPeriod.mk r4.2.1.Aid r4.2.1.Left) r6.2.1))) && (bEq r4.2.2 r6.2.2)) && (((bEq (p2.Left.length : Nat) 0) || (!bEq r4.2.2 0)) || (gt (F15 (TFrame.mk (THeader.mk (((gd p2.Left 0).Head).Kind) (((gd p2.Left 0).Head).Sub) (((gd p2.Left 0).Head).ToDs) (((gd p2.Left 0).Head).FromDs) (((gd p2.Left 0).Head).More) (((gd p2.Left 0).Head).Retry) (((gd p2.Left 0).Head).Sleep) (((gd p2.Left 0).Head).MoreData) (((gd p2.Left 0).Head).Protected) (((gd p2.Left 0).Head).Duration) (A6u8.mk ((((gd p2.Left 0).Head).A1).x0) ((((gd p2.Left 0).Head).A1).x1) ((((gd p2.Left 0).Head).A1).x2) ((((gd p2.Left 0).Head).A1).x3) ((((gd p2.Left 0).Head).A1).x4) ((((gd p2.Left 0).Head).A1).x5)) (A6u8.mk ((((gd p2.Left 0).Head).A2).x0) ((((gd p2.Left 0).Head).A2).x1) ((((gd p2.Left 0).Head).A2).x2) ((((gd p2.Left 0).Head).A2).x3) ((((gd p2.Left 0).Head).A2).x4) ((((gd p2.Left 0).Head).A2).x5)) (A6u8.mk ((((gd p2.Left 0).Head).A3).x0) ((((gd p2.Left 0).Head).A3).x1) ((((gd p2.Left 0).Head).A3).x2) ((((gd p2.Left 0).Head).A3).x3) ((((gd p2.Left 0).Head).A3).x4) ((((gd p2.Left 0).Head).A3).x5)) (A6u8.mk ((((gd p2.Left 0).Head).A4).x0) ((((gd p2.Left 0).Head).A4).x1) ((((gd p2.Left 0).Head).A4).x2) ((((gd p2.Left 0).Head).A4).x3) ((((gd p2.Left 0).Head).A4).x4) ((((gd p2.Left 0).Head).A4).x5)) (((gd p2.Left 0).Head).Seq) (((gd p2.Left 0).Head).Frag) (((gd p2.Left 0).Head).Tid) (((gd p2.Left 0).Head).Ack) (((gd p2.Left 0).Head).Amsdu) (((gd p2.Left 0).Head).Eosp)) ((gd p2.Left 0).Body)) (TFrame.mk (THeader.mk r11.Head.Kind r11.Head.Sub r11.Head.ToDs r11.Head.FromDs r11.Head.More r11.Head.Retry r11.Head.Sleep r11.Head.MoreData r11.Head.Protected r11.Head.Duration (A6u8.mk r11.Head.A1.x0 r11.Head.A1.x1 r11.Head.A1.x2 r11.Head.A1.x3 r11.Head.A1.x4 r11.Head.A1.x5) (A6u8.mk r11.Head.A2.x0 r11.Head.A2.x1 r11.Head.A2.x2 r11.Head.A2.x3 r11.Head.A2.x4 r11.Head.A2.x5) (A6u8.mk r11.Head.A3.x0 r11.Head.A3.x1 r11.Head.A3.x2 r11.Head.A3.x3 r11.Head.A3.x4 r11.Head.A3.x5) (A6u8.mk r11.Head.A4.x0 r11.Head.A4.x1 r11.Head.A4.x2 r11.Head.A4.x3 r11.Head.A4.x4 r11.Head.A4.x5) r11.Head.Seq r11.Head.Frag r11.Head.Tid r11.Head.Ack r11.Head.Amsdu r11.Head.Eosp) r11.Body))))) && (bB (gt (F18 p0 p1)) (gt (F19 p0 p1)))) && (bB (bEq (gt (F20 p0)) 0) (gt (F21 p0)))) && (bB (bEq (gt (F22 p2)) 0) (gt (F23 p2))))) some)
noncomputable def body3 : List AV → AR
  | [v0, v1, v2] => .pure (aK 3 k_TTriggerPlan v0 ∧ aK 41 k_TFrame v1 ∧ aK 2 k_TPeriod v2 ∧ (F3 (g_TTriggerPlan (aL v0)) (g_TFrame (aL v1)) (g_TPeriod (aL v2))).isSome = true) (.bool (gt (F3 (g_TTriggerPlan (aL v0)) (g_TFrame (aL v1)) (g_TPeriod (aL v2)))))
  | _ => .fail
set_option maxHeartbeats 4000000 in
set_option maxRecDepth 20000 in
theorem ok3 : FnOk Try.prog 3 (pureC body3) := by
  refine pure_fnM body3 (rs := [.tmp 6]) Try.func3 (by kernel_rfl) rfl rfl ?_
  intro l ob v hb hob
  unfold body3 at hb
  split at hb
  · rename_i v0 v1 v2
    injection hb with q1 q2; subst q1 q2
    obtain ⟨hk0_0, hk1_0, hk2_0, hob⟩ := hob
    obtain ⟨r, H⟩ := Option.isSome_iff_exists.1 hob
    rw [H, gt_some]
    have hw0 := wA_TTriggerPlan hk0_0
    have hw1 := wA_TFrame hk1_0
    have hw2 := wA_TPeriod hk2_0
    generalize g_TTriggerPlan (aL v0) = p0 at H hw0
    generalize g_TFrame (aL v1) = p1 at H hw1
    generalize g_TPeriod (aL v2) = p2 at H hw2
    refine ⟨[.agg [.int .u8 p0.Start, .int .u8 p0.Deliver, .int .i64 p0.Most], .agg (.int .u8 p1.Head.Kind :: .int .u8 p1.Head.Sub :: .bool p1.Head.ToDs :: .bool p1.Head.FromDs :: .bool p1.Head.More :: .bool p1.Head.Retry :: .bool p1.Head.Sleep :: .bool p1.Head.MoreData :: .bool p1.Head.Protected :: .int .i64 p1.Head.Duration :: .int .u8 p1.Head.A1.x0 :: .int .u8 p1.Head.A1.x1 :: .int .u8 p1.Head.A1.x2 :: .int .u8 p1.Head.A1.x3 :: .int .u8 p1.Head.A1.x4 :: .int .u8 p1.Head.A1.x5 :: .int .u8 p1.Head.A2.x0 :: .int .u8 p1.Head.A2.x1 :: .int .u8 p1.Head.A2.x2 :: .int .u8 p1.Head.A2.x3 :: .int .u8 p1.Head.A2.x4 :: .int .u8 p1.Head.A2.x5 :: .int .u8 p1.Head.A3.x0 :: .int .u8 p1.Head.A3.x1 :: .int .u8 p1.Head.A3.x2 :: .int .u8 p1.Head.A3.x3 :: .int .u8 p1.Head.A3.x4 :: .int .u8 p1.Head.A3.x5 :: .int .u8 p1.Head.A4.x0 :: .int .u8 p1.Head.A4.x1 :: .int .u8 p1.Head.A4.x2 :: .int .u8 p1.Head.A4.x3 :: .int .u8 p1.Head.A4.x4 :: .int .u8 p1.Head.A4.x5 :: .int .i64 p1.Head.Seq :: .int .i64 p1.Head.Frag :: .int .i64 p1.Head.Tid :: .int .u8 p1.Head.Ack :: .bool p1.Head.Amsdu :: .bool p1.Head.Eosp :: .ro 1 p1.Body.length false (enR c_u8 p1.Body) :: []), .agg [.int .i64 p2.Aid, .ro 41 p2.Left.length false (enR c_TFrame p2.Left)]], _, (fun E vs F => FR_wk1 hw0.1 F (fun vs F => FR_wk1 hw1.1 F (fun vs F => FR_wk1 hw2.1 F (fun vs F => F)))), rfl, rfl, ?_⟩
    rw [Try.ntmps3]
    simp only [List.length_cons, List.length_nil, Nat.reduceAdd, Nat.reduceSub, List.replicate_succ, List.replicate_zero, List.cons_append, List.nil_append]
    unfold F3 at H
    try dsimp only at H
    refine sq ctNo_ok ?_
    simp only [go_sem, Nat.reduceLeDiff, Nat.reduceLT, Nat.reduceAdd, Nat.reduceMul, Nat.reduceSub, Nat.reduceEqDiff, Nat.reduceBEq, Int.reduceToNat, reduceCtorEq]
    refine seqM ?_
    refine seqM ?_
    obtain ⟨r1, e2, H⟩ := bsi H
    obtain ⟨f3, H⟩ := need_some.1 H
    replace f3 := g_iff.1 f3
    refine rg ct3t0_ok ?_
    simp only [go_sem, Nat.reduceLeDiff, Nat.reduceLT, Nat.reduceAdd, Nat.reduceMul, Nat.reduceSub, Nat.reduceEqDiff, Nat.reduceBEq, Int.reduceToNat, reduceCtorEq, ct3t0_11, body11, ct3t0_12, body12, e2]
    repeat ((with_reducible refine And.intro ?_ ?_); focus (first | (with_reducible trivial) | omega | exact f3 | (intro g; have q := f3 (by first | exact g | (rw [g]; rfl) | simpa using g); first | exact q | exact ⟨q.1, q.2.1⟩ | exact q.2.2 | omega | exact ⟨g, q⟩ | exact ⟨trivial, q⟩ | exact ⟨g, q.1, q.2.1⟩ | exact ⟨g, q.2.2⟩) | (intro g; (try have q0 := f3 (by first | exact g | (rw [g]; rfl) | simpa using g)); and_intros <;> first | (with_reducible trivial) | assumption | exact nfc | (intro g2; rw [g, g2]; rfl) | (intro g2; assumption) | (simp only [g, Bool.true_and, Bool.and_true, Bool.not_false, Bool.not_true]; assumption) | grind) | (and_intros <;> first | (with_reducible trivial) | omega | assumption | exact nfc | first | exact rfl | exact trivial | exact fitI | exact .inr rfl | exact .inl rfl | exact fun x hx => absurd hx (by omega)) | grind))
    refine condM rfl trivial (fun hc => ?_) (fun hc => ?_)
    · replace H := cond_t hc H
      refine sq ctNo_ok ?_
      simp only [go_sem, Nat.reduceLeDiff, Nat.reduceLT, Nat.reduceAdd, Nat.reduceMul, Nat.reduceSub, Nat.reduceEqDiff, Nat.reduceBEq, Int.reduceToNat, reduceCtorEq]
      refine rg ctNo_ok ?_
      simp only [go_sem, Nat.reduceLeDiff, Nat.reduceLT, Nat.reduceAdd, Nat.reduceMul, Nat.reduceSub, Nat.reduceEqDiff, Nat.reduceBEq, Int.reduceToNat, reduceCtorEq]
      obtain rfl := Option.some.inj H
      first | rfl | simp only [Bool.and_false, Bool.false_and, Bool.and_true, Bool.true_and]
    replace H := cond_f hc H
    refine rg ctNo_ok ?_
    simp only [go_sem, Nat.reduceLeDiff, Nat.reduceLT, Nat.reduceAdd, Nat.reduceMul, Nat.reduceSub, Nat.reduceEqDiff, Nat.reduceBEq, Int.reduceToNat, reduceCtorEq]
    refine seqM ?_
    obtain ⟨r4, e5, H⟩ := bsi H
    refine rg ct3t1_ok ?_
    simp only [go_sem, Nat.reduceLeDiff, Nat.reduceLT, Nat.reduceAdd, Nat.reduceMul, Nat.reduceSub, Nat.reduceEqDiff, Nat.reduceBEq, Int.reduceToNat, reduceCtorEq, ct3t1_13, body13, e5]
    repeat ((with_reducible refine And.intro ?_ ?_); focus (first | (and_intros <;> first | (with_reducible trivial) | omega | assumption | exact nfc | first | exact rfl | exact trivial | exact fitI | exact .inr rfl | exact .inl rfl | exact fun x hx => absurd hx (by omega)) | grind))
    refine seqM ?_
    obtain ⟨r6, e7, H⟩ := bsi H
    refine rg ct3t2_ok ?_
    simp only [go_sem, Nat.reduceLeDiff, Nat.reduceLT, Nat.reduceAdd, Nat.reduceMul, Nat.reduceSub, Nat.reduceEqDiff, Nat.reduceBEq, Int.reduceToNat, reduceCtorEq, ct3t2_14, body14, e7]
    repeat ((with_reducible refine And.intro ?_ ?_); focus (first | (and_intros <;> first | (with_reducible trivial) | omega | assumption | exact nfc | first | exact rfl | exact trivial | exact fitI | exact .inr rfl | exact .inl rfl | exact fun x hx => absurd hx (by omega)) | grind))
    refine seqM ?_
    obtain ⟨r8, e9, H⟩ := bsi H
    obtain ⟨f10, H⟩ := need_some.1 H
    replace f10 := g_iff.1 f10
    refine rg ct3t3_ok ?_
    simp only [go_sem, Nat.reduceLeDiff, Nat.reduceLT, Nat.reduceAdd, Nat.reduceMul, Nat.reduceSub, Nat.reduceEqDiff, Nat.reduceBEq, Int.reduceToNat, reduceCtorEq, ct3t3_15, body15, ct3t3_16, body16, e9]
    repeat ((with_reducible refine And.intro ?_ ?_); focus (first | (with_reducible trivial) | omega | exact f10 | (intro g; have q := f10 (by first | exact g | (rw [g]; rfl) | simpa using g); first | exact q | exact ⟨q.1, q.2.1⟩ | exact q.2.2 | omega | exact ⟨g, q⟩ | exact ⟨trivial, q⟩ | exact ⟨g, q.1, q.2.1⟩ | exact ⟨g, q.2.2⟩) | (intro g; (try have q0 := f10 (by first | exact g | (rw [g]; rfl) | simpa using g)); and_intros <;> first | (with_reducible trivial) | assumption | exact nfc | (intro g2; rw [g, g2]; rfl) | (intro g2; assumption) | (simp only [g, Bool.true_and, Bool.and_true, Bool.not_false, Bool.not_true]; assumption) | grind) | (and_intros <;> first | (with_reducible trivial) | omega | assumption | exact nfc | first | exact rfl | exact trivial | exact fitI | exact .inr rfl | exact .inl rfl | exact fun x hx => absurd hx (by omega)) | grind))
    refine seqM ?_
    obtain ⟨r11, e12, H⟩ := bsi H
    refine rg ct3t4_ok ?_
    simp only [go_sem, Nat.reduceLeDiff, Nat.reduceLT, Nat.reduceAdd, Nat.reduceMul, Nat.reduceSub, Nat.reduceEqDiff, Nat.reduceBEq, Int.reduceToNat, reduceCtorEq, ct3t4_17, body17, e12]
    repeat ((with_reducible refine And.intro ?_ ?_); focus (first | (and_intros <;> first | (with_reducible trivial) | omega | assumption | exact nfc | first | exact rfl | exact trivial | exact fitI | exact .inr rfl | exact .inl rfl | exact fun x hx => absurd hx (by omega)) | grind))
    refine seqM ?_
    refine sq ctNo_ok ?_
    simp only [go_sem, Nat.reduceLeDiff, Nat.reduceLT, Nat.reduceAdd, Nat.reduceMul, Nat.reduceSub, Nat.reduceEqDiff, Nat.reduceBEq, Int.reduceToNat, reduceCtorEq]
    refine blkM ?_
    refine loop_den (fun s : Int × (List Int) => (.top :: .top :: .top :: .ptr 0 0 0 0 :: .ptr 1 0 0 0 :: .ptr 2 0 0 0 :: .top :: .ptr 5 0 0 0 :: .top :: .int .i64 r4.2.2 :: .top :: .top :: .top :: .bool ((r8 && (gt (F16 (TPeriod.mk r4.2.1.Aid r4.2.1.Left) r6.2.1))) && (bEq r4.2.2 r6.2.2)) :: .ptr 10 0 0 0 :: .int .i64 s.1 :: tp 91 [])) (fun s => [.lit 23 [.int .u8 p0.Start, .int .u8 p0.Deliver, .int .i64 p0.Most], .lit 30 (.int .u8 p1.Head.Kind :: .int .u8 p1.Head.Sub :: .bool p1.Head.ToDs :: .bool p1.Head.FromDs :: .bool p1.Head.More :: .bool p1.Head.Retry :: .bool p1.Head.Sleep :: .bool p1.Head.MoreData :: .bool p1.Head.Protected :: .int .i64 p1.Head.Duration :: .int .u8 p1.Head.A1.x0 :: .int .u8 p1.Head.A1.x1 :: .int .u8 p1.Head.A1.x2 :: .int .u8 p1.Head.A1.x3 :: .int .u8 p1.Head.A1.x4 :: .int .u8 p1.Head.A1.x5 :: .int .u8 p1.Head.A2.x0 :: .int .u8 p1.Head.A2.x1 :: .int .u8 p1.Head.A2.x2 :: .int .u8 p1.Head.A2.x3 :: .int .u8 p1.Head.A2.x4 :: .int .u8 p1.Head.A2.x5 :: .int .u8 p1.Head.A3.x0 :: .int .u8 p1.Head.A3.x1 :: .int .u8 p1.Head.A3.x2 :: .int .u8 p1.Head.A3.x3 :: .int .u8 p1.Head.A3.x4 :: .int .u8 p1.Head.A3.x5 :: .int .u8 p1.Head.A4.x0 :: .int .u8 p1.Head.A4.x1 :: .int .u8 p1.Head.A4.x2 :: .int .u8 p1.Head.A4.x3 :: .int .u8 p1.Head.A4.x4 :: .int .u8 p1.Head.A4.x5 :: .int .i64 p1.Head.Seq :: .int .i64 p1.Head.Frag :: .int .i64 p1.Head.Tid :: .int .u8 p1.Head.Ack :: .bool p1.Head.Amsdu :: .bool p1.Head.Eosp :: .ro 1 p1.Body.length false (enR c_u8 p1.Body) :: []), .lit 33 [.int .i64 p2.Aid, .ro 41 p2.Left.length false (enR c_TFrame p2.Left)], .dead, .dead, .lit 30 (.int .u8 r4.1.Head.Kind :: .int .u8 r4.1.Head.Sub :: .bool r4.1.Head.ToDs :: .bool r4.1.Head.FromDs :: .bool r4.1.Head.More :: .bool r4.1.Head.Retry :: .bool r4.1.Head.Sleep :: .bool r4.1.Head.MoreData :: .bool r4.1.Head.Protected :: .int .i64 r4.1.Head.Duration :: .int .u8 r4.1.Head.A1.x0 :: .int .u8 r4.1.Head.A1.x1 :: .int .u8 r4.1.Head.A1.x2 :: .int .u8 r4.1.Head.A1.x3 :: .int .u8 r4.1.Head.A1.x4 :: .int .u8 r4.1.Head.A1.x5 :: .int .u8 r4.1.Head.A2.x0 :: .int .u8 r4.1.Head.A2.x1 :: .int .u8 r4.1.Head.A2.x2 :: .int .u8 r4.1.Head.A2.x3 :: .int .u8 r4.1.Head.A2.x4 :: .int .u8 r4.1.Head.A2.x5 :: .int .u8 r4.1.Head.A3.x0 :: .int .u8 r4.1.Head.A3.x1 :: .int .u8 r4.1.Head.A3.x2 :: .int .u8 r4.1.Head.A3.x3 :: .int .u8 r4.1.Head.A3.x4 :: .int .u8 r4.1.Head.A3.x5 :: .int .u8 r4.1.Head.A4.x0 :: .int .u8 r4.1.Head.A4.x1 :: .int .u8 r4.1.Head.A4.x2 :: .int .u8 r4.1.Head.A4.x3 :: .int .u8 r4.1.Head.A4.x4 :: .int .u8 r4.1.Head.A4.x5 :: .int .i64 r4.1.Head.Seq :: .int .i64 r4.1.Head.Frag :: .int .i64 r4.1.Head.Tid :: .int .u8 r4.1.Head.Ack :: .bool r4.1.Head.Amsdu :: .bool r4.1.Head.Eosp :: .sl 11 1 0 s.2.length false :: []), .dead, .dead, .dead, .row 5 1 r11.Body.length (enR c_u8 r11.Body), .lit 30 (.int .u8 r11.Head.Kind :: .int .u8 r11.Head.Sub :: .bool r11.Head.ToDs :: .bool r11.Head.FromDs :: .bool r11.Head.More :: .bool r11.Head.Retry :: .bool r11.Head.Sleep :: .bool r11.Head.MoreData :: .bool r11.Head.Protected :: .int .i64 r11.Head.Duration :: .int .u8 r11.Head.A1.x0 :: .int .u8 r11.Head.A1.x1 :: .int .u8 r11.Head.A1.x2 :: .int .u8 r11.Head.A1.x3 :: .int .u8 r11.Head.A1.x4 :: .int .u8 r11.Head.A1.x5 :: .int .u8 r11.Head.A2.x0 :: .int .u8 r11.Head.A2.x1 :: .int .u8 r11.Head.A2.x2 :: .int .u8 r11.Head.A2.x3 :: .int .u8 r11.Head.A2.x4 :: .int .u8 r11.Head.A2.x5 :: .int .u8 r11.Head.A3.x0 :: .int .u8 r11.Head.A3.x1 :: .int .u8 r11.Head.A3.x2 :: .int .u8 r11.Head.A3.x3 :: .int .u8 r11.Head.A3.x4 :: .int .u8 r11.Head.A3.x5 :: .int .u8 r11.Head.A4.x0 :: .int .u8 r11.Head.A4.x1 :: .int .u8 r11.Head.A4.x2 :: .int .u8 r11.Head.A4.x3 :: .int .u8 r11.Head.A4.x4 :: .int .u8 r11.Head.A4.x5 :: .int .i64 r11.Head.Seq :: .int .i64 r11.Head.Frag :: .int .i64 r11.Head.Tid :: .int .u8 r11.Head.Ack :: .bool r11.Head.Amsdu :: .bool r11.Head.Eosp :: .sl 9 1 0 r11.Body.length false :: []), .row 5 1 s.2.length (enR c_u8 s.2)]) (fun e : Unit => (.top :: .top :: .top :: .ptr 0 0 0 0 :: .ptr 1 0 0 0 :: .ptr 2 0 0 0 :: .top :: .top :: .top :: .int .i64 r4.2.2 :: .top :: .top :: .top :: .bool ((r8 && (gt (F16 (TPeriod.mk r4.2.1.Aid r4.2.1.Left) r6.2.1))) && (bEq r4.2.2 r6.2.2)) :: .ptr 10 0 0 0 :: tp 92 [])) (fun e => [.lit 23 [.int .u8 p0.Start, .int .u8 p0.Deliver, .int .i64 p0.Most], .lit 30 (.int .u8 p1.Head.Kind :: .int .u8 p1.Head.Sub :: .bool p1.Head.ToDs :: .bool p1.Head.FromDs :: .bool p1.Head.More :: .bool p1.Head.Retry :: .bool p1.Head.Sleep :: .bool p1.Head.MoreData :: .bool p1.Head.Protected :: .int .i64 p1.Head.Duration :: .int .u8 p1.Head.A1.x0 :: .int .u8 p1.Head.A1.x1 :: .int .u8 p1.Head.A1.x2 :: .int .u8 p1.Head.A1.x3 :: .int .u8 p1.Head.A1.x4 :: .int .u8 p1.Head.A1.x5 :: .int .u8 p1.Head.A2.x0 :: .int .u8 p1.Head.A2.x1 :: .int .u8 p1.Head.A2.x2 :: .int .u8 p1.Head.A2.x3 :: .int .u8 p1.Head.A2.x4 :: .int .u8 p1.Head.A2.x5 :: .int .u8 p1.Head.A3.x0 :: .int .u8 p1.Head.A3.x1 :: .int .u8 p1.Head.A3.x2 :: .int .u8 p1.Head.A3.x3 :: .int .u8 p1.Head.A3.x4 :: .int .u8 p1.Head.A3.x5 :: .int .u8 p1.Head.A4.x0 :: .int .u8 p1.Head.A4.x1 :: .int .u8 p1.Head.A4.x2 :: .int .u8 p1.Head.A4.x3 :: .int .u8 p1.Head.A4.x4 :: .int .u8 p1.Head.A4.x5 :: .int .i64 p1.Head.Seq :: .int .i64 p1.Head.Frag :: .int .i64 p1.Head.Tid :: .int .u8 p1.Head.Ack :: .bool p1.Head.Amsdu :: .bool p1.Head.Eosp :: .ro 1 p1.Body.length false (enR c_u8 p1.Body) :: []), .lit 33 [.int .i64 p2.Aid, .ro 41 p2.Left.length false (enR c_TFrame p2.Left)], .dead, .dead, .dead, .dead, .dead, .dead, .row 5 1 r11.Body.length (enR c_u8 r11.Body), .lit 30 (.int .u8 r11.Head.Kind :: .int .u8 r11.Head.Sub :: .bool r11.Head.ToDs :: .bool r11.Head.FromDs :: .bool r11.Head.More :: .bool r11.Head.Retry :: .bool r11.Head.Sleep :: .bool r11.Head.MoreData :: .bool r11.Head.Protected :: .int .i64 r11.Head.Duration :: .int .u8 r11.Head.A1.x0 :: .int .u8 r11.Head.A1.x1 :: .int .u8 r11.Head.A1.x2 :: .int .u8 r11.Head.A1.x3 :: .int .u8 r11.Head.A1.x4 :: .int .u8 r11.Head.A1.x5 :: .int .u8 r11.Head.A2.x0 :: .int .u8 r11.Head.A2.x1 :: .int .u8 r11.Head.A2.x2 :: .int .u8 r11.Head.A2.x3 :: .int .u8 r11.Head.A2.x4 :: .int .u8 r11.Head.A2.x5 :: .int .u8 r11.Head.A3.x0 :: .int .u8 r11.Head.A3.x1 :: .int .u8 r11.Head.A3.x2 :: .int .u8 r11.Head.A3.x3 :: .int .u8 r11.Head.A3.x4 :: .int .u8 r11.Head.A3.x5 :: .int .u8 r11.Head.A4.x0 :: .int .u8 r11.Head.A4.x1 :: .int .u8 r11.Head.A4.x2 :: .int .u8 r11.Head.A4.x3 :: .int .u8 r11.Head.A4.x4 :: .int .u8 r11.Head.A4.x5 :: .int .i64 r11.Head.Seq :: .int .i64 r11.Head.Frag :: .int .i64 r11.Head.Tid :: .int .u8 r11.Head.Ack :: .bool r11.Head.Amsdu :: .bool r11.Head.Eosp :: .sl 9 1 0 r11.Body.length false :: [])]) H ?_ (fun s o H hn1_1 hn2_1 => ?_) (fun e H => ?_)
    · refine SubF_of ⟨[some 0, some 1, some 2, some 3, some 4, some 5, some 6, some 7, some 8, some 9, some 10, some 3], ?_, ?_, by rfl, by rfl⟩
      · simp [CvL, Cv, getM, tp]
      · exact ⟨(by simp [CvB, CvL, Cv, blkAt, geth, getM]), (by simp [CvB, CvL, Cv, blkAt, geth, getM]), (by simp [CvB, CvL, Cv, blkAt, geth, getM]), CvB_dead, CvB_dead, (by simp [CvB, CvL, Cv, blkAt, geth, getM]), CvB_dead, CvB_dead, CvB_dead, (CvB_same nfA), (by simp [CvB, CvL, Cv, blkAt, geth, getM]), CvB_row nr_u8 (by first | rfl | (simp; done) | (simp; omega)) (fun _ _ _ _ => rfl), trivial⟩
    · obtain ⟨v1_1, v1_2⟩ := s
      unfold F3_L1 at H
      try dsimp only at H ⊢
      try simp only [tp]
      refine seqM ?_
      refine sq ctNo_ok ?_
      simp only [go_sem, Nat.reduceLeDiff, Nat.reduceLT, Nat.reduceAdd, Nat.reduceMul, Nat.reduceSub, Nat.reduceEqDiff, Nat.reduceBEq, Int.reduceToNat, reduceCtorEq]
      repeat ((with_reducible refine And.intro ?_ ?_); focus (first | (and_intros <;> first | (with_reducible trivial) | omega | assumption | exact nfc | first | exact rfl | exact trivial | exact fitI | exact .inr rfl | exact .inl rfl | exact fun x hx => absurd hx (by omega)) | grind))
      refine condM' rfl trivial (fun hc => ?_) (fun hc => ?_)
      · replace H := cond_f hc H
        refine rg ctNo_ok ?_
        simp only [go_sem, Nat.reduceLeDiff, Nat.reduceLT, Nat.reduceAdd, Nat.reduceMul, Nat.reduceSub, Nat.reduceEqDiff, Nat.reduceBEq, Int.reduceToNat, reduceCtorEq]
        refine ⟨_, (Option.some.inj H).symm, ?_⟩
        refine SubF_of ⟨[some 0, some 1, some 2, some 3, some 4, some 5, some 6, some 7, some 8, some 9, some 10], ?_, ?_, by rfl, by rfl⟩
        · simp [CvL, Cv, getM, tp]
        · exact ⟨(by simp [CvB, CvL, Cv, blkAt, geth, getM]), (by simp [CvB, CvL, Cv, blkAt, geth, getM]), (by simp [CvB, CvL, Cv, blkAt, geth, getM]), CvB_dead, CvB_dead, CvB_dead, CvB_dead, CvB_dead, CvB_dead, (CvB_same nfA), (by simp [CvB, CvL, Cv, blkAt, geth, getM]), trivial⟩
      replace H := cond_t hc H
      refine rg ctNo_ok ?_
      simp only [go_sem, Nat.reduceLeDiff, Nat.reduceLT, Nat.reduceAdd, Nat.reduceMul, Nat.reduceSub, Nat.reduceEqDiff, Nat.reduceBEq, Int.reduceToNat, reduceCtorEq]
      refine seqM ?_
      refine blkM ?_
      obtain ⟨f13, H⟩ := need_some.1 H
      replace f13 := inb_iff.1 f13
      obtain ⟨f14, H⟩ := need_some.1 H
      replace f14 := inb_iff.1 f14
      refine rg ctNo_ok ?_
      simp only [go_sem, Nat.reduceLeDiff, Nat.reduceLT, Nat.reduceAdd, Nat.reduceMul, Nat.reduceSub, Nat.reduceEqDiff, Nat.reduceBEq, Int.reduceToNat, reduceCtorEq, f13, f14]
      repeat ((with_reducible refine And.intro ?_ ?_); focus (first | (with_reducible trivial) | omega | grind))
      refine rg ctNo_ok ?_
      simp only [go_sem, Nat.reduceLeDiff, Nat.reduceLT, Nat.reduceAdd, Nat.reduceMul, Nat.reduceSub, Nat.reduceEqDiff, Nat.reduceBEq, Int.reduceToNat, reduceCtorEq]
      refine ⟨_, (Option.some.inj H).symm, ?_⟩
      refine SubF_of ⟨[some 0, some 1, some 2, some 3, some 4, some 5, some 6, some 7, some 8, some 9, some 10, some 11], ?_, ?_, by rfl, by rfl⟩
      · simp [CvL, Cv, getM, tp]
      · exact ⟨(by simp [CvB, CvL, Cv, blkAt, geth, getM]), (by simp [CvB, CvL, Cv, blkAt, geth, getM]), (by simp [CvB, CvL, Cv, blkAt, geth, getM]), CvB_dead, CvB_dead, (by simp [CvB, CvL, Cv, blkAt, geth, getM]), CvB_dead, CvB_dead, CvB_dead, (CvB_same nfA), (by simp [CvB, CvL, Cv, blkAt, geth, getM]), CvB_row nr_u8 (by first | rfl | (simp; done) | (simp; omega)) (upc_row (f := c_u8) v1_2 v1_1.toNat 0 (wr .u8 ((gd v1_2 v1_1.toNat) + 1)) (fun _ _ _ _ => rfl) (fun y hy => match y, hy with | 0, _ => rfl | (y+1), h => absurd h (by omega))), trivial⟩
    · try dsimp only at H ⊢
      try simp only [tp]
      try simp only [m_normal, k_normal, b_normal, kL_normal, r_normal]
      refine seqM ?_
      obtain ⟨f15, H⟩ := need_some.1 H
      replace f15 := g_iff.1 f15
      replace f15 := fun g => inb_iff.1 (f15 g)
      obtain ⟨f16, H⟩ := need_some.1 H
      replace f16 := g_iff.1 f16
      obtain ⟨f17, H⟩ := need_some.1 H
      replace f17 := g_iff.1 f17
      obtain ⟨f18, H⟩ := need_some.1 H
      replace f18 := g_iff.1 f18
      obtain ⟨f19, H⟩ := need_some.1 H
      replace f19 := g_iff.1 f19
      obtain ⟨f20, H⟩ := need_some.1 H
      replace f20 := g_iff.1 f20
      obtain ⟨f21, H⟩ := need_some.1 H
      replace f21 := g_iff.1 f21
      obtain ⟨f22, H⟩ := need_some.1 H
      replace f22 := g_iff.1 f22
      refine draw_quiet shT_ok ct3t5_ok (by kernel_rfl) (by kernel_rfl) ?_
      simp only [go_sem, Nat.reduceLeDiff, Nat.reduceLT, Nat.reduceAdd, Nat.reduceMul, Nat.reduceSub, Nat.reduceEqDiff, Nat.reduceBEq, Int.reduceToNat, reduceCtorEq, ct3t5_15, body15, ct3t5_18, body18, ct3t5_19, body19, ct3t5_20, body20, ct3t5_21, body21, ct3t5_22, body22, ct3t5_23, body23]
      repeat ((with_reducible refine And.intro ?_ ?_); focus (first | (with_reducible trivial) | omega | exact f15 | exact f16 | exact f17 | exact f18 | exact f19 | exact f20 | exact f21 | exact f22 | (intro g; have q := f15 (by first | exact g | (rw [g]; rfl) | simpa using g); first | exact q | exact ⟨q.1, q.2.1⟩ | exact q.2.2 | omega | exact ⟨g, q⟩ | exact ⟨trivial, q⟩ | exact ⟨g, q.1, q.2.1⟩ | exact ⟨g, q.2.2⟩) | (intro g; have q := f16 (by first | exact g | (rw [g]; rfl) | simpa using g); first | exact q | exact ⟨q.1, q.2.1⟩ | exact q.2.2 | omega | exact ⟨g, q⟩ | exact ⟨trivial, q⟩ | exact ⟨g, q.1, q.2.1⟩ | exact ⟨g, q.2.2⟩) | (intro g; have q := f17 (by first | exact g | (rw [g]; rfl) | simpa using g); first | exact q | exact ⟨q.1, q.2.1⟩ | exact q.2.2 | omega | exact ⟨g, q⟩ | exact ⟨trivial, q⟩ | exact ⟨g, q.1, q.2.1⟩ | exact ⟨g, q.2.2⟩) | (intro g; have q := f18 (by first | exact g | (rw [g]; rfl) | simpa using g); first | exact q | exact ⟨q.1, q.2.1⟩ | exact q.2.2 | omega | exact ⟨g, q⟩ | exact ⟨trivial, q⟩ | exact ⟨g, q.1, q.2.1⟩ | exact ⟨g, q.2.2⟩) | (intro g; have q := f19 (by first | exact g | (rw [g]; rfl) | simpa using g); first | exact q | exact ⟨q.1, q.2.1⟩ | exact q.2.2 | omega | exact ⟨g, q⟩ | exact ⟨trivial, q⟩ | exact ⟨g, q.1, q.2.1⟩ | exact ⟨g, q.2.2⟩) | (intro g; have q := f20 (by first | exact g | (rw [g]; rfl) | simpa using g); first | exact q | exact ⟨q.1, q.2.1⟩ | exact q.2.2 | omega | exact ⟨g, q⟩ | exact ⟨trivial, q⟩ | exact ⟨g, q.1, q.2.1⟩ | exact ⟨g, q.2.2⟩) | (intro g; have q := f21 (by first | exact g | (rw [g]; rfl) | simpa using g); first | exact q | exact ⟨q.1, q.2.1⟩ | exact q.2.2 | omega | exact ⟨g, q⟩ | exact ⟨trivial, q⟩ | exact ⟨g, q.1, q.2.1⟩ | exact ⟨g, q.2.2⟩) | (intro g; have q := f22 (by first | exact g | (rw [g]; rfl) | simpa using g); first | exact q | exact ⟨q.1, q.2.1⟩ | exact q.2.2 | omega | exact ⟨g, q⟩ | exact ⟨trivial, q⟩ | exact ⟨g, q.1, q.2.1⟩ | exact ⟨g, q.2.2⟩) | (intro g; (try have q0 := f15 (by first | exact g | (rw [g]; rfl) | simpa using g)); (try have q1 := f16 (by first | exact g | (rw [g]; rfl) | simpa using g)); (try have q2 := f17 (by first | exact g | (rw [g]; rfl) | simpa using g)); (try have q3 := f18 (by first | exact g | (rw [g]; rfl) | simpa using g)); (try have q4 := f19 (by first | exact g | (rw [g]; rfl) | simpa using g)); (try have q5 := f20 (by first | exact g | (rw [g]; rfl) | simpa using g)); (try have q6 := f21 (by first | exact g | (rw [g]; rfl) | simpa using g)); (try have q7 := f22 (by first | exact g | (rw [g]; rfl) | simpa using g)); and_intros <;> first | (with_reducible trivial) | assumption | exact nfc | (intro g2; rw [g, g2]; rfl) | (intro g2; assumption) | (simp only [g, Bool.true_and, Bool.and_true, Bool.not_false, Bool.not_true]; assumption) | grind) | (and_intros <;> first | (with_reducible trivial) | omega | assumption | exact nfc | first | exact rfl | exact trivial | exact fitI | exact .inr rfl | exact .inl rfl | exact fun x hx => absurd hx (by omega)) | grind))
      refine rg ctNo_ok ?_
      simp only [go_sem, Nat.reduceLeDiff, Nat.reduceLT, Nat.reduceAdd, Nat.reduceMul, Nat.reduceSub, Nat.reduceEqDiff, Nat.reduceBEq, Int.reduceToNat, reduceCtorEq]
      obtain rfl := Option.some.inj H
      first | rfl | simp only [Bool.and_false, Bool.false_and, Bool.and_true, Bool.true_and]
  · cases hb
end Go.Proofs.Ytnclkplbeenmdaa
