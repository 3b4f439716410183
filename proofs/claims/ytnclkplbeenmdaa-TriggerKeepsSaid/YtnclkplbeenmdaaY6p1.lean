/-
  What TriggerKeeps reaches.
-/
import Derived.Test.YtnclkplbeenmdaaB
namespace Go.Proofs.Ytnclkplbeenmdaa
open Go.Am
set_option maxHeartbeats 4000000
set_option maxRecDepth 20000
set_option linter.unusedVariables false
set_option linter.unusedSimpArgs false
attribute [go_sem] w_skip w_label w_goto w_scope k_goto b_goto l_goto s_normal s_exit s_ret s_goto w_region w_draw w_seq w_cond w_block w_exit w_ret w_loop k_normal k_exit k_ret b_normal b_exit b_ret l_normal l_exit l_ret m_normal m_exit m_ret m_goto kL_normal kL_exit kL_ret kJ_normal kJ_exit kJ_ret kJR_normal kJR_ret kS_normal kS_exit kS_ret kS_goto r_normal r_ret o_nil o_cons q_nil q_cons nxt gval gvd gvl gvw dstOf evO ogOp ogC og ogL ogP ogO rho rhoO strip optOk getL setL setT absC absV absL pO hO evLoad ldB geth seth evStore stRes stB evBox evAlloc evFieldAddr evField evIndexAddr evBin2 binI binB binNR binU nilR_isEmpty nilR_t nilR_0 nilR_s evInt evStr evUn evConv cvO evPick mrg evExtract evNil evCall mapR evBuiltin evLen2 vcells vcOk atom tabF cnd retK resFin resL resA resC resCons evBuild evBuildP placeS placeA fillA fillOk putL getP nxtQ pureC_eq pureR genC_eq genR roV roL roOb roObL roW roWL roWOb roWObL nref nrefL binA binN eqSh eqRes evIndex evIndex2 evIndexS evSlice evSlice2 evSliceS evBound evConv2 cvS evAppend appRes srcOf evMake evBuildSlice repL evFn evMin evMax freshC freshR sub_enR0 evClear evClearR evCopy evCopyR lenS cutS Bool.or_false Bool.false_or Bool.or_true Bool.true_or Bool.and_false Bool.false_and Option.map_some Option.map_none Option.getD_some Option.getD_none Option.bind_some Option.bind_none Option.or_some Option.or_none Option.none_or Option.isSome_none Option.isNone_none Option.isNone_some List.nil_append List.cons_append List.append_nil cond_true cond_false List.length_cons List.length_nil beq_self_eq_true Bool.and_true Bool.true_and Bool.not_true Bool.not_false true_and and_true and_self true_implies implies_true ne_eq not_false_eq_true Bool.false_eq_true Bool.true_eq_false false_implies Nat.lt_irrefl Nat.le_refl Nat.succ_ne_self imp_self Bool.cond_false_right Bool.cond_true_left decide_true decide_false Bool.not_eq_true' Bool.not_eq_false' Bool.not_not Nat.zero_mul Nat.zero_add Nat.add_zero Nat.mul_one Nat.one_mul Bool.cond_self tsz3 tby3 tagg3 tslice3 tarr3 tzero3 tzn3 tplaces3 tint3 tstr3 tnoint3 tbool3 tany3 tintk3 tbytes3 tsz4 tby4 tagg4 tslice4 tarr4 tzero4 tzn4 tplaces4 tint4 tstr4 tnoint4 tbool4 tany4 tintk4 tbytes4 tsz5 tby5 tagg5 tslice5 tarr5 tzero5 tzn5 tplaces5 tint5 tstr5 tnoint5 tbool5 tany5 tintk5 tbytes5 tsz9 tby9 tagg9 tslice9 tarr9 tzero9 tzn9 tplaces9 tint9 tstr9 tnoint9 tbool9 tany9 tintk9 tbytes9 tsz23 tby23 tagg23 tslice23 tarr23 tzero23 tzn23 tplaces23 tint23 tstr23 tnoint23 tbool23 tany23 tintk23 tbytes23 tfld23_0 tfld23_1 tfld23_2 tsz25 tby25 tagg25 tslice25 tarr25 tzero25 tzn25 tplaces25 tint25 tstr25 tnoint25 tbool25 tany25 tintk25 tbytes25 tsz27 tby27 tagg27 tslice27 tarr27 tzero27 tzn27 tplaces27 tint27 tstr27 tnoint27 tbool27 tany27 tintk27 tbytes27 tfld27_0 tfld27_1 tfld27_2 tfld27_3 tfld27_4 tfld27_5 tfld27_6 tfld27_7 tfld27_8 tfld27_9 tfld27_10 tfld27_11 tfld27_12 tfld27_13 tfld27_14 tfld27_15 tfld27_16 tfld27_17 tfld27_18 tfld27_19 tsz28 tby28 tagg28 tslice28 tarr28 tzero28 tzn28 tplaces28 tint28 tstr28 tnoint28 tbool28 tany28 tintk28 tbytes28 tsz30 tby30 tagg30 tslice30 tarr30 tzero30 tzn30 tplaces30 tint30 tstr30 tnoint30 tbool30 tany30 tintk30 tbytes30 tfld30_0 tfld30_1 tsz31 tby31 tagg31 tslice31 tarr31 tzero31 tzn31 tplaces31 tint31 tstr31 tnoint31 tbool31 tany31 tintk31 tbytes31 tsz33 tby33 tagg33 tslice33 tarr33 tzero33 tzn33 tplaces33 tint33 tstr33 tnoint33 tbool33 tany33 tintk33 tbytes33 tfld33_0 tfld33_1 tsz36 tby36 tagg36 tslice36 tarr36 tzero36 tzn36 tplaces36 tint36 tstr36 tnoint36 tbool36 tany36 tintk36 tbytes36 tsz49 tby49 tagg49 tslice49 tarr49 tzero49 tzn49 tplaces49 tint49 tstr49 tnoint49 tbool49 tany49 tintk49 tbytes49 tsz50 tby50 tagg50 tslice50 tarr50 tzero50 tzn50 tplaces50 tint50 tstr50 tnoint50 tbool50 tany50 tintk50 tbytes50 tsz52 tby52 tagg52 tslice52 tarr52 tzero52 tzn52 tplaces52 tint52 tstr52 tnoint52 tbool52 tany52 tintk52 tbytes52 tfld52_0 tfld52_1 tfld52_2 tfld52_3 tsz53 tby53 tagg53 tslice53 tarr53 tzero53 tzn53 tplaces53 tint53 tstr53 tnoint53 tbool53 tany53 tintk53 tbytes53 tsz55 tby55 tagg55 tslice55 tarr55 tzero55 tzn55 tplaces55 tint55 tstr55 tnoint55 tbool55 tany55 tintk55 tbytes55 tsz57 tby57 tagg57 tslice57 tarr57 tzero57 tzn57 tplaces57 tint57 tstr57 tnoint57 tbool57 tany57 tintk57 tbytes57 tfld57_0 tfld57_1 tsz71 tby71 tagg71 tslice71 tarr71 tzero71 tzn71 tplaces71 tint71 tstr71 tnoint71 tbool71 tany71 tintk71 tbytes71 tfld71_0 tfld71_1 tfld71_2 tsz73 tby73 tagg73 tslice73 tarr73 tzero73 tzn73 tplaces73 tint73 tstr73 tnoint73 tbool73 tany73 tintk73 tbytes73 tfld73_0 tfld73_1 tfld73_2 tsz78 tby78 tagg78 tslice78 tarr78 tzero78 tzn78 tplaces78 tint78 tstr78 tnoint78 tbool78 tany78 tintk78 tbytes78 tsz95 tby95 tagg95 tslice95 tarr95 tzero95 tzn95 tplaces95 tint95 tstr95 tnoint95 tbool95 tany95 tintk95 tbytes95 tsz98 tby98 tagg98 tslice98 tarr98 tzero98 tzn98 tplaces98 tint98 tstr98 tnoint98 tbool98 tany98 tintk98 tbytes98 tsz100 tby100 tagg100 tslice100 tarr100 tzero100 tzn100 tplaces100 tint100 tstr100 tnoint100 tbool100 tany100 tintk100 tbytes100 tsz101 tby101 tagg101 tslice101 tarr101 tzero101 tzn101 tplaces101 tint101 tstr101 tnoint101 tbool101 tany101 tintk101 tbytes101 tsz103 tby103 tagg103 tslice103 tarr103 tzero103 tzn103 tplaces103 tint103 tstr103 tnoint103 tbool103 tany103 tintk103 tbytes103 tfld103_0 tfld103_1 tsz106 tby106 tagg106 tslice106 tarr106 tzero106 tzn106 tplaces106 tint106 tstr106 tnoint106 tbool106 tany106 tintk106 tbytes106 tsz111 tby111 tagg111 tslice111 tarr111 tzero111 tzn111 tplaces111 tint111 tstr111 tnoint111 tbool111 tany111 tintk111 tbytes111 tsz112 tby112 tagg112 tslice112 tarr112 tzero112 tzn112 tplaces112 tint112 tstr112 tnoint112 tbool112 tany112 tintk112 tbytes112 tsz118 tby118 tagg118 tslice118 tarr118 tzero118 tzn118 tplaces118 tint118 tstr118 tnoint118 tbool118 tany118 tintk118 tbytes118 tsz129 tby129 tagg129 tslice129 tarr129 tzero129 tzn129 tplaces129 tint129 tstr129 tnoint129 tbool129 tany129 tintk129 tbytes129 tsz130 tby130 tagg130 tslice130 tarr130 tzero130 tzn130 tplaces130 tint130 tstr130 tnoint130 tbool130 tany130 tintk130 tbytes130 e_u8_0 fit_u8 de_u8 g_u8 k_u8 e_i64_0 fit_i64 de_i64 g_i64 k_i64 e_b_0 fit_b de_b g_b k_b e_s_0 fit_s de_s g_s k_s e_TTriggerPlan_0 e_TTriggerPlan_1 e_TTriggerPlan_2 fit_TTriggerPlan de_TTriggerPlan g_TTriggerPlan k_TTriggerPlan eta_TTriggerPlan e_A6u8_0 e_A6u8_1 e_A6u8_2 e_A6u8_3 e_A6u8_4 e_A6u8_5 fit_A6u8 de_A6u8 g_A6u8 k_A6u8 eta_A6u8 e_THeader_0 e_THeader_1 e_THeader_2 e_THeader_3 e_THeader_4 e_THeader_5 e_THeader_6 e_THeader_7 e_THeader_8 e_THeader_9 e_THeader_10 e_THeader_11 e_THeader_12 e_THeader_13 e_THeader_14 e_THeader_15 e_THeader_16 e_THeader_17 e_THeader_18 e_THeader_19 e_THeader_20 e_THeader_21 e_THeader_22 e_THeader_23 e_THeader_24 e_THeader_25 e_THeader_26 e_THeader_27 e_THeader_28 e_THeader_29 e_THeader_30 e_THeader_31 e_THeader_32 e_THeader_33 e_THeader_34 e_THeader_35 e_THeader_36 e_THeader_37 e_THeader_38 e_THeader_39 fit_THeader de_THeader g_THeader k_THeader eta_THeader e_lu8_0 fit_lu8 de_lu8 g_lu8 k_lu8 e_TFrame_0 e_TFrame_1 e_TFrame_2 e_TFrame_3 e_TFrame_4 e_TFrame_5 e_TFrame_6 e_TFrame_7 e_TFrame_8 e_TFrame_9 e_TFrame_10 e_TFrame_11 e_TFrame_12 e_TFrame_13 e_TFrame_14 e_TFrame_15 e_TFrame_16 e_TFrame_17 e_TFrame_18 e_TFrame_19 e_TFrame_20 e_TFrame_21 e_TFrame_22 e_TFrame_23 e_TFrame_24 e_TFrame_25 e_TFrame_26 e_TFrame_27 e_TFrame_28 e_TFrame_29 e_TFrame_30 e_TFrame_31 e_TFrame_32 e_TFrame_33 e_TFrame_34 e_TFrame_35 e_TFrame_36 e_TFrame_37 e_TFrame_38 e_TFrame_39 e_TFrame_40 fit_TFrame de_TFrame g_TFrame k_TFrame eta_TFrame e_lTFrame_0 fit_lTFrame de_lTFrame g_lTFrame k_lTFrame e_TPeriod_0 e_TPeriod_1 fit_TPeriod de_TPeriod g_TPeriod k_TPeriod eta_TPeriod e_TStored_0 e_TStored_1 e_TStored_2 e_TStored_3 e_TStored_4 e_TStored_5 e_TStored_6 e_TStored_7 e_TStored_8 e_TStored_9 e_TStored_10 e_TStored_11 e_TStored_12 e_TStored_13 e_TStored_14 e_TStored_15 e_TStored_16 e_TStored_17 e_TStored_18 e_TStored_19 e_TStored_20 e_TStored_21 e_TStored_22 e_TStored_23 e_TStored_24 e_TStored_25 e_TStored_26 e_TStored_27 e_TStored_28 e_TStored_29 e_TStored_30 e_TStored_31 e_TStored_32 e_TStored_33 e_TStored_34 e_TStored_35 e_TStored_36 e_TStored_37 e_TStored_38 e_TStored_39 e_TStored_40 e_TStored_41 e_TStored_42 fit_TStored de_TStored g_TStored k_TStored eta_TStored e_lTStored_0 fit_lTStored de_lTStored g_lTStored k_lTStored e_TSleeper_0 e_TSleeper_1 e_TSleeper_2 fit_TSleeper de_TSleeper g_TSleeper k_TSleeper eta_TSleeper e_lTSleeper_0 fit_lTSleeper de_lTSleeper g_lTSleeper k_lTSleeper e_TBuffer_0 e_TBuffer_1 e_TBuffer_2 e_TBuffer_3 fit_TBuffer de_TBuffer g_TBuffer k_TBuffer eta_TBuffer e_lTTriggerPlan_0 fit_lTTriggerPlan de_lTTriggerPlan g_lTTriggerPlan k_lTTriggerPlan e_li64_0 fit_li64 de_li64 g_li64 k_li64 e_TTraffic_0 e_TTraffic_1 fit_TTraffic de_TTraffic g_TTraffic k_TTraffic eta_TTraffic e_A100b_0 e_A100b_1 e_A100b_2 e_A100b_3 e_A100b_4 e_A100b_5 e_A100b_6 e_A100b_7 e_A100b_8 e_A100b_9 e_A100b_10 e_A100b_11 e_A100b_12 e_A100b_13 e_A100b_14 e_A100b_15 e_A100b_16 e_A100b_17 e_A100b_18 e_A100b_19 e_A100b_20 e_A100b_21 e_A100b_22 e_A100b_23 e_A100b_24 e_A100b_25 e_A100b_26 e_A100b_27 e_A100b_28 e_A100b_29 e_A100b_30 e_A100b_31 e_A100b_32 e_A100b_33 e_A100b_34 e_A100b_35 e_A100b_36 e_A100b_37 e_A100b_38 e_A100b_39 e_A100b_40 e_A100b_41 e_A100b_42 e_A100b_43 e_A100b_44 e_A100b_45 e_A100b_46 e_A100b_47 e_A100b_48 e_A100b_49 e_A100b_50 e_A100b_51 e_A100b_52 e_A100b_53 e_A100b_54 e_A100b_55 e_A100b_56 e_A100b_57 e_A100b_58 e_A100b_59 e_A100b_60 e_A100b_61 e_A100b_62 e_A100b_63 e_A100b_64 e_A100b_65 e_A100b_66 e_A100b_67 e_A100b_68 e_A100b_69 e_A100b_70 e_A100b_71 e_A100b_72 e_A100b_73 e_A100b_74 e_A100b_75 e_A100b_76 e_A100b_77 e_A100b_78 e_A100b_79 e_A100b_80 e_A100b_81 e_A100b_82 e_A100b_83 e_A100b_84 e_A100b_85 e_A100b_86 e_A100b_87 e_A100b_88 e_A100b_89 e_A100b_90 e_A100b_91 e_A100b_92 e_A100b_93 e_A100b_94 e_A100b_95 e_A100b_96 e_A100b_97 e_A100b_98 e_A100b_99 fit_A100b de_A100b g_A100b k_A100b eta_A100b e_Tqueue_0 e_Tqueue_1 fit_Tqueue de_Tqueue g_Tqueue k_Tqueue eta_Tqueue e_A8u8_0 e_A8u8_1 e_A8u8_2 e_A8u8_3 e_A8u8_4 e_A8u8_5 e_A8u8_6 e_A8u8_7 fit_A8u8 de_A8u8 g_A8u8 k_A8u8 eta_A8u8 e_u64_0 fit_u64 de_u64 g_u64 k_u64 deR_0 deR_1 deR_2 deR_3 deR_4 deR_5 deR_6 deR_7 deR_8 deR_9 deR_10 deR_11 deR_12 litC_x0 litC_x1 litC_x2 litC_x3 litC_x4 litC_x5 litC_x6 litC_x7 litC_x8 litC_x9 litC_x10 litC_x11 strE_u8 Fit_0 Option.isSome_some gt_some gd_one evCopyL evLookup evLk_mp evLk_val evLkM findMb_same findMb_lit findMb_row findMb_dead mapC_nil tabR sub_enR List.drop_zero xrD xoD roEq minL rK rM rG aL aK iK bK sK lK iA bA sA lA or_true true_or Int.toNat_natCast shT_23 shT_25 shT_27 shT_118 Int.toNat_zero Int.cast_ofNat_Int aLs roD roDOb deadL edC edR nodupB rnm rnmL rnmB rnmC_en rnmC_upc rnmH rnm_bif rnmB_bif putH dropH rhoN ptB slN litL celL pK isLit oS isRow inL fzV fzL fzOb fzObL fzH fzHF fzB fzObB fzObH rowOb
theorem an0 {A:Prop} (a:A:=by first|(and_intros<;>first|(with_reducible trivial)|omega|assumption|exact nfc|first|exact rfl|exact trivial|exact fitI|exact .inr rfl|exact .inl rfl|exact fun x hx=>absurd hx (by omega))|grind):A:=a
theorem an1 {A:Prop} (a:A:=by and_intros<;>first|(with_reducible trivial)|(show anB _ _ _=true;subst han;kernel_rfl)|(show (anB _ _ _ && _)=true;subst han;kernel_rfl)|omega|assumption|exact nrc|exact nfc|first|exact rfl|exact trivial|exact fitI|exact .inr rfl|exact .inl rfl|exact fun x hx=>absurd hx (by omega)|(intro x hx;(repeat (first|(and_intros<;>(first|exact rfl|exact trivial|exact fitI|exact .inr rfl|exact .inl rfl|exact fun x hx=>absurd hx (by omega)))|(exfalso;omega)|(rcases x with _|x)));done)|(refine Fit_app ?_ ?_<;>first|exact fitI|(intro x hx;(repeat (first|(and_intros<;>(first|exact rfl|exact trivial|exact fitI|exact .inr rfl|exact .inl rfl|exact fun x hx=>absurd hx (by omega)))|(exfalso;omega)|(rcases x with _|x)));done)|(refine Fit_app ?_ ?_<;>first|exact fitI|(intro x hx;(repeat (first|(and_intros<;>(first|exact rfl|exact trivial|exact fitI|exact .inr rfl|exact .inl rfl|exact fun x hx=>absurd hx (by omega)))|(exfalso;omega)|(rcases x with _|x)));done)))):A:=a
theorem an2 {A:Prop} (a:A:=by and_intros<;>first|(with_reducible trivial)|(show anB _ _ _=true;subst han;kernel_rfl)|(show (anB _ _ _ && _)=true;subst han;kernel_rfl)|omega|assumption|exact nrc|exact nfc|first|exact rfl|exact trivial|exact fitI|exact .inr rfl|exact .inl rfl|exact fun x hx=>absurd hx (by omega)):A:=a
theorem an3 {A:Prop} (a:A:=by first|(and_intros<;>first|(with_reducible trivial)|omega|assumption|exact nfc|first|exact rfl|exact trivial|exact fitI|exact .inr rfl|exact .inl rfl|exact fun x hx=>absurd hx (by omega)|(intro x hx;(repeat (first|(and_intros<;>(first|exact rfl|exact trivial|exact fitI|exact .inr rfl|exact .inl rfl|exact fun x hx=>absurd hx (by omega)))|(exfalso;omega)|(rcases x with _|x)));done)|(refine Fit_app ?_ ?_<;>first|exact fitI|(intro x hx;(repeat (first|(and_intros<;>(first|exact rfl|exact trivial|exact fitI|exact .inr rfl|exact .inl rfl|exact fun x hx=>absurd hx (by omega)))|(exfalso;omega)|(rcases x with _|x)));done)|(refine Fit_app ?_ ?_<;>first|exact fitI|(intro x hx;(repeat (first|(and_intros<;>(first|exact rfl|exact trivial|exact fitI|exact .inr rfl|exact .inl rfl|exact fun x hx=>absurd hx (by omega)))|(exfalso;omega)|(rcases x with _|x)));done))))|grind):A:=a
theorem an4 {A:Prop} (a:A:=by first|(and_intros<;>first|(with_reducible trivial)|omega|assumption|exact nfc|first|exact rfl|exact trivial|exact fitI|exact .inr rfl|exact .inl rfl|exact fun x hx=>absurd hx (by omega)|(intro x hx;(repeat (first|(and_intros<;>(first|exact rfl|exact trivial|exact fitI|exact .inr rfl|exact .inl rfl|exact fun x hx=>absurd hx (by omega)))|(exfalso;omega)|(rcases x with _|x)));done))|grind):A:=a
theorem an5 {A:Prop} (a:A:=by and_intros<;>first|(with_reducible trivial)|(show anB _ _ _=true;subst han;kernel_rfl)|(show (anB _ _ _ && _)=true;subst han;kernel_rfl)|omega|assumption|exact nrc|exact fun _ _ _ _=>nr_litC (by simp [nrL,nr]) _ _|exact fun _ _ _ _=>nr_app (fun _ _=>by first|exact nrR_enI|exact nr_upc1 (fun _ _=>nrR_enI) (by simp [nr])) (fun _ _=>nr_litC (by simp [nrL,nr]) _ _)|exact nfc|first|exact rfl|exact trivial|exact fitI|exact .inr rfl|exact .inl rfl|exact fun x hx=>absurd hx (by omega)|(intro x hx;(repeat (first|(and_intros<;>(first|exact rfl|exact trivial|exact fitI|exact .inr rfl|exact .inl rfl|exact fun x hx=>absurd hx (by omega)))|(exfalso;omega)|(rcases x with _|x)));done)|(refine Fit_app ?_ ?_<;>first|exact fitI|(intro x hx;(repeat (first|(and_intros<;>(first|exact rfl|exact trivial|exact fitI|exact .inr rfl|exact .inl rfl|exact fun x hx=>absurd hx (by omega)))|(exfalso;omega)|(rcases x with _|x)));done)|(refine Fit_app ?_ ?_<;>first|exact fitI|(intro x hx;(repeat (first|(and_intros<;>(first|exact rfl|exact trivial|exact fitI|exact .inr rfl|exact .inl rfl|exact fun x hx=>absurd hx (by omega)))|(exfalso;omega)|(rcases x with _|x)));done)))):A:=a
theorem an6 {A:Prop} (a:A:=by first|(with_reducible trivial)|omega|grind):A:=a
theorem an7 {A:Prop} (a:A:=by first|(with_reducible trivial)|omega|(intro g;and_intros<;>first|(with_reducible trivial)|assumption|exact nfc|(intro g2;rw [g,g2];rfl)|(intro g2;assumption)|(simp only [g,Bool.true_and,Bool.and_true,Bool.not_false,Bool.not_true];assumption)|grind)|(and_intros<;>first|(with_reducible trivial)|omega|assumption|exact nfc|first|exact rfl|exact trivial|exact fitI|exact .inr rfl|exact .inl rfl|exact fun x hx=>absurd hx (by omega))|grind):A:=a
theorem an8 {A:Prop} (a:A:=by and_intros<;>first|(with_reducible trivial)|(show anB _ _ _=true;subst han;kernel_rfl)|(show (anB _ _ _ && _)=true;subst han;kernel_rfl)|omega|assumption|exact nrc|exact nfc|first|exact rfl|exact trivial|exact fitI|exact .inr rfl|exact .inl rfl|exact fun x hx=>absurd hx (by omega)|(intro x hx;(repeat (first|(and_intros<;>(first|exact rfl|exact trivial|exact fitI|exact .inr rfl|exact .inl rfl|exact fun x hx=>absurd hx (by omega)))|(exfalso;omega)|(rcases x with _|x)));done)):A:=a
theorem at0 {A:Prop} (a:A:=by and_intros<;>first|(with_reducible trivial)|omega|exact nfc|trivial):A:=a
theorem cv {A:Prop} (a:A:=by simp [CvB,CvL,Cv,blkAt,geth,getM]):A:=a
theorem cl {A:Prop} (a:A:=by first|rfl|(simp;done)|(simp;omega)):A:=a
noncomputable def F40:Option (TBuffer) :=
 (some ([1,2,3,2]:List Int)).bind fun w3=>need (inb 0 w3.length) <| need (capb 120 1) <| (some ([(TStored.mk (gd w3 0) 0 (TFrame.mk (THeader.mk 0 0 false false false false false false false 0 (A6u8.mk 0 0 0 0 0 0) (A6u8.mk 0 0 0 0 0 0) (A6u8.mk 0 0 0 0 0 0) (A6u8.mk 0 0 0 0 0 0) 0 0 0 0 false false) []))])).bind fun w7=>(some ([(TStored.mk (gd w3 0) 0 (TFrame.mk (THeader.mk 0 0 false false false false false false false 0 (A6u8.mk 0 0 0 0 0 0) (A6u8.mk 0 0 0 0 0 0) (A6u8.mk 0 0 0 0 0 0) (A6u8.mk 0 0 0 0 0 0) 0 0 0 0 false false) []))])).bind fun w9=>need (inb 1 w3.length) <| need (capb 120 (w9.length+1)) <| (some ([(TStored.mk (gd w3 1) 1 (TFrame.mk (THeader.mk 0 0 false false false false false false false 0 (A6u8.mk 0 0 0 0 0 0) (A6u8.mk 0 0 0 0 0 0) (A6u8.mk 0 0 0 0 0 0) (A6u8.mk 0 0 0 0 0 0) 1 0 0 0 false false) []))])).bind fun w13=>(some (w9 ++ [(TStored.mk (gd w3 1) 1 (TFrame.mk (THeader.mk 0 0 false false false false false false false 0 (A6u8.mk 0 0 0 0 0 0) (A6u8.mk 0 0 0 0 0 0) (A6u8.mk 0 0 0 0 0 0) (A6u8.mk 0 0 0 0 0 0) 1 0 0 0 false false) []))])).bind fun w15=>need (inb 2 w3.length) <| need (capb 120 (w15.length+1)) <| (some ([(TStored.mk (gd w3 2) 2 (TFrame.mk (THeader.mk 0 0 false false false false false false false 0 (A6u8.mk 0 0 0 0 0 0) (A6u8.mk 0 0 0 0 0 0) (A6u8.mk 0 0 0 0 0 0) (A6u8.mk 0 0 0 0 0 0) 2 0 0 0 false false) []))])).bind fun w19=>(some (w15 ++ [(TStored.mk (gd w3 2) 2 (TFrame.mk (THeader.mk 0 0 false false false false false false false 0 (A6u8.mk 0 0 0 0 0 0) (A6u8.mk 0 0 0 0 0 0) (A6u8.mk 0 0 0 0 0 0) (A6u8.mk 0 0 0 0 0 0) 2 0 0 0 false false) []))])).bind fun w21=>need (inb 3 w3.length) <| need (capb 120 (w21.length+1)) <| (some ([(TStored.mk (gd w3 3) 3 (TFrame.mk (THeader.mk 0 0 false false false false false false false 0 (A6u8.mk 0 0 0 0 0 0) (A6u8.mk 0 0 0 0 0 0) (A6u8.mk 0 0 0 0 0 0) (A6u8.mk 0 0 0 0 0 0) 3 0 0 0 false false) []))])).bind fun w25=>(some (w21 ++ [(TStored.mk (gd w3 3) 3 (TFrame.mk (THeader.mk 0 0 false false false false false false false 0 (A6u8.mk 0 0 0 0 0 0) (A6u8.mk 0 0 0 0 0 0) (A6u8.mk 0 0 0 0 0 0) (A6u8.mk 0 0 0 0 0 0) 3 0 0 0 false false) []))])).bind fun w27=>some (TBuffer.mk 8 100 [(TSleeper.mk 3 true w27)] [])
noncomputable def body40:List AV->Nat->AR
 | [],_=>.pure ((F40).isSome=true) (.agg [.int .i64 ((gt F40).Limit),.int .i64 ((gt F40).Stay),.ro 3 (((gt F40).List).length) false (enR c_TSleeper ((gt F40).List)),.ro 43 (((gt F40).Group).length) false (enR c_TStored ((gt F40).Group))])
 | _,_=>.fail
theorem ok40:FnOk Try.prog 40 (genC body40):=by
 refine gen_fn body40 (rs:=[.cell 0 52]) Try.func40 (by kernel_rfl) rfl rfl ?_
 intro l s ob v ns hb hob
 rcases hb with ⟨hb,rfl⟩|hb
 ·unfold body40 at hb
  split at hb
  ·injection hb with q1 q2;subst q1 q2
   obtain ⟨r,H⟩:=Option.isSome_iff_exists.1 hob
   rw [H,gt_some]
   refine ⟨[],.agg [.int .i64 r.Limit,.int .i64 r.Stay,.ro 3 r.List.length false (enR c_TSleeper r.List),.ro 43 r.Group.length false (enR c_TStored r.Group)],[],(fun E vs F=>F),by simp only [ren,renL],trivial,?_⟩
   rw [Try.ntmps40]
   simp only [List.length_nil,Nat.reduceSub,List.replicate_succ,List.replicate_zero,List.nil_append]
   unfold F40 at H
   try dsimp only at H
   refine sq ctNo_ok ?_
   simp only [go_sem]
   refine sq ctNo_ok ?_
   simp only [go_sem,Nat.reduceLeDiff,Nat.reduceAdd]
   refine sq ctNo_ok ?_
   simp only [go_sem,Nat.reduceLeDiff,Nat.reduceAdd]
   repeat ((with_reducible refine And.intro ?_ ?_);focus exact an6)
   refine seqM ?_
   refine sq ctNo_ok ?_
   simp only [go_sem]
   refine blkM ?_
   refine loop_roundsM 5 ?_
   refine rndM ?_
   refine seqM ?_
   refine sq ctNo_ok ?_
   simp only [go_sem,(by decide:bLt (0) (4)=true)]
   refine condM rfl trivial (fun hc=>?_) (fun hc=>?_)
   rotate_left
   ·cases hc
   refine rg ctNo_ok ?_
   simp only [go_sem]
   refine seqM ?_
   refine blkM ?_
   obtain ⟨w3,hw4,H⟩:=bsi H
   replace hw4:=Option.some.inj hw4
   have lhw4:w3.length=4:=by rw [← hw4];exact cl
   refine subF_mean (t2:=(.ptr 0 0 0 0::.sl 1 1 0 w3.length false::.ptr 2 0 0 0::.int .i64 0::tp 23 [])) (h2:=[.lit 52 [.int .i64 0,.int .i64 0,.ro 0 0 true (fun _ _=>.top),.ro 0 0 true (fun _ _=>.top)],.row 5 1 w3.length (enR c_u8 w3),.lit 71 [.int .i64 3,.bool true,.ro 0 0 true (fun _ _=>.top)]]) ?_ ?_
   ·refine SubF_of ⟨[some 0,some 1,some 2],?_,?_,by rfl,by rfl⟩
    ·simp [CvL,Cv,getM,tp,lhw4]
    ·exact ⟨(by simp [CvB,CvL,Cv,blkAt,geth]),CvB_row nr_u8 lhw4 (hw4 ▸ (lit_row (f:=c_u8) [1,2,3,2] (fun _ _=>rfl) rfl)),(by simp [CvB,CvL,Cv,blkAt,geth]),trivial⟩
   simp only [tp]
   obtain ⟨f5,H⟩:=need_some.1 H
   replace f5:=inb_iff.1 f5
   obtain ⟨f6,H⟩:=need_some.1 H
   replace f6:=capb_iff.1 f6
   refine draw_rule shT_ok ctNo_ok 2 (by kernel_rfl) (by kernel_rfl) ?_
   intro an han
   simp only [d_nil,d_cons,nxtD,xrD,xoD,roEq,minL,List.append_nil,refsOp,refs,refsL,mask,maskF,place,placeF,okLog,pairOk,hit,inL,slotsF,ren,rnN,nrH,nrB,nrL,nr,List.replicate_zero,List.replicate_succ,Nat.sub_self,Nat.add_zero,Nat.zero_add,Nat.reduceSub,Nat.lt_add_one,go_sem,Nat.reduceLeDiff,Nat.reduceLT,Nat.reduceAdd,Nat.reduceSub,Nat.reduceBEq,f5,f6]
   repeat ((with_reducible refine And.intro ?_ ?_);focus exact an8)
   obtain ⟨w7,hw8,H⟩:=bsi H
   replace hw8:=Option.some.inj hw8
   have lhw8:w7.length=1:=by rw [← hw8];exact (by first|rfl|simp)
   obtain ⟨w9,hw10,H⟩:=bsi H
   replace hw10:=Option.some.inj hw10
   have lhw10:w9.length=1:=by rw [← hw10];exact (by first|rfl|simp)
   refine subF_mean (t2:=(.ptr 0 0 0 0::.sl 1 1 0 w3.length false::.ptr 2 0 0 0::.int .i64 0::tp 23 [])) (h2:=[.lit 52 [.int .i64 0,.int .i64 0,.ro 0 0 true (fun _ _=>.top),.ro 0 0 true (fun _ _=>.top)],.row 5 1 w3.length (enR c_u8 w3),.lit 71 [.int .i64 3,.bool true,.sl 4 43 0 w9.length false],.row 73 43 w7.length (enR c_TStored w7),.row 73 43 w9.length (enR c_TStored w9)]) ?_ ?_
   ·refine SubF_of ⟨[some 0,some 1,some 2,some 3,some 4],?_,?_,by rfl,by rfl⟩
    ·simp [CvL,Cv,getM,tp]
    ·exact ⟨(by simp [CvB,CvL,Cv,blkAt,geth]),CvB_row nr_u8 rfl (fun _ _ _ _=>rfl),(by simp [CvB,CvL,Cv,blkAt,geth,getM,lhw10]),CvB_rowW lhw8 (hw8 ▸ (lit_rowW (f:=c_TStored) ([(TStored.mk (gd w3 0) 0 (TFrame.mk (THeader.mk 0 0 false false false false false false false 0 (A6u8.mk 0 0 0 0 0 0) (A6u8.mk 0 0 0 0 0 0) (A6u8.mk 0 0 0 0 0 0) (A6u8.mk 0 0 0 0 0 0) 0 0 0 0 false false) []))]) (.int .u8 (gd w3 0)::.int .i64 0::.int .u8 0::.int .u8 0::.bool false::.bool false::.bool false::.bool false::.bool false::.bool false::.bool false::.int .i64 0::.int .u8 0::.int .u8 0::.int .u8 0::.int .u8 0::.int .u8 0::.int .u8 0::.int .u8 0::.int .u8 0::.int .u8 0::.int .u8 0::.int .u8 0::.int .u8 0::.int .u8 0::.int .u8 0::.int .u8 0::.int .u8 0::.int .u8 0::.int .u8 0::.int .u8 0::.int .u8 0::.int .u8 0::.int .u8 0::.int .u8 0::.int .u8 0::.int .i64 0::.int .i64 0::.int .i64 0::.int .u8 0::.bool false::.bool false::.ro 0 0 true (fun _ _=>.top)::[]) (fun _ _=>rfl) (fun _=>by simp [c_TStored,CvL,Cv]))),CvB_rowW lhw10 (hw10 ▸ (lit_rowW (f:=c_TStored) ([(TStored.mk (gd w3 0) 0 (TFrame.mk (THeader.mk 0 0 false false false false false false false 0 (A6u8.mk 0 0 0 0 0 0) (A6u8.mk 0 0 0 0 0 0) (A6u8.mk 0 0 0 0 0 0) (A6u8.mk 0 0 0 0 0 0) 0 0 0 0 false false) []))]) (.int .u8 (gd w3 0)::.int .i64 0::.int .u8 0::.int .u8 0::.bool false::.bool false::.bool false::.bool false::.bool false::.bool false::.bool false::.int .i64 0::.int .u8 0::.int .u8 0::.int .u8 0::.int .u8 0::.int .u8 0::.int .u8 0::.int .u8 0::.int .u8 0::.int .u8 0::.int .u8 0::.int .u8 0::.int .u8 0::.int .u8 0::.int .u8 0::.int .u8 0::.int .u8 0::.int .u8 0::.int .u8 0::.int .u8 0::.int .u8 0::.int .u8 0::.int .u8 0::.int .u8 0::.int .u8 0::.int .i64 0::.int .i64 0::.int .i64 0::.int .u8 0::.bool false::.bool false::.ro 0 0 true (fun _ _=>.top)::[]) (fun _ _=>rfl) (fun _=>by simp [c_TStored,CvL,Cv]))),trivial⟩
   simp only [tp]
   refine rg ctNo_ok ?_
   simp only [go_sem,(by decide:wr IntKind.i64 ((0:Int)+1)=1)]
   refine rndM ?_
   refine seqM ?_
   refine sq ctNo_ok ?_
   simp only [go_sem,(by decide:bLt (1) (4)=true)]
   refine condM rfl trivial (fun hc=>?_) (fun hc=>?_)
   rotate_left
   ·cases hc
   refine rg ctNo_ok ?_
   simp only [go_sem]
   refine seqM ?_
   refine blkM ?_
   obtain ⟨f11,H⟩:=need_some.1 H
   replace f11:=inb_iff.1 f11
   obtain ⟨f12,H⟩:=need_some.1 H
   replace f12:=capb_iff.1 f12
   refine draw_rule shT_ok ctNo_ok 2 (by kernel_rfl) (by kernel_rfl) ?_
   intro an han
   simp only [d_nil,d_cons,nxtD,xrD,xoD,roEq,minL,List.append_nil,refsOp,refs,refsL,mask,maskF,place,placeF,okLog,pairOk,hit,inL,slotsF,ren,rnN,nrH,nrB,nrL,nr,List.replicate_zero,List.replicate_succ,Nat.sub_self,Nat.add_zero,Nat.zero_add,Nat.reduceSub,Nat.lt_add_one,go_sem,Nat.reduceLeDiff,Nat.reduceLT,Nat.reduceAdd,Nat.reduceSub,Nat.reduceBEq,Int.reduceToNat,f11,f12]
   repeat ((with_reducible refine And.intro ?_ ?_);focus exact an1)
   obtain ⟨w13,hw14,H⟩:=bsi H
   replace hw14:=Option.some.inj hw14
   have lhw14:w13.length=1:=by rw [← hw14];exact (by first|rfl|simp)
   obtain ⟨w15,hw16,H⟩:=bsi H
   replace hw16:=Option.some.inj hw16
   have lhw16:w15.length=w9.length+1:=by rw [← hw16];exact (app_len (by first|rfl|(simp;done)) (by first|rfl|simp))
   refine subF_mean (t2:=(.ptr 0 0 0 0::.sl 1 1 0 w3.length false::.ptr 2 0 0 0::.int .i64 1::tp 23 [])) (h2:=[.lit 52 [.int .i64 0,.int .i64 0,.ro 0 0 true (fun _ _=>.top),.ro 0 0 true (fun _ _=>.top)],.row 5 1 w3.length (enR c_u8 w3),.lit 71 [.int .i64 3,.bool true,.sl 6 43 0 w15.length false],.row 73 43 w7.length (enR c_TStored w7),.dead,.row 73 43 w13.length (enR c_TStored w13),.row 73 43 w15.length (enR c_TStored w15)]) ?_ ?_
   ·refine SubF_of ⟨[some 0,some 1,some 2,some 3,some 4,some 5,some 6],?_,?_,by rfl,by rfl⟩
    ·simp [CvL,Cv,getM,tp]
    ·exact ⟨(by simp [CvB,CvL,Cv,blkAt,geth]),CvB_row nr_u8 rfl (fun _ _ _ _=>rfl),(by simp [CvB,CvL,Cv,blkAt,geth,getM,lhw16]),CvB_row nr_TStored rfl (fun _ _ _ _=>rfl),CvB_dead,CvB_rowW lhw14 (hw14 ▸ (lit_rowW (f:=c_TStored) ([(TStored.mk (gd w3 1) 1 (TFrame.mk (THeader.mk 0 0 false false false false false false false 0 (A6u8.mk 0 0 0 0 0 0) (A6u8.mk 0 0 0 0 0 0) (A6u8.mk 0 0 0 0 0 0) (A6u8.mk 0 0 0 0 0 0) 1 0 0 0 false false) []))]) (.int .u8 (gd w3 1)::.int .i64 1::.int .u8 0::.int .u8 0::.bool false::.bool false::.bool false::.bool false::.bool false::.bool false::.bool false::.int .i64 0::.int .u8 0::.int .u8 0::.int .u8 0::.int .u8 0::.int .u8 0::.int .u8 0::.int .u8 0::.int .u8 0::.int .u8 0::.int .u8 0::.int .u8 0::.int .u8 0::.int .u8 0::.int .u8 0::.int .u8 0::.int .u8 0::.int .u8 0::.int .u8 0::.int .u8 0::.int .u8 0::.int .u8 0::.int .u8 0::.int .u8 0::.int .u8 0::.int .i64 1::.int .i64 0::.int .i64 0::.int .u8 0::.bool false::.bool false::.ro 0 0 true (fun _ _=>.top)::[]) (fun _ _=>rfl) (fun _=>by simp [c_TStored,CvL,Cv]))),CvB_rowW lhw16 (hw16 ▸ (app_rowW (f:=c_TStored) (by first|rfl|(simp;done)) (wk_eq nr_TStored (fun _ _ _ _=>rfl)) (lit_rowW (f:=c_TStored) ([(TStored.mk (gd w3 1) 1 (TFrame.mk (THeader.mk 0 0 false false false false false false false 0 (A6u8.mk 0 0 0 0 0 0) (A6u8.mk 0 0 0 0 0 0) (A6u8.mk 0 0 0 0 0 0) (A6u8.mk 0 0 0 0 0 0) 1 0 0 0 false false) []))]) (.int .u8 (gd w3 1)::.int .i64 1::.int .u8 0::.int .u8 0::.bool false::.bool false::.bool false::.bool false::.bool false::.bool false::.bool false::.int .i64 0::.int .u8 0::.int .u8 0::.int .u8 0::.int .u8 0::.int .u8 0::.int .u8 0::.int .u8 0::.int .u8 0::.int .u8 0::.int .u8 0::.int .u8 0::.int .u8 0::.int .u8 0::.int .u8 0::.int .u8 0::.int .u8 0::.int .u8 0::.int .u8 0::.int .u8 0::.int .u8 0::.int .u8 0::.int .u8 0::.int .u8 0::.int .u8 0::.int .i64 1::.int .i64 0::.int .i64 0::.int .u8 0::.bool false::.bool false::.ro 0 0 true (fun _ _=>.top)::[]) (fun _ _=>rfl) (fun _=>by simp [c_TStored,CvL,Cv])))),trivial⟩
   simp only [tp]
   refine rg ctNo_ok ?_
   simp only [go_sem,(by decide:wr IntKind.i64 ((1:Int)+1)=2)]
   refine rndM ?_
   refine seqM ?_
   refine sq ctNo_ok ?_
   simp only [go_sem,(by decide:bLt (2) (4)=true)]
   refine condM rfl trivial (fun hc=>?_) (fun hc=>?_)
   rotate_left
   ·cases hc
   refine rg ctNo_ok ?_
   simp only [go_sem]
   refine seqM ?_
   refine blkM ?_
   obtain ⟨f17,H⟩:=need_some.1 H
   replace f17:=inb_iff.1 f17
   obtain ⟨f18,H⟩:=need_some.1 H
   replace f18:=capb_iff.1 f18
   refine draw_rule shT_ok ctNo_ok 2 (by kernel_rfl) (by kernel_rfl) ?_
   intro an han
   simp only [d_nil,d_cons,nxtD,xrD,xoD,roEq,minL,List.append_nil,refsOp,refs,refsL,mask,maskF,place,placeF,okLog,pairOk,hit,inL,slotsF,ren,rnN,nrH,nrB,nrL,nr,List.replicate_zero,List.replicate_succ,Nat.sub_self,Nat.add_zero,Nat.zero_add,Nat.reduceSub,Nat.lt_add_one,go_sem,Nat.reduceLeDiff,Nat.reduceLT,Nat.reduceAdd,Nat.reduceSub,Nat.reduceBEq,Int.reduceToNat,f17,f18]
   repeat ((with_reducible refine And.intro ?_ ?_);focus exact an1)
   obtain ⟨w19,hw20,H⟩:=bsi H
   replace hw20:=Option.some.inj hw20
   have lhw20:w19.length=1:=by rw [← hw20];exact (by first|rfl|simp)
   obtain ⟨w21,hw22,H⟩:=bsi H
   replace hw22:=Option.some.inj hw22
   have lhw22:w21.length=w15.length+1:=by rw [← hw22];exact (app_len (by first|rfl|(simp;done)) (by first|rfl|simp))
   refine subF_mean (t2:=(.ptr 0 0 0 0::.sl 1 1 0 w3.length false::.ptr 2 0 0 0::.int .i64 2::tp 23 [])) (h2:=[.lit 52 [.int .i64 0,.int .i64 0,.ro 0 0 true (fun _ _=>.top),.ro 0 0 true (fun _ _=>.top)],.row 5 1 w3.length (enR c_u8 w3),.lit 71 [.int .i64 3,.bool true,.sl 8 43 0 w21.length false],.row 73 43 w7.length (enR c_TStored w7),.dead,.row 73 43 w13.length (enR c_TStored w13),.dead,.row 73 43 w19.length (enR c_TStored w19),.row 73 43 w21.length (enR c_TStored w21)]) ?_ ?_
   ·refine SubF_of ⟨[some 0,some 1,some 2,some 3,some 4,some 5,some 6,some 7,some 8],?_,?_,by rfl,by rfl⟩
    ·simp [CvL,Cv,getM,tp]
    ·exact ⟨(by simp [CvB,CvL,Cv,blkAt,geth]),CvB_row nr_u8 rfl (fun _ _ _ _=>rfl),(by simp [CvB,CvL,Cv,blkAt,geth,getM,lhw22]),CvB_row nr_TStored rfl (fun _ _ _ _=>rfl),CvB_dead,CvB_row nr_TStored rfl (fun _ _ _ _=>rfl),CvB_dead,CvB_rowW lhw20 (hw20 ▸ (lit_rowW (f:=c_TStored) ([(TStored.mk (gd w3 2) 2 (TFrame.mk (THeader.mk 0 0 false false false false false false false 0 (A6u8.mk 0 0 0 0 0 0) (A6u8.mk 0 0 0 0 0 0) (A6u8.mk 0 0 0 0 0 0) (A6u8.mk 0 0 0 0 0 0) 2 0 0 0 false false) []))]) (.int .u8 (gd w3 2)::.int .i64 2::.int .u8 0::.int .u8 0::.bool false::.bool false::.bool false::.bool false::.bool false::.bool false::.bool false::.int .i64 0::.int .u8 0::.int .u8 0::.int .u8 0::.int .u8 0::.int .u8 0::.int .u8 0::.int .u8 0::.int .u8 0::.int .u8 0::.int .u8 0::.int .u8 0::.int .u8 0::.int .u8 0::.int .u8 0::.int .u8 0::.int .u8 0::.int .u8 0::.int .u8 0::.int .u8 0::.int .u8 0::.int .u8 0::.int .u8 0::.int .u8 0::.int .u8 0::.int .i64 2::.int .i64 0::.int .i64 0::.int .u8 0::.bool false::.bool false::.ro 0 0 true (fun _ _=>.top)::[]) (fun _ _=>rfl) (fun _=>by simp [c_TStored,CvL,Cv]))),CvB_rowW lhw22 (hw22 ▸ (app_rowW (f:=c_TStored) (by first|rfl|(simp;done)) (wk_eq nr_TStored (fun _ _ _ _=>rfl)) (lit_rowW (f:=c_TStored) ([(TStored.mk (gd w3 2) 2 (TFrame.mk (THeader.mk 0 0 false false false false false false false 0 (A6u8.mk 0 0 0 0 0 0) (A6u8.mk 0 0 0 0 0 0) (A6u8.mk 0 0 0 0 0 0) (A6u8.mk 0 0 0 0 0 0) 2 0 0 0 false false) []))]) (.int .u8 (gd w3 2)::.int .i64 2::.int .u8 0::.int .u8 0::.bool false::.bool false::.bool false::.bool false::.bool false::.bool false::.bool false::.int .i64 0::.int .u8 0::.int .u8 0::.int .u8 0::.int .u8 0::.int .u8 0::.int .u8 0::.int .u8 0::.int .u8 0::.int .u8 0::.int .u8 0::.int .u8 0::.int .u8 0::.int .u8 0::.int .u8 0::.int .u8 0::.int .u8 0::.int .u8 0::.int .u8 0::.int .u8 0::.int .u8 0::.int .u8 0::.int .u8 0::.int .u8 0::.int .u8 0::.int .i64 2::.int .i64 0::.int .i64 0::.int .u8 0::.bool false::.bool false::.ro 0 0 true (fun _ _=>.top)::[]) (fun _ _=>rfl) (fun _=>by simp [c_TStored,CvL,Cv])))),trivial⟩
   simp only [tp]
   refine rg ctNo_ok ?_
   simp only [go_sem,(by decide:wr IntKind.i64 ((2:Int)+1)=3)]
   refine rndM ?_
   refine seqM ?_
   refine sq ctNo_ok ?_
   simp only [go_sem,(by decide:bLt (3) (4)=true)]
   refine condM rfl trivial (fun hc=>?_) (fun hc=>?_)
   rotate_left
   ·cases hc
   refine rg ctNo_ok ?_
   simp only [go_sem]
   refine seqM ?_
   refine blkM ?_
   obtain ⟨f23,H⟩:=need_some.1 H
   replace f23:=inb_iff.1 f23
   obtain ⟨f24,H⟩:=need_some.1 H
   replace f24:=capb_iff.1 f24
   refine draw_rule shT_ok ctNo_ok 2 (by kernel_rfl) (by kernel_rfl) ?_
   intro an han
   simp only [d_nil,d_cons,nxtD,xrD,xoD,roEq,minL,List.append_nil,refsOp,refs,refsL,mask,maskF,place,placeF,okLog,pairOk,hit,inL,slotsF,ren,rnN,nrH,nrB,nrL,nr,List.replicate_zero,List.replicate_succ,Nat.sub_self,Nat.add_zero,Nat.zero_add,Nat.reduceSub,Nat.lt_add_one,go_sem,Nat.reduceLeDiff,Nat.reduceLT,Nat.reduceAdd,Nat.reduceSub,Nat.reduceBEq,Int.reduceToNat,f23,f24]
   repeat ((with_reducible refine And.intro ?_ ?_);focus exact an1)
   obtain ⟨w25,hw26,H⟩:=bsi H
   replace hw26:=Option.some.inj hw26
   have lhw26:w25.length=1:=by rw [← hw26];exact (by first|rfl|simp)
   obtain ⟨w27,hw28,H⟩:=bsi H
   replace hw28:=Option.some.inj hw28
   have lhw28:w27.length=w21.length+1:=by rw [← hw28];exact (app_len (by first|rfl|(simp;done)) (by first|rfl|simp))
   refine subF_mean (t2:=(.ptr 0 0 0 0::.sl 1 1 0 w3.length false::.ptr 2 0 0 0::.int .i64 3::tp 23 [])) (h2:=[.lit 52 [.int .i64 0,.int .i64 0,.ro 0 0 true (fun _ _=>.top),.ro 0 0 true (fun _ _=>.top)],.row 5 1 w3.length (enR c_u8 w3),.lit 71 [.int .i64 3,.bool true,.sl 10 43 0 w27.length false],.row 73 43 w7.length (enR c_TStored w7),.dead,.row 73 43 w13.length (enR c_TStored w13),.dead,.row 73 43 w19.length (enR c_TStored w19),.dead,.row 73 43 w25.length (enR c_TStored w25),.row 73 43 w27.length (enR c_TStored w27)]) ?_ ?_
   ·refine SubF_of ⟨[some 0,some 1,some 2,some 3,some 4,some 5,some 6,some 7,some 8,some 9,some 10],?_,?_,by rfl,by rfl⟩
    ·simp [CvL,Cv,getM,tp]
    ·exact ⟨(by simp [CvB,CvL,Cv,blkAt,geth]),CvB_row nr_u8 rfl (fun _ _ _ _=>rfl),(by simp [CvB,CvL,Cv,blkAt,geth,getM,lhw28]),CvB_row nr_TStored rfl (fun _ _ _ _=>rfl),CvB_dead,CvB_row nr_TStored rfl (fun _ _ _ _=>rfl),CvB_dead,CvB_row nr_TStored rfl (fun _ _ _ _=>rfl),CvB_dead,CvB_rowW lhw26 (hw26 ▸ (lit_rowW (f:=c_TStored) ([(TStored.mk (gd w3 3) 3 (TFrame.mk (THeader.mk 0 0 false false false false false false false 0 (A6u8.mk 0 0 0 0 0 0) (A6u8.mk 0 0 0 0 0 0) (A6u8.mk 0 0 0 0 0 0) (A6u8.mk 0 0 0 0 0 0) 3 0 0 0 false false) []))]) (.int .u8 (gd w3 3)::.int .i64 3::.int .u8 0::.int .u8 0::.bool false::.bool false::.bool false::.bool false::.bool false::.bool false::.bool false::.int .i64 0::.int .u8 0::.int .u8 0::.int .u8 0::.int .u8 0::.int .u8 0::.int .u8 0::.int .u8 0::.int .u8 0::.int .u8 0::.int .u8 0::.int .u8 0::.int .u8 0::.int .u8 0::.int .u8 0::.int .u8 0::.int .u8 0::.int .u8 0::.int .u8 0::.int .u8 0::.int .u8 0::.int .u8 0::.int .u8 0::.int .u8 0::.int .u8 0::.int .i64 3::.int .i64 0::.int .i64 0::.int .u8 0::.bool false::.bool false::.ro 0 0 true (fun _ _=>.top)::[]) (fun _ _=>rfl) (fun _=>by simp [c_TStored,CvL,Cv]))),CvB_rowW lhw28 (hw28 ▸ (app_rowW (f:=c_TStored) (by first|rfl|(simp;done)) (wk_eq nr_TStored (fun _ _ _ _=>rfl)) (lit_rowW (f:=c_TStored) ([(TStored.mk (gd w3 3) 3 (TFrame.mk (THeader.mk 0 0 false false false false false false false 0 (A6u8.mk 0 0 0 0 0 0) (A6u8.mk 0 0 0 0 0 0) (A6u8.mk 0 0 0 0 0 0) (A6u8.mk 0 0 0 0 0 0) 3 0 0 0 false false) []))]) (.int .u8 (gd w3 3)::.int .i64 3::.int .u8 0::.int .u8 0::.bool false::.bool false::.bool false::.bool false::.bool false::.bool false::.bool false::.int .i64 0::.int .u8 0::.int .u8 0::.int .u8 0::.int .u8 0::.int .u8 0::.int .u8 0::.int .u8 0::.int .u8 0::.int .u8 0::.int .u8 0::.int .u8 0::.int .u8 0::.int .u8 0::.int .u8 0::.int .u8 0::.int .u8 0::.int .u8 0::.int .u8 0::.int .u8 0::.int .u8 0::.int .u8 0::.int .u8 0::.int .u8 0::.int .u8 0::.int .i64 3::.int .i64 0::.int .i64 0::.int .u8 0::.bool false::.bool false::.ro 0 0 true (fun _ _=>.top)::[]) (fun _ _=>rfl) (fun _=>by simp [c_TStored,CvL,Cv])))),trivial⟩
   simp only [tp]
   refine rg ctNo_ok ?_
   simp only [go_sem,(by decide:wr IntKind.i64 ((3:Int)+1)=4)]
   refine rndM ?_
   refine seqM ?_
   refine sq ctNo_ok ?_
   simp only [go_sem,(by decide:bLt (4) (4)=false)]
   refine condM rfl trivial (fun hc=>?_) (fun hc=>?_)
   ·cases hc
   refine rg ctNo_ok ?_
   simp only [go_sem]
   refine seqM ?_
   refine regO ?_
   refine cutO shT_ok ctNo_ok 1 ?_
   simp only [kO_normal,List.take_succ_cons,List.take_zero,List.drop_succ_cons,List.drop_zero,go_sem,Nat.reduceLT,Nat.reduceAdd]
   repeat ((with_reducible refine And.intro ?_ ?_);focus exact an6)
   refine fzO [10] ?_ ?_
   ·simp only [go_sem,Nat.reduceBEq]
    try exact at0
   simp only [go_sem,Nat.reduceBEq,Nat.reduceAdd]
   refine cutO shT_ok ctNo_ok 3 ?_
   simp only [kO_normal,List.take_succ_cons,List.take_zero,List.drop_succ_cons,List.drop_zero,go_sem,Nat.reduceLeDiff,Nat.reduceAdd]
   repeat ((with_reducible refine And.intro ?_ ?_);focus exact an6)
   refine endO ?_
   refine rg ctNo_ok ?_
   simp only [go_sem,Nat.reduceLT,Nat.reduceAdd]
   obtain rfl:=Option.some.inj H
   refine ⟨[11,0,2],?_,?_,[],?_,?_,rfl⟩
   ·simp only [go_sem,Nat.reduceBEq]
    try exact at0
   ·simp only [go_sem,Nat.reduceBEq]
    try exact at0
   ·simp only [go_sem,Nat.reduceBEq]
    exact (Cv_agg (CvL_cons Cv_int (CvL_cons Cv_int (CvL_cons (ro_row (by first|rfl|simp) (lit_row (f:=c_TSleeper) [(TSleeper.mk 3 true w27)] (fun _ _=>rfl) rfl)) (CvL_cons (Cv_ronil (α:=TStored)) CvL_nil)))))
   ·simp only [go_sem,CvH]
  ·cases hb
 ·unfold body40 at hb
  split at hb<;>cases hb
noncomputable def F74 (p0:Int):Option (Bool) :=
 some ((bLe 0 p0) && (bLe p0 1099511627776))
noncomputable def body74:List AV->AR
 | [v0]=>.pure (iK .i64 v0/\(F74 (iA v0)).isSome=true) (.bool (gt (F74 (iA v0))))
 | _=>.fail
theorem ok74:FnOk Try.prog 74 (pureC body74):=by
 refine pure_fnM body74 (rs:=[.tmp 2]) Try.func74 (by kernel_rfl) rfl rfl ?_
 intro l ob v hb hob
 unfold body74 at hb
 split at hb
 ·rename_i v0
  injection hb with q1 q2;subst q1 q2
  obtain ⟨hk0_0,hob⟩:=hob
  obtain ⟨r,H⟩:=Option.isSome_iff_exists.1 hob
  rw [H,gt_some]
  have hw0:=iK_wk hk0_0
  generalize iA v0=p0 at H hw0
  refine ⟨[.int .i64 p0],_,(fun E vs F=>FR_wk1 hw0.1 F (fun vs F=>F)),rfl,rfl,?_⟩
  rw [Try.ntmps74]
  simp only [List.length_cons,List.length_nil,Nat.reduceAdd,Nat.reduceSub,List.replicate_succ,List.replicate_zero,List.cons_append,List.nil_append]
  unfold F74 at H
  try dsimp only at H
  refine sq ctNo_ok ?_
  simp only [go_sem]
  refine sq ctNo_ok ?_
  simp only [go_sem]
  repeat ((with_reducible refine And.intro ?_ ?_);focus exact an6)
  refine rg ctNo_ok ?_
  simp only [go_sem]
  obtain rfl:=Option.some.inj H
  first|rfl|simp only [Bool.and_false,Bool.false_and,Bool.and_true,Bool.true_and]
 ·cases hb
noncomputable def ct60t0:Ct:=tab [(74,pureC body74)]
theorem ct60t0_ok:CtOk Try.prog ct60t0:=tab_cons ok74 <| tab_nil
theorem ct60t0_74 (l:List AV) (h:List ABlk):ct60t0 74 l h=pureC body74 l h:=rfl
noncomputable def F60_L1 (p0:List TStored) (p2:Int) (v1_1:Int):Option (Lp (Int) ((Unit) ⊕ (Bool))) :=
 bif (bLt v1_1 (p0.length:Nat)) then (need (inb v1_1 p0.length) <| need (bif (!(bLt p2 ((gd p0 v1_1.toNat).Cat))) then ((F74 ((gd p0 v1_1.toNat).At)).isSome) else true) <| need (bif ((!((bLt p2 ((gd p0 v1_1.toNat).Cat)) || (!(gt (F74 ((gd p0 v1_1.toNat).At)))))) && (bLt 0 v1_1)) then inb (wr .i64 (v1_1 - 1)) p0.length else true) <| bif (((bLt p2 ((gd p0 v1_1.toNat).Cat)) || (!(gt (F74 ((gd p0 v1_1.toNat).At))))) || ((bLt 0 v1_1) && (bLt ((gd p0 v1_1.toNat).At) ((gd p0 ((wr .i64 (v1_1 - 1)).toNat)).At)))) then (some (.done (.inr false))) else (some (.next (wr .i64 (v1_1+1))))) else (some (.done (.inl ())))
noncomputable def F60 (p0:List TStored) (p1:Int) (p2:Int):Option (Bool) :=
 bif (bLt p1 (p0.length:Nat)) then (some false) else (lp (loopD (fun s=>F60_L1 p0 p2 s) 0) (fun _=>some true) some)
noncomputable def body60:List AV->AR
 | [v0,v1,v2]=>.pure (lK k_TStored 43 v0/\iK .i64 v1/\iK .u8 v2/\(F60 (lA g_TStored v0) (iA v1) (iA v2)).isSome=true) (.bool (gt (F60 (lA g_TStored v0) (iA v1) (iA v2))))
 | _=>.fail
theorem ok60:FnOk Try.prog 60 (pureC body60):=by
 refine pure_fnM body60 (rs:=[.tmp 6]) Try.func60 (by kernel_rfl) rfl rfl ?_
 intro l ob v hb hob
 unfold body60 at hb
 split at hb
 ·rename_i v0 v1 v2
  injection hb with q1 q2;subst q1 q2
  obtain ⟨hk0_0,hk1_0,hk2_0,hob⟩:=hob
  obtain ⟨r,H⟩:=Option.isSome_iff_exists.1 hob
  rw [H,gt_some]
  have hw0:=lK_wk (fun r h=>w_TStored h) hk0_0
  have hw1:=iK_wk hk1_0
  have hw2:=iK_wk hk2_0
  generalize lA g_TStored v0=p0 at H hw0
  generalize iA v1=p1 at H hw1
  generalize iA v2=p2 at H hw2
  refine ⟨[.ro 43 p0.length false (enR c_TStored p0),.int .i64 p1,.int .u8 p2],_,(fun E vs F=>FR_wk1 hw0.1 F (fun vs F=>FR_wk1 hw1.1 F (fun vs F=>FR_wk1 hw2.1 F (fun vs F=>F)))),rfl,rfl,?_⟩
  rw [Try.ntmps60]
  simp only [List.length_cons,List.length_nil,Nat.reduceAdd,Nat.reduceSub,List.replicate_succ,List.replicate_zero,List.cons_append,List.nil_append]
  unfold F60 at H
  try dsimp only at H
  refine sq ctNo_ok ?_
  simp only [go_sem]
  refine seqM ?_
  refine sq ctNo_ok ?_
  simp only [go_sem]
  repeat ((with_reducible refine And.intro ?_ ?_);focus exact an0)
  refine condM rfl trivial (fun hc=>?_) (fun hc=>?_)
  ·replace H:=cond_t hc H
   refine sq ctNo_ok ?_
   simp only [go_sem]
   refine rg ctNo_ok ?_
   simp only [go_sem]
   obtain rfl:=Option.some.inj H
   first|rfl|simp only [Bool.and_false,Bool.false_and,Bool.and_true,Bool.true_and]
  replace H:=cond_f hc H
  refine rg ctNo_ok ?_
  simp only [go_sem]
  refine seqM ?_
  refine sq ctNo_ok ?_
  simp only [go_sem]
  repeat ((with_reducible refine And.intro ?_ ?_);focus exact an0)
  refine blkM ?_
  refine loop_den (fun s:Int=>(.ro 43 p0.length false (enR c_TStored p0)::.top::.int .u8 p2::tp 10 (.ro 43 p0.length false (enR c_TStored p0)::.int .i64 (p0.length:Nat)::.int .i64 s::tp 30 []))) (fun s=>[]) (fun e:Unit=>(tp 46 [])) (fun e=>[]) H ?_ (fun v1_1 o H hn1_1 hn2_1=>?_) (fun e H=>?_)
  ·refine SubF_of ⟨[],?_,?_,by rfl,by rfl⟩
   ·simp [CvL,Cv,tp]
   ·trivial
  ·unfold F60_L1 at H
   try dsimp only at H ⊢
   try simp only [tp]
   refine sq ctNo_ok ?_
   simp only [go_sem]
   refine seqM ?_
   refine condM' rfl trivial (fun hc=>?_) (fun hc=>?_)
   ·replace H:=cond_f hc H
    refine rg ctNo_ok ?_
    simp only [go_sem]
    refine ⟨_,(Option.some.inj H).symm,?_⟩
    refine SubF_of ⟨[],?_,?_,by rfl,by rfl⟩
    ·simp [CvL,Cv]
    ·trivial
   replace H:=cond_t hc H
   refine rg ctNo_ok ?_
   simp only [go_sem]
   refine seqM ?_
   refine blkM ?_
   refine seqM ?_
   obtain ⟨f1,H⟩:=need_some.1 H
   replace f1:=inb_iff.1 f1
   refine rg ctNo_ok ?_
   simp only [go_sem,Nat.reduceLT,Nat.reduceAdd,f1]
   repeat ((with_reducible refine And.intro ?_ ?_);focus exact an6)
   refine seqM ?_
   obtain ⟨f2,H⟩:=need_some.1 H
   replace f2:=g_iff.1 f2
   obtain ⟨f3,H⟩:=need_some.1 H
   replace f3:=g_iff.1 f3
   replace f3:=fun g=>inb_iff.1 (f3 g)
   refine draw_quiet shT_ok ct60t0_ok (by kernel_rfl) (by kernel_rfl) ?_
   simp only [go_sem,Nat.reduceLeDiff,Nat.reduceLT,Nat.reduceAdd,ct60t0_74,body74]
   repeat ((with_reducible refine And.intro ?_ ?_);focus (first|(with_reducible trivial)|omega|exact f2|exact f3|(intro g;have q:=f2 (by first|exact g|(rw [g];rfl)|simpa using g);first|exact q|exact ⟨q.1,q.2.1⟩|exact q.2.2|omega|exact ⟨g,q⟩|exact ⟨trivial,q⟩|exact ⟨g,q.1,q.2.1⟩|exact ⟨g,q.2.2⟩)|(intro g;have q:=f3 (by first|exact g|(rw [g];rfl)|simpa using g);first|exact q|exact ⟨q.1,q.2.1⟩|exact q.2.2|omega|exact ⟨g,q⟩|exact ⟨trivial,q⟩|exact ⟨g,q.1,q.2.1⟩|exact ⟨g,q.2.2⟩)|(intro g;(try have q0:=f2 (by first|exact g|(rw [g];rfl)|simpa using g));(try have q1:=f3 (by first|exact g|(rw [g];rfl)|simpa using g));and_intros<;>first|(with_reducible trivial)|assumption|exact nfc|(intro g2;rw [g,g2];rfl)|(intro g2;assumption)|(simp only [g,Bool.true_and,Bool.and_true,Bool.not_false,Bool.not_true];assumption)|grind)|(and_intros<;>first|(with_reducible trivial)|omega|assumption|exact nfc|first|exact rfl|exact trivial|exact fitI|exact .inr rfl|exact .inl rfl|exact fun x hx=>absurd hx (by omega))|grind))
   refine condM rfl trivial (fun hc=>?_) (fun hc=>?_)
   ·replace H:=cond_t hc H
    refine sq ctNo_ok ?_
    simp only [go_sem]
    refine rg ctNo_ok ?_
    simp only [go_sem]
    have H:=hn2_1 _ (Option.some.inj H).symm
    obtain rfl:=Option.some.inj H
    first|rfl|simp only [Bool.and_false,Bool.false_and,Bool.and_true,Bool.true_and]
   replace H:=cond_f hc H
   refine rg ctNo_ok ?_
   simp only [go_sem]
   refine rg ctNo_ok ?_
   simp only [go_sem]
   refine ⟨_,(Option.some.inj H).symm,?_⟩
   refine SubF_of ⟨[],?_,?_,by rfl,by rfl⟩
   ·simp [CvL,Cv]
   ·trivial
  ·try dsimp only at H ⊢
   try simp only [tp]
   try simp only [m_normal]
   refine sq ctNo_ok ?_
   simp only [go_sem]
   refine rg ctNo_ok ?_
   simp only [go_sem]
   obtain rfl:=Option.some.inj H
   first|rfl|simp only [Bool.and_false,Bool.false_and,Bool.and_true,Bool.true_and]
 ·cases hb
noncomputable def F76 (p0:TSleeper):Option (Bool) :=
 some p0.Asleep
noncomputable def body76:List AV->AR
 | [v0]=>.pure (aK 3 k_TSleeper v0/\(F76 (g_TSleeper (aL v0))).isSome=true) (.bool (gt (F76 (g_TSleeper (aL v0)))))
 | _=>.fail
theorem ok76:FnOk Try.prog 76 (pureC body76):=by
 refine pure_fnM body76 (rs:=[.tmp 2]) Try.func76 (by kernel_rfl) rfl rfl ?_
 intro l ob v hb hob
 unfold body76 at hb
 split at hb
 ·rename_i v0
  injection hb with q1 q2;subst q1 q2
  obtain ⟨hk0_0,hob⟩:=hob
  obtain ⟨r,H⟩:=Option.isSome_iff_exists.1 hob
  rw [H,gt_some]
  have hw0:=wA_TSleeper hk0_0
  generalize g_TSleeper (aL v0)=p0 at H hw0
  refine ⟨[.agg [.int .i64 p0.Aid,.bool p0.Asleep,.ro 43 p0.Held.length false (enR c_TStored p0.Held)]],_,(fun E vs F=>FR_wk1 hw0.1 F (fun vs F=>F)),rfl,rfl,?_⟩
  rw [Try.ntmps76]
  simp only [List.length_cons,List.length_nil,Nat.reduceAdd,Nat.reduceSub,List.replicate_succ,List.replicate_zero,List.cons_append,List.nil_append]
  unfold F76 at H
  try dsimp only at H
  refine sq ctNo_ok ?_
  simp only [go_sem]
  refine sq ctNo_ok ?_
  simp only [go_sem,Nat.reduceLeDiff,Nat.reduceLT,Nat.reduceAdd]
  repeat ((with_reducible refine And.intro ?_ ?_);focus exact an6)
  refine rg ctNo_ok ?_
  simp only [go_sem]
  obtain rfl:=Option.some.inj H
  first|rfl|simp only [Bool.and_false,Bool.false_and,Bool.and_true,Bool.true_and]
 ·cases hb
noncomputable def ct52_0t0:Ct:=tab [(76,pureC body76)]
theorem ct52_0t0_ok:CtOk Try.prog ct52_0t0:=tab_cons ok76 <| tab_nil
theorem ct52_0t0_76 (l:List AV) (h:List ABlk):ct52_0t0 76 l h=pureC body76 l h:=rfl
noncomputable def F52_0_L1 (p0:List TSleeper) (v1_1:Int):Option (Lp (Int) ((Unit) ⊕ (Int))) :=
 bif (bLt v1_1 (p0.length:Nat)) then (need (inb v1_1 p0.length) <| (F76 (gd p0 v1_1.toNat)).bind fun r2=>bif r2 then (some (.done (.inr v1_1))) else (some (.next (wr .i64 (v1_1+1))))) else (some (.done (.inl ())))
noncomputable def F52_0 (p0:List TSleeper):Option (Int) :=
 lp (loopD (fun s=>F52_0_L1 p0 s) 0) (fun _=>some (-1)) some
noncomputable def body52_0:List AV->AR
 | [v0,.fn 76 []]=>.pure (lK k_TSleeper 3 v0/\(F52_0 (lA g_TSleeper v0)).isSome=true) (.int .i64 (gt (F52_0 (lA g_TSleeper v0))))
 | _=>.fail
theorem ok52_0:FnOk Try.prog 52 (pureC body52_0):=by
 refine pure_fnM body52_0 (rs:=[.tmp 4]) Try.func52 (by kernel_rfl) rfl rfl ?_
 intro l ob v hb hob
 unfold body52_0 at hb
 split at hb
 ·rename_i v0
  injection hb with q1 q2;subst q1 q2
  obtain ⟨hk0_0,hob⟩:=hob
  obtain ⟨r,H⟩:=Option.isSome_iff_exists.1 hob
  rw [H,gt_some]
  have hw0:=lK_wk (fun r h=>w_TSleeper h) hk0_0
  generalize lA g_TSleeper v0=p0 at H hw0
  refine ⟨[.ro 3 p0.length false (enR c_TSleeper p0),.fn 76 []],_,(fun E vs F=>FR_wk1 hw0.1 F (fun vs F=>FR_wk1 (fn_wk LW_nil) F (fun vs F=>F))),rfl,rfl,?_⟩
  rw [Try.ntmps52]
  simp only [List.length_cons,List.length_nil,Nat.reduceAdd,Nat.reduceSub,List.replicate_succ,List.replicate_zero,List.cons_append,List.nil_append]
  unfold F52_0 at H
  try dsimp only at H
  refine sq ctNo_ok ?_
  simp only [go_sem]
  refine seqM ?_
  refine sq ctNo_ok ?_
  simp only [go_sem]
  repeat ((with_reducible refine And.intro ?_ ?_);focus exact an0)
  refine blkM ?_
  refine loop_den (fun s:Int=>(.ro 3 p0.length false (enR c_TSleeper p0)::.fn 76 []::tp 5 (.int .i64 (p0.length:Nat)::.int .i64 s::tp 10 []))) (fun s=>[]) (fun e:Unit=>(tp 19 [])) (fun e=>[]) H ?_ (fun v1_1 o H hn1_1 hn2_1=>?_) (fun e H=>?_)
  ·refine SubF_of ⟨[],?_,?_,by rfl,by rfl⟩
   ·simp [CvL,Cv,tp]
   ·trivial
  ·unfold F52_0_L1 at H
   try dsimp only at H ⊢
   try simp only [tp]
   refine sq ctNo_ok ?_
   simp only [go_sem]
   refine seqM ?_
   refine condM' rfl trivial (fun hc=>?_) (fun hc=>?_)
   ·replace H:=cond_f hc H
    refine rg ctNo_ok ?_
    simp only [go_sem]
    refine ⟨_,(Option.some.inj H).symm,?_⟩
    refine SubF_of ⟨[],?_,?_,by rfl,by rfl⟩
    ·simp [CvL,Cv]
    ·trivial
   replace H:=cond_t hc H
   refine rg ctNo_ok ?_
   simp only [go_sem]
   refine seqM ?_
   refine blkM ?_
   refine sq ctNo_ok ?_
   simp only [go_sem]
   refine seqM ?_
   obtain ⟨f1,H⟩:=need_some.1 H
   replace f1:=inb_iff.1 f1
   obtain ⟨r2,e3,H⟩:=bsi H
   refine rg ct52_0t0_ok ?_
   simp only [go_sem,Nat.reduceLT,Nat.reduceAdd,ct52_0t0_76,body76,f1,e3]
   repeat ((with_reducible refine And.intro ?_ ?_);focus exact an0)
   refine condM rfl trivial (fun hc=>?_) (fun hc=>?_)
   ·replace H:=cond_t hc H
    refine sq ctNo_ok ?_
    simp only [go_sem]
    refine rg ctNo_ok ?_
    simp only [go_sem]
    have H:=hn2_1 _ (Option.some.inj H).symm
    obtain rfl:=Option.some.inj H
    first|rfl|simp only [Bool.and_false,Bool.false_and,Bool.and_true,Bool.true_and]
   replace H:=cond_f hc H
   refine rg ctNo_ok ?_
   simp only [go_sem]
   refine rg ctNo_ok ?_
   simp only [go_sem]
   refine ⟨_,(Option.some.inj H).symm,?_⟩
   refine SubF_of ⟨[],?_,?_,by rfl,by rfl⟩
   ·simp [CvL,Cv]
   ·trivial
  ·try dsimp only at H ⊢
   try simp only [tp]
   try simp only [m_normal]
   refine sq ctNo_ok ?_
   simp only [go_sem]
   refine rg ctNo_ok ?_
   simp only [go_sem]
   obtain rfl:=Option.some.inj H
   first|rfl|simp only [Bool.and_false,Bool.false_and,Bool.and_true,Bool.true_and]
 ·cases hb
noncomputable def ct75_0t0:Ct:=tab [(52,pureC body52_0)]
theorem ct75_0t0_ok:CtOk Try.prog ct75_0t0:=tab_cons ok52_0 <| tab_nil
theorem ct75_0t0_52 (l:List AV) (h:List ABlk):ct75_0t0 52 l h=pureC body52_0 l h:=rfl
noncomputable def F75_0 (p0:List TSleeper):Option (Bool) :=
 (F52_0 p0).bind fun r1=>some (bLe 0 r1)
noncomputable def body75_0:List AV->AR
 | [v0,.fn 76 []]=>.pure (lK k_TSleeper 3 v0/\(F75_0 (lA g_TSleeper v0)).isSome=true) (.bool (gt (F75_0 (lA g_TSleeper v0))))
 | _=>.fail
theorem ok75_0:FnOk Try.prog 75 (pureC body75_0):=by
 refine pure_fnM body75_0 (rs:=[.tmp 4]) Try.func75 (by kernel_rfl) rfl rfl ?_
 intro l ob v hb hob
 unfold body75_0 at hb
 split at hb
 ·rename_i v0
  injection hb with q1 q2;subst q1 q2
  obtain ⟨hk0_0,hob⟩:=hob
  obtain ⟨r,H⟩:=Option.isSome_iff_exists.1 hob
  rw [H,gt_some]
  have hw0:=lK_wk (fun r h=>w_TSleeper h) hk0_0
  generalize lA g_TSleeper v0=p0 at H hw0
  refine ⟨[.ro 3 p0.length false (enR c_TSleeper p0),.fn 76 []],_,(fun E vs F=>FR_wk1 hw0.1 F (fun vs F=>FR_wk1 (fn_wk LW_nil) F (fun vs F=>F))),rfl,rfl,?_⟩
  rw [Try.ntmps75]
  simp only [List.length_cons,List.length_nil,Nat.reduceAdd,Nat.reduceSub,List.replicate_succ,List.replicate_zero,List.cons_append,List.nil_append]
  unfold F75_0 at H
  try dsimp only at H
  refine sq ctNo_ok ?_
  simp only [go_sem]
  refine seqM ?_
  obtain ⟨r1,e2,H⟩:=bsi H
  refine rg ct75_0t0_ok ?_
  simp only [go_sem,ct75_0t0_52,body52_0,e2]
  repeat ((with_reducible refine And.intro ?_ ?_);focus exact an0)
  refine rg ctNo_ok ?_
  simp only [go_sem]
  obtain rfl:=Option.some.inj H
  first|rfl|simp only [Bool.and_false,Bool.false_and,Bool.and_true,Bool.true_and]
 ·cases hb
noncomputable def ct61t0:Ct:=tab [(75,pureC body75_0)]
theorem ct61t0_ok:CtOk Try.prog ct61t0:=tab_cons ok75_0 <| tab_nil
theorem ct61t0_75 (l:List AV) (h:List ABlk):ct61t0 75 l h=pureC body75_0 l h:=rfl
noncomputable def F61 (p0:TBuffer):Option (Bool) :=
 (F75_0 p0.List).bind fun r1=>some r1
noncomputable def body61:List AV->AR
 | [v0]=>.pure (aK 4 k_TBuffer v0/\(F61 (g_TBuffer (aL v0))).isSome=true) (.bool (gt (F61 (g_TBuffer (aL v0)))))
 | _=>.fail
theorem ok61:FnOk Try.prog 61 (pureC body61):=by
 refine pure_fnM body61 (rs:=[.tmp 2]) Try.func61 (by kernel_rfl) rfl rfl ?_
 intro l ob v hb hob
 unfold body61 at hb
 split at hb
 ·rename_i v0
  injection hb with q1 q2;subst q1 q2
  obtain ⟨hk0_0,hob⟩:=hob
  obtain ⟨r,H⟩:=Option.isSome_iff_exists.1 hob
  rw [H,gt_some]
  have hw0:=wA_TBuffer hk0_0
  generalize g_TBuffer (aL v0)=p0 at H hw0
  refine ⟨[.agg [.int .i64 p0.Limit,.int .i64 p0.Stay,.ro 3 p0.List.length false (enR c_TSleeper p0.List),.ro 43 p0.Group.length false (enR c_TStored p0.Group)]],_,(fun E vs F=>FR_wk1 hw0.1 F (fun vs F=>F)),rfl,rfl,?_⟩
  rw [Try.ntmps61]
  simp only [List.length_cons,List.length_nil,Nat.reduceAdd,Nat.reduceSub,List.replicate_succ,List.replicate_zero,List.cons_append,List.nil_append]
  unfold F61 at H
  try dsimp only at H
  refine sq ctNo_ok ?_
  simp only [go_sem]
  refine seqM ?_
  obtain ⟨r1,e2,H⟩:=bsi H
  refine rg ct61t0_ok ?_
  simp only [go_sem,Nat.reduceLeDiff,Nat.reduceLT,Nat.reduceAdd,ct61t0_75,body75_0,e2]
  repeat ((with_reducible refine And.intro ?_ ?_);focus exact an0)
  refine rg ctNo_ok ?_
  simp only [go_sem]
  obtain rfl:=Option.some.inj H
  first|rfl|simp only [Bool.and_false,Bool.false_and,Bool.and_true,Bool.true_and]
 ·cases hb
noncomputable def ct34t0:Ct:=tab [(60,pureC body60)]
theorem ct34t0_ok:CtOk Try.prog ct34t0:=tab_cons ok60 <| tab_nil
theorem ct34t0_60 (l:List AV) (h:List ABlk):ct34t0 60 l h=pureC body60 l h:=rfl
noncomputable def ct34t1:Ct:=tab [(60,pureC body60),(61,pureC body61)]
theorem ct34t1_ok:CtOk Try.prog ct34t1:=tab_cons ok60 <| tab_cons ok61 <| tab_nil
theorem ct34t1_60 (l:List AV) (h:List ABlk):ct34t1 60 l h=pureC body60 l h:=rfl
theorem ct34t1_61 (l:List AV) (h:List ABlk):ct34t1 61 l h=pureC body61 l h:=rfl
noncomputable def F34_L1 (p0:TBuffer) (v1_1:Bool) (v1_2:Int) (v1_3:Int):Option (Lp (Bool × Int × Int) ((Bool) ⊕ (Int))) :=
 bif (bLt v1_3 (p0.List.length:Nat)) then (need (inb v1_3 p0.List.length) <| need (bif ((v1_1 && (bLt v1_2 ((gd p0.List v1_3.toNat).Aid))) && (bLe ((gd p0.List v1_3.toNat).Aid) 255)) then ((F60 ((gd p0.List v1_3.toNat).Held) p0.Limit 3).isSome) else true) <| some (.next (((((v1_1 && (bLt v1_2 ((gd p0.List v1_3.toNat).Aid))) && (bLe ((gd p0.List v1_3.toNat).Aid) 255)) && (gt (F60 ((gd p0.List v1_3.toNat).Held) p0.Limit 3))) && ((gd p0.List v1_3.toNat).Asleep || (bEq (((gd p0.List v1_3.toNat).Held).length:Nat) 0))),(gd p0.List v1_3.toNat).Aid,wr .i64 (v1_3+1)))) else (some (.done (.inl v1_1)))
noncomputable def F34 (p0:TBuffer):Option (Int) :=
 lp (loopD (fun s=>F34_L1 p0 s.1 s.2.1 s.2.2) ((((((bLe 1 p0.Limit) && (bLe p0.Limit 64)) && (bLe 1 p0.Stay)) && (bLe p0.Stay 1073741824)) && (bLe (p0.List.length:Nat) 32)),0,0)) (fun w1_4=>need (bif (!(!w1_4)) then ((F60 p0.Group p0.Limit 0).isSome) else true) <| need (bif ((!((!w1_4) || (!(gt (F60 p0.Group p0.Limit 0))))) && (bLt 0 (p0.Group.length:Nat))) then ((F61 p0).isSome) else true) <| bif (((!w1_4) || (!(gt (F60 p0.Group p0.Limit 0)))) || ((bLt 0 (p0.Group.length:Nat)) && (!(gt (F61 p0))))) then (some 8) else (some 0)) some
noncomputable def body34:List AV->AR
 | [v0]=>.pure (aK 4 k_TBuffer v0/\(F34 (g_TBuffer (aL v0))).isSome=true) (.int .i64 (gt (F34 (g_TBuffer (aL v0)))))
 | _=>.fail
theorem ok34:FnOk Try.prog 34 (pureC body34):=by
 refine pure_fnM body34 (rs:=[.tmp 2]) Try.func34 (by kernel_rfl) rfl rfl ?_
 intro l ob v hb hob
 unfold body34 at hb
 split at hb
 ·rename_i v0
  injection hb with q1 q2;subst q1 q2
  obtain ⟨hk0_0,hob⟩:=hob
  obtain ⟨r,H⟩:=Option.isSome_iff_exists.1 hob
  rw [H,gt_some]
  have hw0:=wA_TBuffer hk0_0
  generalize g_TBuffer (aL v0)=p0 at H hw0
  refine ⟨[.agg [.int .i64 p0.Limit,.int .i64 p0.Stay,.ro 3 p0.List.length false (enR c_TSleeper p0.List),.ro 43 p0.Group.length false (enR c_TStored p0.Group)]],_,(fun E vs F=>FR_wk1 hw0.1 F (fun vs F=>F)),rfl,rfl,?_⟩
  rw [Try.ntmps34]
  simp only [List.length_cons,List.length_nil,Nat.reduceAdd,Nat.reduceSub,List.replicate_succ,List.replicate_zero,List.cons_append,List.nil_append]
  unfold F34 at H
  try dsimp only at H
  refine sq ctNo_ok ?_
  simp only [go_sem]
  refine sq ctNo_ok ?_
  simp only [go_sem,Nat.reduceLeDiff,Nat.reduceLT,Nat.reduceAdd]
  repeat ((with_reducible refine And.intro ?_ ?_);focus exact an7)
  refine sq ctNo_ok ?_
  simp only [go_sem]
  refine seqM ?_
  refine sq ctNo_ok ?_
  simp only [go_sem,Nat.reduceLeDiff,Nat.reduceLT,Nat.reduceAdd]
  repeat ((with_reducible refine And.intro ?_ ?_);focus exact an0)
  refine blkM ?_
  refine loop_den (fun s:Bool × Int × Int=>(.top::.ptr 0 0 0 0::.top::.bool s.1::.int .i64 s.2.1::tp 27 (.ro 3 p0.List.length false (enR c_TSleeper p0.List)::.int .i64 (p0.List.length:Nat)::.int .i64 s.2.2::tp 56 []))) (fun s=>[.lit 52 [.int .i64 p0.Limit,.int .i64 p0.Stay,.ro 3 p0.List.length false (enR c_TSleeper p0.List),.ro 43 p0.Group.length false (enR c_TStored p0.Group)]]) (fun e:Bool=>(.top::.ptr 0 0 0 0::.top::.bool e::tp 87 [])) (fun e=>[.lit 52 [.int .i64 p0.Limit,.int .i64 p0.Stay,.ro 3 p0.List.length false (enR c_TSleeper p0.List),.ro 43 p0.Group.length false (enR c_TStored p0.Group)]]) H ?_ (fun s o H hn1_1 hn2_1=>?_) (fun w1_4 H=>?_)
  ·refine SubF_of ⟨[some 0],?_,?_,by rfl,by rfl⟩
   ·simp [CvL,Cv,getM,tp]
   ·exact ⟨cv,trivial⟩
  ·obtain ⟨v1_1,v1_2,v1_3⟩:=s
   unfold F34_L1 at H
   try dsimp only at H ⊢
   try simp only [tp]
   refine sq ctNo_ok ?_
   simp only [go_sem]
   refine seqM ?_
   refine condM' rfl trivial (fun hc=>?_) (fun hc=>?_)
   ·replace H:=cond_f hc H
    refine rg ctNo_ok ?_
    simp only [go_sem]
    refine ⟨_,(Option.some.inj H).symm,?_⟩
    refine SubF_of ⟨[some 0],?_,?_,by rfl,by rfl⟩
    ·simp [CvL,Cv,getM]
    ·exact ⟨cv,trivial⟩
   replace H:=cond_t hc H
   refine rg ctNo_ok ?_
   simp only [go_sem]
   refine seqM ?_
   refine blkM ?_
   refine seqM ?_
   obtain ⟨f1,H⟩:=need_some.1 H
   replace f1:=inb_iff.1 f1
   refine rg ctNo_ok ?_
   simp only [go_sem,Nat.reduceLT,Nat.reduceAdd,f1]
   repeat ((with_reducible refine And.intro ?_ ?_);focus exact an6)
   refine seqM ?_
   obtain ⟨f2,H⟩:=need_some.1 H
   replace f2:=g_iff.1 f2
   refine rg ct34t0_ok ?_
   simp only [go_sem,Nat.reduceLeDiff,Nat.reduceLT,Nat.reduceAdd,ct34t0_60,body60]
   repeat ((with_reducible refine And.intro ?_ ?_);focus (first|(with_reducible trivial)|omega|exact f2|(intro g;have q:=f2 (by first|exact g|(rw [g];rfl)|simpa using g);first|exact q|exact ⟨q.1,q.2.1⟩|exact q.2.2|omega|exact ⟨g,q⟩|exact ⟨trivial,q⟩|exact ⟨g,q.1,q.2.1⟩|exact ⟨g,q.2.2⟩)|(intro g;(try have q0:=f2 (by first|exact g|(rw [g];rfl)|simpa using g));and_intros<;>first|(with_reducible trivial)|assumption|exact nfc|(intro g2;rw [g,g2];rfl)|(intro g2;assumption)|(simp only [g,Bool.true_and,Bool.and_true,Bool.not_false,Bool.not_true];assumption)|grind)|(and_intros<;>first|(with_reducible trivial)|omega|assumption|exact nfc|first|exact rfl|exact trivial|exact fitI|exact .inr rfl|exact .inl rfl|exact fun x hx=>absurd hx (by omega))|grind))
   refine rg ctNo_ok ?_
   simp only [go_sem,Nat.reduceLeDiff,Nat.reduceLT,Nat.reduceAdd]
   repeat ((with_reducible refine And.intro ?_ ?_);focus exact an6)
   refine rg ctNo_ok ?_
   simp only [go_sem]
   refine ⟨_,(Option.some.inj H).symm,?_⟩
   refine SubF_of ⟨[some 0],?_,?_,by rfl,by rfl⟩
   ·simp [CvL,Cv,getM]
   ·exact ⟨cv,trivial⟩
  ·try dsimp only at H ⊢
   try simp only [tp]
   try simp only [m_normal]
   refine seqM ?_
   refine seqM ?_
   obtain ⟨f3,H⟩:=need_some.1 H
   replace f3:=g_iff.1 f3
   obtain ⟨f4,H⟩:=need_some.1 H
   replace f4:=g_iff.1 f4
   refine rg ct34t1_ok ?_
   simp only [go_sem,Nat.reduceLeDiff,Nat.reduceLT,Nat.reduceAdd,ct34t1_60,body60,ct34t1_61,body61]
   repeat ((with_reducible refine And.intro ?_ ?_);focus (first|(with_reducible trivial)|omega|exact f3|exact f4|(intro g;have q:=f3 (by first|exact g|(rw [g];rfl)|simpa using g);first|exact q|exact ⟨q.1,q.2.1⟩|exact q.2.2|omega|exact ⟨g,q⟩|exact ⟨trivial,q⟩|exact ⟨g,q.1,q.2.1⟩|exact ⟨g,q.2.2⟩)|(intro g;have q:=f4 (by first|exact g|(rw [g];rfl)|simpa using g);first|exact q|exact ⟨q.1,q.2.1⟩|exact q.2.2|omega|exact ⟨g,q⟩|exact ⟨trivial,q⟩|exact ⟨g,q.1,q.2.1⟩|exact ⟨g,q.2.2⟩)|(intro g;(try have q0:=f3 (by first|exact g|(rw [g];rfl)|simpa using g));(try have q1:=f4 (by first|exact g|(rw [g];rfl)|simpa using g));and_intros<;>first|(with_reducible trivial)|assumption|exact nfc|(intro g2;rw [g,g2];rfl)|(intro g2;assumption)|(simp only [g,Bool.true_and,Bool.and_true,Bool.not_false,Bool.not_true];assumption)|grind)|(and_intros<;>first|(with_reducible trivial)|omega|assumption|exact nfc|first|exact rfl|exact trivial|exact fitI|exact .inr rfl|exact .inl rfl|exact fun x hx=>absurd hx (by omega))|grind))
   refine condM rfl trivial (fun hc=>?_) (fun hc=>?_)
   ·replace H:=cond_t hc H
    refine sq ctNo_ok ?_
    simp only [go_sem]
    refine rg ctNo_ok ?_
    simp only [go_sem]
    obtain rfl:=Option.some.inj H
    first|rfl|simp only [Bool.and_false,Bool.false_and,Bool.and_true,Bool.true_and]
   replace H:=cond_f hc H
   refine rg ctNo_ok ?_
   simp only [go_sem]
   refine sq ctNo_ok ?_
   simp only [go_sem]
   refine rg ctNo_ok ?_
   simp only [go_sem]
   obtain rfl:=Option.some.inj H
   first|rfl|simp only [Bool.and_false,Bool.false_and,Bool.and_true,Bool.true_and]
 ·cases hb
noncomputable def F20 (p0:TTriggerPlan):Option (Int) :=
 bif ((((bLt 15 p0.Start) || (bLt 15 p0.Deliver)) || (bLt p0.Most 0)) || (bLt 16 p0.Most)) then (some 8) else (some 0)
noncomputable def body20:List AV->AR
 | [v0]=>.pure (aK 3 k_TTriggerPlan v0/\(F20 (g_TTriggerPlan (aL v0))).isSome=true) (.int .i64 (gt (F20 (g_TTriggerPlan (aL v0)))))
 | _=>.fail
theorem ok20:FnOk Try.prog 20 (pureC body20):=by
 refine pure_fnM body20 (rs:=[.tmp 2]) Try.func20 (by kernel_rfl) rfl rfl ?_
 intro l ob v hb hob
 unfold body20 at hb
 split at hb
 ·rename_i v0
  injection hb with q1 q2;subst q1 q2
  obtain ⟨hk0_0,hob⟩:=hob
  obtain ⟨r,H⟩:=Option.isSome_iff_exists.1 hob
  rw [H,gt_some]
  have hw0:=wA_TTriggerPlan hk0_0
  generalize g_TTriggerPlan (aL v0)=p0 at H hw0
  refine ⟨[.agg [.int .u8 p0.Start,.int .u8 p0.Deliver,.int .i64 p0.Most]],_,(fun E vs F=>FR_wk1 hw0.1 F (fun vs F=>F)),rfl,rfl,?_⟩
  rw [Try.ntmps20]
  simp only [List.length_cons,List.length_nil,Nat.reduceAdd,Nat.reduceSub,List.replicate_succ,List.replicate_zero,List.cons_append,List.nil_append]
  unfold F20 at H
  try dsimp only at H
  refine sq ctNo_ok ?_
  simp only [go_sem]
  refine seqM ?_
  refine sq ctNo_ok ?_
  simp only [go_sem,Nat.reduceLeDiff,Nat.reduceLT,Nat.reduceAdd]
  repeat ((with_reducible refine And.intro ?_ ?_);focus exact an6)
  refine condM rfl trivial (fun hc=>?_) (fun hc=>?_)
  ·replace H:=cond_t hc H
   refine sq ctNo_ok ?_
   simp only [go_sem]
   refine rg ctNo_ok ?_
   simp only [go_sem]
   obtain rfl:=Option.some.inj H
   first|rfl|simp only [Bool.and_false,Bool.false_and,Bool.and_true,Bool.true_and]
  replace H:=cond_f hc H
  refine rg ctNo_ok ?_
  simp only [go_sem]
  refine sq ctNo_ok ?_
  simp only [go_sem]
  refine rg ctNo_ok ?_
  simp only [go_sem]
  obtain rfl:=Option.some.inj H
  first|rfl|simp only [Bool.and_false,Bool.false_and,Bool.and_true,Bool.true_and]
 ·cases hb
noncomputable def F53_0 (p0:TSleeper) (p1:Int):Option (Bool) :=
 some (bEq p0.Aid p1)
noncomputable def body53_0:List AV->AR
 | [v0,v1]=>.pure (aK 3 k_TSleeper v0/\rK 1 k_i64 v1/\(F53_0 (g_TSleeper (aL v0)) (g_i64 (rG v1))).isSome=true) (.bool (gt (F53_0 (g_TSleeper (aL v0)) (g_i64 (rG v1)))))
 | _=>.fail
theorem ok53_0:FnOk Try.prog 53 (pureC body53_0):=by
 refine pure_fnM body53_0 (rs:=[.tmp 3]) Try.func53 (by kernel_rfl) rfl rfl ?_
 intro l ob v hb hob
 unfold body53_0 at hb
 split at hb
 ·rename_i v0 v1
  injection hb with q1 q2;subst q1 q2
  obtain ⟨hk0_0,hk1_0,hob⟩:=hob
  obtain ⟨r,H⟩:=Option.isSome_iff_exists.1 hob
  rw [H,gt_some]
  have hw0:=wA_TSleeper hk0_0
  have hw1:=rK_wk (f:=c_i64) (g:=g_i64) (fun r h=>w_i64 h) hk1_0
  generalize g_TSleeper (aL v0)=p0 at H hw0
  generalize g_i64 (rG v1)=p1 at H hw1
  refine ⟨[.agg [.int .i64 p0.Aid,.bool p0.Asleep,.ro 43 p0.Held.length false (enR c_TStored p0.Held)],.rptr 1 1 0 0 (enR c_i64 [p1])],_,(fun E vs F=>FR_wk1 hw0.1 F (fun vs F=>FR_wk1 hw1.1 F (fun vs F=>F))),rfl,rfl,?_⟩
  rw [Try.ntmps53]
  simp only [List.length_cons,List.length_nil,Nat.reduceAdd,Nat.reduceSub,List.replicate_succ,List.replicate_zero,List.cons_append,List.nil_append]
  unfold F53_0 at H
  try dsimp only at H
  refine sq ctNo_ok ?_
  simp only [go_sem]
  refine sq ctNo_ok ?_
  simp only [go_sem,Nat.reduceLeDiff,Nat.reduceLT,Nat.reduceAdd]
  repeat ((with_reducible refine And.intro ?_ ?_);focus exact an6)
  refine rg ctNo_ok ?_
  simp only [go_sem]
  obtain rfl:=Option.some.inj H
  first|rfl|simp only [Bool.and_false,Bool.false_and,Bool.and_true,Bool.true_and]
 ·cases hb
noncomputable def ct52_1t0:Ct:=tab [(53,pureC body53_0)]
theorem ct52_1t0_ok:CtOk Try.prog ct52_1t0:=tab_cons ok53_0 <| tab_nil
theorem ct52_1t0_53 (l:List AV) (h:List ABlk):ct52_1t0 53 l h=pureC body53_0 l h:=rfl
noncomputable def F52_1_L1 (p0:List TSleeper) (p1:Int) (v1_1:Int):Option (Lp (Int) ((Unit) ⊕ (Int))) :=
 bif (bLt v1_1 (p0.length:Nat)) then (need (inb v1_1 p0.length) <| (F53_0 (gd p0 v1_1.toNat) p1).bind fun r2=>bif r2 then (some (.done (.inr v1_1))) else (some (.next (wr .i64 (v1_1+1))))) else (some (.done (.inl ())))
noncomputable def F52_1 (p0:List TSleeper) (p1:Int):Option (Int) :=
 lp (loopD (fun s=>F52_1_L1 p0 p1 s) 0) (fun _=>some (-1)) some
noncomputable def body52_1:List AV->AR
 | [v0,.fn 53 [v1]]=>.pure (lK k_TSleeper 3 v0/\rK 1 k_i64 v1/\(F52_1 (lA g_TSleeper v0) (g_i64 (rG v1))).isSome=true) (.int .i64 (gt (F52_1 (lA g_TSleeper v0) (g_i64 (rG v1)))))
 | _=>.fail
theorem ok52_1:FnOk Try.prog 52 (pureC body52_1):=by
 refine pure_fnM body52_1 (rs:=[.tmp 4]) Try.func52 (by kernel_rfl) rfl rfl ?_
 intro l ob v hb hob
 unfold body52_1 at hb
 split at hb
 ·rename_i v0 v1
  injection hb with q1 q2;subst q1 q2
  obtain ⟨hk0_0,hk1_0,hob⟩:=hob
  obtain ⟨r,H⟩:=Option.isSome_iff_exists.1 hob
  rw [H,gt_some]
  have hw0:=lK_wk (fun r h=>w_TSleeper h) hk0_0
  have hw1:=rK_wk (f:=c_i64) (g:=g_i64) (fun r h=>w_i64 h) hk1_0
  generalize lA g_TSleeper v0=p0 at H hw0
  generalize g_i64 (rG v1)=p1 at H hw1
  refine ⟨[.ro 3 p0.length false (enR c_TSleeper p0),.fn 53 [.rptr 1 1 0 0 (enR c_i64 [p1])]],_,(fun E vs F=>FR_wk1 hw0.1 F (fun vs F=>FR_wk1 (fn_wk (LW_cons hw1.1 LW_nil)) F (fun vs F=>F))),rfl,rfl,?_⟩
  rw [Try.ntmps52]
  simp only [List.length_cons,List.length_nil,Nat.reduceAdd,Nat.reduceSub,List.replicate_succ,List.replicate_zero,List.cons_append,List.nil_append]
  unfold F52_1 at H
  try dsimp only at H
  refine sq ctNo_ok ?_
  simp only [go_sem]
  refine seqM ?_
  refine sq ctNo_ok ?_
  simp only [go_sem]
  repeat ((with_reducible refine And.intro ?_ ?_);focus exact an0)
  refine blkM ?_
  refine loop_den (fun s:Int=>(.ro 3 p0.length false (enR c_TSleeper p0)::.fn 53 [.rptr 1 1 0 0 (enR c_i64 [p1])]::tp 5 (.int .i64 (p0.length:Nat)::.int .i64 s::tp 10 []))) (fun s=>[]) (fun e:Unit=>(tp 19 [])) (fun e=>[]) H ?_ (fun v1_1 o H hn1_1 hn2_1=>?_) (fun e H=>?_)
  ·refine SubF_of ⟨[],?_,?_,by rfl,by rfl⟩
   ·simp [CvL,Cv,tp]
   ·trivial
  ·unfold F52_1_L1 at H
   try dsimp only at H ⊢
   try simp only [tp]
   refine sq ctNo_ok ?_
   simp only [go_sem]
   refine seqM ?_
   refine condM' rfl trivial (fun hc=>?_) (fun hc=>?_)
   ·replace H:=cond_f hc H
    refine rg ctNo_ok ?_
    simp only [go_sem]
    refine ⟨_,(Option.some.inj H).symm,?_⟩
    refine SubF_of ⟨[],?_,?_,by rfl,by rfl⟩
    ·simp [CvL,Cv]
    ·trivial
   replace H:=cond_t hc H
   refine rg ctNo_ok ?_
   simp only [go_sem]
   refine seqM ?_
   refine blkM ?_
   refine sq ctNo_ok ?_
   simp only [go_sem]
   refine seqM ?_
   obtain ⟨f1,H⟩:=need_some.1 H
   replace f1:=inb_iff.1 f1
   obtain ⟨r2,e3,H⟩:=bsi H
   refine rg ct52_1t0_ok ?_
   simp only [go_sem,Nat.reduceLT,Nat.reduceAdd,ct52_1t0_53,body53_0,f1,e3]
   repeat ((with_reducible refine And.intro ?_ ?_);focus exact an0)
   refine condM rfl trivial (fun hc=>?_) (fun hc=>?_)
   ·replace H:=cond_t hc H
    refine sq ctNo_ok ?_
    simp only [go_sem]
    refine rg ctNo_ok ?_
    simp only [go_sem]
    have H:=hn2_1 _ (Option.some.inj H).symm
    obtain rfl:=Option.some.inj H
    first|rfl|simp only [Bool.and_false,Bool.false_and,Bool.and_true,Bool.true_and]
   replace H:=cond_f hc H
   refine rg ctNo_ok ?_
   simp only [go_sem]
   refine rg ctNo_ok ?_
   simp only [go_sem]
   refine ⟨_,(Option.some.inj H).symm,?_⟩
   refine SubF_of ⟨[],?_,?_,by rfl,by rfl⟩
   ·simp [CvL,Cv]
   ·trivial
  ·try dsimp only at H ⊢
   try simp only [tp]
   try simp only [m_normal]
   refine sq ctNo_ok ?_
   simp only [go_sem]
   refine rg ctNo_ok ?_
   simp only [go_sem]
   obtain rfl:=Option.some.inj H
   first|rfl|simp only [Bool.and_false,Bool.false_and,Bool.and_true,Bool.true_and]
 ·cases hb
noncomputable def F72 (p0:List TSleeper):Option (List TSleeper) :=
 need (capb 40 p0.length) <| some p0
noncomputable def body72:List AV->Nat->AR
 | [v0],s=>.heap (lK k_TSleeper 3 v0/\(F72 (lA g_TSleeper v0)).isSome=true) (.sl s 3 0 (gt (F72 (lA g_TSleeper v0))).length false) [.row 71 3 (gt (F72 (lA g_TSleeper v0))).length (enR c_TSleeper (gt (F72 (lA g_TSleeper v0))))]
 | _,_=>.fail
theorem ok72:FnOk Try.prog 72 (genC body72):=by
 refine gen_fn body72 (rs:=[.tmp 2]) Try.func72 (by kernel_rfl) rfl rfl ?_
 intro l s ob v ns hb hob
 rcases hb with ⟨hb,rfl⟩|hb
 ·unfold body72 at hb
  split at hb<;>cases hb
 ·unfold body72 at hb
  split at hb
  ·rename_i v0
   injection hb with q1 q2 q3;subst q1 q2 q3
   obtain ⟨hk0,hob⟩:=hob
   obtain ⟨r,H⟩:=Option.isSome_iff_exists.1 hob
   rw [H,gt_some]
   have hw0:=lK_wk (fun r h=>w_TSleeper h) hk0
   generalize lA g_TSleeper v0=p0 at H hw0
   unfold F72 at H
   obtain ⟨f1,H⟩:=need_some.1 H
   replace f1:=capb_iff.1 f1
   obtain rfl:=Option.some.inj H
   refine ⟨[.ro 3 p0.length false (enR c_TSleeper p0)],.sl 0 3 0 p0.length false,[.row 71 3 p0.length (enR c_TSleeper p0)],(fun E vs F=>FR_wk1 hw0.1 F (fun vs F=>F)),by simp only [ren,rnN_0],⟨⟨rfl,rfl,rfl,fun x y _ _=>ren_nref _ (nfR_en nr_TSleeper)⟩,trivial⟩,?_⟩
   rw [Try.ntmps72]
   simp only [List.length_cons,List.length_nil,Nat.reduceAdd,Nat.reduceSub,List.replicate_succ,List.replicate_zero,List.cons_append,List.nil_append]
   refine rg ctNo_ok ?_
   have nfs:∀ x y,nref (enR c_TSleeper p0 x y):=fun x y=>nfR_en nr_TSleeper
   generalize hc:enR c_TSleeper p0=c at nfs hw0
   cases hn:p0.length with
   | zero =>
    simp only [go_sem,Nat.reduceLeDiff,Nat.reduceAdd]
    have hp:p0=[]:=List.eq_nil_of_length_eq_zero hn
    subst hp;subst hc
    refine ⟨?_,?_⟩
    ·refine ⟨[],?_,?_,[none],?_,?_,rfl⟩
     ·simp only [fzOb]
     ·simp only [fzObH]
     ·simp [fzV,Cv]
     ·simp only [fzH,fzHF,and_true,CvH,and_true];exact CvB_none
    ·refine ⟨by omega,[],?_,?_,[some 1],?_,?_,rfl⟩
     ·simp only [Nat.add_zero,fzOb,inL,rowOb,geth,cond_false,true_and,Nat.zero_add,Nat.le_refl]
     ·simp only [fzObB,fzObH,and_self]
     ·simp [fzV,inL,Cv,getM]
     ·simp only [fzH,fzHF,fzB,inL,cond_false,and_true,CvH,and_true];exact CvB_row0 nr_TSleeper
   | succ m =>
    simp only [go_sem,Nat.reduceLeDiff,Nat.reduceAdd,reduceCtorEq]
    refine ⟨by omega,[],?_,?_,[some 1],?_,?_,rfl⟩
    ·simp only [fzOb,inL,rowOb,geth,cond_false,true_and,Nat.zero_add,Nat.le_refl]
    ·simp only [fzObB,fzObH,and_self]
    ·simp [fzV,inL,Cv,getM]
    ·simp only [fzH,fzHF,fzB,inL,cond_false,and_true,CvH,and_true];rw [← hn,← hc];exact CvB_row nr_TSleeper rfl (fun x y hx hy=>by simp only [appC,Nat.not_lt_zero,if_false,Nat.sub_zero])
  ·cases hb
noncomputable def F44 (p0:TFrame):Option (TFrame) :=
 need (capb 1 p0.Body.length) <| some (TFrame.mk (THeader.mk p0.Head.Kind p0.Head.Sub p0.Head.ToDs p0.Head.FromDs p0.Head.More p0.Head.Retry p0.Head.Sleep p0.Head.MoreData p0.Head.Protected p0.Head.Duration (A6u8.mk p0.Head.A1.x0 p0.Head.A1.x1 p0.Head.A1.x2 p0.Head.A1.x3 p0.Head.A1.x4 p0.Head.A1.x5) (A6u8.mk p0.Head.A2.x0 p0.Head.A2.x1 p0.Head.A2.x2 p0.Head.A2.x3 p0.Head.A2.x4 p0.Head.A2.x5) (A6u8.mk p0.Head.A3.x0 p0.Head.A3.x1 p0.Head.A3.x2 p0.Head.A3.x3 p0.Head.A3.x4 p0.Head.A3.x5) (A6u8.mk p0.Head.A4.x0 p0.Head.A4.x1 p0.Head.A4.x2 p0.Head.A4.x3 p0.Head.A4.x4 p0.Head.A4.x5) p0.Head.Seq p0.Head.Frag p0.Head.Tid p0.Head.Ack p0.Head.Amsdu p0.Head.Eosp) ([] ++ p0.Body))
noncomputable def body44:List AV->List ABlk->ED
 | [v0],h=>.ed [] (aK 41 k_TFrame (roD (deadL h []) v0)/\roDOb (deadL h []) v0/\(F44 (g_TFrame (aL (roD (deadL h []) v0)))).isSome=true) (.agg (.int .u8 (((gt (F44 (g_TFrame (aL (roD (deadL h []) v0))))).Head).Kind)::.int .u8 (((gt (F44 (g_TFrame (aL (roD (deadL h []) v0))))).Head).Sub)::.bool (((gt (F44 (g_TFrame (aL (roD (deadL h []) v0))))).Head).ToDs)::.bool (((gt (F44 (g_TFrame (aL (roD (deadL h []) v0))))).Head).FromDs)::.bool (((gt (F44 (g_TFrame (aL (roD (deadL h []) v0))))).Head).More)::.bool (((gt (F44 (g_TFrame (aL (roD (deadL h []) v0))))).Head).Retry)::.bool (((gt (F44 (g_TFrame (aL (roD (deadL h []) v0))))).Head).Sleep)::.bool (((gt (F44 (g_TFrame (aL (roD (deadL h []) v0))))).Head).MoreData)::.bool (((gt (F44 (g_TFrame (aL (roD (deadL h []) v0))))).Head).Protected)::.int .i64 (((gt (F44 (g_TFrame (aL (roD (deadL h []) v0))))).Head).Duration)::.int .u8 ((((gt (F44 (g_TFrame (aL (roD (deadL h []) v0))))).Head).A1).x0)::.int .u8 ((((gt (F44 (g_TFrame (aL (roD (deadL h []) v0))))).Head).A1).x1)::.int .u8 ((((gt (F44 (g_TFrame (aL (roD (deadL h []) v0))))).Head).A1).x2)::.int .u8 ((((gt (F44 (g_TFrame (aL (roD (deadL h []) v0))))).Head).A1).x3)::.int .u8 ((((gt (F44 (g_TFrame (aL (roD (deadL h []) v0))))).Head).A1).x4)::.int .u8 ((((gt (F44 (g_TFrame (aL (roD (deadL h []) v0))))).Head).A1).x5)::.int .u8 ((((gt (F44 (g_TFrame (aL (roD (deadL h []) v0))))).Head).A2).x0)::.int .u8 ((((gt (F44 (g_TFrame (aL (roD (deadL h []) v0))))).Head).A2).x1)::.int .u8 ((((gt (F44 (g_TFrame (aL (roD (deadL h []) v0))))).Head).A2).x2)::.int .u8 ((((gt (F44 (g_TFrame (aL (roD (deadL h []) v0))))).Head).A2).x3)::.int .u8 ((((gt (F44 (g_TFrame (aL (roD (deadL h []) v0))))).Head).A2).x4)::.int .u8 ((((gt (F44 (g_TFrame (aL (roD (deadL h []) v0))))).Head).A2).x5)::.int .u8 ((((gt (F44 (g_TFrame (aL (roD (deadL h []) v0))))).Head).A3).x0)::.int .u8 ((((gt (F44 (g_TFrame (aL (roD (deadL h []) v0))))).Head).A3).x1)::.int .u8 ((((gt (F44 (g_TFrame (aL (roD (deadL h []) v0))))).Head).A3).x2)::.int .u8 ((((gt (F44 (g_TFrame (aL (roD (deadL h []) v0))))).Head).A3).x3)::.int .u8 ((((gt (F44 (g_TFrame (aL (roD (deadL h []) v0))))).Head).A3).x4)::.int .u8 ((((gt (F44 (g_TFrame (aL (roD (deadL h []) v0))))).Head).A3).x5)::.int .u8 ((((gt (F44 (g_TFrame (aL (roD (deadL h []) v0))))).Head).A4).x0)::.int .u8 ((((gt (F44 (g_TFrame (aL (roD (deadL h []) v0))))).Head).A4).x1)::.int .u8 ((((gt (F44 (g_TFrame (aL (roD (deadL h []) v0))))).Head).A4).x2)::.int .u8 ((((gt (F44 (g_TFrame (aL (roD (deadL h []) v0))))).Head).A4).x3)::.int .u8 ((((gt (F44 (g_TFrame (aL (roD (deadL h []) v0))))).Head).A4).x4)::.int .u8 ((((gt (F44 (g_TFrame (aL (roD (deadL h []) v0))))).Head).A4).x5)::.int .i64 (((gt (F44 (g_TFrame (aL (roD (deadL h []) v0))))).Head).Seq)::.int .i64 (((gt (F44 (g_TFrame (aL (roD (deadL h []) v0))))).Head).Frag)::.int .i64 (((gt (F44 (g_TFrame (aL (roD (deadL h []) v0))))).Head).Tid)::.int .u8 (((gt (F44 (g_TFrame (aL (roD (deadL h []) v0))))).Head).Ack)::.bool (((gt (F44 (g_TFrame (aL (roD (deadL h []) v0))))).Head).Amsdu)::.bool (((gt (F44 (g_TFrame (aL (roD (deadL h []) v0))))).Head).Eosp)::.sl 0 1 0 (((gt (F44 (g_TFrame (aL (roD (deadL h []) v0))))).Body).length) false::[])) [.row 5 1 (((gt (F44 (g_TFrame (aL (roD (deadL h []) v0))))).Body).length) (enR c_u8 ((gt (F44 (g_TFrame (aL (roD (deadL h []) v0))))).Body))]
 | _,_=>.fail
theorem ok44:FnOk Try.prog 44 (edC body44):=by
 refine edit_fnV body44 (rs:=[.cell 2 30]) Try.func44 (by kernel_rfl) rfl rfl ?_
 intro l h bs ob q0 g0 hb hob
 unfold body44 at hb
 split at hb
 ·rename_i v0
  injection hb with q1 q2 q3 q4;subst q1 q2 q3 q4
  obtain ⟨hk0_0,hk0_1,hob⟩:=hob
  obtain ⟨r,H⟩:=Option.isSome_iff_exists.1 hob
  rw [H,gt_some]
  have hw0:=wA_TFrame hk0_0
  obtain ⟨p0,hp_p0⟩:∃ p0,p0=g_TFrame (aL (roD (deadL h []) v0)):=⟨_,rfl⟩
  rw [← hp_p0] at H hw0
  refine ⟨[.agg (.int .u8 p0.Head.Kind::.int .u8 p0.Head.Sub::.bool p0.Head.ToDs::.bool p0.Head.FromDs::.bool p0.Head.More::.bool p0.Head.Retry::.bool p0.Head.Sleep::.bool p0.Head.MoreData::.bool p0.Head.Protected::.int .i64 p0.Head.Duration::.int .u8 p0.Head.A1.x0::.int .u8 p0.Head.A1.x1::.int .u8 p0.Head.A1.x2::.int .u8 p0.Head.A1.x3::.int .u8 p0.Head.A1.x4::.int .u8 p0.Head.A1.x5::.int .u8 p0.Head.A2.x0::.int .u8 p0.Head.A2.x1::.int .u8 p0.Head.A2.x2::.int .u8 p0.Head.A2.x3::.int .u8 p0.Head.A2.x4::.int .u8 p0.Head.A2.x5::.int .u8 p0.Head.A3.x0::.int .u8 p0.Head.A3.x1::.int .u8 p0.Head.A3.x2::.int .u8 p0.Head.A3.x3::.int .u8 p0.Head.A3.x4::.int .u8 p0.Head.A3.x5::.int .u8 p0.Head.A4.x0::.int .u8 p0.Head.A4.x1::.int .u8 p0.Head.A4.x2::.int .u8 p0.Head.A4.x3::.int .u8 p0.Head.A4.x4::.int .u8 p0.Head.A4.x5::.int .i64 p0.Head.Seq::.int .i64 p0.Head.Frag::.int .i64 p0.Head.Tid::.int .u8 p0.Head.Ack::.bool p0.Head.Amsdu::.bool p0.Head.Eosp::.ro 1 p0.Body.length false (enR c_u8 p0.Body)::[])],[],rfl,⟨(EW_view hk0_1 hw0),trivial⟩,trivial,trivial,⟨(nfB_en nr_u8),trivial⟩,⟨noroB_en,trivial⟩,(by first|(simp only [noro,noroL,and_self];done)|(simp only [noro,noroL];and_intros<;>first|trivial|exact noro_bif (by simp only [noro]) (by simp only [noro])|(simp only [noro,noroL,and_self]))),?_⟩
  rw [Try.ntmps44]
  simp only [List.length_cons,List.length_nil,Nat.reduceAdd,Nat.reduceSub,List.replicate_succ,List.replicate_zero,List.cons_append,List.nil_append]
  unfold F44 at H
  try dsimp only at H
  refine sq ctNo_ok ?_
  simp only [go_sem]
  refine seqM ?_
  obtain ⟨f1,H⟩:=need_some.1 H
  replace f1:=capb_iff.1 f1
  refine rg ctNo_ok ?_
  simp only [go_sem,Nat.reduceLeDiff,Nat.reduceLT,Nat.reduceAdd,f1]
  repeat ((with_reducible refine And.intro ?_ ?_);focus exact an3)
  refine sq ctNo_ok ?_
  simp only [go_sem,Nat.reduceLT,Nat.reduceAdd]
  repeat ((with_reducible refine And.intro ?_ ?_);focus exact an6)
  refine rg ctNo_ok ?_
  simp only [go_sem,Nat.reduceLT,Nat.reduceAdd]
  obtain rfl:=Option.some.inj H
  refine RetE_mk [] [some 3] ?_ ?_ ?_ ?_ (by rfl) (by rfl)
  ·simp only [go_sem]
   try exact at0
  ·simp only [go_sem]
   try exact at0
  ·simp only [go_sem]
   exact (by first|(simp [Cv,CvL,getM];done)|(simp [Cv,CvL,getM,gt_some];omega))
  ·simp only [go_sem,CvH]
   exact CvB_row nr_u8 cl (app_row (f:=c_u8) [] p0.Body (lit_row (f:=c_u8) [] (fun _ _=>rfl) rfl) (fun _ _ _ _=>rfl))
 ·cases hb
noncomputable def ct71t0:Ct:=tab [(44,edC body44)]
theorem ct71t0_ok:CtOk Try.prog ct71t0:=tab_cons ok44 <| tab_nil
theorem ct71t0_44 (l:List AV) (h:List ABlk):ct71t0 44 l h=edC body44 l h:=rfl
noncomputable def F71_L1 (p0:List TStored) (v1_1:List TStored) (v1_2:Int):Option (Lp ((List TStored) × Int) ((List TStored) ⊕ (List TStored))) :=
 bif (bLt v1_2 (p0.length:Nat)) then (need (inb v1_2 p0.length) <| (F44 (TFrame.mk (THeader.mk ((((gd p0 v1_2.toNat).Frame).Head).Kind) ((((gd p0 v1_2.toNat).Frame).Head).Sub) ((((gd p0 v1_2.toNat).Frame).Head).ToDs) ((((gd p0 v1_2.toNat).Frame).Head).FromDs) ((((gd p0 v1_2.toNat).Frame).Head).More) ((((gd p0 v1_2.toNat).Frame).Head).Retry) ((((gd p0 v1_2.toNat).Frame).Head).Sleep) ((((gd p0 v1_2.toNat).Frame).Head).MoreData) ((((gd p0 v1_2.toNat).Frame).Head).Protected) ((((gd p0 v1_2.toNat).Frame).Head).Duration) (A6u8.mk (((((gd p0 v1_2.toNat).Frame).Head).A1).x0) (((((gd p0 v1_2.toNat).Frame).Head).A1).x1) (((((gd p0 v1_2.toNat).Frame).Head).A1).x2) (((((gd p0 v1_2.toNat).Frame).Head).A1).x3) (((((gd p0 v1_2.toNat).Frame).Head).A1).x4) (((((gd p0 v1_2.toNat).Frame).Head).A1).x5)) (A6u8.mk (((((gd p0 v1_2.toNat).Frame).Head).A2).x0) (((((gd p0 v1_2.toNat).Frame).Head).A2).x1) (((((gd p0 v1_2.toNat).Frame).Head).A2).x2) (((((gd p0 v1_2.toNat).Frame).Head).A2).x3) (((((gd p0 v1_2.toNat).Frame).Head).A2).x4) (((((gd p0 v1_2.toNat).Frame).Head).A2).x5)) (A6u8.mk (((((gd p0 v1_2.toNat).Frame).Head).A3).x0) (((((gd p0 v1_2.toNat).Frame).Head).A3).x1) (((((gd p0 v1_2.toNat).Frame).Head).A3).x2) (((((gd p0 v1_2.toNat).Frame).Head).A3).x3) (((((gd p0 v1_2.toNat).Frame).Head).A3).x4) (((((gd p0 v1_2.toNat).Frame).Head).A3).x5)) (A6u8.mk (((((gd p0 v1_2.toNat).Frame).Head).A4).x0) (((((gd p0 v1_2.toNat).Frame).Head).A4).x1) (((((gd p0 v1_2.toNat).Frame).Head).A4).x2) (((((gd p0 v1_2.toNat).Frame).Head).A4).x3) (((((gd p0 v1_2.toNat).Frame).Head).A4).x4) (((((gd p0 v1_2.toNat).Frame).Head).A4).x5)) ((((gd p0 v1_2.toNat).Frame).Head).Seq) ((((gd p0 v1_2.toNat).Frame).Head).Frag) ((((gd p0 v1_2.toNat).Frame).Head).Tid) ((((gd p0 v1_2.toNat).Frame).Head).Ack) ((((gd p0 v1_2.toNat).Frame).Head).Amsdu) ((((gd p0 v1_2.toNat).Frame).Head).Eosp)) (((gd p0 v1_2.toNat).Frame).Body))).bind fun r2=>need (capb 120 (v1_1.length+1)) <| some (.next ((v1_1 ++ [(TStored.mk ((gd p0 v1_2.toNat).Cat) ((gd p0 v1_2.toNat).At) (TFrame.mk (THeader.mk r2.Head.Kind r2.Head.Sub r2.Head.ToDs r2.Head.FromDs r2.Head.More r2.Head.Retry r2.Head.Sleep r2.Head.MoreData r2.Head.Protected r2.Head.Duration (A6u8.mk r2.Head.A1.x0 r2.Head.A1.x1 r2.Head.A1.x2 r2.Head.A1.x3 r2.Head.A1.x4 r2.Head.A1.x5) (A6u8.mk r2.Head.A2.x0 r2.Head.A2.x1 r2.Head.A2.x2 r2.Head.A2.x3 r2.Head.A2.x4 r2.Head.A2.x5) (A6u8.mk r2.Head.A3.x0 r2.Head.A3.x1 r2.Head.A3.x2 r2.Head.A3.x3 r2.Head.A3.x4 r2.Head.A3.x5) (A6u8.mk r2.Head.A4.x0 r2.Head.A4.x1 r2.Head.A4.x2 r2.Head.A4.x3 r2.Head.A4.x4 r2.Head.A4.x5) r2.Head.Seq r2.Head.Frag r2.Head.Tid r2.Head.Ack r2.Head.Amsdu r2.Head.Eosp) r2.Body))]),wr .i64 (v1_2+1)))) else (some (.done (.inl v1_1)))
noncomputable def F71 (p0:List TStored):Option (List TStored) :=
 lp (loopD (fun s=>F71_L1 p0 s.1 s.2) ([],0)) (fun w1_3=>some w1_3) some
noncomputable def body71:List AV->Nat->AR
 | [v0],s=>.heap (lK k_TStored 43 v0/\(F71 (lA g_TStored v0)).isSome=true) (.sl s 43 0 ((gt (F71 (lA g_TStored v0))).length) false) [.row 73 43 ((gt (F71 (lA g_TStored v0))).length) (enR c_TStored (gt (F71 (lA g_TStored v0))))]
 | _,_=>.fail
theorem ok71:FnOk Try.prog 71 (genC body71):=by
 refine gen_fn body71 (rs:=[.tmp 2]) Try.func71 (by kernel_rfl) rfl rfl ?_
 intro l s ob v ns hb hob
 rcases hb with ⟨hb,rfl⟩|hb
 ·unfold body71 at hb
  split at hb<;>cases hb
 ·unfold body71 at hb
  split at hb
  ·rename_i v0
   injection hb with q1 q2 q3;subst q1 q2 q3
   obtain ⟨hk0_0,hob⟩:=hob
   obtain ⟨r,H⟩:=Option.isSome_iff_exists.1 hob
   rw [H,gt_some]
   have hw0:=lK_wk (fun r h=>w_TStored h) hk0_0
   generalize lA g_TStored v0=p0 at H hw0
   refine ⟨[.ro 43 p0.length false (enR c_TStored p0)],.sl 0 43 0 r.length false,[.row 73 43 r.length (enR c_TStored r)],(fun E vs F=>FR_wk1 hw0.1 F (fun vs F=>F)),by simp only [ren,rnN_0],⟨RenB_row nr_TStored,trivial⟩,?_⟩
   rw [Try.ntmps71]
   simp only [List.length_cons,List.length_nil,Nat.reduceAdd,Nat.reduceSub,List.replicate_succ,List.replicate_zero,List.cons_append,List.nil_append]
   unfold F71 at H
   try dsimp only at H
   refine sq ctNo_ok ?_
   simp only [go_sem]
   refine seqM ?_
   refine sq ctNo_ok ?_
   simp only [go_sem]
   repeat ((with_reducible refine And.intro ?_ ?_);focus exact an0)
   refine blkM ?_
   refine loop_den (fun s:(List TStored) × Int=>(.top::.top::.sl 0 43 0 s.1.length false::.top::.top::.ro 43 p0.length false (enR c_TStored p0)::.int .i64 (p0.length:Nat)::.int .i64 s.2::tp 13 [])) (fun s=>[.row 73 43 s.1.length (enR c_TStored s.1)]) (fun e:List TStored=>(.top::.top::.sl 0 43 0 e.length false::tp 18 [])) (fun e=>[.row 73 43 e.length (enR c_TStored e)]) H ?_ (fun s o H hn1_1 hn2_1=>?_) (fun w1_3 H=>?_)
   ·refine SubF_of ⟨[none],?_,?_,by rfl,by rfl⟩
    ·simp [CvL,Cv,tp]
    ·exact ⟨CvB_none,trivial⟩
   ·obtain ⟨v1_1,v1_2⟩:=s
    unfold F71_L1 at H
    try dsimp only at H ⊢
    try simp only [tp]
    refine sq ctNo_ok ?_
    simp only [go_sem]
    refine seqM ?_
    refine condM' rfl trivial (fun hc=>?_) (fun hc=>?_)
    ·replace H:=cond_f hc H
     refine rg ctNo_ok ?_
     simp only [go_sem]
     refine ⟨_,(Option.some.inj H).symm,?_⟩
     refine SubF_of ⟨[some 0],?_,?_,by rfl,by rfl⟩
     ·simp [CvL,Cv,getM]
     ·exact ⟨CvB_row nr_TStored cl (fun _ _ _ _=>rfl),trivial⟩
    replace H:=cond_t hc H
    refine rg ctNo_ok ?_
    simp only [go_sem]
    refine seqM ?_
    refine blkM ?_
    refine seqM ?_
    obtain ⟨f1,H⟩:=need_some.1 H
    replace f1:=inb_iff.1 f1
    refine rg ctNo_ok ?_
    simp only [go_sem,Nat.reduceLT,Nat.reduceAdd,f1]
    repeat ((with_reducible refine And.intro ?_ ?_);focus exact an6)
    refine seqM ?_
    obtain ⟨r2,e3,H⟩:=bsi H
    refine rg ct71t0_ok ?_
    simp only [go_sem,Nat.reduceLT,Nat.reduceAdd,reduceCtorEq,ct71t0_44,body44,e3]
    repeat ((with_reducible refine And.intro ?_ ?_);focus exact an0)
    refine regO ?_
    refine cutO shT_ok ctNo_ok 2 ?_
    simp only [kO_normal,List.take_succ_cons,List.take_zero,List.drop_succ_cons,List.drop_zero,go_sem,Nat.reduceLT,Nat.reduceAdd]
    repeat ((with_reducible refine And.intro ?_ ?_);focus exact an4)
    refine fzO [2] ?_ ?_
    ·simp only [go_sem,Nat.reduceBEq]
     try exact at0
    simp only [go_sem,Nat.reduceBEq,Nat.reduceAdd]
    obtain ⟨f4,H⟩:=need_some.1 H
    replace f4:=capb_iff.1 f4
    refine cutO shT_ok ctNo_ok 3 ?_
    simp only [kO_normal,List.take_succ_cons,List.take_zero,List.drop_succ_cons,List.drop_zero,go_sem,Nat.reduceLeDiff,Nat.reduceAdd,Nat.reduceBEq,f4]
    repeat ((with_reducible refine And.intro ?_ ?_);focus exact an3)
    refine endO ?_
    refine rg ctNo_ok ?_
    simp only [go_sem]
    refine ⟨_,(Option.some.inj H).symm,?_⟩
    refine SubF_of ⟨[some 4],?_,?_,by rfl,by rfl⟩
    ·simp [CvL,Cv,getM]
    ·exact ⟨CvB_row nr_TStored cl (app_row (f:=c_TStored) v1_1 [(TStored.mk ((gd p0 v1_2.toNat).Cat) ((gd p0 v1_2.toNat).At) (TFrame.mk (THeader.mk r2.Head.Kind r2.Head.Sub r2.Head.ToDs r2.Head.FromDs r2.Head.More r2.Head.Retry r2.Head.Sleep r2.Head.MoreData r2.Head.Protected r2.Head.Duration (A6u8.mk r2.Head.A1.x0 r2.Head.A1.x1 r2.Head.A1.x2 r2.Head.A1.x3 r2.Head.A1.x4 r2.Head.A1.x5) (A6u8.mk r2.Head.A2.x0 r2.Head.A2.x1 r2.Head.A2.x2 r2.Head.A2.x3 r2.Head.A2.x4 r2.Head.A2.x5) (A6u8.mk r2.Head.A3.x0 r2.Head.A3.x1 r2.Head.A3.x2 r2.Head.A3.x3 r2.Head.A3.x4 r2.Head.A3.x5) (A6u8.mk r2.Head.A4.x0 r2.Head.A4.x1 r2.Head.A4.x2 r2.Head.A4.x3 r2.Head.A4.x4 r2.Head.A4.x5) r2.Head.Seq r2.Head.Frag r2.Head.Tid r2.Head.Ack r2.Head.Amsdu r2.Head.Eosp) r2.Body))] (fun _ _ _ _=>rfl) (lit_row (f:=c_TStored) [(TStored.mk ((gd p0 v1_2.toNat).Cat) ((gd p0 v1_2.toNat).At) (TFrame.mk (THeader.mk r2.Head.Kind r2.Head.Sub r2.Head.ToDs r2.Head.FromDs r2.Head.More r2.Head.Retry r2.Head.Sleep r2.Head.MoreData r2.Head.Protected r2.Head.Duration (A6u8.mk r2.Head.A1.x0 r2.Head.A1.x1 r2.Head.A1.x2 r2.Head.A1.x3 r2.Head.A1.x4 r2.Head.A1.x5) (A6u8.mk r2.Head.A2.x0 r2.Head.A2.x1 r2.Head.A2.x2 r2.Head.A2.x3 r2.Head.A2.x4 r2.Head.A2.x5) (A6u8.mk r2.Head.A3.x0 r2.Head.A3.x1 r2.Head.A3.x2 r2.Head.A3.x3 r2.Head.A3.x4 r2.Head.A3.x5) (A6u8.mk r2.Head.A4.x0 r2.Head.A4.x1 r2.Head.A4.x2 r2.Head.A4.x3 r2.Head.A4.x4 r2.Head.A4.x5) r2.Head.Seq r2.Head.Frag r2.Head.Tid r2.Head.Ack r2.Head.Amsdu r2.Head.Eosp) r2.Body))] (fun _ _=>rfl) rfl)),trivial⟩
   ·try dsimp only at H ⊢
    try simp only [tp]
    try simp only [m_normal]
    refine sq ctNo_ok ?_
    simp only [go_sem]
    refine rg ctNo_ok ?_
    simp only [go_sem]
    obtain rfl:=Option.some.inj H
    refine ⟨[],?_,?_,[some 0],?_,?_,by rfl⟩
    ·simp only [go_sem]
    ·simp only [go_sem]
    ·simp [fzV,inL,Cv,getM]
     all_goals first|exact cl
    ·simp only [go_sem,CvH]
     exact CvB_row nr_TStored cl (fun _ _ _ _=>rfl)
  ·cases hb
noncomputable def ct71_0t0:Ct:=tab [(44,edC body44)]
theorem ct71_0t0_ok:CtOk Try.prog ct71_0t0:=tab_cons ok44 <| tab_nil
theorem ct71_0t0_44 (l:List AV) (h:List ABlk):ct71_0t0 44 l h=edC body44 l h:=rfl
noncomputable def F71_0_L1 (p0:List TStored) (v1_1:List TStored) (v1_2:Int):Option (Lp ((List TStored) × Int) ((List TStored) ⊕ (List TStored))) :=
 bif (bLt v1_2 (p0.length:Nat)) then (need (inb v1_2 p0.length) <| (F44 (TFrame.mk (THeader.mk ((((gd p0 v1_2.toNat).Frame).Head).Kind) ((((gd p0 v1_2.toNat).Frame).Head).Sub) ((((gd p0 v1_2.toNat).Frame).Head).ToDs) ((((gd p0 v1_2.toNat).Frame).Head).FromDs) ((((gd p0 v1_2.toNat).Frame).Head).More) ((((gd p0 v1_2.toNat).Frame).Head).Retry) ((((gd p0 v1_2.toNat).Frame).Head).Sleep) ((((gd p0 v1_2.toNat).Frame).Head).MoreData) ((((gd p0 v1_2.toNat).Frame).Head).Protected) ((((gd p0 v1_2.toNat).Frame).Head).Duration) (A6u8.mk (((((gd p0 v1_2.toNat).Frame).Head).A1).x0) (((((gd p0 v1_2.toNat).Frame).Head).A1).x1) (((((gd p0 v1_2.toNat).Frame).Head).A1).x2) (((((gd p0 v1_2.toNat).Frame).Head).A1).x3) (((((gd p0 v1_2.toNat).Frame).Head).A1).x4) (((((gd p0 v1_2.toNat).Frame).Head).A1).x5)) (A6u8.mk (((((gd p0 v1_2.toNat).Frame).Head).A2).x0) (((((gd p0 v1_2.toNat).Frame).Head).A2).x1) (((((gd p0 v1_2.toNat).Frame).Head).A2).x2) (((((gd p0 v1_2.toNat).Frame).Head).A2).x3) (((((gd p0 v1_2.toNat).Frame).Head).A2).x4) (((((gd p0 v1_2.toNat).Frame).Head).A2).x5)) (A6u8.mk (((((gd p0 v1_2.toNat).Frame).Head).A3).x0) (((((gd p0 v1_2.toNat).Frame).Head).A3).x1) (((((gd p0 v1_2.toNat).Frame).Head).A3).x2) (((((gd p0 v1_2.toNat).Frame).Head).A3).x3) (((((gd p0 v1_2.toNat).Frame).Head).A3).x4) (((((gd p0 v1_2.toNat).Frame).Head).A3).x5)) (A6u8.mk (((((gd p0 v1_2.toNat).Frame).Head).A4).x0) (((((gd p0 v1_2.toNat).Frame).Head).A4).x1) (((((gd p0 v1_2.toNat).Frame).Head).A4).x2) (((((gd p0 v1_2.toNat).Frame).Head).A4).x3) (((((gd p0 v1_2.toNat).Frame).Head).A4).x4) (((((gd p0 v1_2.toNat).Frame).Head).A4).x5)) ((((gd p0 v1_2.toNat).Frame).Head).Seq) ((((gd p0 v1_2.toNat).Frame).Head).Frag) ((((gd p0 v1_2.toNat).Frame).Head).Tid) ((((gd p0 v1_2.toNat).Frame).Head).Ack) ((((gd p0 v1_2.toNat).Frame).Head).Amsdu) ((((gd p0 v1_2.toNat).Frame).Head).Eosp)) (((gd p0 v1_2.toNat).Frame).Body))).bind fun r2=>need (capb 120 (v1_1.length+1)) <| some (.next ((v1_1 ++ [(TStored.mk ((gd p0 v1_2.toNat).Cat) ((gd p0 v1_2.toNat).At) (TFrame.mk (THeader.mk r2.Head.Kind r2.Head.Sub r2.Head.ToDs r2.Head.FromDs r2.Head.More r2.Head.Retry r2.Head.Sleep r2.Head.MoreData r2.Head.Protected r2.Head.Duration (A6u8.mk r2.Head.A1.x0 r2.Head.A1.x1 r2.Head.A1.x2 r2.Head.A1.x3 r2.Head.A1.x4 r2.Head.A1.x5) (A6u8.mk r2.Head.A2.x0 r2.Head.A2.x1 r2.Head.A2.x2 r2.Head.A2.x3 r2.Head.A2.x4 r2.Head.A2.x5) (A6u8.mk r2.Head.A3.x0 r2.Head.A3.x1 r2.Head.A3.x2 r2.Head.A3.x3 r2.Head.A3.x4 r2.Head.A3.x5) (A6u8.mk r2.Head.A4.x0 r2.Head.A4.x1 r2.Head.A4.x2 r2.Head.A4.x3 r2.Head.A4.x4 r2.Head.A4.x5) r2.Head.Seq r2.Head.Frag r2.Head.Tid r2.Head.Ack r2.Head.Amsdu r2.Head.Eosp) r2.Body))]),wr .i64 (v1_2+1)))) else (some (.done (.inl v1_1)))
noncomputable def F71_0 (p0:List TStored):Option (List TStored) :=
 lp (loopD (fun s=>F71_0_L1 p0 s.1 s.2) ([],0)) (fun w1_3=>some w1_3) some
noncomputable def body71_0:List AV->Nat->AR
 | [v0],_=>.pure (lK k_TStored 43 v0/\(F71_0 (lA g_TStored v0)).isSome=true) (.ro 43 ((gt (F71_0 (lA g_TStored v0))).length) false (enR c_TStored (gt (F71_0 (lA g_TStored v0)))))
 | _,_=>.fail
theorem ok71_0:FnOk Try.prog 71 (genC body71_0):=by
 refine gen_fn body71_0 (rs:=[.tmp 2]) Try.func71 (by kernel_rfl) rfl rfl ?_
 intro l s ob v ns hb hob
 rcases hb with ⟨hb,rfl⟩|hb
 ·unfold body71_0 at hb
  split at hb
  ·rename_i v0
   injection hb with q1 q2;subst q1 q2
   obtain ⟨hk0_0,hob⟩:=hob
   obtain ⟨r,H⟩:=Option.isSome_iff_exists.1 hob
   rw [H,gt_some]
   have hw0:=lK_wk (fun r h=>w_TStored h) hk0_0
   generalize lA g_TStored v0=p0 at H hw0
   refine ⟨[.ro 43 p0.length false (enR c_TStored p0)],.ro 43 r.length false (enR c_TStored r),[],(fun E vs F=>FR_wk1 hw0.1 F (fun vs F=>F)),by simp only [ren],trivial,?_⟩
   rw [Try.ntmps71]
   simp only [List.length_cons,List.length_nil,Nat.reduceAdd,Nat.reduceSub,List.replicate_succ,List.replicate_zero,List.cons_append,List.nil_append]
   unfold F71_0 at H
   try dsimp only at H
   refine sq ctNo_ok ?_
   simp only [go_sem]
   refine seqM ?_
   refine sq ctNo_ok ?_
   simp only [go_sem]
   repeat ((with_reducible refine And.intro ?_ ?_);focus exact an0)
   refine blkM ?_
   refine loop_den (fun s:(List TStored) × Int=>(.top::.top::.sl 0 43 0 s.1.length false::.top::.top::.ro 43 p0.length false (enR c_TStored p0)::.int .i64 (p0.length:Nat)::.int .i64 s.2::tp 13 [])) (fun s=>[.row 73 43 s.1.length (enR c_TStored s.1)]) (fun e:List TStored=>(.top::.top::.sl 0 43 0 e.length false::tp 18 [])) (fun e=>[.row 73 43 e.length (enR c_TStored e)]) H ?_ (fun s o H hn1_1 hn2_1=>?_) (fun w1_3 H=>?_)
   ·refine SubF_of ⟨[none],?_,?_,by rfl,by rfl⟩
    ·simp [CvL,Cv,tp]
    ·exact ⟨CvB_none,trivial⟩
   ·obtain ⟨v1_1,v1_2⟩:=s
    unfold F71_0_L1 at H
    try dsimp only at H ⊢
    try simp only [tp]
    refine sq ctNo_ok ?_
    simp only [go_sem]
    refine seqM ?_
    refine condM' rfl trivial (fun hc=>?_) (fun hc=>?_)
    ·replace H:=cond_f hc H
     refine rg ctNo_ok ?_
     simp only [go_sem]
     refine ⟨_,(Option.some.inj H).symm,?_⟩
     refine SubF_of ⟨[some 0],?_,?_,by rfl,by rfl⟩
     ·simp [CvL,Cv,getM]
     ·exact ⟨CvB_row nr_TStored cl (fun _ _ _ _=>rfl),trivial⟩
    replace H:=cond_t hc H
    refine rg ctNo_ok ?_
    simp only [go_sem]
    refine seqM ?_
    refine blkM ?_
    refine seqM ?_
    obtain ⟨f1,H⟩:=need_some.1 H
    replace f1:=inb_iff.1 f1
    refine rg ctNo_ok ?_
    simp only [go_sem,Nat.reduceLT,Nat.reduceAdd,f1]
    repeat ((with_reducible refine And.intro ?_ ?_);focus exact an6)
    refine seqM ?_
    obtain ⟨r2,e3,H⟩:=bsi H
    refine rg ct71_0t0_ok ?_
    simp only [go_sem,Nat.reduceLT,Nat.reduceAdd,reduceCtorEq,ct71_0t0_44,body44,e3]
    repeat ((with_reducible refine And.intro ?_ ?_);focus exact an0)
    refine regO ?_
    refine cutO shT_ok ctNo_ok 2 ?_
    simp only [kO_normal,List.take_succ_cons,List.take_zero,List.drop_succ_cons,List.drop_zero,go_sem,Nat.reduceLT,Nat.reduceAdd]
    repeat ((with_reducible refine And.intro ?_ ?_);focus exact an4)
    refine fzO [2] ?_ ?_
    ·simp only [go_sem,Nat.reduceBEq]
     try exact at0
    simp only [go_sem,Nat.reduceBEq,Nat.reduceAdd]
    obtain ⟨f4,H⟩:=need_some.1 H
    replace f4:=capb_iff.1 f4
    refine cutO shT_ok ctNo_ok 3 ?_
    simp only [kO_normal,List.take_succ_cons,List.take_zero,List.drop_succ_cons,List.drop_zero,go_sem,Nat.reduceLeDiff,Nat.reduceAdd,Nat.reduceBEq,f4]
    repeat ((with_reducible refine And.intro ?_ ?_);focus exact an3)
    refine endO ?_
    refine rg ctNo_ok ?_
    simp only [go_sem]
    refine ⟨_,(Option.some.inj H).symm,?_⟩
    refine SubF_of ⟨[some 4],?_,?_,by rfl,by rfl⟩
    ·simp [CvL,Cv,getM]
    ·exact ⟨CvB_row nr_TStored cl (app_row (f:=c_TStored) v1_1 [(TStored.mk ((gd p0 v1_2.toNat).Cat) ((gd p0 v1_2.toNat).At) (TFrame.mk (THeader.mk r2.Head.Kind r2.Head.Sub r2.Head.ToDs r2.Head.FromDs r2.Head.More r2.Head.Retry r2.Head.Sleep r2.Head.MoreData r2.Head.Protected r2.Head.Duration (A6u8.mk r2.Head.A1.x0 r2.Head.A1.x1 r2.Head.A1.x2 r2.Head.A1.x3 r2.Head.A1.x4 r2.Head.A1.x5) (A6u8.mk r2.Head.A2.x0 r2.Head.A2.x1 r2.Head.A2.x2 r2.Head.A2.x3 r2.Head.A2.x4 r2.Head.A2.x5) (A6u8.mk r2.Head.A3.x0 r2.Head.A3.x1 r2.Head.A3.x2 r2.Head.A3.x3 r2.Head.A3.x4 r2.Head.A3.x5) (A6u8.mk r2.Head.A4.x0 r2.Head.A4.x1 r2.Head.A4.x2 r2.Head.A4.x3 r2.Head.A4.x4 r2.Head.A4.x5) r2.Head.Seq r2.Head.Frag r2.Head.Tid r2.Head.Ack r2.Head.Amsdu r2.Head.Eosp) r2.Body))] (fun _ _ _ _=>rfl) (lit_row (f:=c_TStored) [(TStored.mk ((gd p0 v1_2.toNat).Cat) ((gd p0 v1_2.toNat).At) (TFrame.mk (THeader.mk r2.Head.Kind r2.Head.Sub r2.Head.ToDs r2.Head.FromDs r2.Head.More r2.Head.Retry r2.Head.Sleep r2.Head.MoreData r2.Head.Protected r2.Head.Duration (A6u8.mk r2.Head.A1.x0 r2.Head.A1.x1 r2.Head.A1.x2 r2.Head.A1.x3 r2.Head.A1.x4 r2.Head.A1.x5) (A6u8.mk r2.Head.A2.x0 r2.Head.A2.x1 r2.Head.A2.x2 r2.Head.A2.x3 r2.Head.A2.x4 r2.Head.A2.x5) (A6u8.mk r2.Head.A3.x0 r2.Head.A3.x1 r2.Head.A3.x2 r2.Head.A3.x3 r2.Head.A3.x4 r2.Head.A3.x5) (A6u8.mk r2.Head.A4.x0 r2.Head.A4.x1 r2.Head.A4.x2 r2.Head.A4.x3 r2.Head.A4.x4 r2.Head.A4.x5) r2.Head.Seq r2.Head.Frag r2.Head.Tid r2.Head.Ack r2.Head.Amsdu r2.Head.Eosp) r2.Body))] (fun _ _=>rfl) rfl)),trivial⟩
   ·try dsimp only at H ⊢
    try simp only [tp]
    try simp only [m_normal]
    refine sq ctNo_ok ?_
    simp only [go_sem]
    refine rg ctNo_ok ?_
    simp only [go_sem]
    obtain rfl:=Option.some.inj H
    refine ⟨[0],?_,?_,[],?_,?_,rfl⟩
    ·simp only [go_sem]
     try exact at0
    ·simp only [go_sem]
     try exact at0
    ·simp only [go_sem]
     exact (ro_row (by first|rfl|simp) (fun _ _ _ _=>rfl))
    ·simp only [go_sem,CvH]
  ·cases hb
 ·unfold body71_0 at hb
  split at hb<;>cases hb
noncomputable def ct54t0:Ct:=tab [(72,genC body72)]
theorem ct54t0_ok:CtOk Try.prog ct54t0:=tab_cons ok72 <| tab_nil
theorem ct54t0_72 (l:List AV) (h:List ABlk):ct54t0 72 l h=genC body72 l h:=rfl
noncomputable def ct54t1:Ct:=tab [(71,genC body71_0)]
theorem ct54t1_ok:CtOk Try.prog ct54t1:=tab_cons ok71_0 <| tab_nil
theorem ct54t1_71 (l:List AV) (h:List ABlk):ct54t1 71 l h=genC body71_0 l h:=rfl
noncomputable def ct54t2:Ct:=tab [(71,genC body71)]
theorem ct54t2_ok:CtOk Try.prog ct54t2:=tab_cons ok71 <| tab_nil
theorem ct54t2_71 (l:List AV) (h:List ABlk):ct54t2 71 l h=genC body71 l h:=rfl
noncomputable def F54_L1 (r1:List TSleeper) (v1_1:Int) (v1_2:List TSleeper):Option (Lp (Int × (List TSleeper)) ((List TSleeper) ⊕ (TBuffer))) :=
 bif (bLt v1_1 (r1.length:Nat)) then (need (inb v1_1 v1_2.length) <| (F71_0 ((gd v1_2 v1_1.toNat).Held)).bind fun r4=>need (inb v1_1 v1_2.length) <| some (.next (wr .i64 (v1_1+1),(v1_2.set v1_1.toNat (TSleeper.mk ((gd v1_2 v1_1.toNat).Aid) ((gd v1_2 v1_1.toNat).Asleep) r4))))) else (some (.done (.inl v1_2)))
noncomputable def F54 (p0:TBuffer):Option (TBuffer) :=
 (F72 p0.List).bind fun r1=>lp (loopD (fun s=>F54_L1 r1 s.1 s.2) (0,r1)) (fun w1_3=>(F71 p0.Group).bind fun r7=>some (TBuffer.mk p0.Limit p0.Stay w1_3 r7)) some
noncomputable def body54:List AV->Nat->AR
 | [v0],s=>.heap (aK 4 k_TBuffer v0/\(F54 (g_TBuffer (aL v0))).isSome=true) (.agg [.int .i64 ((gt (F54 (g_TBuffer (aL v0)))).Limit),.int .i64 ((gt (F54 (g_TBuffer (aL v0)))).Stay),.sl s 3 0 (((gt (F54 (g_TBuffer (aL v0)))).List).length) false,.sl (s+1) 43 0 (((gt (F54 (g_TBuffer (aL v0)))).Group).length) false]) [.row 71 3 (((gt (F54 (g_TBuffer (aL v0)))).List).length) (enR c_TSleeper ((gt (F54 (g_TBuffer (aL v0)))).List)),.row 73 43 (((gt (F54 (g_TBuffer (aL v0)))).Group).length) (enR c_TStored ((gt (F54 (g_TBuffer (aL v0)))).Group))]
 | _,_=>.fail
theorem ok54:FnOk Try.prog 54 (genC body54):=by
 refine gen_fn body54 (rs:=[.cell 2 52]) Try.func54 (by kernel_rfl) rfl rfl ?_
 intro l s ob v ns hb hob
 rcases hb with ⟨hb,rfl⟩|hb
 ·unfold body54 at hb
  split at hb<;>cases hb
 ·unfold body54 at hb
  split at hb
  ·rename_i v0
   injection hb with q1 q2 q3;subst q1 q2 q3
   obtain ⟨hk0_0,hob⟩:=hob
   obtain ⟨r,H⟩:=Option.isSome_iff_exists.1 hob
   rw [H,gt_some]
   have hw0:=wA_TBuffer hk0_0
   generalize g_TBuffer (aL v0)=p0 at H hw0
   refine ⟨[.agg [.int .i64 p0.Limit,.int .i64 p0.Stay,.ro 3 p0.List.length false (enR c_TSleeper p0.List),.ro 43 p0.Group.length false (enR c_TStored p0.Group)]],.agg [.int .i64 r.Limit,.int .i64 r.Stay,.sl 0 3 0 r.List.length false,.sl 1 43 0 r.Group.length false],[.row 71 3 r.List.length (enR c_TSleeper r.List),.row 73 43 r.Group.length (enR c_TStored r.Group)],(fun E vs F=>FR_wk1 hw0.1 F (fun vs F=>F)),by simp only [ren,renL,rnN_0,rnN_s,Nat.zero_add],⟨RenB_row nr_TSleeper,RenB_row nr_TStored,trivial⟩,?_⟩
   rw [Try.ntmps54]
   simp only [List.length_cons,List.length_nil,Nat.reduceAdd,Nat.reduceSub,List.replicate_succ,List.replicate_zero,List.cons_append,List.nil_append]
   unfold F54 at H
   try dsimp only at H
   refine sq ctNo_ok ?_
   simp only [go_sem]
   refine sq ctNo_ok ?_
   simp only [go_sem]
   refine seqM ?_
   obtain ⟨r1,e2,H⟩:=bsi H
   refine rg ct54t0_ok ?_
   simp only [go_sem,Nat.reduceLeDiff,Nat.reduceLT,Nat.reduceAdd,ct54t0_72,body72,e2]
   repeat ((with_reducible refine And.intro ?_ ?_);focus exact an0)
   refine seqM ?_
   refine sq ctNo_ok ?_
   simp only [go_sem,Nat.reduceLeDiff,Nat.reduceLT,Nat.reduceAdd]
   repeat ((with_reducible refine And.intro ?_ ?_);focus exact an0)
   refine blkM ?_
   refine loop_den (fun s:Int × (List TSleeper)=>(.top::.ptr 0 0 0 0::.ptr 1 0 0 0::.fn 71 []::tp 7 (.int .i64 (r1.length:Nat)::.int .i64 s.1::tp 22 []))) (fun s=>[.lit 52 [.int .i64 p0.Limit,.int .i64 p0.Stay,.sl 3 3 0 s.2.length false,.ro 43 p0.Group.length false (enR c_TStored p0.Group)],.lit 52 [.int .i64 0,.int .i64 0,.ro 0 0 true (fun _ _=>.top),.ro 0 0 true (fun _ _=>.top)],.dead,.row 71 3 s.2.length (enR c_TSleeper s.2)]) (fun e:List TSleeper=>(.top::.ptr 0 0 0 0::.ptr 1 0 0 0::.fn 71 []::tp 31 [])) (fun e=>[.lit 52 [.int .i64 p0.Limit,.int .i64 p0.Stay,.sl 3 3 0 e.length false,.ro 43 p0.Group.length false (enR c_TStored p0.Group)],.lit 52 [.int .i64 0,.int .i64 0,.ro 0 0 true (fun _ _=>.top),.ro 0 0 true (fun _ _=>.top)],.dead,.row 71 3 e.length (enR c_TSleeper e)]) H ?_ (fun s o H hn1_1 hn2_1=>?_) (fun w1_3 H=>?_)
   ·refine SubF_of ⟨[some 0,some 1,some 2,some 2],?_,?_,by rfl,by rfl⟩
    ·simp [CvL,Cv,getM,tp]
    ·exact ⟨cv,cv,CvB_dead,CvB_row nr_TSleeper cl (fun _ _ _ _=>rfl),trivial⟩
   ·obtain ⟨v1_1,v1_2⟩:=s
    unfold F54_L1 at H
    try dsimp only at H ⊢
    try simp only [tp]
    refine sq ctNo_ok ?_
    simp only [go_sem,Nat.reduceAdd]
    refine seqM ?_
    refine condM' rfl trivial (fun hc=>?_) (fun hc=>?_)
    ·replace H:=cond_f hc H
     refine rg ctNo_ok ?_
     simp only [go_sem]
     refine ⟨_,(Option.some.inj H).symm,?_⟩
     refine SubF_of ⟨[some 0,some 1,some 2,some 3],?_,?_,by rfl,by rfl⟩
     ·simp [CvL,Cv,getM]
     ·exact ⟨cv,cv,CvB_dead,CvB_row nr_TSleeper cl (fun _ _ _ _=>rfl),trivial⟩
    replace H:=cond_t hc H
    refine rg ctNo_ok ?_
    simp only [go_sem]
    refine seqM ?_
    refine blkM ?_
    refine sq ctNo_ok ?_
    simp only [go_sem]
    obtain ⟨f3,H⟩:=need_some.1 H
    replace f3:=inb_iff.1 f3
    obtain ⟨r4,e5,H⟩:=bsi H
    obtain ⟨f6,H⟩:=need_some.1 H
    replace f6:=inb_iff.1 f6
    refine draw_rule shT_ok ct54t1_ok 0 (by kernel_rfl) (by kernel_rfl) ?_
    intro an han
    simp only [d_nil,d_cons,nxtD,xrD,xoD,roEq,minL,List.append_nil,refsOp,refs,refsL,mask,maskF,place,placeF,okLog,pairOk,hit,inL,slotsF,ren,nrH,nrB,List.replicate_zero,Nat.sub_self,Nat.add_zero,Nat.zero_add,Nat.reduceSub,Nat.lt_add_one,go_sem,Nat.reduceLeDiff,Nat.reduceLT,Nat.reduceAdd,Nat.reduceSub,Nat.reduceBEq,ct54t1_71,body71_0,f3,e5]
    repeat ((with_reducible refine And.intro ?_ ?_);focus exact an2)
    refine rg ctNo_ok ?_
    simp only [go_sem]
    refine ⟨_,(Option.some.inj H).symm,?_⟩
    refine SubF_of ⟨[some 0,some 1,some 2,some 3],?_,?_,by rfl,by rfl⟩
    ·simp [CvL,Cv,getM]
    ·exact ⟨cv,cv,CvB_dead,CvB_row nr_TSleeper cl (upc_row (f:=c_TSleeper) v1_2 v1_1.toNat 2 (TSleeper.mk ((gd v1_2 v1_1.toNat).Aid) ((gd v1_2 v1_1.toNat).Asleep) r4) (fun _ _ _ _=>rfl) (fun y hy=>match y,hy with|0,_=>rfl|1,_=>rfl|2,_=>rfl|(y+3),h=>absurd h nlt)),trivial⟩
   ·try dsimp only at H ⊢
    try simp only [tp]
    try simp only [m_normal]
    refine seqM ?_
    obtain ⟨r7,e8,H⟩:=bsi H
    refine rg ct54t2_ok ?_
    simp only [go_sem,Nat.reduceLT,Nat.reduceAdd,ct54t2_71,body71,e8]
    repeat ((with_reducible refine And.intro ?_ ?_);focus exact an0)
    refine sq ctNo_ok ?_
    simp only [go_sem,Nat.reduceLT,Nat.reduceAdd]
    repeat ((with_reducible refine And.intro ?_ ?_);focus exact an6)
    refine rg ctNo_ok ?_
    simp only [go_sem,Nat.reduceLT,Nat.reduceAdd]
    obtain rfl:=Option.some.inj H
    refine ⟨[],?_,?_,[some 3,some 4],?_,?_,by rfl⟩
    ·simp only [go_sem]
    ·simp only [go_sem]
    ·simp [fzV,fzL,inL,Cv,CvL,getM]
     all_goals first|exact cl|exact cl
    ·simp only [go_sem,CvH]
     exact ⟨CvB_row nr_TSleeper cl (fun _ _ _ _=>rfl),CvB_row nr_TStored cl (fun _ _ _ _=>rfl)⟩
  ·cases hb
noncomputable def F54f_L1 (r1:List TSleeper) (v1_1:Int) (v1_2:List TSleeper):Option (Lp (Int × (List TSleeper)) ((Int × (List TSleeper)) ⊕ (TBuffer))) :=
 bif (bLt v1_1 (r1.length:Nat)) then (need (bLt v1_1 1000000) <| need (inb v1_1 v1_2.length) <| (F71_0 ((gd v1_2 v1_1.toNat).Held)).bind fun r4=>need (inb v1_1 v1_2.length) <| some (.next (wr .i64 (v1_1+1),(v1_2.set v1_1.toNat (TSleeper.mk ((gd v1_2 v1_1.toNat).Aid) ((gd v1_2 v1_1.toNat).Asleep) r4))))) else (some (.done (.inl (v1_1,v1_2))))
noncomputable def F54f (gi:Nat) (p0:TBuffer):Option (TBuffer) :=
 (F72 p0.List).bind fun r1=>lp (loopD (fun s=>F54f_L1 r1 s.1 s.2) (0,r1)) (fun e=>need (bLt (gi:Int) e.1) <| (F71 p0.Group).bind fun r7=>some (TBuffer.mk p0.Limit p0.Stay e.2 r7)) some
noncomputable def body54f (gi:Nat):List AV->Nat->AR
 | [v0],s=>.heap (aK 4 k_TBuffer v0/\(F54f gi (g_TBuffer (aL v0))).isSome=true) (.agg [.int .i64 ((gt (F54f gi (g_TBuffer (aL v0)))).Limit),.int .i64 ((gt (F54f gi (g_TBuffer (aL v0)))).Stay),.sl (s) 3 0 ((gt (F54f gi (g_TBuffer (aL v0)))).List).length false,.sl (s+2) 43 0 ((gt (F54f gi (g_TBuffer (aL v0)))).Group).length false]) [.row 71 3 ((gt (F54f gi (g_TBuffer (aL v0)))).List).length (upc (enR c_TSleeper ((gt (F54f gi (g_TBuffer (aL v0)))).List)) gi 2 [.sl (s+1) 43 0 ((gd ((gt (F54f gi (g_TBuffer (aL v0)))).List) gi).Held).length false]),.row 73 43 ((gd ((gt (F54f gi (g_TBuffer (aL v0)))).List) gi).Held).length (enR c_TStored ((gd ((gt (F54f gi (g_TBuffer (aL v0)))).List) gi).Held)),.row 73 43 ((gt (F54f gi (g_TBuffer (aL v0)))).Group).length (enR c_TStored ((gt (F54f gi (g_TBuffer (aL v0)))).Group))]
 | _,_=>.fail
theorem ok54f (gi:Nat):FnOk Try.prog 54 (genC (body54f gi)):=by
 refine gen_fn (body54f gi) (rs:=[.cell 2 52]) Try.func54 (by kernel_rfl) rfl rfl ?_
 intro l s ob v ns hb hob
 rcases hb with ⟨hb,rfl⟩|hb
 ·unfold body54f at hb
  split at hb<;>cases hb
 ·unfold body54f at hb
  split at hb
  ·rename_i v0
   injection hb with q1 q2 q3;subst q1 q2 q3
   obtain ⟨hk0_0,hob⟩:=hob
   obtain ⟨r,H⟩:=Option.isSome_iff_exists.1 hob
   rw [H,gt_some]
   have hw0:=wA_TBuffer hk0_0
   generalize g_TBuffer (aL v0)=p0 at H hw0
   refine ⟨[.agg [.int .i64 p0.Limit,.int .i64 p0.Stay,.ro 3 p0.List.length false (enR c_TSleeper p0.List),.ro 43 p0.Group.length false (enR c_TStored p0.Group)]],.agg [.int .i64 (r.Limit),.int .i64 (r.Stay),.sl (0) 3 0 (r.List).length false,.sl (2) 43 0 (r.Group).length false],[.row 71 3 (r.List).length (upc (enR c_TSleeper (r.List)) gi 2 [.sl (1) 43 0 ((gd (r.List) gi).Held).length false]),.row 73 43 ((gd (r.List) gi).Held).length (enR c_TStored ((gd (r.List) gi).Held)),.row 73 43 (r.Group).length (enR c_TStored (r.Group))],(fun E vs F=>FR_wk1 hw0.1 F (fun vs F=>F)),by simp only [ren,renL,rnN_0,rnN_s,Nat.reduceAdd],⟨RenB_foc nr_TSleeper (by simp only [rnN_s]),RenB_row nr_TStored,RenB_row nr_TStored,trivial⟩,?_⟩
   rw [Try.ntmps54]
   simp only [List.length_cons,List.length_nil,Nat.reduceAdd,Nat.reduceSub,List.replicate_succ,List.replicate_zero,List.cons_append,List.nil_append]
   unfold F54f at H
   try dsimp only at H
   refine sq ctNo_ok ?_
   simp only [go_sem]
   refine sq ctNo_ok ?_
   simp only [go_sem]
   refine seqM ?_
   obtain ⟨r1,e2,H⟩:=bsi H
   refine rg ct54t0_ok ?_
   simp only [go_sem,Nat.reduceLeDiff,Nat.reduceLT,Nat.reduceAdd,ct54t0_72,body72,e2]
   repeat ((with_reducible refine And.intro ?_ ?_);focus exact an0)
   refine seqM ?_
   refine sq ctNo_ok ?_
   simp only [go_sem,Nat.reduceLeDiff,Nat.reduceLT,Nat.reduceAdd]
   repeat ((with_reducible refine And.intro ?_ ?_);focus exact an0)
   refine blkM ?_
   refine loop_den (fun s:Int × (List TSleeper)=>(.top::.ptr 0 0 0 0::.ptr 1 0 0 0::.fn 71 []::tp 7 (.int .i64 (r1.length:Nat)::.int .i64 s.1::tp 22 []))) (fun s=>[.lit 52 [.int .i64 p0.Limit,.int .i64 p0.Stay,.sl 3 3 0 s.2.length false,.ro 43 p0.Group.length false (enR c_TStored p0.Group)],.lit 52 [.int .i64 0,.int .i64 0,.ro 0 0 true (fun _ _=>.top),.ro 0 0 true (fun _ _=>.top)],.dead,.row 71 3 s.2.length (bif bLt (gi:Int) s.1 then upc (enR c_TSleeper s.2) gi 2 [.sl 4 43 0 (gd s.2 gi).Held.length false] else enR c_TSleeper s.2),.row 73 43 (bif bLt (gi:Int) s.1 then (gd s.2 gi).Held.length else 0) (enR c_TStored (gd s.2 gi).Held)]) (fun e:Int × (List TSleeper)=>(.top::.ptr 0 0 0 0::.ptr 1 0 0 0::.fn 71 []::tp 31 [])) (fun e=>[.lit 52 [.int .i64 p0.Limit,.int .i64 p0.Stay,.sl 3 3 0 e.2.length false,.ro 43 p0.Group.length false (enR c_TStored p0.Group)],.lit 52 [.int .i64 0,.int .i64 0,.ro 0 0 true (fun _ _=>.top),.ro 0 0 true (fun _ _=>.top)],.dead,.row 71 3 e.2.length (bif bLt (gi:Int) e.1 then upc (enR c_TSleeper e.2) gi 2 [.sl 4 43 0 (gd e.2 gi).Held.length false] else enR c_TSleeper e.2),.row 73 43 (bif bLt (gi:Int) e.1 then (gd e.2 gi).Held.length else 0) (enR c_TStored (gd e.2 gi).Held)]) H ?_ (fun s o H hn1_1 hn2_1=>?_) (fun e H=>?_)
   ·have h0:bLt (gi:Int) 0=false:=by simp [bLt]
    try dsimp only
    simp only [h0,cond_false]
    refine SubF_of ⟨[some 0,some 1,some 2,some 2,none],?_,?_,by rfl,by rfl⟩
    ·simp [CvL,Cv,getM,tp]
    ·exact ⟨cv,cv,CvB_dead,CvB_row nr_TSleeper cl (fun _ _ _ _=>rfl),(by simp only [CvB]),trivial⟩
   ·obtain ⟨v1_1,v1_2⟩:=s
    unfold F54f_L1 at H
    try dsimp only at H ⊢
    try simp only [tp]
    refine sq ctNo_ok ?_
    simp only [go_sem,Nat.reduceAdd]
    refine seqM ?_
    refine condM' rfl trivial (fun hc=>?_) (fun hc=>?_)
    ·replace H:=cond_f hc H
     refine rg ctNo_ok ?_
     simp only [go_sem]
     refine ⟨_,(Option.some.inj H).symm,?_⟩
     cases hgi:bLt (gi:Int) v1_1
     ·try dsimp only
      simp only [cond_false]
      refine SubF_of ⟨[some 0,some 1,some 2,some 3,some 4],?_,?_,by rfl,by rfl⟩
      ·simp [CvL,Cv,getM]
      ·exact ⟨cv,cv,CvB_dead,CvB_row nr_TSleeper cl (fun _ _ _ _=>rfl),CvB_z,trivial⟩
     ·try dsimp only
      simp only [cond_true]
      refine SubF_of ⟨[some 0,some 1,some 2,some 3,some 4],?_,?_,by rfl,by rfl⟩
      ·simp [CvL,Cv,getM]
      ·exact ⟨cv,cv,CvB_dead,CvB_focI nr_TSleeper (by simp [getM]) rfl rfl,CvB_row nr_TStored rfl (fun _ _ _ _=>rfl),trivial⟩
    replace H:=cond_t hc H
    refine rg ctNo_ok ?_
    simp only [go_sem]
    refine seqM ?_
    refine blkM ?_
    refine sq ctNo_ok ?_
    simp only [go_sem]
    obtain ⟨fz0,H⟩:=need_some.1 H
    have fz0:v1_1 < 1000000:=by simpa [bLt] using fz0
    obtain ⟨f3,H⟩:=need_some.1 H
    replace f3:=inb_iff.1 f3
    obtain ⟨r4,e5,H⟩:=bsi H
    obtain ⟨f6,H⟩:=need_some.1 H
    replace f6:=inb_iff.1 f6
    have hwr:wr .i64 (v1_1+1)=v1_1+1:=wr_in (by omega)
    rcases Nat.lt_trichotomy v1_1.toNat gi with hgi|hgi|hgi
    ·have hb:bLt (gi:Int) v1_1=false:=by simp only [bLt,decide_eq_false_iff_not];omega
     have hb2:bLt (gi:Int) (wr .i64 (v1_1+1))=false:=by rw [hwr];simp only [bLt,decide_eq_false_iff_not];omega
     simp only [hb,cond_false]
     refine draw_rule shT_ok ct54t1_ok 0 (by kernel_rfl) (by kernel_rfl) ?_
     intro an han
     simp only [d_nil,d_cons,nxtD,xrD,xoD,roEq,minL,List.append_nil,refsOp,refs,refsL,mask,maskF,place,placeF,okLog,pairOk,hit,inL,slotsF,ren,nrH,nrB,List.replicate_zero,Nat.sub_self,Nat.add_zero,Nat.zero_add,Nat.reduceSub,Nat.lt_add_one,go_sem,Nat.reduceLeDiff,Nat.reduceLT,Nat.reduceAdd,Nat.reduceSub,Nat.reduceBEq,ct54t1_71,body71_0,f3,e5]
     repeat ((with_reducible refine And.intro ?_ ?_);focus exact an2)
     refine rg ctNo_ok ?_
     simp only [go_sem]
     refine ⟨_,(Option.some.inj H).symm,?_⟩
     try dsimp only
     simp only [hb2,cond_false]
     refine SubF_of ⟨[some 0,some 1,some 2,some 3,some 4],?_,?_,by rfl,by rfl⟩
     ·simp [CvL,Cv,getM]
     ·exact ⟨cv,cv,CvB_dead,CvB_row nr_TSleeper cl (upc_row (f:=c_TSleeper) v1_2 v1_1.toNat 2 (TSleeper.mk ((gd v1_2 v1_1.toNat).Aid) ((gd v1_2 v1_1.toNat).Asleep) r4) (fun _ _ _ _=>rfl) (fun y hy=>match y,hy with|0,_=>rfl|1,_=>rfl|2,_=>rfl|(y+3),h=>absurd h nlt)),CvB_z,trivial⟩
    ·have hb:bLt (gi:Int) v1_1=false:=by simp only [bLt,decide_eq_false_iff_not];omega
     have hb2:bLt (gi:Int) (wr .i64 (v1_1+1))=true:=by rw [hwr];simp only [bLt,decide_eq_true_eq];omega
     have Hk:=H
     obtain rfl:=hgi
     have H:=Hk
     have e5b:F71 (gd v1_2 v1_1.toNat).Held=some r4:=by have h:=e5;unfold F71_0 at h;unfold F71;exact h
     have hgs:gd (v1_2.set v1_1.toNat (TSleeper.mk ((gd v1_2 v1_1.toNat).Aid) ((gd v1_2 v1_1.toNat).Asleep) r4)) v1_1.toNat=(TSleeper.mk ((gd v1_2 v1_1.toNat).Aid) ((gd v1_2 v1_1.toNat).Asleep) r4):=gd_set_eq (by omega)
     simp only [hb,cond_false]
     refine draw_rule shT_ok ct54t2_ok 1 (by kernel_rfl) (by kernel_rfl) ?_
     intro an han
     simp only [d_nil,d_cons,nxtD,xrD,xoD,roEq,minL,List.append_nil,refsOp,refs,refsL,mask,maskF,place,placeF,okLog,pairOk,hit,inL,slotsF,ren,rnN,nrH,nrB,List.replicate_zero,List.replicate_succ,Nat.sub_self,Nat.add_zero,Nat.zero_add,Nat.reduceSub,Nat.lt_add_one,go_sem,Nat.reduceLeDiff,Nat.reduceLT,Nat.reduceAdd,Nat.reduceSub,Nat.reduceBEq,ct54t2_71,body71,f3,e5b]
     repeat ((with_reducible refine And.intro ?_ ?_);focus exact an2)
     refine rg ctNo_ok ?_
     simp only [go_sem]
     refine ⟨_,(Option.some.inj H).symm,?_⟩
     try dsimp only
     simp only [hb2,cond_true,hgs]
     refine SubF_of ⟨[some 0,some 1,some 2,some 3,some 5],?_,?_,by rfl,by rfl⟩
     ·simp [CvL,Cv,getM]
     ·exact ⟨cv,cv,CvB_dead,CvB_focS nr_TSleeper (by omega) (by simp [getM]) (fun y hy hne=>match y,hy with|0,_=>rfl|1,_=>rfl|2,_=>absurd rfl hne|(y+3),h=>absurd h (by omega)) rfl,CvB_row nr_TStored rfl (fun _ _ _ _=>rfl),trivial⟩
    ·have hb:bLt (gi:Int) v1_1=true:=by simp only [bLt,decide_eq_true_eq];omega
     have hb2:bLt (gi:Int) (wr .i64 (v1_1+1))=true:=by rw [hwr];simp only [bLt,decide_eq_true_eq];omega
     have hne:v1_1.toNat ≠ gi:=by omega
     have hgs:gd (v1_2.set v1_1.toNat (TSleeper.mk ((gd v1_2 v1_1.toNat).Aid) ((gd v1_2 v1_1.toNat).Asleep) r4)) gi=gd v1_2 gi:=gd_set_ne hne
     simp only [hb,cond_true]
     refine draw_rule shT_ok ct54t1_ok 0 (by kernel_rfl) (by kernel_rfl) ?_
     intro an han
     simp only [d_nil,d_cons,nxtD,xrD,xoD,roEq,minL,List.append_nil,refsOp,refs,refsL,mask,maskF,place,placeF,okLog,pairOk,hit,inL,slotsF,ren,nrH,nrB,List.replicate_zero,Nat.sub_self,Nat.add_zero,Nat.zero_add,Nat.reduceSub,Nat.lt_add_one,go_sem,Nat.reduceLeDiff,Nat.reduceLT,Nat.reduceAdd,Nat.reduceSub,Nat.reduceBEq,upc_ne hne,ct54t1_71,body71_0,f3,e5]
     repeat ((with_reducible refine And.intro ?_ ?_);focus exact an2)
     refine rg ctNo_ok ?_
     simp only [go_sem]
     refine ⟨_,(Option.some.inj H).symm,?_⟩
     try dsimp only
     simp only [hb2,cond_true,hgs]
     refine SubF_of ⟨[some 0,some 1,some 2,some 3,some 4],?_,?_,by rfl,by rfl⟩
     ·simp [CvL,Cv,getM]
     ·exact ⟨cv,cv,CvB_dead,CvB_focC nr_TSleeper (by omega) hne (by simp [getM]) rfl (fun y hy=>match y,hy with|0,_=>rfl|1,_=>rfl|2,_=>rfl|(y+3),h=>absurd h nlt),CvB_row nr_TStored rfl (fun _ _ _ _=>rfl),trivial⟩
   ·obtain ⟨e1,e2⟩:=e
    try dsimp only at H ⊢
    try simp only [tp]
    try simp only [m_normal]
    refine seqM ?_
    obtain ⟨fgi,H⟩:=need_some.1 H
    try simp only [fgi,cond_true]
    obtain ⟨r7,e8,H⟩:=bsi H
    refine rg ct54t2_ok ?_
    simp only [go_sem,Nat.reduceLT,Nat.reduceAdd,ct54t2_71,body71,e8]
    repeat ((with_reducible refine And.intro ?_ ?_);focus exact an0)
    refine sq ctNo_ok ?_
    simp only [go_sem,Nat.reduceLT,Nat.reduceAdd]
    repeat ((with_reducible refine And.intro ?_ ?_);focus exact an6)
    refine rg ctNo_ok ?_
    simp only [go_sem,Nat.reduceLT,Nat.reduceAdd]
    obtain rfl:=Option.some.inj H
    refine ⟨[],?_,?_,[some 3,some 4,some 5],?_,?_,by rfl⟩
    ·simp only [go_sem]
    ·simp only [go_sem]
    ·simp [fzV,fzL,inL,Cv,CvL,getM]
     all_goals first|exact cl|exact cl
    ·simp only [go_sem,CvH]
     exact ⟨CvB_focI nr_TSleeper (by simp [getM]) rfl rfl,CvB_row nr_TStored rfl (fun _ _ _ _=>rfl),CvB_row nr_TStored cl (fun _ _ _ _=>rfl)⟩
  ·cases hb
noncomputable def F56_0 (p0_1:Int) (p1:TStored):Option (Bool) :=
 need (bLe 0 p1.Cat) <| some (bEq (andI .u8 (shrI .u8 p0_1 p1.Cat) 1) 1)
noncomputable def body56_0:List AV->AR
 | [v0,v1]=>.pure (rM 2 v0/\iK .u8 (rG v0 1)/\aK 43 k_TStored v1/\(F56_0 (iA (rG v0 1)) (g_TStored (aL v1))).isSome=true) (.bool (gt (F56_0 (iA (rG v0 1)) (g_TStored (aL v1)))))
 | _=>.fail
theorem ok56_0:FnOk Try.prog 56 (pureC body56_0):=by
 refine pure_fnM body56_0 (rs:=[.tmp 4]) Try.func56 (by kernel_rfl) rfl rfl ?_
 intro l ob v hb hob
 unfold body56_0 at hb
 split at hb
 ·rename_i v0 v1
  injection hb with q1 q2;subst q1 q2
  obtain ⟨hk0_0,hk0_1,hk1_0,hob⟩:=hob
  obtain ⟨r,H⟩:=Option.isSome_iff_exists.1 hob
  rw [H,gt_some]
  have hw0:=(rM_wk (cells:=[AV.top,AV.int .u8 (iA (rG v0 1))]) hk0_0 (fun y hy=>match y,hy with|0,_=>top_wk|1,_=>iK_wk hk0_1|y+2,hy=>absurd hy (by omega)))
  have hw1:=wA_TStored hk1_0
  generalize iA (rG v0 1)=p0_1 at H hw0
  generalize g_TStored (aL v1)=p1 at H hw1
  refine ⟨[.rptr 2 1 0 0 (fun _ y=>getL [.top,.int .u8 p0_1] y),.agg (.int .u8 p1.Cat::.int .i64 p1.At::.int .u8 p1.Frame.Head.Kind::.int .u8 p1.Frame.Head.Sub::.bool p1.Frame.Head.ToDs::.bool p1.Frame.Head.FromDs::.bool p1.Frame.Head.More::.bool p1.Frame.Head.Retry::.bool p1.Frame.Head.Sleep::.bool p1.Frame.Head.MoreData::.bool p1.Frame.Head.Protected::.int .i64 p1.Frame.Head.Duration::.int .u8 p1.Frame.Head.A1.x0::.int .u8 p1.Frame.Head.A1.x1::.int .u8 p1.Frame.Head.A1.x2::.int .u8 p1.Frame.Head.A1.x3::.int .u8 p1.Frame.Head.A1.x4::.int .u8 p1.Frame.Head.A1.x5::.int .u8 p1.Frame.Head.A2.x0::.int .u8 p1.Frame.Head.A2.x1::.int .u8 p1.Frame.Head.A2.x2::.int .u8 p1.Frame.Head.A2.x3::.int .u8 p1.Frame.Head.A2.x4::.int .u8 p1.Frame.Head.A2.x5::.int .u8 p1.Frame.Head.A3.x0::.int .u8 p1.Frame.Head.A3.x1::.int .u8 p1.Frame.Head.A3.x2::.int .u8 p1.Frame.Head.A3.x3::.int .u8 p1.Frame.Head.A3.x4::.int .u8 p1.Frame.Head.A3.x5::.int .u8 p1.Frame.Head.A4.x0::.int .u8 p1.Frame.Head.A4.x1::.int .u8 p1.Frame.Head.A4.x2::.int .u8 p1.Frame.Head.A4.x3::.int .u8 p1.Frame.Head.A4.x4::.int .u8 p1.Frame.Head.A4.x5::.int .i64 p1.Frame.Head.Seq::.int .i64 p1.Frame.Head.Frag::.int .i64 p1.Frame.Head.Tid::.int .u8 p1.Frame.Head.Ack::.bool p1.Frame.Head.Amsdu::.bool p1.Frame.Head.Eosp::.ro 1 p1.Frame.Body.length false (enR c_u8 p1.Frame.Body)::[])],_,(fun E vs F=>FR_wk1 hw0.1 F (fun vs F=>FR_wk1 hw1.1 F (fun vs F=>F))),rfl,rfl,?_⟩
  rw [Try.ntmps56]
  simp only [List.length_cons,List.length_nil,Nat.reduceAdd,Nat.reduceSub,List.replicate_succ,List.replicate_zero,List.cons_append,List.nil_append]
  unfold F56_0 at H
  try dsimp only at H
  refine sq ctNo_ok ?_
  simp only [go_sem]
  refine seqM ?_
  obtain ⟨f1,H⟩:=need_some.1 H
  replace f1:=bLe_iff.1 f1
  refine draw_quiet shT_ok ctNo_ok (by kernel_rfl) (by kernel_rfl) ?_
  simp only [go_sem,Nat.reduceLeDiff,Nat.reduceLT,Nat.reduceAdd,f1]
  repeat ((with_reducible refine And.intro ?_ ?_);focus exact an6)
  refine rg ctNo_ok ?_
  simp only [go_sem]
  obtain rfl:=Option.some.inj H
  first|rfl|simp only [Bool.and_false,Bool.false_and,Bool.and_true,Bool.true_and]
 ·cases hb
theorem tik73_0:tintk Try.prog 2=true:=by kernel_rfl
theorem tik73_1:tintk Try.prog 50=false:=by kernel_rfl
theorem okF73:FnOk Try.prog 73 (delF 73 43):=by
 refine edit1_fn (sh:=fun _=>none) (fun _ _ h=>by cases h) ctNo_ok (delF 73 43) (rs:=[.tmp 6]) Try.func73 (by kernel_rfl) rfl rfl delF_np ?_
 intro E h l vs ob v h' H F hc hob
 unfold delF at hc
 split at hc
 ·rename_i b es' i n nl p q
  split at hc
  ·rename_i e' es2 NN c hb
   injection hc with q1 q2 q3
   subst q1 q2 q3
   obtain ⟨rfl,rfl,rfl,hN,hpq,hqn,hfl⟩:=hob
   have hx:=F
   obtain ⟨vs⟩:=vs
   match vs,F.1 with
   | [u1,u2,u3],_ =>
    obtain ⟨cap,hcap,hV⟩:=csl_of_sl (only_sl (F.2 0 _ u1 rfl rfl))
    have g2:=F.2 1 _ u2 rfl rfl
    have g3:=F.2 2 _ u3 rfl rfl
    obtain rfl:=VR_int g2
    obtain rfl:=VR_int g3
    refine ⟨b,73,43,NN,c,n - (q - p),delA i p (q - p) c,[.csl 0 43 i n cap,.int .i64 p,.int .i64 q],hb,fun x y hx hy=>(hfl x y hx hy).1,fun x y hx hy=>?_,rfl,rfl,?_,?_⟩
    ·unfold delA
     split<;>exact hfl _ _ (by omega) hy
    ·refine ⟨rfl,fun j a w ha hw=>?_⟩
     match j with
     | 0=>simp at ha hw;subst ha hw;exact hV
     | 1=>simp at ha hw;subst ha hw;exact .int _ _
     | 2=>simp at ha hw;subst ha hw;exact .int _ _
     | j+3=>simp at ha
    ·rw [Try.ntmps73]
     show wpC _ _ _ _ _ (.csl 0 43 i n cap::.int .i64 p::.int .i64 q::.top::.top::.top::.top::.top::.top::.top::.top::.top::.top::.top::.top::.top::.top::.top::.top::.top::.top::.top::.top::.top::.top::.top::.top::.top::.top::.top::.top::.top::.top::[]) _
     have hpq':((p:Int) == (q:Int))=false:=by simp;omega
     simp only [go_sem,bEq,Option.isSome_some,Option.isNone_some,Int.toNat_natCast,hpq']
     refine ⟨by omega,?_⟩
     refine draw_rule (sh:=fun _=>none) (fun _ _ h=>by cases h) ctNo_ok 0 (by kernel_rfl) (by kernel_rfl) ?_
     intro an han
     have hdc:decide (p+(n - q) <= cap)=true:=by simp;omega
     simp only [go_sem,Nat.reduceLeDiff,Nat.reduceAdd,Nat.reduceSub,evClear,evClearR,evAppZ,tik73_1,Option.isNone_some,Option.isSome_none,Option.isNone_none,Int.toNat_natCast,hdc,Nat.sub_zero,d_nil,d_cons,nxtD,refsOp,refs,refsL,mask,maskF,place,placeF,okLog,pairOk,hit,inL,slotsF,ren,rnN,nrH,nrB,List.replicate_zero,Bool.or_false,Bool.or_true,Bool.true_or,Bool.and_false,Bool.false_and,Nat.sub_self,Nat.add_zero,Nat.zero_add,Nat.reduceSub,Nat.lt_add_one]
     have hm:p+(n - q)=n - (q - p):=by omega
     refine ⟨by omega,by omega,by omega,by omega,by omega,?_⟩
     rw [hm]
     refine conv_move (b:=0) rfl (by omega) (by omega) fun x y hx hy=>?_
     unfold ovwC delA subC
     rw [if_neg (by omega)]
     by_cases hxp:x < p
     ·rw [if_neg (by omega),if_pos hxp]
     ·rw [if_pos (by omega),if_neg hxp]
      congr 1
      omega
  ·cases hc
 ·cases hc
theorem ok73:FnOk Try.prog 73 (delN 73 43):=delN_ok okF73
noncomputable def ct68_0t0:Ct:=tab [(56,pureC body56_0)]
theorem ct68_0t0_ok:CtOk Try.prog ct68_0t0:=tab_cons ok56_0 <| tab_nil
theorem ct68_0t0_56 (l:List AV) (h:List ABlk):ct68_0t0 56 l h=pureC body56_0 l h:=rfl
noncomputable def F68_0_L1 (p0:List TStored) (p1_1:Int) (v1_1:Int):Option (Lp (Int) ((Unit) ⊕ (Int))) :=
 bif (bLt v1_1 (p0.length:Nat)) then (need (inb v1_1 p0.length) <| (F56_0 p1_1 (TStored.mk ((gd p0 v1_1.toNat).Cat) ((gd p0 v1_1.toNat).At) (TFrame.mk (THeader.mk ((((gd p0 v1_1.toNat).Frame).Head).Kind) ((((gd p0 v1_1.toNat).Frame).Head).Sub) ((((gd p0 v1_1.toNat).Frame).Head).ToDs) ((((gd p0 v1_1.toNat).Frame).Head).FromDs) ((((gd p0 v1_1.toNat).Frame).Head).More) ((((gd p0 v1_1.toNat).Frame).Head).Retry) ((((gd p0 v1_1.toNat).Frame).Head).Sleep) ((((gd p0 v1_1.toNat).Frame).Head).MoreData) ((((gd p0 v1_1.toNat).Frame).Head).Protected) ((((gd p0 v1_1.toNat).Frame).Head).Duration) (A6u8.mk (((((gd p0 v1_1.toNat).Frame).Head).A1).x0) (((((gd p0 v1_1.toNat).Frame).Head).A1).x1) (((((gd p0 v1_1.toNat).Frame).Head).A1).x2) (((((gd p0 v1_1.toNat).Frame).Head).A1).x3) (((((gd p0 v1_1.toNat).Frame).Head).A1).x4) (((((gd p0 v1_1.toNat).Frame).Head).A1).x5)) (A6u8.mk (((((gd p0 v1_1.toNat).Frame).Head).A2).x0) (((((gd p0 v1_1.toNat).Frame).Head).A2).x1) (((((gd p0 v1_1.toNat).Frame).Head).A2).x2) (((((gd p0 v1_1.toNat).Frame).Head).A2).x3) (((((gd p0 v1_1.toNat).Frame).Head).A2).x4) (((((gd p0 v1_1.toNat).Frame).Head).A2).x5)) (A6u8.mk (((((gd p0 v1_1.toNat).Frame).Head).A3).x0) (((((gd p0 v1_1.toNat).Frame).Head).A3).x1) (((((gd p0 v1_1.toNat).Frame).Head).A3).x2) (((((gd p0 v1_1.toNat).Frame).Head).A3).x3) (((((gd p0 v1_1.toNat).Frame).Head).A3).x4) (((((gd p0 v1_1.toNat).Frame).Head).A3).x5)) (A6u8.mk (((((gd p0 v1_1.toNat).Frame).Head).A4).x0) (((((gd p0 v1_1.toNat).Frame).Head).A4).x1) (((((gd p0 v1_1.toNat).Frame).Head).A4).x2) (((((gd p0 v1_1.toNat).Frame).Head).A4).x3) (((((gd p0 v1_1.toNat).Frame).Head).A4).x4) (((((gd p0 v1_1.toNat).Frame).Head).A4).x5)) ((((gd p0 v1_1.toNat).Frame).Head).Seq) ((((gd p0 v1_1.toNat).Frame).Head).Frag) ((((gd p0 v1_1.toNat).Frame).Head).Tid) ((((gd p0 v1_1.toNat).Frame).Head).Ack) ((((gd p0 v1_1.toNat).Frame).Head).Amsdu) ((((gd p0 v1_1.toNat).Frame).Head).Eosp)) (((gd p0 v1_1.toNat).Frame).Body)))).bind fun r2=>bif r2 then (some (.done (.inr v1_1))) else (some (.next (wr .i64 (v1_1+1))))) else (some (.done (.inl ())))
noncomputable def F68_0 (p0:List TStored) (p1_1:Int):Option (Int) :=
 lp (loopD (fun s=>F68_0_L1 p0 p1_1 s) 0) (fun _=>some (-1)) some
noncomputable def body68_0:List AV->AR
 | [v0,.mfn 56 [v1]]=>.pure (lK k_TStored 43 v0/\rM 2 v1/\iK .u8 (rG v1 1)/\(F68_0 (lA g_TStored v0) (iA (rG v1 1))).isSome=true) (.int .i64 (gt (F68_0 (lA g_TStored v0) (iA (rG v1 1)))))
 | _=>.fail
theorem ok68_0:FnOk Try.prog 68 (pureC body68_0):=by
 refine pure_fnM body68_0 (rs:=[.tmp 4]) Try.func68 (by kernel_rfl) rfl rfl ?_
 intro l ob v hb hob
 unfold body68_0 at hb
 split at hb
 ·rename_i v0 v1
  injection hb with q1 q2;subst q1 q2
  obtain ⟨hk0_0,hk1_0,hk1_1,hob⟩:=hob
  obtain ⟨r,H⟩:=Option.isSome_iff_exists.1 hob
  rw [H,gt_some]
  have hw0:=lK_wk (fun r h=>w_TStored h) hk0_0
  have hw1:=(rM_wk (cells:=[AV.top,AV.int .u8 (iA (rG v1 1))]) hk1_0 (fun y hy=>match y,hy with|0,_=>top_wk|1,_=>iK_wk hk1_1|y+2,hy=>absurd hy (by omega)))
  generalize lA g_TStored v0=p0 at H hw0
  generalize iA (rG v1 1)=p1_1 at H hw1
  refine ⟨[.ro 43 p0.length false (enR c_TStored p0),.mfn 56 [.rptr 2 1 0 0 (fun _ y=>getL [.top,.int .u8 p1_1] y)]],_,(fun E vs F=>FR_wk1 hw0.1 F (fun vs F=>FR_wk1 (mfn_wk (LW_cons hw1.1 LW_nil)) F (fun vs F=>F))),rfl,rfl,?_⟩
  rw [Try.ntmps68]
  simp only [List.length_cons,List.length_nil,Nat.reduceAdd,Nat.reduceSub,List.replicate_succ,List.replicate_zero,List.cons_append,List.nil_append]
  unfold F68_0 at H
  try dsimp only at H
  refine sq ctNo_ok ?_
  simp only [go_sem]
  refine seqM ?_
  refine sq ctNo_ok ?_
  simp only [go_sem]
  repeat ((with_reducible refine And.intro ?_ ?_);focus exact an4)
  refine blkM ?_
  refine loop_den (fun s:Int=>(.ro 43 p0.length false (enR c_TStored p0)::.mfn 56 [.rptr 2 1 0 0 (fun _ y=>getL [.top,.int .u8 p1_1] y)]::tp 5 (.int .i64 (p0.length:Nat)::.int .i64 s::tp 10 []))) (fun s=>[]) (fun e:Unit=>(tp 19 [])) (fun e=>[]) H ?_ (fun v1_1 o H hn1_1 hn2_1=>?_) (fun e H=>?_)
  ·refine SubF_of ⟨[],?_,?_,by rfl,by rfl⟩
   ·simp [CvL,Cv,tp]
   ·trivial
  ·unfold F68_0_L1 at H
   try dsimp only at H ⊢
   try simp only [tp]
   refine sq ctNo_ok ?_
   simp only [go_sem]
   refine seqM ?_
   refine condM' rfl trivial (fun hc=>?_) (fun hc=>?_)
   ·replace H:=cond_f hc H
    refine rg ctNo_ok ?_
    simp only [go_sem]
    refine ⟨_,(Option.some.inj H).symm,?_⟩
    refine SubF_of ⟨[],?_,?_,by rfl,by rfl⟩
    ·simp [CvL,Cv]
    ·trivial
   replace H:=cond_t hc H
   refine rg ctNo_ok ?_
   simp only [go_sem]
   refine seqM ?_
   refine blkM ?_
   refine sq ctNo_ok ?_
   simp only [go_sem]
   refine seqM ?_
   obtain ⟨f1,H⟩:=need_some.1 H
   replace f1:=inb_iff.1 f1
   obtain ⟨r2,e3,H⟩:=bsi H
   refine rg ct68_0t0_ok ?_
   simp only [go_sem,Nat.reduceLT,Nat.reduceAdd,ct68_0t0_56,body56_0,f1,e3]
   repeat ((with_reducible refine And.intro ?_ ?_);focus exact an4)
   refine condM rfl trivial (fun hc=>?_) (fun hc=>?_)
   ·replace H:=cond_t hc H
    refine sq ctNo_ok ?_
    simp only [go_sem]
    refine rg ctNo_ok ?_
    simp only [go_sem]
    have H:=hn2_1 _ (Option.some.inj H).symm
    obtain rfl:=Option.some.inj H
    first|rfl|simp only [Bool.and_false,Bool.false_and,Bool.and_true,Bool.true_and]
   replace H:=cond_f hc H
   refine rg ctNo_ok ?_
   simp only [go_sem]
   refine rg ctNo_ok ?_
   simp only [go_sem]
   refine ⟨_,(Option.some.inj H).symm,?_⟩
   refine SubF_of ⟨[],?_,?_,by rfl,by rfl⟩
   ·simp [CvL,Cv]
   ·trivial
  ·try dsimp only at H ⊢
   try simp only [tp]
   try simp only [m_normal]
   refine sq ctNo_ok ?_
   simp only [go_sem]
   refine rg ctNo_ok ?_
   simp only [go_sem]
   obtain rfl:=Option.some.inj H
   first|rfl|simp only [Bool.and_false,Bool.false_and,Bool.and_true,Bool.true_and]
 ·cases hb
noncomputable def ct49_0t0:Ct:=tab [(68,pureC body68_0)]
theorem ct49_0t0_ok:CtOk Try.prog ct49_0t0:=tab_cons ok68_0 <| tab_nil
theorem ct49_0t0_68 (l:List AV) (h:List ABlk):ct49_0t0 68 l h=pureC body68_0 l h:=rfl
noncomputable def F49_0 (p0:List TStored) (p1_1:Int):Option (Bool) :=
 (F68_0 p0 p1_1).bind fun r1=>some (bLe 0 r1)
noncomputable def body49_0:List AV->AR
 | [v0,.mfn 56 [v1]]=>.pure (lK k_TStored 43 v0/\rM 2 v1/\iK .u8 (rG v1 1)/\(F49_0 (lA g_TStored v0) (iA (rG v1 1))).isSome=true) (.bool (gt (F49_0 (lA g_TStored v0) (iA (rG v1 1)))))
 | _=>.fail
theorem ok49_0:FnOk Try.prog 49 (pureC body49_0):=by
 refine pure_fnM body49_0 (rs:=[.tmp 4]) Try.func49 (by kernel_rfl) rfl rfl ?_
 intro l ob v hb hob
 unfold body49_0 at hb
 split at hb
 ·rename_i v0 v1
  injection hb with q1 q2;subst q1 q2
  obtain ⟨hk0_0,hk1_0,hk1_1,hob⟩:=hob
  obtain ⟨r,H⟩:=Option.isSome_iff_exists.1 hob
  rw [H,gt_some]
  have hw0:=lK_wk (fun r h=>w_TStored h) hk0_0
  have hw1:=(rM_wk (cells:=[AV.top,AV.int .u8 (iA (rG v1 1))]) hk1_0 (fun y hy=>match y,hy with|0,_=>top_wk|1,_=>iK_wk hk1_1|y+2,hy=>absurd hy (by omega)))
  generalize lA g_TStored v0=p0 at H hw0
  generalize iA (rG v1 1)=p1_1 at H hw1
  refine ⟨[.ro 43 p0.length false (enR c_TStored p0),.mfn 56 [.rptr 2 1 0 0 (fun _ y=>getL [.top,.int .u8 p1_1] y)]],_,(fun E vs F=>FR_wk1 hw0.1 F (fun vs F=>FR_wk1 (mfn_wk (LW_cons hw1.1 LW_nil)) F (fun vs F=>F))),rfl,rfl,?_⟩
  rw [Try.ntmps49]
  simp only [List.length_cons,List.length_nil,Nat.reduceAdd,Nat.reduceSub,List.replicate_succ,List.replicate_zero,List.cons_append,List.nil_append]
  unfold F49_0 at H
  try dsimp only at H
  refine sq ctNo_ok ?_
  simp only [go_sem]
  refine seqM ?_
  obtain ⟨r1,e2,H⟩:=bsi H
  refine rg ct49_0t0_ok ?_
  simp only [go_sem,Nat.reduceLT,ct49_0t0_68,body68_0,e2]
  repeat ((with_reducible refine And.intro ?_ ?_);focus exact an4)
  refine rg ctNo_ok ?_
  simp only [go_sem]
  obtain rfl:=Option.some.inj H
  first|rfl|simp only [Bool.and_false,Bool.false_and,Bool.and_true,Bool.true_and]
 ·cases hb
noncomputable def F57 (p0:A6u8) (p1:A6u8):Option (TFrame) :=
 some (TFrame.mk (THeader.mk 2 12 false true false false false false false 0 (A6u8.mk p0.x0 p0.x1 p0.x2 p0.x3 p0.x4 p0.x5) (A6u8.mk p1.x0 p1.x1 p1.x2 p1.x3 p1.x4 p1.x5) (A6u8.mk p1.x0 p1.x1 p1.x2 p1.x3 p1.x4 p1.x5) (A6u8.mk 0 0 0 0 0 0) 0 0 0 0 false false) [])
noncomputable def body57:List AV->List ABlk->ED
 | [v0,v1],h=>.ed [] (aK 6 k_A6u8 (roD (deadL h []) v0)/\roDOb (deadL h []) v0/\aK 6 k_A6u8 (roD (deadL h []) v1)/\roDOb (deadL h []) v1/\(F57 (g_A6u8 (aL (roD (deadL h []) v0))) (g_A6u8 (aL (roD (deadL h []) v1)))).isSome=true) (.agg (.int .u8 (((gt (F57 (g_A6u8 (aL (roD (deadL h []) v0))) (g_A6u8 (aL (roD (deadL h []) v1))))).Head).Kind)::.int .u8 (((gt (F57 (g_A6u8 (aL (roD (deadL h []) v0))) (g_A6u8 (aL (roD (deadL h []) v1))))).Head).Sub)::.bool (((gt (F57 (g_A6u8 (aL (roD (deadL h []) v0))) (g_A6u8 (aL (roD (deadL h []) v1))))).Head).ToDs)::.bool (((gt (F57 (g_A6u8 (aL (roD (deadL h []) v0))) (g_A6u8 (aL (roD (deadL h []) v1))))).Head).FromDs)::.bool (((gt (F57 (g_A6u8 (aL (roD (deadL h []) v0))) (g_A6u8 (aL (roD (deadL h []) v1))))).Head).More)::.bool (((gt (F57 (g_A6u8 (aL (roD (deadL h []) v0))) (g_A6u8 (aL (roD (deadL h []) v1))))).Head).Retry)::.bool (((gt (F57 (g_A6u8 (aL (roD (deadL h []) v0))) (g_A6u8 (aL (roD (deadL h []) v1))))).Head).Sleep)::.bool (((gt (F57 (g_A6u8 (aL (roD (deadL h []) v0))) (g_A6u8 (aL (roD (deadL h []) v1))))).Head).MoreData)::.bool (((gt (F57 (g_A6u8 (aL (roD (deadL h []) v0))) (g_A6u8 (aL (roD (deadL h []) v1))))).Head).Protected)::.int .i64 (((gt (F57 (g_A6u8 (aL (roD (deadL h []) v0))) (g_A6u8 (aL (roD (deadL h []) v1))))).Head).Duration)::.int .u8 ((((gt (F57 (g_A6u8 (aL (roD (deadL h []) v0))) (g_A6u8 (aL (roD (deadL h []) v1))))).Head).A1).x0)::.int .u8 ((((gt (F57 (g_A6u8 (aL (roD (deadL h []) v0))) (g_A6u8 (aL (roD (deadL h []) v1))))).Head).A1).x1)::.int .u8 ((((gt (F57 (g_A6u8 (aL (roD (deadL h []) v0))) (g_A6u8 (aL (roD (deadL h []) v1))))).Head).A1).x2)::.int .u8 ((((gt (F57 (g_A6u8 (aL (roD (deadL h []) v0))) (g_A6u8 (aL (roD (deadL h []) v1))))).Head).A1).x3)::.int .u8 ((((gt (F57 (g_A6u8 (aL (roD (deadL h []) v0))) (g_A6u8 (aL (roD (deadL h []) v1))))).Head).A1).x4)::.int .u8 ((((gt (F57 (g_A6u8 (aL (roD (deadL h []) v0))) (g_A6u8 (aL (roD (deadL h []) v1))))).Head).A1).x5)::.int .u8 ((((gt (F57 (g_A6u8 (aL (roD (deadL h []) v0))) (g_A6u8 (aL (roD (deadL h []) v1))))).Head).A2).x0)::.int .u8 ((((gt (F57 (g_A6u8 (aL (roD (deadL h []) v0))) (g_A6u8 (aL (roD (deadL h []) v1))))).Head).A2).x1)::.int .u8 ((((gt (F57 (g_A6u8 (aL (roD (deadL h []) v0))) (g_A6u8 (aL (roD (deadL h []) v1))))).Head).A2).x2)::.int .u8 ((((gt (F57 (g_A6u8 (aL (roD (deadL h []) v0))) (g_A6u8 (aL (roD (deadL h []) v1))))).Head).A2).x3)::.int .u8 ((((gt (F57 (g_A6u8 (aL (roD (deadL h []) v0))) (g_A6u8 (aL (roD (deadL h []) v1))))).Head).A2).x4)::.int .u8 ((((gt (F57 (g_A6u8 (aL (roD (deadL h []) v0))) (g_A6u8 (aL (roD (deadL h []) v1))))).Head).A2).x5)::.int .u8 ((((gt (F57 (g_A6u8 (aL (roD (deadL h []) v0))) (g_A6u8 (aL (roD (deadL h []) v1))))).Head).A3).x0)::.int .u8 ((((gt (F57 (g_A6u8 (aL (roD (deadL h []) v0))) (g_A6u8 (aL (roD (deadL h []) v1))))).Head).A3).x1)::.int .u8 ((((gt (F57 (g_A6u8 (aL (roD (deadL h []) v0))) (g_A6u8 (aL (roD (deadL h []) v1))))).Head).A3).x2)::.int .u8 ((((gt (F57 (g_A6u8 (aL (roD (deadL h []) v0))) (g_A6u8 (aL (roD (deadL h []) v1))))).Head).A3).x3)::.int .u8 ((((gt (F57 (g_A6u8 (aL (roD (deadL h []) v0))) (g_A6u8 (aL (roD (deadL h []) v1))))).Head).A3).x4)::.int .u8 ((((gt (F57 (g_A6u8 (aL (roD (deadL h []) v0))) (g_A6u8 (aL (roD (deadL h []) v1))))).Head).A3).x5)::.int .u8 ((((gt (F57 (g_A6u8 (aL (roD (deadL h []) v0))) (g_A6u8 (aL (roD (deadL h []) v1))))).Head).A4).x0)::.int .u8 ((((gt (F57 (g_A6u8 (aL (roD (deadL h []) v0))) (g_A6u8 (aL (roD (deadL h []) v1))))).Head).A4).x1)::.int .u8 ((((gt (F57 (g_A6u8 (aL (roD (deadL h []) v0))) (g_A6u8 (aL (roD (deadL h []) v1))))).Head).A4).x2)::.int .u8 ((((gt (F57 (g_A6u8 (aL (roD (deadL h []) v0))) (g_A6u8 (aL (roD (deadL h []) v1))))).Head).A4).x3)::.int .u8 ((((gt (F57 (g_A6u8 (aL (roD (deadL h []) v0))) (g_A6u8 (aL (roD (deadL h []) v1))))).Head).A4).x4)::.int .u8 ((((gt (F57 (g_A6u8 (aL (roD (deadL h []) v0))) (g_A6u8 (aL (roD (deadL h []) v1))))).Head).A4).x5)::.int .i64 (((gt (F57 (g_A6u8 (aL (roD (deadL h []) v0))) (g_A6u8 (aL (roD (deadL h []) v1))))).Head).Seq)::.int .i64 (((gt (F57 (g_A6u8 (aL (roD (deadL h []) v0))) (g_A6u8 (aL (roD (deadL h []) v1))))).Head).Frag)::.int .i64 (((gt (F57 (g_A6u8 (aL (roD (deadL h []) v0))) (g_A6u8 (aL (roD (deadL h []) v1))))).Head).Tid)::.int .u8 (((gt (F57 (g_A6u8 (aL (roD (deadL h []) v0))) (g_A6u8 (aL (roD (deadL h []) v1))))).Head).Ack)::.bool (((gt (F57 (g_A6u8 (aL (roD (deadL h []) v0))) (g_A6u8 (aL (roD (deadL h []) v1))))).Head).Amsdu)::.bool (((gt (F57 (g_A6u8 (aL (roD (deadL h []) v0))) (g_A6u8 (aL (roD (deadL h []) v1))))).Head).Eosp)::.sl 0 1 0 (((gt (F57 (g_A6u8 (aL (roD (deadL h []) v0))) (g_A6u8 (aL (roD (deadL h []) v1))))).Body).length) false::[])) [.row 5 1 (((gt (F57 (g_A6u8 (aL (roD (deadL h []) v0))) (g_A6u8 (aL (roD (deadL h []) v1))))).Body).length) (enR c_u8 ((gt (F57 (g_A6u8 (aL (roD (deadL h []) v0))) (g_A6u8 (aL (roD (deadL h []) v1))))).Body))]
 | _,_=>.fail
theorem ok57:FnOk Try.prog 57 (edC body57):=by
 refine edit_fnV body57 (rs:=[.cell 4 30]) Try.func57 (by kernel_rfl) rfl rfl ?_
 intro l h bs ob q0 g0 hb hob
 unfold body57 at hb
 split at hb
 ·rename_i v0 v1
  injection hb with q1 q2 q3 q4;subst q1 q2 q3 q4
  obtain ⟨hk0_0,hk0_1,hk1_0,hk1_1,hob⟩:=hob
  obtain ⟨r,H⟩:=Option.isSome_iff_exists.1 hob
  rw [H,gt_some]
  have hw0:=wA_A6u8 hk0_0
  obtain ⟨p0,hp_p0⟩:∃ p0,p0=g_A6u8 (aL (roD (deadL h []) v0)):=⟨_,rfl⟩
  rw [← hp_p0] at H hw0
  have hw1:=wA_A6u8 hk1_0
  obtain ⟨p1,hp_p1⟩:∃ p1,p1=g_A6u8 (aL (roD (deadL h []) v1)):=⟨_,rfl⟩
  rw [← hp_p1] at H hw1
  refine ⟨[.agg [.int .u8 p0.x0,.int .u8 p0.x1,.int .u8 p0.x2,.int .u8 p0.x3,.int .u8 p0.x4,.int .u8 p0.x5],.agg [.int .u8 p1.x0,.int .u8 p1.x1,.int .u8 p1.x2,.int .u8 p1.x3,.int .u8 p1.x4,.int .u8 p1.x5]],[],rfl,⟨(EW_view hk0_1 hw0),⟨(EW_view hk1_1 hw1),trivial⟩⟩,trivial,trivial,⟨(nfB_en nr_u8),trivial⟩,⟨noroB_en,trivial⟩,(by first|(simp only [noro,noroL,and_self];done)|(simp only [noro,noroL];and_intros<;>first|trivial|exact noro_bif (by simp only [noro]) (by simp only [noro])|(simp only [noro,noroL,and_self]))),?_⟩
  rw [Try.ntmps57]
  simp only [List.length_cons,List.length_nil,Nat.reduceAdd,Nat.reduceSub,List.replicate_succ,List.replicate_zero,List.cons_append,List.nil_append]
  unfold F57 at H
  try dsimp only at H
  refine sq ctNo_ok ?_
  simp only [go_sem,Nat.reduceAdd]
  refine sq ctNo_ok ?_
  simp only [go_sem,Nat.reduceLeDiff,Nat.reduceLT,Nat.reduceAdd]
  repeat ((with_reducible refine And.intro ?_ ?_);focus exact an6)
  refine rg ctNo_ok ?_
  simp only [go_sem,Nat.reduceLT,Nat.reduceAdd]
  obtain rfl:=Option.some.inj H
  refine RetE_mk [] [none] ?_ ?_ ?_ ?_ (by rfl) (by rfl)
  ·simp only [go_sem]
   try exact at0
  ·simp only [go_sem]
   try exact at0
  ·simp only [go_sem]
   exact (by first|(simp [Cv,CvL];done)|(simp [Cv,CvL,getM,gt_some];omega))
  ·simp only [go_sem,CvH]
   exact CvB_none
 ·cases hb
end Go.Proofs.Ytnclkplbeenmdaa
