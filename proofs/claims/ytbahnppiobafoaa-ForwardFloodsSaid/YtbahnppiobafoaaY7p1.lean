/-
  What ForwardFloods reaches.
-/
import Derived.Test.YtbahnppiobafoaaB
namespace Go.Proofs.Ytbahnppiobafoaa
open Go.Am
set_option linter.unusedVariables false
set_option linter.unusedSimpArgs false
attribute [go_sem] w_skip w_label w_goto w_scope k_goto b_goto l_goto s_normal s_exit s_ret s_goto w_region w_draw w_seq w_cond w_block w_exit w_ret w_loop k_normal k_exit k_ret b_normal b_exit b_ret l_normal l_exit l_ret m_normal m_exit m_ret m_goto kL_normal kL_exit kL_ret kJ_normal kJ_exit kJ_ret kS_normal kS_exit kS_ret kS_goto r_normal r_ret o_nil o_cons q_nil q_cons nxt gval gvd gvl gvw dstOf evO ogOp ogC og ogL ogP ogO rho rhoO strip optOk getL setL setT absC absV absL pO hO evLoad ldB geth seth evStore stRes stB evBox evAlloc evFieldAddr evField evIndexAddr evBin2 binI binB binNR binU nilR_isEmpty nilR_t nilR_0 nilR_s evInt evStr evUn evConv cvO evPick mrg evExtract evNil evCall mapR evBuiltin evLen2 vcells vcOk atom tabF cnd retK resFin resL resA resC resCons evBuild evBuildP placeS placeA fillA fillOk putL getP nxtQ pureC_eq pureR genC_eq genR roV roL roOb roObL roW roWL roWOb roWObL nref nrefL binA binN eqSh eqRes evIndex evIndex2 evIndexS evSlice evSlice2 evSliceS evBound evConv2 cvS evAppend appRes srcOf evMake evBuildSlice repL evFn evMin evMax freshC freshR sub_enR0 evClear evClearR evCopy evCopyR lenS cutS Bool.or_false Bool.false_or Bool.or_true Bool.true_or Bool.and_false Bool.false_and Option.map_some Option.map_none Option.getD_some Option.getD_none Option.bind_some Option.bind_none Option.or_some Option.or_none Option.none_or Option.isSome_none Option.isNone_none Option.isNone_some List.nil_append List.cons_append List.append_nil cond_true cond_false List.length_cons List.length_nil beq_self_eq_true Bool.and_true Bool.true_and Bool.not_true Bool.not_false true_and and_true and_self true_implies implies_true ne_eq not_false_eq_true Bool.false_eq_true Bool.true_eq_false false_implies Nat.lt_irrefl Nat.le_refl Nat.succ_ne_self imp_self Bool.cond_false_right Bool.cond_true_left decide_true decide_false Bool.not_eq_true' Bool.not_eq_false' Bool.not_not Nat.zero_mul Nat.zero_add Nat.add_zero Nat.mul_one Nat.one_mul Bool.cond_self tsz3 tby3 tagg3 tslice3 tarr3 tzero3 tzn3 tplaces3 tint3 tstr3 tnoint3 tbool3 tany3 tintk3 tbytes3 tsz4 tby4 tagg4 tslice4 tarr4 tzero4 tzn4 tplaces4 tint4 tstr4 tnoint4 tbool4 tany4 tintk4 tbytes4 tsz5 tby5 tagg5 tslice5 tarr5 tzero5 tzn5 tplaces5 tint5 tstr5 tnoint5 tbool5 tany5 tintk5 tbytes5 tsz9 tby9 tagg9 tslice9 tarr9 tzero9 tzn9 tplaces9 tint9 tstr9 tnoint9 tbool9 tany9 tintk9 tbytes9 tsz23 tby23 tagg23 tslice23 tarr23 tzero23 tzn23 tplaces23 tint23 tstr23 tnoint23 tbool23 tany23 tintk23 tbytes23 tsz24 tby24 tagg24 tslice24 tarr24 tzero24 tzn24 tplaces24 tint24 tstr24 tnoint24 tbool24 tany24 tintk24 tbytes24 tsz26 tby26 tagg26 tslice26 tarr26 tzero26 tzn26 tplaces26 tint26 tstr26 tnoint26 tbool26 tany26 tintk26 tbytes26 tfld26_0 tfld26_1 tfld26_2 tfld26_3 tfld26_4 tfld26_5 tfld26_6 tfld26_7 tfld26_8 tsz28 tby28 tagg28 tslice28 tarr28 tzero28 tzn28 tplaces28 tint28 tstr28 tnoint28 tbool28 tany28 tintk28 tbytes28 tsz29 tby29 tagg29 tslice29 tarr29 tzero29 tzn29 tplaces29 tint29 tstr29 tnoint29 tbool29 tany29 tintk29 tbytes29 tsz31 tby31 tagg31 tslice31 tarr31 tzero31 tzn31 tplaces31 tint31 tstr31 tnoint31 tbool31 tany31 tintk31 tbytes31 tfld31_0 tfld31_1 tfld31_2 tfld31_3 tsz33 tby33 tagg33 tslice33 tarr33 tzero33 tzn33 tplaces33 tint33 tstr33 tnoint33 tbool33 tany33 tintk33 tbytes33 tsz55 tby55 tagg55 tslice55 tarr55 tzero55 tzn55 tplaces55 tint55 tstr55 tnoint55 tbool55 tany55 tintk55 tbytes55 tsz59 tby59 tagg59 tslice59 tarr59 tzero59 tzn59 tplaces59 tint59 tstr59 tnoint59 tbool59 tany59 tintk59 tbytes59 tfld59_0 tfld59_1 tsz62 tby62 tagg62 tslice62 tarr62 tzero62 tzn62 tplaces62 tint62 tstr62 tnoint62 tbool62 tany62 tintk62 tbytes62 tsz64 tby64 tagg64 tslice64 tarr64 tzero64 tzn64 tplaces64 tint64 tstr64 tnoint64 tbool64 tany64 tintk64 tbytes64 tsz70 tby70 tagg70 tslice70 tarr70 tzero70 tzn70 tplaces70 tint70 tstr70 tnoint70 tbool70 tany70 tintk70 tbytes70 tsz73 tby73 tagg73 tslice73 tarr73 tzero73 tzn73 tplaces73 tint73 tstr73 tnoint73 tbool73 tany73 tintk73 tbytes73 tsz75 tby75 tagg75 tslice75 tarr75 tzero75 tzn75 tplaces75 tint75 tstr75 tnoint75 tbool75 tany75 tintk75 tbytes75 tsz76 tby76 tagg76 tslice76 tarr76 tzero76 tzn76 tplaces76 tint76 tstr76 tnoint76 tbool76 tany76 tintk76 tbytes76 tsz78 tby78 tagg78 tslice78 tarr78 tzero78 tzn78 tplaces78 tint78 tstr78 tnoint78 tbool78 tany78 tintk78 tbytes78 tsz80 tby80 tagg80 tslice80 tarr80 tzero80 tzn80 tplaces80 tint80 tstr80 tnoint80 tbool80 tany80 tintk80 tbytes80 tfld80_0 tfld80_1 tsz84 tby84 tagg84 tslice84 tarr84 tzero84 tzn84 tplaces84 tint84 tstr84 tnoint84 tbool84 tany84 tintk84 tbytes84 tsz85 tby85 tagg85 tslice85 tarr85 tzero85 tzn85 tplaces85 tint85 tstr85 tnoint85 tbool85 tany85 tintk85 tbytes85 tsz86 tby86 tagg86 tslice86 tarr86 tzero86 tzn86 tplaces86 tint86 tstr86 tnoint86 tbool86 tany86 tintk86 tbytes86 tsz90 tby90 tagg90 tslice90 tarr90 tzero90 tzn90 tplaces90 tint90 tstr90 tnoint90 tbool90 tany90 tintk90 tbytes90 tfld90_0 tfld90_1 tsz105 tby105 tagg105 tslice105 tarr105 tzero105 tzn105 tplaces105 tint105 tstr105 tnoint105 tbool105 tany105 tintk105 tbytes105 tsz110 tby110 tagg110 tslice110 tarr110 tzero110 tzn110 tplaces110 tint110 tstr110 tnoint110 tbool110 tany110 tintk110 tbytes110 tsz114 tby114 tagg114 tslice114 tarr114 tzero114 tzn114 tplaces114 tint114 tstr114 tnoint114 tbool114 tany114 tintk114 tbytes114 e_u8_0 fit_u8 de_u8 g_u8 k_u8 e_i64_0 fit_i64 de_i64 g_i64 k_i64 e_b_0 fit_b de_b g_b k_b e_s_0 fit_s de_s g_s k_s e_A6u8_0 e_A6u8_1 e_A6u8_2 e_A6u8_3 e_A6u8_4 e_A6u8_5 fit_A6u8 de_A6u8 g_A6u8 k_A6u8 eta_A6u8 e_lu8_0 fit_lu8 de_lu8 g_lu8 k_lu8 e_TMeshFrame_0 e_TMeshFrame_1 e_TMeshFrame_2 e_TMeshFrame_3 e_TMeshFrame_4 e_TMeshFrame_5 e_TMeshFrame_6 e_TMeshFrame_7 e_TMeshFrame_8 e_TMeshFrame_9 e_TMeshFrame_10 e_TMeshFrame_11 e_TMeshFrame_12 e_TMeshFrame_13 e_TMeshFrame_14 e_TMeshFrame_15 e_TMeshFrame_16 e_TMeshFrame_17 e_TMeshFrame_18 e_TMeshFrame_19 e_TMeshFrame_20 e_TMeshFrame_21 e_TMeshFrame_22 e_TMeshFrame_23 e_TMeshFrame_24 e_TMeshFrame_25 e_TMeshFrame_26 e_TMeshFrame_27 e_TMeshFrame_28 e_TMeshFrame_29 e_TMeshFrame_30 e_TMeshFrame_31 e_TMeshFrame_32 e_TMeshFrame_33 e_TMeshFrame_34 e_TMeshFrame_35 e_TMeshFrame_36 e_TMeshFrame_37 e_TMeshFrame_38 fit_TMeshFrame de_TMeshFrame g_TMeshFrame k_TMeshFrame eta_TMeshFrame e_TForwardMark_0 e_TForwardMark_1 e_TForwardMark_2 e_TForwardMark_3 e_TForwardMark_4 e_TForwardMark_5 e_TForwardMark_6 fit_TForwardMark de_TForwardMark g_TForwardMark k_TForwardMark eta_TForwardMark e_lTForwardMark_0 fit_lTForwardMark de_lTForwardMark g_lTForwardMark k_lTForwardMark e_TForwardHop_0 e_TForwardHop_1 e_TForwardHop_2 e_TForwardHop_3 e_TForwardHop_4 e_TForwardHop_5 e_TForwardHop_6 e_TForwardHop_7 e_TForwardHop_8 e_TForwardHop_9 e_TForwardHop_10 e_TForwardHop_11 fit_TForwardHop de_TForwardHop g_TForwardHop k_TForwardHop eta_TForwardHop e_lTForwardHop_0 fit_lTForwardHop de_lTForwardHop g_lTForwardHop k_lTForwardHop e_TForward_0 e_TForward_1 e_TForward_2 e_TForward_3 e_TForward_4 e_TForward_5 e_TForward_6 e_TForward_7 e_TForward_8 fit_TForward de_TForward g_TForward k_TForward eta_TForward e_lTMeshFrame_0 fit_lTMeshFrame de_lTMeshFrame g_lTMeshFrame k_lTMeshFrame e_A8TForward_0 e_A8TForward_1 e_A8TForward_2 e_A8TForward_3 e_A8TForward_4 e_A8TForward_5 e_A8TForward_6 e_A8TForward_7 e_A8TForward_8 e_A8TForward_9 e_A8TForward_10 e_A8TForward_11 e_A8TForward_12 e_A8TForward_13 e_A8TForward_14 e_A8TForward_15 e_A8TForward_16 e_A8TForward_17 e_A8TForward_18 e_A8TForward_19 e_A8TForward_20 e_A8TForward_21 e_A8TForward_22 e_A8TForward_23 e_A8TForward_24 e_A8TForward_25 e_A8TForward_26 e_A8TForward_27 e_A8TForward_28 e_A8TForward_29 e_A8TForward_30 e_A8TForward_31 e_A8TForward_32 e_A8TForward_33 e_A8TForward_34 e_A8TForward_35 e_A8TForward_36 e_A8TForward_37 e_A8TForward_38 e_A8TForward_39 e_A8TForward_40 e_A8TForward_41 e_A8TForward_42 e_A8TForward_43 e_A8TForward_44 e_A8TForward_45 e_A8TForward_46 e_A8TForward_47 e_A8TForward_48 e_A8TForward_49 e_A8TForward_50 e_A8TForward_51 e_A8TForward_52 e_A8TForward_53 e_A8TForward_54 e_A8TForward_55 e_A8TForward_56 e_A8TForward_57 e_A8TForward_58 e_A8TForward_59 e_A8TForward_60 e_A8TForward_61 e_A8TForward_62 e_A8TForward_63 e_A8TForward_64 e_A8TForward_65 e_A8TForward_66 e_A8TForward_67 e_A8TForward_68 e_A8TForward_69 e_A8TForward_70 e_A8TForward_71 fit_A8TForward de_A8TForward g_A8TForward k_A8TForward eta_A8TForward e_A8i64_0 e_A8i64_1 e_A8i64_2 e_A8i64_3 e_A8i64_4 e_A8i64_5 e_A8i64_6 e_A8i64_7 fit_A8i64 de_A8i64 g_A8i64 k_A8i64 eta_A8i64 e_li64_0 fit_li64 de_li64 g_li64 k_li64 e_A8b_0 e_A8b_1 e_A8b_2 e_A8b_3 e_A8b_4 e_A8b_5 e_A8b_6 e_A8b_7 fit_A8b de_A8b g_A8b k_A8b eta_A8b e_lb_0 fit_lb de_lb g_lb k_lb e_A8A8b_0 e_A8A8b_1 e_A8A8b_2 e_A8A8b_3 e_A8A8b_4 e_A8A8b_5 e_A8A8b_6 e_A8A8b_7 e_A8A8b_8 e_A8A8b_9 e_A8A8b_10 e_A8A8b_11 e_A8A8b_12 e_A8A8b_13 e_A8A8b_14 e_A8A8b_15 e_A8A8b_16 e_A8A8b_17 e_A8A8b_18 e_A8A8b_19 e_A8A8b_20 e_A8A8b_21 e_A8A8b_22 e_A8A8b_23 e_A8A8b_24 e_A8A8b_25 e_A8A8b_26 e_A8A8b_27 e_A8A8b_28 e_A8A8b_29 e_A8A8b_30 e_A8A8b_31 e_A8A8b_32 e_A8A8b_33 e_A8A8b_34 e_A8A8b_35 e_A8A8b_36 e_A8A8b_37 e_A8A8b_38 e_A8A8b_39 e_A8A8b_40 e_A8A8b_41 e_A8A8b_42 e_A8A8b_43 e_A8A8b_44 e_A8A8b_45 e_A8A8b_46 e_A8A8b_47 e_A8A8b_48 e_A8A8b_49 e_A8A8b_50 e_A8A8b_51 e_A8A8b_52 e_A8A8b_53 e_A8A8b_54 e_A8A8b_55 e_A8A8b_56 e_A8A8b_57 e_A8A8b_58 e_A8A8b_59 e_A8A8b_60 e_A8A8b_61 e_A8A8b_62 e_A8A8b_63 fit_A8A8b de_A8A8b g_A8A8b k_A8A8b eta_A8A8b e_Ttravel_0 e_Ttravel_1 e_Ttravel_2 e_Ttravel_3 e_Ttravel_4 e_Ttravel_5 e_Ttravel_6 e_Ttravel_7 e_Ttravel_8 e_Ttravel_9 e_Ttravel_10 e_Ttravel_11 e_Ttravel_12 e_Ttravel_13 e_Ttravel_14 e_Ttravel_15 e_Ttravel_16 e_Ttravel_17 e_Ttravel_18 e_Ttravel_19 e_Ttravel_20 e_Ttravel_21 e_Ttravel_22 e_Ttravel_23 e_Ttravel_24 e_Ttravel_25 e_Ttravel_26 e_Ttravel_27 e_Ttravel_28 e_Ttravel_29 e_Ttravel_30 e_Ttravel_31 e_Ttravel_32 e_Ttravel_33 e_Ttravel_34 e_Ttravel_35 e_Ttravel_36 e_Ttravel_37 e_Ttravel_38 e_Ttravel_39 fit_Ttravel de_Ttravel g_Ttravel k_Ttravel eta_Ttravel e_lTtravel_0 fit_lTtravel de_lTtravel g_lTtravel k_lTtravel e_u64_0 fit_u64 de_u64 g_u64 k_u64 e_lA6u8_0 fit_lA6u8 de_lA6u8 g_lA6u8 k_lA6u8 e_A6A6u8_0 e_A6A6u8_1 e_A6A6u8_2 e_A6A6u8_3 e_A6A6u8_4 e_A6A6u8_5 e_A6A6u8_6 e_A6A6u8_7 e_A6A6u8_8 e_A6A6u8_9 e_A6A6u8_10 e_A6A6u8_11 e_A6A6u8_12 e_A6A6u8_13 e_A6A6u8_14 e_A6A6u8_15 e_A6A6u8_16 e_A6A6u8_17 e_A6A6u8_18 e_A6A6u8_19 e_A6A6u8_20 e_A6A6u8_21 e_A6A6u8_22 e_A6A6u8_23 e_A6A6u8_24 e_A6A6u8_25 e_A6A6u8_26 e_A6A6u8_27 e_A6A6u8_28 e_A6A6u8_29 e_A6A6u8_30 e_A6A6u8_31 e_A6A6u8_32 e_A6A6u8_33 e_A6A6u8_34 e_A6A6u8_35 fit_A6A6u8 de_A6A6u8 g_A6A6u8 k_A6A6u8 eta_A6A6u8 deR_0 deR_1 deR_2 deR_3 deR_4 deR_5 deR_6 deR_7 deR_8 deR_9 deR_10 deR_11 deR_12 litC_x0 litC_x1 litC_x2 litC_x3 litC_x4 litC_x5 litC_x6 litC_x7 litC_x8 litC_x9 litC_x10 litC_x11 strE_u8 Fit_0 Option.isSome_some gt_some gd_one evCopyL evLookup mapC_nil tabR sub_enR List.drop_zero xrD xoD roEq minL rK rM rG aL aK iK bK sK lK iA bA sA lA or_true true_or Int.toNat_natCast shT_23 shT_59 shT_64 shT_73 shT_86 shT_90 Int.toNat_zero Int.cast_ofNat_Int aLs roD roDOb deadL edC edR nodupB rnm rnmL rnmB rnmH rnm_bif rnmB_bif putH dropH rhoN ptB slN litL celL pK isLit oS isRow inL fzV fzL fzOb fzObL fzH fzHF fzB fzObB fzObH rowOb
theorem an0 {A : Prop} (a : A := by first | (and_intros <;> first | (with_reducible trivial) | omega | assumption | exact nfc | first | exact rfl | exact trivial | exact fitI | exact .inr rfl | exact .inl rfl | exact fun x hx => absurd hx (by omega)) | grind) : A := a
theorem an1 {A : Prop} (a : A := by and_intros <;> first | (with_reducible trivial) | (show anB _ _ _ = true; subst han; kernel_rfl) | (show (anB _ _ _ && _) = true; subst han; kernel_rfl) | omega | assumption | exact nrc | exact nfc | first | exact rfl | exact trivial | exact fitI | exact .inr rfl | exact .inl rfl | exact fun x hx => absurd hx (by omega)) : A := a
theorem an2 {A : Prop} (a : A := by first | (and_intros <;> first | (with_reducible trivial) | omega | assumption | exact nfc | first | exact rfl | exact trivial | exact fitI | exact .inr rfl | exact .inl rfl | exact fun x hx => absurd hx (by omega) | (intro x hx; (repeat (first | (and_intros <;> (first | exact rfl | exact trivial | exact fitI | exact .inr rfl | exact .inl rfl | exact fun x hx => absurd hx (by omega))) | (exfalso; omega) | (rcases x with _ | x))); done)) | grind) : A := a
theorem an3 {A : Prop} (a : A := by first | (and_intros <;> first | (with_reducible trivial) | omega | assumption | exact nfc | first | exact rfl | exact trivial | exact fitI | exact .inr rfl | exact .inl rfl | exact fun x hx => absurd hx (by omega) | (intro x hx; (repeat (first | (and_intros <;> (first | exact rfl | exact trivial | exact fitI | exact .inr rfl | exact .inl rfl | exact fun x hx => absurd hx (by omega))) | (exfalso; omega) | (rcases x with _ | x))); done) | (refine Fit_app ?_ ?_ <;> first | exact fitI | (intro x hx; (repeat (first | (and_intros <;> (first | exact rfl | exact trivial | exact fitI | exact .inr rfl | exact .inl rfl | exact fun x hx => absurd hx (by omega))) | (exfalso; omega) | (rcases x with _ | x))); done) | (refine Fit_app ?_ ?_ <;> first | exact fitI | (intro x hx; (repeat (first | (and_intros <;> (first | exact rfl | exact trivial | exact fitI | exact .inr rfl | exact .inl rfl | exact fun x hx => absurd hx (by omega))) | (exfalso; omega) | (rcases x with _ | x))); done)))) | grind) : A := a
theorem an4 {A : Prop} (a : A := by first | (with_reducible trivial) | omega | grind) : A := a
theorem an5 {A : Prop} (a : A := by and_intros <;> first | (with_reducible trivial) | (show anB _ _ _ = true; subst han; kernel_rfl) | (show (anB _ _ _ && _) = true; subst han; kernel_rfl) | omega | assumption | exact nrc | exact nfc | first | exact rfl | exact trivial | exact fitI | exact .inr rfl | exact .inl rfl | exact fun x hx => absurd hx (by omega) | (intro x hx; (repeat (first | (and_intros <;> (first | exact rfl | exact trivial | exact fitI | exact .inr rfl | exact .inl rfl | exact fun x hx => absurd hx (by omega))) | (exfalso; omega) | (rcases x with _ | x))); done) | (refine Fit_app ?_ ?_ <;> first | exact fitI | (intro x hx; (repeat (first | (and_intros <;> (first | exact rfl | exact trivial | exact fitI | exact .inr rfl | exact .inl rfl | exact fun x hx => absurd hx (by omega))) | (exfalso; omega) | (rcases x with _ | x))); done) | (refine Fit_app ?_ ?_ <;> first | exact fitI | (intro x hx; (repeat (first | (and_intros <;> (first | exact rfl | exact trivial | exact fitI | exact .inr rfl | exact .inl rfl | exact fun x hx => absurd hx (by omega))) | (exfalso; omega) | (rcases x with _ | x))); done)))) : A := a
theorem an6 {A : Prop} (a : A := by first | (with_reducible trivial) | omega | (intro g; and_intros <;> first | (with_reducible trivial) | assumption | exact nfc | (intro g2; rw [g, g2]; rfl) | (intro g2; assumption) | (simp only [g, Bool.true_and, Bool.and_true, Bool.not_false, Bool.not_true]; assumption) | grind) | (and_intros <;> first | (with_reducible trivial) | omega | assumption | exact nfc | first | exact rfl | exact trivial | exact fitI | exact .inr rfl | exact .inl rfl | exact fun x hx => absurd hx (by omega)) | grind) : A := a
theorem at0 {A : Prop} (a : A := by and_intros <;> first | (with_reducible trivial) | omega | exact nfc | trivial) : A := a
theorem cv {A : Prop} (a : A := by simp [CvB, CvL, Cv, blkAt, geth, getM]) : A := a
theorem cl {A : Prop} (a : A := by first | rfl | (simp; done) | (simp; omega)) : A := a
/-! hotspot/hotspotlaw41.at -/
noncomputable def F31 (p0 : Int) : Option (A6u8) :=
  some (A6u8.mk 2 0 0 0 8 (wr .u8 p0))
noncomputable def body31 : List AV -> AR
  | [v0] => .pure (iK .i64 v0 /\ (F31 (iA v0)).isSome = true) (.agg [.int .u8 ((gt (F31 (iA v0))).x0), .int .u8 ((gt (F31 (iA v0))).x1), .int .u8 ((gt (F31 (iA v0))).x2), .int .u8 ((gt (F31 (iA v0))).x3), .int .u8 ((gt (F31 (iA v0))).x4), .int .u8 ((gt (F31 (iA v0))).x5)])
  | _ => .fail
set_option maxHeartbeats 4000000 in
set_option maxRecDepth 20000 in
theorem ok31 : FnOk Try.prog 31 (pureC body31) := by
  refine pure_fnM body31 (rs := [.cell 2 23]) Try.func31 (by kernel_rfl) rfl rfl ?_
  intro l ob v hb hob
  unfold body31 at hb
  split at hb
  · rename_i v0
    injection hb with q1 q2; subst q1 q2
    obtain ⟨hk0_0, hob⟩ := hob
    obtain ⟨r, H⟩ := Option.isSome_iff_exists.1 hob
    rw [H, gt_some]
    have hw0 := iK_wk hk0_0
    generalize iA v0 = p0 at H hw0
    refine ⟨[.int .i64 p0], _, (fun E vs F => FR_wk1 hw0.1 F (fun vs F => F)), rfl, rfl, ?_⟩
    rw [Try.ntmps31]
    simp only [List.length_cons, List.length_nil, Nat.reduceAdd, Nat.reduceSub, List.replicate_succ, List.replicate_zero, List.cons_append, List.nil_append]
    unfold F31 at H
    try dsimp only at H
    refine sq ctNo_ok ?_
    simp only [go_sem, Nat.reduceLeDiff, Nat.reduceLT, Nat.reduceAdd, Nat.reduceMul, Nat.reduceSub, Nat.reduceEqDiff, Nat.reduceBEq, Int.reduceToNat, reduceCtorEq]
    refine sq ctNo_ok ?_
    simp only [go_sem, Nat.reduceLeDiff, Nat.reduceLT, Nat.reduceAdd, Nat.reduceMul, Nat.reduceSub, Nat.reduceEqDiff, Nat.reduceBEq, Int.reduceToNat, reduceCtorEq]
    repeat ((with_reducible refine And.intro ?_ ?_); focus exact an4)
    refine rg ctNo_ok ?_
    simp only [go_sem, Nat.reduceLeDiff, Nat.reduceLT, Nat.reduceAdd, Nat.reduceMul, Nat.reduceSub, Nat.reduceEqDiff, Nat.reduceBEq, Int.reduceToNat, reduceCtorEq]
    obtain rfl := Option.some.inj H
    first | rfl | simp only [Bool.and_false, Bool.false_and, Bool.and_true, Bool.true_and]
  · cases hb
/-! hotspot/forward.group -/
noncomputable def F39 (p0 : A6u8) : Option (Bool) :=
  some (bEq (andI .u8 p0.x0 1) 1)
noncomputable def body39 : List AV -> AR
  | [v0] => .pure (aK 6 k_A6u8 v0 /\ (F39 (g_A6u8 (aL v0))).isSome = true) (.bool (gt (F39 (g_A6u8 (aL v0)))))
  | _ => .fail
set_option maxHeartbeats 4000000 in
set_option maxRecDepth 20000 in
theorem ok39 : FnOk Try.prog 39 (pureC body39) := by
  refine pure_fnM body39 (rs := [.tmp 2]) Try.func39 (by kernel_rfl) rfl rfl ?_
  intro l ob v hb hob
  unfold body39 at hb
  split at hb
  · rename_i v0
    injection hb with q1 q2; subst q1 q2
    obtain ⟨hk0_0, hob⟩ := hob
    obtain ⟨r, H⟩ := Option.isSome_iff_exists.1 hob
    rw [H, gt_some]
    have hw0 := wA_A6u8 hk0_0
    generalize g_A6u8 (aL v0) = p0 at H hw0
    refine ⟨[.agg [.int .u8 p0.x0, .int .u8 p0.x1, .int .u8 p0.x2, .int .u8 p0.x3, .int .u8 p0.x4, .int .u8 p0.x5]], _, (fun E vs F => FR_wk1 hw0.1 F (fun vs F => F)), rfl, rfl, ?_⟩
    rw [Try.ntmps39]
    simp only [List.length_cons, List.length_nil, Nat.reduceAdd, Nat.reduceSub, List.replicate_succ, List.replicate_zero, List.cons_append, List.nil_append]
    unfold F39 at H
    try dsimp only at H
    refine sq ctNo_ok ?_
    simp only [go_sem, Nat.reduceLeDiff, Nat.reduceLT, Nat.reduceAdd, Nat.reduceMul, Nat.reduceSub, Nat.reduceEqDiff, Nat.reduceBEq, Int.reduceToNat, reduceCtorEq]
    refine sq ctNo_ok ?_
    simp only [go_sem, Nat.reduceLeDiff, Nat.reduceLT, Nat.reduceAdd, Nat.reduceMul, Nat.reduceSub, Nat.reduceEqDiff, Nat.reduceBEq, Int.reduceToNat, reduceCtorEq]
    repeat ((with_reducible refine And.intro ?_ ?_); focus exact an4)
    refine rg ctNo_ok ?_
    simp only [go_sem, Nat.reduceLeDiff, Nat.reduceLT, Nat.reduceAdd, Nat.reduceMul, Nat.reduceSub, Nat.reduceEqDiff, Nat.reduceBEq, Int.reduceToNat, reduceCtorEq]
    obtain rfl := Option.some.inj H
    first | rfl | simp only [Bool.and_false, Bool.false_and, Bool.and_true, Bool.true_and]
  · cases hb
/-! hotspot/forward.New -/
noncomputable def ct35t0 : Ct := tab [(39, pureC body39)]
theorem ct35t0_ok : CtOk Try.prog ct35t0 := tab_cons ok39 <| tab_nil
theorem ct35t0_39 (l : List AV) (h : List ABlk) : ct35t0 39 l h = pureC body39 l h := rfl
noncomputable def F35 (p0 : A6u8) : Option (TForward × Int) :=
  (F39 p0).bind fun r1 => bif r1 then (some ((TForward.mk (A6u8.mk 0 0 0 0 0 0) 0 [] []), 2)) else (some ((TForward.mk (A6u8.mk p0.x0 p0.x1 p0.x2 p0.x3 p0.x4 p0.x5) 0 [] []), 0))
noncomputable def body35 : List AV -> List ABlk -> ED
  | [v0], h => .ed [] (aK 6 k_A6u8 (roD (deadL h []) v0) /\ roDOb (deadL h []) v0 /\ (F35 (g_A6u8 (aL (roD (deadL h []) v0)))).isSome = true) (.tup [.agg [.int .u8 ((((gt (F35 (g_A6u8 (aL (roD (deadL h []) v0))))).1).Own).x0), .int .u8 ((((gt (F35 (g_A6u8 (aL (roD (deadL h []) v0))))).1).Own).x1), .int .u8 ((((gt (F35 (g_A6u8 (aL (roD (deadL h []) v0))))).1).Own).x2), .int .u8 ((((gt (F35 (g_A6u8 (aL (roD (deadL h []) v0))))).1).Own).x3), .int .u8 ((((gt (F35 (g_A6u8 (aL (roD (deadL h []) v0))))).1).Own).x4), .int .u8 ((((gt (F35 (g_A6u8 (aL (roD (deadL h []) v0))))).1).Own).x5), .int .i64 (((gt (F35 (g_A6u8 (aL (roD (deadL h []) v0))))).1).Seq), .sl 0 7 0 ((((gt (F35 (g_A6u8 (aL (roD (deadL h []) v0))))).1).Seen).length) false, .sl 1 12 0 ((((gt (F35 (g_A6u8 (aL (roD (deadL h []) v0))))).1).Nexts).length) false], .int .i64 ((gt (F35 (g_A6u8 (aL (roD (deadL h []) v0))))).2)]) [.row 59 7 ((((gt (F35 (g_A6u8 (aL (roD (deadL h []) v0))))).1).Seen).length) (enR c_TForwardMark (((gt (F35 (g_A6u8 (aL (roD (deadL h []) v0))))).1).Seen)), .row 90 12 ((((gt (F35 (g_A6u8 (aL (roD (deadL h []) v0))))).1).Nexts).length) (enR c_TForwardHop (((gt (F35 (g_A6u8 (aL (roD (deadL h []) v0))))).1).Nexts))]
  | _, _ => .fail
set_option maxHeartbeats 4000000 in
set_option maxRecDepth 20000 in
theorem ok35 : FnOk Try.prog 35 (edC body35) := by
  refine edit_fnV body35 (rs := [.cell 2 31, .tmp 3]) Try.func35 (by kernel_rfl) rfl rfl ?_
  intro l h bs ob q0 g0 hb hob
  unfold body35 at hb
  split at hb
  · rename_i v0
    injection hb with q1 q2 q3 q4; subst q1 q2 q3 q4
    obtain ⟨hk0_0, hk0_1, hob⟩ := hob
    obtain ⟨r, H⟩ := Option.isSome_iff_exists.1 hob
    rw [H, gt_some]
    have hw0 := wA_A6u8 hk0_0
    obtain ⟨p0, hp_p0⟩ : ∃ p0, p0 = g_A6u8 (aL (roD (deadL h []) v0)) := ⟨_, rfl⟩
    rw [← hp_p0] at H hw0
    refine ⟨[.agg [.int .u8 p0.x0, .int .u8 p0.x1, .int .u8 p0.x2, .int .u8 p0.x3, .int .u8 p0.x4, .int .u8 p0.x5]], [], rfl, ⟨(EW_view hk0_1 hw0), trivial⟩, trivial, trivial, ⟨(nfB_en nr_TForwardMark), ⟨(nfB_en nr_TForwardHop), trivial⟩⟩, ⟨noroB_en, ⟨noroB_en, trivial⟩⟩, (by first | (simp only [noro, noroL, and_self]; done) | (simp only [noro, noroL]; and_intros <;> first | trivial | exact noro_bif (by simp only [noro]) (by simp only [noro]) | (simp only [noro, noroL, and_self]))), ?_⟩
    rw [Try.ntmps35]
    simp only [List.length_cons, List.length_nil, Nat.reduceAdd, Nat.reduceSub, List.replicate_succ, List.replicate_zero, List.cons_append, List.nil_append]
    unfold F35 at H
    try dsimp only at H
    refine sq ctNo_ok ?_
    simp only [go_sem, Nat.reduceLeDiff, Nat.reduceLT, Nat.reduceAdd, Nat.reduceMul, Nat.reduceSub, Nat.reduceEqDiff, Nat.reduceBEq, Int.reduceToNat, reduceCtorEq]
    refine seqM ?_
    refine seqM ?_
    obtain ⟨r1, e2, H⟩ := bsi H
    refine rg ct35t0_ok ?_
    simp only [go_sem, Nat.reduceLeDiff, Nat.reduceLT, Nat.reduceAdd, Nat.reduceMul, Nat.reduceSub, Nat.reduceEqDiff, Nat.reduceBEq, Int.reduceToNat, reduceCtorEq, ct35t0_39, body39, e2]
    repeat ((with_reducible refine And.intro ?_ ?_); focus exact an0)
    refine condM rfl trivial (fun hc => ?_) (fun hc => ?_)
    · replace H := cond_t hc H
      refine sq ctNo_ok ?_
      simp only [go_sem, Nat.reduceLeDiff, Nat.reduceLT, Nat.reduceAdd, Nat.reduceMul, Nat.reduceSub, Nat.reduceEqDiff, Nat.reduceBEq, Int.reduceToNat, reduceCtorEq]
      repeat ((with_reducible refine And.intro ?_ ?_); focus exact an4)
      refine rg ctNo_ok ?_
      simp only [go_sem, Nat.reduceLeDiff, Nat.reduceLT, Nat.reduceAdd, Nat.reduceMul, Nat.reduceSub, Nat.reduceEqDiff, Nat.reduceBEq, Int.reduceToNat, reduceCtorEq]
      obtain rfl := Option.some.inj H
      refine RetE_mk [] [none, none] ?_ ?_ ?_ ?_ (by rfl) (by rfl)
      · simp only [go_sem, Nat.reduceEqDiff, Nat.reduceBEq, Nat.reduceAdd]
        try exact at0
      · simp only [go_sem, Nat.reduceEqDiff, Nat.reduceBEq, Nat.reduceAdd]
        try exact at0
      · simp only [go_sem, Nat.reduceEqDiff, Nat.reduceBEq, Nat.reduceAdd]
        exact Cv_tup (CvL_cons (by first | (simp [Cv, CvL, getM, gt_some]; done) | (simp [Cv, CvL, getM, gt_some]; omega)) (CvL_cons (by simp [Cv, CvL, getM, gt_some]) CvL_nil))
      · simp only [go_sem, Nat.reduceEqDiff, Nat.reduceBEq, Nat.reduceAdd, CvH, gt_some, Option.isSome_some, Option.isSome_none]
        first | exact ⟨CvB_none, CvB_none⟩ | trivial
    replace H := cond_f hc H
    refine rg ctNo_ok ?_
    simp only [go_sem, Nat.reduceLeDiff, Nat.reduceLT, Nat.reduceAdd, Nat.reduceMul, Nat.reduceSub, Nat.reduceEqDiff, Nat.reduceBEq, Int.reduceToNat, reduceCtorEq]
    refine sq ctNo_ok ?_
    simp only [go_sem, Nat.reduceLeDiff, Nat.reduceLT, Nat.reduceAdd, Nat.reduceMul, Nat.reduceSub, Nat.reduceEqDiff, Nat.reduceBEq, Int.reduceToNat, reduceCtorEq]
    repeat ((with_reducible refine And.intro ?_ ?_); focus exact an4)
    refine rg ctNo_ok ?_
    simp only [go_sem, Nat.reduceLeDiff, Nat.reduceLT, Nat.reduceAdd, Nat.reduceMul, Nat.reduceSub, Nat.reduceEqDiff, Nat.reduceBEq, Int.reduceToNat, reduceCtorEq]
    obtain rfl := Option.some.inj H
    refine RetE_mk [] [none, none] ?_ ?_ ?_ ?_ (by rfl) (by rfl)
    · simp only [go_sem, Nat.reduceEqDiff, Nat.reduceBEq, Nat.reduceAdd]
      try exact at0
    · simp only [go_sem, Nat.reduceEqDiff, Nat.reduceBEq, Nat.reduceAdd]
      try exact at0
    · simp only [go_sem, Nat.reduceEqDiff, Nat.reduceBEq, Nat.reduceAdd]
      exact Cv_tup (CvL_cons (by first | (simp [Cv, CvL, getM, gt_some]; done) | (simp [Cv, CvL, getM, gt_some]; omega)) (CvL_cons (by simp [Cv, CvL, getM, gt_some]) CvL_nil))
    · simp only [go_sem, Nat.reduceEqDiff, Nat.reduceBEq, Nat.reduceAdd, CvH, gt_some, Option.isSome_some, Option.isSome_none]
      first | exact ⟨CvB_none, CvB_none⟩ | trivial
  · cases hb
/-! hotspot/forward.validSeq -/
noncomputable def F48 (p0 : Int) : Option (Bool) :=
  some ((bLe 0 p0) && (bLt p0 65536))
noncomputable def body48 : List AV -> AR
  | [v0] => .pure (iK .i64 v0 /\ (F48 (iA v0)).isSome = true) (.bool (gt (F48 (iA v0))))
  | _ => .fail
set_option maxHeartbeats 4000000 in
set_option maxRecDepth 20000 in
theorem ok48 : FnOk Try.prog 48 (pureC body48) := by
  refine pure_fnM body48 (rs := [.tmp 2]) Try.func48 (by kernel_rfl) rfl rfl ?_
  intro l ob v hb hob
  unfold body48 at hb
  split at hb
  · rename_i v0
    injection hb with q1 q2; subst q1 q2
    obtain ⟨hk0_0, hob⟩ := hob
    obtain ⟨r, H⟩ := Option.isSome_iff_exists.1 hob
    rw [H, gt_some]
    have hw0 := iK_wk hk0_0
    generalize iA v0 = p0 at H hw0
    refine ⟨[.int .i64 p0], _, (fun E vs F => FR_wk1 hw0.1 F (fun vs F => F)), rfl, rfl, ?_⟩
    rw [Try.ntmps48]
    simp only [List.length_cons, List.length_nil, Nat.reduceAdd, Nat.reduceSub, List.replicate_succ, List.replicate_zero, List.cons_append, List.nil_append]
    unfold F48 at H
    try dsimp only at H
    refine sq ctNo_ok ?_
    simp only [go_sem, Nat.reduceLeDiff, Nat.reduceLT, Nat.reduceAdd, Nat.reduceMul, Nat.reduceSub, Nat.reduceEqDiff, Nat.reduceBEq, Int.reduceToNat, reduceCtorEq]
    refine sq ctNo_ok ?_
    simp only [go_sem, Nat.reduceLeDiff, Nat.reduceLT, Nat.reduceAdd, Nat.reduceMul, Nat.reduceSub, Nat.reduceEqDiff, Nat.reduceBEq, Int.reduceToNat, reduceCtorEq]
    repeat ((with_reducible refine And.intro ?_ ?_); focus exact an4)
    refine rg ctNo_ok ?_
    simp only [go_sem, Nat.reduceLeDiff, Nat.reduceLT, Nat.reduceAdd, Nat.reduceMul, Nat.reduceSub, Nat.reduceEqDiff, Nat.reduceBEq, Int.reduceToNat, reduceCtorEq]
    obtain rfl := Option.some.inj H
    first | rfl | simp only [Bool.and_false, Bool.false_and, Bool.and_true, Bool.true_and]
  · cases hb
/-! slices.Index[[]hotspot/api.ForwardMark,hotspot/api.ForwardMark] -/
noncomputable def F58_L1 (p0 : List TForwardMark) (p1 : TForwardMark) (v1_1 : Int) : Option (Lp (Int) ((Unit) ⊕ (Int))) :=
  bif (bLt v1_1 (p0.length : Nat)) then (need (inb v1_1 p0.length) <| bif (bEq p1.Enter.x0 (((gd p0 v1_1.toNat).Enter).x0) && (bEq p1.Enter.x1 (((gd p0 v1_1.toNat).Enter).x1) && (bEq p1.Enter.x2 (((gd p0 v1_1.toNat).Enter).x2) && (bEq p1.Enter.x3 (((gd p0 v1_1.toNat).Enter).x3) && (bEq p1.Enter.x4 (((gd p0 v1_1.toNat).Enter).x4) && (bEq p1.Enter.x5 (((gd p0 v1_1.toNat).Enter).x5) && (bEq p1.Seq ((gd p0 v1_1.toNat).Seq)))))))) then (some (.done (.inr v1_1))) else (some (.next (wr .i64 (v1_1 + 1))))) else (some (.done (.inl ())))
noncomputable def F58 (p0 : List TForwardMark) (p1 : TForwardMark) : Option (Int) :=
  lp (loopD (fun s => F58_L1 p0 p1 s) 0) (fun _ => some (-1)) some
noncomputable def body58 : List AV -> AR
  | [v0, v1] => .pure (lK k_TForwardMark 7 v0 /\ aK 7 k_TForwardMark v1 /\ (F58 (lA g_TForwardMark v0) (g_TForwardMark (aL v1))).isSome = true) (.int .i64 (gt (F58 (lA g_TForwardMark v0) (g_TForwardMark (aL v1)))))
  | _ => .fail
set_option maxHeartbeats 4000000 in
set_option maxRecDepth 20000 in
theorem ok58 : FnOk Try.prog 58 (pureC body58) := by
  refine pure_fnM body58 (rs := [.tmp 4]) Try.func58 (by kernel_rfl) rfl rfl ?_
  intro l ob v hb hob
  unfold body58 at hb
  split at hb
  · rename_i v0 v1
    injection hb with q1 q2; subst q1 q2
    obtain ⟨hk0_0, hk1_0, hob⟩ := hob
    obtain ⟨r, H⟩ := Option.isSome_iff_exists.1 hob
    rw [H, gt_some]
    have hw0 := lK_wk (fun r h => w_TForwardMark h) hk0_0
    have hw1 := wA_TForwardMark hk1_0
    generalize lA g_TForwardMark v0 = p0 at H hw0
    generalize g_TForwardMark (aL v1) = p1 at H hw1
    refine ⟨[.ro 7 p0.length false (enR c_TForwardMark p0), .agg [.int .u8 p1.Enter.x0, .int .u8 p1.Enter.x1, .int .u8 p1.Enter.x2, .int .u8 p1.Enter.x3, .int .u8 p1.Enter.x4, .int .u8 p1.Enter.x5, .int .i64 p1.Seq]], _, (fun E vs F => FR_wk1 hw0.1 F (fun vs F => FR_wk1 hw1.1 F (fun vs F => F))), rfl, rfl, ?_⟩
    rw [Try.ntmps58]
    simp only [List.length_cons, List.length_nil, Nat.reduceAdd, Nat.reduceSub, List.replicate_succ, List.replicate_zero, List.cons_append, List.nil_append]
    unfold F58 at H
    try dsimp only at H
    refine sq ctNo_ok ?_
    simp only [go_sem, Nat.reduceLeDiff, Nat.reduceLT, Nat.reduceAdd, Nat.reduceMul, Nat.reduceSub, Nat.reduceEqDiff, Nat.reduceBEq, Int.reduceToNat, reduceCtorEq]
    refine seqM ?_
    refine sq ctNo_ok ?_
    simp only [go_sem, Nat.reduceLeDiff, Nat.reduceLT, Nat.reduceAdd, Nat.reduceMul, Nat.reduceSub, Nat.reduceEqDiff, Nat.reduceBEq, Int.reduceToNat, reduceCtorEq]
    repeat ((with_reducible refine And.intro ?_ ?_); focus exact an0)
    refine blkM ?_
    refine loop_den (fun s : Int => (.ro 7 p0.length false (enR c_TForwardMark p0) :: .top :: .top :: .ptr 0 0 0 0 :: .top :: .top :: .top :: .int .i64 (p0.length : Nat) :: .int .i64 s :: tp 10 [])) (fun s => [.lit 59 [.int .u8 p1.Enter.x0, .int .u8 p1.Enter.x1, .int .u8 p1.Enter.x2, .int .u8 p1.Enter.x3, .int .u8 p1.Enter.x4, .int .u8 p1.Enter.x5, .int .i64 p1.Seq]]) (fun e : Unit => (tp 19 [])) (fun e => [.dead]) H ?_ (fun v1_1 o H hn1_1 hn2_1 => ?_) (fun e H => ?_)
    · refine SubF_of ⟨[some 0], ?_, ?_, by rfl, by rfl⟩
      · simp [CvL, Cv, getM, tp]
      · exact ⟨cv, trivial⟩
    · unfold F58_L1 at H
      try dsimp only at H ⊢
      try simp only [tp]
      refine sq ctNo_ok ?_
      simp only [go_sem, Nat.reduceLeDiff, Nat.reduceLT, Nat.reduceAdd, Nat.reduceMul, Nat.reduceSub, Nat.reduceEqDiff, Nat.reduceBEq, Int.reduceToNat, reduceCtorEq]
      refine seqM ?_
      refine condM' rfl trivial (fun hc => ?_) (fun hc => ?_)
      · replace H := cond_f hc H
        refine rg ctNo_ok ?_
        simp only [go_sem, Nat.reduceLeDiff, Nat.reduceLT, Nat.reduceAdd, Nat.reduceMul, Nat.reduceSub, Nat.reduceEqDiff, Nat.reduceBEq, Int.reduceToNat, reduceCtorEq]
        refine ⟨_, (Option.some.inj H).symm, ?_⟩
        refine SubF_of ⟨[some 0], ?_, ?_, by rfl, by rfl⟩
        · simp [CvL, Cv, getM, tp]
        · exact ⟨CvB_dead, trivial⟩
      replace H := cond_t hc H
      refine rg ctNo_ok ?_
      simp only [go_sem, Nat.reduceLeDiff, Nat.reduceLT, Nat.reduceAdd, Nat.reduceMul, Nat.reduceSub, Nat.reduceEqDiff, Nat.reduceBEq, Int.reduceToNat, reduceCtorEq]
      refine seqM ?_
      refine blkM ?_
      refine sq ctNo_ok ?_
      simp only [go_sem, Nat.reduceLeDiff, Nat.reduceLT, Nat.reduceAdd, Nat.reduceMul, Nat.reduceSub, Nat.reduceEqDiff, Nat.reduceBEq, Int.reduceToNat, reduceCtorEq]
      refine seqM ?_
      obtain ⟨f1, H⟩ := need_some.1 H
      replace f1 := inb_iff.1 f1
      refine draw_quiet shT_ok ctNo_ok (by kernel_rfl) (by kernel_rfl) ?_
      simp only [go_sem, Nat.reduceLeDiff, Nat.reduceLT, Nat.reduceAdd, Nat.reduceMul, Nat.reduceSub, Nat.reduceEqDiff, Nat.reduceBEq, Int.reduceToNat, reduceCtorEq, f1]
      repeat ((with_reducible refine And.intro ?_ ?_); focus exact an4)
      refine condM rfl trivial (fun hc => ?_) (fun hc => ?_)
      · replace H := cond_t hc H
        refine sq ctNo_ok ?_
        simp only [go_sem, Nat.reduceLeDiff, Nat.reduceLT, Nat.reduceAdd, Nat.reduceMul, Nat.reduceSub, Nat.reduceEqDiff, Nat.reduceBEq, Int.reduceToNat, reduceCtorEq]
        refine rg ctNo_ok ?_
        simp only [go_sem, Nat.reduceLeDiff, Nat.reduceLT, Nat.reduceAdd, Nat.reduceMul, Nat.reduceSub, Nat.reduceEqDiff, Nat.reduceBEq, Int.reduceToNat, reduceCtorEq]
        have H := hn2_1 _ (Option.some.inj H).symm
        obtain rfl := Option.some.inj H
        first | rfl | simp only [Bool.and_false, Bool.false_and, Bool.and_true, Bool.true_and]
      replace H := cond_f hc H
      refine rg ctNo_ok ?_
      simp only [go_sem, Nat.reduceLeDiff, Nat.reduceLT, Nat.reduceAdd, Nat.reduceMul, Nat.reduceSub, Nat.reduceEqDiff, Nat.reduceBEq, Int.reduceToNat, reduceCtorEq]
      refine rg ctNo_ok ?_
      simp only [go_sem, Nat.reduceLeDiff, Nat.reduceLT, Nat.reduceAdd, Nat.reduceMul, Nat.reduceSub, Nat.reduceEqDiff, Nat.reduceBEq, Int.reduceToNat, reduceCtorEq]
      refine ⟨_, (Option.some.inj H).symm, ?_⟩
      refine SubF_of ⟨[some 0], ?_, ?_, by rfl, by rfl⟩
      · simp [CvL, Cv, getM, tp]
      · exact ⟨cv, trivial⟩
    · try dsimp only at H ⊢
      try simp only [tp]
      try simp only [m_normal, k_normal, b_normal, kL_normal, r_normal]
      refine sq ctNo_ok ?_
      simp only [go_sem, Nat.reduceLeDiff, Nat.reduceLT, Nat.reduceAdd, Nat.reduceMul, Nat.reduceSub, Nat.reduceEqDiff, Nat.reduceBEq, Int.reduceToNat, reduceCtorEq]
      refine rg ctNo_ok ?_
      simp only [go_sem, Nat.reduceLeDiff, Nat.reduceLT, Nat.reduceAdd, Nat.reduceMul, Nat.reduceSub, Nat.reduceEqDiff, Nat.reduceBEq, Int.reduceToNat, reduceCtorEq]
      obtain rfl := Option.some.inj H
      first | rfl | simp only [Bool.and_false, Bool.false_and, Bool.and_true, Bool.true_and]
  · cases hb
/-! slices.Contains[[]hotspot/api.ForwardMark,hotspot/api.ForwardMark] -/
noncomputable def ct40t0 : Ct := tab [(58, pureC body58)]
theorem ct40t0_ok : CtOk Try.prog ct40t0 := tab_cons ok58 <| tab_nil
theorem ct40t0_58 (l : List AV) (h : List ABlk) : ct40t0 58 l h = pureC body58 l h := rfl
noncomputable def F40 (p0 : List TForwardMark) (p1 : TForwardMark) : Option (Bool) :=
  (F58 p0 p1).bind fun r1 => some (bLe 0 r1)
noncomputable def body40 : List AV -> AR
  | [v0, v1] => .pure (lK k_TForwardMark 7 v0 /\ aK 7 k_TForwardMark v1 /\ (F40 (lA g_TForwardMark v0) (g_TForwardMark (aL v1))).isSome = true) (.bool (gt (F40 (lA g_TForwardMark v0) (g_TForwardMark (aL v1)))))
  | _ => .fail
set_option maxHeartbeats 4000000 in
set_option maxRecDepth 20000 in
theorem ok40 : FnOk Try.prog 40 (pureC body40) := by
  refine pure_fnM body40 (rs := [.tmp 4]) Try.func40 (by kernel_rfl) rfl rfl ?_
  intro l ob v hb hob
  unfold body40 at hb
  split at hb
  · rename_i v0 v1
    injection hb with q1 q2; subst q1 q2
    obtain ⟨hk0_0, hk1_0, hob⟩ := hob
    obtain ⟨r, H⟩ := Option.isSome_iff_exists.1 hob
    rw [H, gt_some]
    have hw0 := lK_wk (fun r h => w_TForwardMark h) hk0_0
    have hw1 := wA_TForwardMark hk1_0
    generalize lA g_TForwardMark v0 = p0 at H hw0
    generalize g_TForwardMark (aL v1) = p1 at H hw1
    refine ⟨[.ro 7 p0.length false (enR c_TForwardMark p0), .agg [.int .u8 p1.Enter.x0, .int .u8 p1.Enter.x1, .int .u8 p1.Enter.x2, .int .u8 p1.Enter.x3, .int .u8 p1.Enter.x4, .int .u8 p1.Enter.x5, .int .i64 p1.Seq]], _, (fun E vs F => FR_wk1 hw0.1 F (fun vs F => FR_wk1 hw1.1 F (fun vs F => F))), rfl, rfl, ?_⟩
    rw [Try.ntmps40]
    simp only [List.length_cons, List.length_nil, Nat.reduceAdd, Nat.reduceSub, List.replicate_succ, List.replicate_zero, List.cons_append, List.nil_append]
    unfold F40 at H
    try dsimp only at H
    refine sq ctNo_ok ?_
    simp only [go_sem, Nat.reduceLeDiff, Nat.reduceLT, Nat.reduceAdd, Nat.reduceMul, Nat.reduceSub, Nat.reduceEqDiff, Nat.reduceBEq, Int.reduceToNat, reduceCtorEq]
    refine seqM ?_
    obtain ⟨r1, e2, H⟩ := bsi H
    refine rg ct40t0_ok ?_
    simp only [go_sem, Nat.reduceLeDiff, Nat.reduceLT, Nat.reduceAdd, Nat.reduceMul, Nat.reduceSub, Nat.reduceEqDiff, Nat.reduceBEq, Int.reduceToNat, reduceCtorEq, ct40t0_58, body58, e2]
    repeat ((with_reducible refine And.intro ?_ ?_); focus exact an0)
    refine rg ctNo_ok ?_
    simp only [go_sem, Nat.reduceLeDiff, Nat.reduceLT, Nat.reduceAdd, Nat.reduceMul, Nat.reduceSub, Nat.reduceEqDiff, Nat.reduceBEq, Int.reduceToNat, reduceCtorEq]
    obtain rfl := Option.some.inj H
    first | rfl | simp only [Bool.and_false, Bool.false_and, Bool.and_true, Bool.true_and]
  · cases hb
/-! hotspot/forward.odd -/
noncomputable def ct50t0 : Ct := tab [(39, pureC body39)]
theorem ct50t0_ok : CtOk Try.prog ct50t0 := tab_cons ok39 <| tab_nil
theorem ct50t0_39 (l : List AV) (h : List ABlk) : ct50t0 39 l h = pureC body39 l h := rfl
noncomputable def F50 (p0 : TForward) (p1 : A6u8) : Option (Bool) :=
  need (bif (!(bEq p1.x0 p0.Own.x0 && (bEq p1.x1 p0.Own.x1 && (bEq p1.x2 p0.Own.x2 && (bEq p1.x3 p0.Own.x3 && (bEq p1.x4 p0.Own.x4 && (bEq p1.x5 p0.Own.x5))))))) then ((F39 p1).isSome) else true) <| some ((bEq p1.x0 p0.Own.x0 && (bEq p1.x1 p0.Own.x1 && (bEq p1.x2 p0.Own.x2 && (bEq p1.x3 p0.Own.x3 && (bEq p1.x4 p0.Own.x4 && (bEq p1.x5 p0.Own.x5)))))) || (gt (F39 p1)))
noncomputable def body50 : List AV -> AR
  | [v0, v1] => .pure (aK 9 k_TForward v0 /\ aK 6 k_A6u8 v1 /\ (F50 (g_TForward (aL v0)) (g_A6u8 (aL v1))).isSome = true) (.bool (gt (F50 (g_TForward (aL v0)) (g_A6u8 (aL v1)))))
  | _ => .fail
set_option maxHeartbeats 4000000 in
set_option maxRecDepth 20000 in
theorem ok50 : FnOk Try.prog 50 (pureC body50) := by
  refine pure_fnM body50 (rs := [.tmp 4]) Try.func50 (by kernel_rfl) rfl rfl ?_
  intro l ob v hb hob
  unfold body50 at hb
  split at hb
  · rename_i v0 v1
    injection hb with q1 q2; subst q1 q2
    obtain ⟨hk0_0, hk1_0, hob⟩ := hob
    obtain ⟨r, H⟩ := Option.isSome_iff_exists.1 hob
    rw [H, gt_some]
    have hw0 := wA_TForward hk0_0
    have hw1 := wA_A6u8 hk1_0
    generalize g_TForward (aL v0) = p0 at H hw0
    generalize g_A6u8 (aL v1) = p1 at H hw1
    refine ⟨[.agg [.int .u8 p0.Own.x0, .int .u8 p0.Own.x1, .int .u8 p0.Own.x2, .int .u8 p0.Own.x3, .int .u8 p0.Own.x4, .int .u8 p0.Own.x5, .int .i64 p0.Seq, .ro 7 p0.Seen.length false (enR c_TForwardMark p0.Seen), .ro 12 p0.Nexts.length false (enR c_TForwardHop p0.Nexts)], .agg [.int .u8 p1.x0, .int .u8 p1.x1, .int .u8 p1.x2, .int .u8 p1.x3, .int .u8 p1.x4, .int .u8 p1.x5]], _, (fun E vs F => FR_wk1 hw0.1 F (fun vs F => FR_wk1 hw1.1 F (fun vs F => F))), rfl, rfl, ?_⟩
    rw [Try.ntmps50]
    simp only [List.length_cons, List.length_nil, Nat.reduceAdd, Nat.reduceSub, List.replicate_succ, List.replicate_zero, List.cons_append, List.nil_append]
    unfold F50 at H
    try dsimp only at H
    refine sq ctNo_ok ?_
    simp only [go_sem, Nat.reduceLeDiff, Nat.reduceLT, Nat.reduceAdd, Nat.reduceMul, Nat.reduceSub, Nat.reduceEqDiff, Nat.reduceBEq, Int.reduceToNat, reduceCtorEq]
    refine seqM ?_
    obtain ⟨f1, H⟩ := need_some.1 H
    replace f1 := g_iff.1 f1
    refine rg ct50t0_ok ?_
    simp only [go_sem, Nat.reduceLeDiff, Nat.reduceLT, Nat.reduceAdd, Nat.reduceMul, Nat.reduceSub, Nat.reduceEqDiff, Nat.reduceBEq, Int.reduceToNat, reduceCtorEq, ct50t0_39, body39]
    repeat ((with_reducible refine And.intro ?_ ?_); focus (first | (with_reducible trivial) | omega | exact f1 | (intro g; have q := f1 (by first | exact g | (rw [g]; rfl) | simpa using g); first | exact q | exact ⟨q.1, q.2.1⟩ | exact q.2.2 | omega | exact ⟨g, q⟩ | exact ⟨trivial, q⟩ | exact ⟨g, q.1, q.2.1⟩ | exact ⟨g, q.2.2⟩) | (intro g; (try have q0 := f1 (by first | exact g | (rw [g]; rfl) | simpa using g)); and_intros <;> first | (with_reducible trivial) | assumption | exact nfc | (intro g2; rw [g, g2]; rfl) | (intro g2; assumption) | (simp only [g, Bool.true_and, Bool.and_true, Bool.not_false, Bool.not_true]; assumption) | grind) | (and_intros <;> first | (with_reducible trivial) | omega | assumption | exact nfc | first | exact rfl | exact trivial | exact fitI | exact .inr rfl | exact .inl rfl | exact fun x hx => absurd hx (by omega)) | grind))
    refine rg ctNo_ok ?_
    simp only [go_sem, Nat.reduceLeDiff, Nat.reduceLT, Nat.reduceAdd, Nat.reduceMul, Nat.reduceSub, Nat.reduceEqDiff, Nat.reduceBEq, Int.reduceToNat, reduceCtorEq]
    obtain rfl := Option.some.inj H
    first | rfl | simp only [Bool.and_false, Bool.false_and, Bool.and_true, Bool.true_and]
  · cases hb
/-! bytes.Compare -/
noncomputable def F64 (p0 : List Int) (p1 : List Int) : Option Int :=
  need (u8A p0) <| need (u8A p1) <| some (cmpL p0 p1)
noncomputable def body64 : List AV -> AR
  | [v0, v1] => .pure (lK k_u8 1 v0 /\ lK k_u8 1 v1 /\ (F64 (lA g_u8 v0) (lA g_u8 v1)).isSome = true) (.int .i64 (gt (F64 (lA g_u8 v0) (lA g_u8 v1))))
  | _ => .fail
theorem walk64 (u v : Value) (r : Int) (w : World) (hd : (callFunc 70 #[u, v]).run Try.prog w = .ok (.value (.int .i64 r)) w) : Calls Try.prog 64 #[u, v] w fun e w' => e = .returned (.int .i64 r) /\ w' = w := by
  go_enter Try.func64, Try.ntmps64
  go_wp2
  go_ret
  exact ⟨rfl, rfl⟩
theorem ok64 : FnOk Try.prog 64 (pureC body64) := by
  refine pure_ext ⟨_, Try.func64, by kernel_rfl, by kernel_rfl⟩ body64 ?_
  intro E l vs ob x hb hob F
  unfold body64 at hb
  split at hb
  · rename_i v0 v1
    injection hb with q1 q2; subst q1 q2
    obtain ⟨h0, h1, hob⟩ := hob
    obtain ⟨r, H⟩ := Option.isSome_iff_exists.1 hob
    rw [H, gt_some]
    have w0 := lK_wk (fun r h => w_u8 h) h0
    have w1 := lK_wk (fun r h => w_u8 h) h1
    generalize lA g_u8 v0 = p0 at H w0
    generalize lA g_u8 v1 = p1 at H w1
    unfold F64 at H
    obtain ⟨f0, H⟩ := need_some.1 H
    obtain ⟨f1, H⟩ := need_some.1 H
    obtain rfl := Option.some.inj H
    obtain ⟨vs⟩ := vs
    match vs, F.1 with
    | [u, v], _ =>
      have hx := w0.1 E u (F.2 0 _ u rfl rfl)
      have hy := w1.1 E v (F.2 1 _ v rfl rfl)
      refine ⟨_, rfl, walk64 u v _ E.w ?_⟩
      rw [run_callFunc_extern Try.func70 (by kernel_rfl) (by kernel_rfl) (by kernel_rfl) (e := Extern.BytealgCompare.compare) (by kernel_rfl), run_compareBytes hx hy (u8b_iff.1 ((u8b_enR (f := c_u8) (fun _ => rfl) p0).trans f0)) (u8b_iff.1 ((u8b_enR (f := c_u8) (fun _ => rfl) p1).trans f1)), bytesC_enR (f := c_u8) (fun _ => rfl), bytesC_enR (f := c_u8) (fun _ => rfl)]
      simp only [strL]
      rw [cmpL_eq p0 p1 (u8A_iff.1 f0) (u8A_iff.1 f1)]
      rfl
  · cases hb
/-! hotspot/address.Compare -/
noncomputable def ct51t0 : Ct := tab [(64, pureC body64)]
theorem ct51t0_ok : CtOk Try.prog ct51t0 := tab_cons ok64 <| tab_nil
theorem ct51t0_64 (l : List AV) (h : List ABlk) : ct51t0 64 l h = pureC body64 l h := rfl
noncomputable def F51 (p0 : A6u8) (p1 : A6u8) : Option (Int) :=
  (F64 [p0.x0, p0.x1, p0.x2, p0.x3, p0.x4, p0.x5] [p1.x0, p1.x1, p1.x2, p1.x3, p1.x4, p1.x5]).bind fun r1 => some r1
noncomputable def body51 : List AV -> AR
  | [v0, v1] => .pure (aK 6 k_A6u8 v0 /\ aK 6 k_A6u8 v1 /\ (F51 (g_A6u8 (aL v0)) (g_A6u8 (aL v1))).isSome = true) (.int .i64 (gt (F51 (g_A6u8 (aL v0)) (g_A6u8 (aL v1)))))
  | _ => .fail
set_option maxHeartbeats 4000000 in
set_option maxRecDepth 20000 in
theorem ok51 : FnOk Try.prog 51 (pureC body51) := by
  refine pure_fnM body51 (rs := [.tmp 4]) Try.func51 (by kernel_rfl) rfl rfl ?_
  intro l ob v hb hob
  unfold body51 at hb
  split at hb
  · rename_i v0 v1
    injection hb with q1 q2; subst q1 q2
    obtain ⟨hk0_0, hk1_0, hob⟩ := hob
    obtain ⟨r, H⟩ := Option.isSome_iff_exists.1 hob
    rw [H, gt_some]
    have hw0 := wA_A6u8 hk0_0
    have hw1 := wA_A6u8 hk1_0
    generalize g_A6u8 (aL v0) = p0 at H hw0
    generalize g_A6u8 (aL v1) = p1 at H hw1
    refine ⟨[.agg [.int .u8 p0.x0, .int .u8 p0.x1, .int .u8 p0.x2, .int .u8 p0.x3, .int .u8 p0.x4, .int .u8 p0.x5], .agg [.int .u8 p1.x0, .int .u8 p1.x1, .int .u8 p1.x2, .int .u8 p1.x3, .int .u8 p1.x4, .int .u8 p1.x5]], _, (fun E vs F => FR_wk1 hw0.1 F (fun vs F => FR_wk1 hw1.1 F (fun vs F => F))), rfl, rfl, ?_⟩
    rw [Try.ntmps51]
    simp only [List.length_cons, List.length_nil, Nat.reduceAdd, Nat.reduceSub, List.replicate_succ, List.replicate_zero, List.cons_append, List.nil_append]
    unfold F51 at H
    try dsimp only at H
    refine sq ctNo_ok ?_
    simp only [go_sem, Nat.reduceLeDiff, Nat.reduceLT, Nat.reduceAdd, Nat.reduceMul, Nat.reduceSub, Nat.reduceEqDiff, Nat.reduceBEq, Int.reduceToNat, reduceCtorEq]
    refine seqM ?_
    obtain ⟨r1, e2, H⟩ := bsi H
    refine draw_quiet shT_ok ct51t0_ok (by kernel_rfl) (by kernel_rfl) ?_
    simp only [go_sem, Nat.reduceLeDiff, Nat.reduceLT, Nat.reduceAdd, Nat.reduceMul, Nat.reduceSub, Nat.reduceEqDiff, Nat.reduceBEq, Int.reduceToNat, reduceCtorEq, ct51t0_64, body64, e2]
    repeat ((with_reducible refine And.intro ?_ ?_); focus exact an2)
    refine rg ctNo_ok ?_
    simp only [go_sem, Nat.reduceLeDiff, Nat.reduceLT, Nat.reduceAdd, Nat.reduceMul, Nat.reduceSub, Nat.reduceEqDiff, Nat.reduceBEq, Int.reduceToNat, reduceCtorEq]
    obtain rfl := Option.some.inj H
    first | rfl | simp only [Bool.and_false, Bool.false_and, Bool.and_true, Bool.true_and]
  · cases hb
/-! hotspot/forward.Check -/
noncomputable def ct27t0 : Ct := tab [(39, pureC body39), (48, pureC body48)]
theorem ct27t0_ok : CtOk Try.prog ct27t0 := tab_cons ok39 <| tab_cons ok48 <| tab_nil
theorem ct27t0_39 (l : List AV) (h : List ABlk) : ct27t0 39 l h = pureC body39 l h := rfl
theorem ct27t0_48 (l : List AV) (h : List ABlk) : ct27t0 48 l h = pureC body48 l h := rfl
noncomputable def ct27t1 : Ct := tab [(40, pureC body40), (48, pureC body48)]
theorem ct27t1_ok : CtOk Try.prog ct27t1 := tab_cons ok40 <| tab_cons ok48 <| tab_nil
theorem ct27t1_40 (l : List AV) (h : List ABlk) : ct27t1 40 l h = pureC body40 l h := rfl
theorem ct27t1_48 (l : List AV) (h : List ABlk) : ct27t1 48 l h = pureC body48 l h := rfl
noncomputable def ct27t2 : Ct := tab [(50, pureC body50), (51, pureC body51)]
theorem ct27t2_ok : CtOk Try.prog ct27t2 := tab_cons ok50 <| tab_cons ok51 <| tab_nil
theorem ct27t2_50 (l : List AV) (h : List ABlk) : ct27t2 50 l h = pureC body50 l h := rfl
theorem ct27t2_51 (l : List AV) (h : List ABlk) : ct27t2 51 l h = pureC body51 l h := rfl
noncomputable def F27_L1 (p0 : TForward) (v1_1 : Int) : Option (Lp (Int) ((Unit) ⊕ (Int))) :=
  bif (bLt v1_1 (p0.Seen.length : Nat)) then (need (inb v1_1 p0.Seen.length) <| (F48 ((gd p0.Seen v1_1.toNat).Seq)).bind fun r5 => need (bif (!(!r5)) then slb 0 v1_1 p0.Seen.length else true) <| need (bif (!(!r5)) then ((F40 (deR g_TForwardMark v1_1.toNat (enR c_TForwardMark p0.Seen)) (TForwardMark.mk (A6u8.mk (((gd p0.Seen v1_1.toNat).Enter).x0) (((gd p0.Seen v1_1.toNat).Enter).x1) (((gd p0.Seen v1_1.toNat).Enter).x2) (((gd p0.Seen v1_1.toNat).Enter).x3) (((gd p0.Seen v1_1.toNat).Enter).x4) (((gd p0.Seen v1_1.toNat).Enter).x5)) ((gd p0.Seen v1_1.toNat).Seq))).isSome) else true) <| bif ((!r5) || (gt (F40 (deR g_TForwardMark v1_1.toNat (enR c_TForwardMark p0.Seen)) (TForwardMark.mk (A6u8.mk (((gd p0.Seen v1_1.toNat).Enter).x0) (((gd p0.Seen v1_1.toNat).Enter).x1) (((gd p0.Seen v1_1.toNat).Enter).x2) (((gd p0.Seen v1_1.toNat).Enter).x3) (((gd p0.Seen v1_1.toNat).Enter).x4) (((gd p0.Seen v1_1.toNat).Enter).x5)) ((gd p0.Seen v1_1.toNat).Seq))))) then (some (.done (.inr 8))) else (some (.next (wr .i64 (v1_1 + 1))))) else (some (.done (.inl ())))
noncomputable def F27_L2 (p0 : TForward) (v2_1 : Int) : Option (Lp (Int) ((Unit) ⊕ (Int))) :=
  bif (bLt v2_1 (p0.Nexts.length : Nat)) then (need (inb v2_1 p0.Nexts.length) <| (F50 p0 ((gd p0.Nexts v2_1.toNat).Dest)).bind fun r10 => need (bif (!r10) then ((F50 p0 ((gd p0.Nexts v2_1.toNat).Next)).isSome) else true) <| need (bif ((!(r10 || (gt (F50 p0 ((gd p0.Nexts v2_1.toNat).Next))))) && (bLt 0 v2_1)) then inb (wr .i64 (v2_1 - 1)) p0.Nexts.length else true) <| need (bif ((!(r10 || (gt (F50 p0 ((gd p0.Nexts v2_1.toNat).Next))))) && (bLt 0 v2_1)) then ((F51 ((gd p0.Nexts ((wr .i64 (v2_1 - 1)).toNat)).Dest) ((gd p0.Nexts v2_1.toNat).Dest)).isSome) else true) <| bif ((r10 || (gt (F50 p0 ((gd p0.Nexts v2_1.toNat).Next)))) || ((bLt 0 v2_1) && (bLe 0 (gt (F51 ((gd p0.Nexts ((wr .i64 (v2_1 - 1)).toNat)).Dest) ((gd p0.Nexts v2_1.toNat).Dest)))))) then (some (.done (.inr 8))) else (some (.next (wr .i64 (v2_1 + 1))))) else (some (.done (.inl ())))
noncomputable def F27 (p0 : TForward) : Option (Int) :=
  (F39 p0.Own).bind fun r1 => need (bif (!r1) then ((F48 p0.Seq).isSome) else true) <| bif (((r1 || (!(gt (F48 p0.Seq)))) || (bLt 128 (p0.Seen.length : Nat))) || (bLt 64 (p0.Nexts.length : Nat))) then (some 8) else (lp (loopD (fun s => F27_L1 p0 s) 0) (fun _ => lp (loopD (fun s => F27_L2 p0 s) 0) (fun _ => some 0) some) some)
noncomputable def body27 : List AV -> AR
  | [v0] => .pure (aK 9 k_TForward v0 /\ (F27 (g_TForward (aL v0))).isSome = true) (.int .i64 (gt (F27 (g_TForward (aL v0)))))
  | _ => .fail
set_option maxHeartbeats 4000000 in
set_option maxRecDepth 20000 in
theorem ok27 : FnOk Try.prog 27 (pureC body27) := by
  refine pure_fnM body27 (rs := [.tmp 2]) Try.func27 (by kernel_rfl) rfl rfl ?_
  intro l ob v hb hob
  unfold body27 at hb
  split at hb
  · rename_i v0
    injection hb with q1 q2; subst q1 q2
    obtain ⟨hk0_0, hob⟩ := hob
    obtain ⟨r, H⟩ := Option.isSome_iff_exists.1 hob
    rw [H, gt_some]
    have hw0 := wA_TForward hk0_0
    generalize g_TForward (aL v0) = p0 at H hw0
    refine ⟨[.agg [.int .u8 p0.Own.x0, .int .u8 p0.Own.x1, .int .u8 p0.Own.x2, .int .u8 p0.Own.x3, .int .u8 p0.Own.x4, .int .u8 p0.Own.x5, .int .i64 p0.Seq, .ro 7 p0.Seen.length false (enR c_TForwardMark p0.Seen), .ro 12 p0.Nexts.length false (enR c_TForwardHop p0.Nexts)]], _, (fun E vs F => FR_wk1 hw0.1 F (fun vs F => F)), rfl, rfl, ?_⟩
    rw [Try.ntmps27]
    simp only [List.length_cons, List.length_nil, Nat.reduceAdd, Nat.reduceSub, List.replicate_succ, List.replicate_zero, List.cons_append, List.nil_append]
    unfold F27 at H
    try dsimp only at H
    refine sq ctNo_ok ?_
    simp only [go_sem, Nat.reduceLeDiff, Nat.reduceLT, Nat.reduceAdd, Nat.reduceMul, Nat.reduceSub, Nat.reduceEqDiff, Nat.reduceBEq, Int.reduceToNat, reduceCtorEq]
    refine seqM ?_
    refine seqM ?_
    obtain ⟨r1, e2, H⟩ := bsi H
    obtain ⟨f3, H⟩ := need_some.1 H
    replace f3 := g_iff.1 f3
    refine rg ct27t0_ok ?_
    simp only [go_sem, Nat.reduceLeDiff, Nat.reduceLT, Nat.reduceAdd, Nat.reduceMul, Nat.reduceSub, Nat.reduceEqDiff, Nat.reduceBEq, Int.reduceToNat, reduceCtorEq, ct27t0_39, body39, ct27t0_48, body48, e2]
    repeat ((with_reducible refine And.intro ?_ ?_); focus (first | (with_reducible trivial) | omega | exact f3 | (intro g; have q := f3 (by first | exact g | (rw [g]; rfl) | simpa using g); first | exact q | exact ⟨q.1, q.2.1⟩ | exact q.2.2 | omega | exact ⟨g, q⟩ | exact ⟨trivial, q⟩ | exact ⟨g, q.1, q.2.1⟩ | exact ⟨g, q.2.2⟩) | (intro g; (try have q0 := f3 (by first | exact g | (rw [g]; rfl) | simpa using g)); and_intros <;> first | (with_reducible trivial) | assumption | exact nfc | (intro g2; rw [g, g2]; rfl) | (intro g2; assumption) | (simp only [g, Bool.true_and, Bool.and_true, Bool.not_false, Bool.not_true]; assumption) | grind) | (and_intros <;> first | (with_reducible trivial) | omega | assumption | exact nfc | first | exact rfl | exact trivial | exact fitI | exact .inr rfl | exact .inl rfl | exact fun x hx => absurd hx (by omega)) | grind))
    refine condM rfl trivial (fun hc => ?_) (fun hc => ?_)
    · replace H := cond_t hc H
      refine sq ctNo_ok ?_
      simp only [go_sem, Nat.reduceLeDiff, Nat.reduceLT, Nat.reduceAdd, Nat.reduceMul, Nat.reduceSub, Nat.reduceEqDiff, Nat.reduceBEq, Int.reduceToNat, reduceCtorEq]
      refine rg ctNo_ok ?_
      simp only [go_sem, Nat.reduceLeDiff, Nat.reduceLT, Nat.reduceAdd, Nat.reduceMul, Nat.reduceSub, Nat.reduceEqDiff, Nat.reduceBEq, Int.reduceToNat, reduceCtorEq]
      obtain rfl := Option.some.inj H
      first | rfl | simp only [Bool.and_false, Bool.false_and, Bool.and_true, Bool.true_and]
    replace H := cond_f hc H
    refine rg ctNo_ok ?_
    simp only [go_sem, Nat.reduceLeDiff, Nat.reduceLT, Nat.reduceAdd, Nat.reduceMul, Nat.reduceSub, Nat.reduceEqDiff, Nat.reduceBEq, Int.reduceToNat, reduceCtorEq]
    refine seqM ?_
    refine sq ctNo_ok ?_
    simp only [go_sem, Nat.reduceLeDiff, Nat.reduceLT, Nat.reduceAdd, Nat.reduceMul, Nat.reduceSub, Nat.reduceEqDiff, Nat.reduceBEq, Int.reduceToNat, reduceCtorEq]
    repeat ((with_reducible refine And.intro ?_ ?_); focus exact an0)
    refine blkM ?_
    refine loop_den (fun s : Int => (.top :: .ptr 0 0 0 0 :: tp 27 (.ro 7 p0.Seen.length false (enR c_TForwardMark p0.Seen) :: .int .i64 (p0.Seen.length : Nat) :: .int .i64 s :: tp 53 []))) (fun s => [.lit 31 [.int .u8 p0.Own.x0, .int .u8 p0.Own.x1, .int .u8 p0.Own.x2, .int .u8 p0.Own.x3, .int .u8 p0.Own.x4, .int .u8 p0.Own.x5, .int .i64 p0.Seq, .ro 7 p0.Seen.length false (enR c_TForwardMark p0.Seen), .ro 12 p0.Nexts.length false (enR c_TForwardHop p0.Nexts)]]) (fun e : Unit => (.top :: .ptr 0 0 0 0 :: tp 83 [])) (fun e => [.lit 31 [.int .u8 p0.Own.x0, .int .u8 p0.Own.x1, .int .u8 p0.Own.x2, .int .u8 p0.Own.x3, .int .u8 p0.Own.x4, .int .u8 p0.Own.x5, .int .i64 p0.Seq, .ro 7 p0.Seen.length false (enR c_TForwardMark p0.Seen), .ro 12 p0.Nexts.length false (enR c_TForwardHop p0.Nexts)]]) H ?_ (fun v1_1 o H hn1_1 hn2_1 => ?_) (fun e H => ?_)
    · refine SubF_of ⟨[some 0], ?_, ?_, by rfl, by rfl⟩
      · simp [CvL, Cv, getM, tp]
      · exact ⟨cv, trivial⟩
    · unfold F27_L1 at H
      try dsimp only at H ⊢
      try simp only [tp]
      refine sq ctNo_ok ?_
      simp only [go_sem, Nat.reduceLeDiff, Nat.reduceLT, Nat.reduceAdd, Nat.reduceMul, Nat.reduceSub, Nat.reduceEqDiff, Nat.reduceBEq, Int.reduceToNat, reduceCtorEq]
      refine seqM ?_
      refine condM' rfl trivial (fun hc => ?_) (fun hc => ?_)
      · replace H := cond_f hc H
        refine rg ctNo_ok ?_
        simp only [go_sem, Nat.reduceLeDiff, Nat.reduceLT, Nat.reduceAdd, Nat.reduceMul, Nat.reduceSub, Nat.reduceEqDiff, Nat.reduceBEq, Int.reduceToNat, reduceCtorEq]
        refine ⟨_, (Option.some.inj H).symm, ?_⟩
        refine SubF_of ⟨[some 0], ?_, ?_, by rfl, by rfl⟩
        · simp [CvL, Cv, getM, tp]
        · exact ⟨cv, trivial⟩
      replace H := cond_t hc H
      refine rg ctNo_ok ?_
      simp only [go_sem, Nat.reduceLeDiff, Nat.reduceLT, Nat.reduceAdd, Nat.reduceMul, Nat.reduceSub, Nat.reduceEqDiff, Nat.reduceBEq, Int.reduceToNat, reduceCtorEq]
      refine seqM ?_
      refine blkM ?_
      refine seqM ?_
      obtain ⟨f4, H⟩ := need_some.1 H
      replace f4 := inb_iff.1 f4
      refine rg ctNo_ok ?_
      simp only [go_sem, Nat.reduceLeDiff, Nat.reduceLT, Nat.reduceAdd, Nat.reduceMul, Nat.reduceSub, Nat.reduceEqDiff, Nat.reduceBEq, Int.reduceToNat, reduceCtorEq, f4]
      repeat ((with_reducible refine And.intro ?_ ?_); focus exact an4)
      refine seqM ?_
      obtain ⟨r5, e6, H⟩ := bsi H
      obtain ⟨f7, H⟩ := need_some.1 H
      replace f7 := g_iff.1 f7
      replace f7 := fun g => slb_iff.1 (f7 g)
      obtain ⟨f8, H⟩ := need_some.1 H
      replace f8 := g_iff.1 f8
      refine draw_quiet shT_ok ct27t1_ok (by kernel_rfl) (by kernel_rfl) ?_
      simp only [go_sem, Nat.reduceLeDiff, Nat.reduceLT, Nat.reduceAdd, Nat.reduceMul, Nat.reduceSub, Nat.reduceEqDiff, Nat.reduceBEq, Int.reduceToNat, reduceCtorEq, ct27t1_40, body40, ct27t1_48, body48, e6]
      repeat ((with_reducible refine And.intro ?_ ?_); focus (first | (with_reducible trivial) | omega | exact f7 | exact f8 | (intro g; have q := f7 (by first | exact g | (rw [g]; rfl) | simpa using g); first | exact q | exact ⟨q.1, q.2.1⟩ | exact q.2.2 | omega | exact ⟨g, q⟩ | exact ⟨trivial, q⟩ | exact ⟨g, q.1, q.2.1⟩ | exact ⟨g, q.2.2⟩) | (intro g; have q := f8 (by first | exact g | (rw [g]; rfl) | simpa using g); first | exact q | exact ⟨q.1, q.2.1⟩ | exact q.2.2 | omega | exact ⟨g, q⟩ | exact ⟨trivial, q⟩ | exact ⟨g, q.1, q.2.1⟩ | exact ⟨g, q.2.2⟩) | (intro g; (try have q0 := f7 (by first | exact g | (rw [g]; rfl) | simpa using g)); (try have q1 := f8 (by first | exact g | (rw [g]; rfl) | simpa using g)); and_intros <;> first | (with_reducible trivial) | assumption | exact nfc | (intro g2; rw [g, g2]; rfl) | (intro g2; assumption) | (simp only [g, Bool.true_and, Bool.and_true, Bool.not_false, Bool.not_true]; assumption) | grind) | (and_intros <;> first | (with_reducible trivial) | omega | assumption | exact nfc | first | exact rfl | exact trivial | exact fitI | exact .inr rfl | exact .inl rfl | exact fun x hx => absurd hx (by omega)) | grind))
      refine condM rfl trivial (fun hc => ?_) (fun hc => ?_)
      · replace H := cond_t hc H
        refine sq ctNo_ok ?_
        simp only [go_sem, Nat.reduceLeDiff, Nat.reduceLT, Nat.reduceAdd, Nat.reduceMul, Nat.reduceSub, Nat.reduceEqDiff, Nat.reduceBEq, Int.reduceToNat, reduceCtorEq]
        refine rg ctNo_ok ?_
        simp only [go_sem, Nat.reduceLeDiff, Nat.reduceLT, Nat.reduceAdd, Nat.reduceMul, Nat.reduceSub, Nat.reduceEqDiff, Nat.reduceBEq, Int.reduceToNat, reduceCtorEq]
        have H := hn2_1 _ (Option.some.inj H).symm
        obtain rfl := Option.some.inj H
        first | rfl | simp only [Bool.and_false, Bool.false_and, Bool.and_true, Bool.true_and]
      replace H := cond_f hc H
      refine rg ctNo_ok ?_
      simp only [go_sem, Nat.reduceLeDiff, Nat.reduceLT, Nat.reduceAdd, Nat.reduceMul, Nat.reduceSub, Nat.reduceEqDiff, Nat.reduceBEq, Int.reduceToNat, reduceCtorEq]
      refine rg ctNo_ok ?_
      simp only [go_sem, Nat.reduceLeDiff, Nat.reduceLT, Nat.reduceAdd, Nat.reduceMul, Nat.reduceSub, Nat.reduceEqDiff, Nat.reduceBEq, Int.reduceToNat, reduceCtorEq]
      refine ⟨_, (Option.some.inj H).symm, ?_⟩
      refine SubF_of ⟨[some 0], ?_, ?_, by rfl, by rfl⟩
      · simp [CvL, Cv, getM, tp]
      · exact ⟨cv, trivial⟩
    · try dsimp only at H ⊢
      try simp only [tp]
      try simp only [m_normal, k_normal, b_normal, kL_normal, r_normal]
      refine seqM ?_
      refine sq ctNo_ok ?_
      simp only [go_sem, Nat.reduceLeDiff, Nat.reduceLT, Nat.reduceAdd, Nat.reduceMul, Nat.reduceSub, Nat.reduceEqDiff, Nat.reduceBEq, Int.reduceToNat, reduceCtorEq]
      repeat ((with_reducible refine And.intro ?_ ?_); focus exact an0)
      refine blkM ?_
      refine loop_den (fun s : Int => (.top :: .ptr 0 0 0 0 :: tp 48 (.ro 12 p0.Nexts.length false (enR c_TForwardHop p0.Nexts) :: .int .i64 (p0.Nexts.length : Nat) :: .int .i64 s :: tp 32 []))) (fun s => [.lit 31 [.int .u8 p0.Own.x0, .int .u8 p0.Own.x1, .int .u8 p0.Own.x2, .int .u8 p0.Own.x3, .int .u8 p0.Own.x4, .int .u8 p0.Own.x5, .int .i64 p0.Seq, .ro 7 p0.Seen.length false (enR c_TForwardMark p0.Seen), .ro 12 p0.Nexts.length false (enR c_TForwardHop p0.Nexts)]]) (fun e : Unit => (tp 85 [])) (fun e => [.dead]) H ?_ (fun v2_1 o H hn1_2 hn2_2 => ?_) (fun e H => ?_)
      · refine SubF_of ⟨[some 0], ?_, ?_, by rfl, by rfl⟩
        · simp [CvL, Cv, getM, tp]
        · exact ⟨cv, trivial⟩
      · unfold F27_L2 at H
        try dsimp only at H ⊢
        try simp only [tp]
        refine sq ctNo_ok ?_
        simp only [go_sem, Nat.reduceLeDiff, Nat.reduceLT, Nat.reduceAdd, Nat.reduceMul, Nat.reduceSub, Nat.reduceEqDiff, Nat.reduceBEq, Int.reduceToNat, reduceCtorEq]
        refine seqM ?_
        refine condM' rfl trivial (fun hc => ?_) (fun hc => ?_)
        · replace H := cond_f hc H
          refine rg ctNo_ok ?_
          simp only [go_sem, Nat.reduceLeDiff, Nat.reduceLT, Nat.reduceAdd, Nat.reduceMul, Nat.reduceSub, Nat.reduceEqDiff, Nat.reduceBEq, Int.reduceToNat, reduceCtorEq]
          refine ⟨_, (Option.some.inj H).symm, ?_⟩
          refine SubF_of ⟨[some 0], ?_, ?_, by rfl, by rfl⟩
          · simp [CvL, Cv, getM, tp]
          · exact ⟨CvB_dead, trivial⟩
        replace H := cond_t hc H
        refine rg ctNo_ok ?_
        simp only [go_sem, Nat.reduceLeDiff, Nat.reduceLT, Nat.reduceAdd, Nat.reduceMul, Nat.reduceSub, Nat.reduceEqDiff, Nat.reduceBEq, Int.reduceToNat, reduceCtorEq]
        refine seqM ?_
        refine blkM ?_
        refine seqM ?_
        obtain ⟨f9, H⟩ := need_some.1 H
        replace f9 := inb_iff.1 f9
        refine rg ctNo_ok ?_
        simp only [go_sem, Nat.reduceLeDiff, Nat.reduceLT, Nat.reduceAdd, Nat.reduceMul, Nat.reduceSub, Nat.reduceEqDiff, Nat.reduceBEq, Int.reduceToNat, reduceCtorEq, f9]
        repeat ((with_reducible refine And.intro ?_ ?_); focus exact an4)
        refine seqM ?_
        obtain ⟨r10, e11, H⟩ := bsi H
        obtain ⟨f12, H⟩ := need_some.1 H
        replace f12 := g_iff.1 f12
        obtain ⟨f13, H⟩ := need_some.1 H
        replace f13 := g_iff.1 f13
        replace f13 := fun g => inb_iff.1 (f13 g)
        obtain ⟨f14, H⟩ := need_some.1 H
        replace f14 := g_iff.1 f14
        refine draw_quiet shT_ok ct27t2_ok (by kernel_rfl) (by kernel_rfl) ?_
        simp only [go_sem, Nat.reduceLeDiff, Nat.reduceLT, Nat.reduceAdd, Nat.reduceMul, Nat.reduceSub, Nat.reduceEqDiff, Nat.reduceBEq, Int.reduceToNat, reduceCtorEq, ct27t2_50, body50, ct27t2_51, body51, e11]
        repeat ((with_reducible refine And.intro ?_ ?_); focus (first | (with_reducible trivial) | omega | exact f12 | exact f13 | exact f14 | (intro g; have q := f12 (by first | exact g | (rw [g]; rfl) | simpa using g); first | exact q | exact ⟨q.1, q.2.1⟩ | exact q.2.2 | omega | exact ⟨g, q⟩ | exact ⟨trivial, q⟩ | exact ⟨g, q.1, q.2.1⟩ | exact ⟨g, q.2.2⟩) | (intro g; have q := f13 (by first | exact g | (rw [g]; rfl) | simpa using g); first | exact q | exact ⟨q.1, q.2.1⟩ | exact q.2.2 | omega | exact ⟨g, q⟩ | exact ⟨trivial, q⟩ | exact ⟨g, q.1, q.2.1⟩ | exact ⟨g, q.2.2⟩) | (intro g; have q := f14 (by first | exact g | (rw [g]; rfl) | simpa using g); first | exact q | exact ⟨q.1, q.2.1⟩ | exact q.2.2 | omega | exact ⟨g, q⟩ | exact ⟨trivial, q⟩ | exact ⟨g, q.1, q.2.1⟩ | exact ⟨g, q.2.2⟩) | (intro g; (try have q0 := f12 (by first | exact g | (rw [g]; rfl) | simpa using g)); (try have q1 := f13 (by first | exact g | (rw [g]; rfl) | simpa using g)); (try have q2 := f14 (by first | exact g | (rw [g]; rfl) | simpa using g)); and_intros <;> first | (with_reducible trivial) | assumption | exact nfc | (intro g2; rw [g, g2]; rfl) | (intro g2; assumption) | (simp only [g, Bool.true_and, Bool.and_true, Bool.not_false, Bool.not_true]; assumption) | grind) | (and_intros <;> first | (with_reducible trivial) | omega | assumption | exact nfc | first | exact rfl | exact trivial | exact fitI | exact .inr rfl | exact .inl rfl | exact fun x hx => absurd hx (by omega)) | grind))
        refine condM rfl trivial (fun hc => ?_) (fun hc => ?_)
        · replace H := cond_t hc H
          refine sq ctNo_ok ?_
          simp only [go_sem, Nat.reduceLeDiff, Nat.reduceLT, Nat.reduceAdd, Nat.reduceMul, Nat.reduceSub, Nat.reduceEqDiff, Nat.reduceBEq, Int.reduceToNat, reduceCtorEq]
          refine rg ctNo_ok ?_
          simp only [go_sem, Nat.reduceLeDiff, Nat.reduceLT, Nat.reduceAdd, Nat.reduceMul, Nat.reduceSub, Nat.reduceEqDiff, Nat.reduceBEq, Int.reduceToNat, reduceCtorEq]
          have H := hn2_2 _ (Option.some.inj H).symm
          obtain rfl := Option.some.inj H
          first | rfl | simp only [Bool.and_false, Bool.false_and, Bool.and_true, Bool.true_and]
        replace H := cond_f hc H
        refine rg ctNo_ok ?_
        simp only [go_sem, Nat.reduceLeDiff, Nat.reduceLT, Nat.reduceAdd, Nat.reduceMul, Nat.reduceSub, Nat.reduceEqDiff, Nat.reduceBEq, Int.reduceToNat, reduceCtorEq]
        refine rg ctNo_ok ?_
        simp only [go_sem, Nat.reduceLeDiff, Nat.reduceLT, Nat.reduceAdd, Nat.reduceMul, Nat.reduceSub, Nat.reduceEqDiff, Nat.reduceBEq, Int.reduceToNat, reduceCtorEq]
        refine ⟨_, (Option.some.inj H).symm, ?_⟩
        refine SubF_of ⟨[some 0], ?_, ?_, by rfl, by rfl⟩
        · simp [CvL, Cv, getM, tp]
        · exact ⟨cv, trivial⟩
      · try dsimp only at H ⊢
        try simp only [tp]
        try simp only [m_normal, k_normal, b_normal, kL_normal, r_normal]
        refine sq ctNo_ok ?_
        simp only [go_sem, Nat.reduceLeDiff, Nat.reduceLT, Nat.reduceAdd, Nat.reduceMul, Nat.reduceSub, Nat.reduceEqDiff, Nat.reduceBEq, Int.reduceToNat, reduceCtorEq]
        refine rg ctNo_ok ?_
        simp only [go_sem, Nat.reduceLeDiff, Nat.reduceLT, Nat.reduceAdd, Nat.reduceMul, Nat.reduceSub, Nat.reduceEqDiff, Nat.reduceBEq, Int.reduceToNat, reduceCtorEq]
        obtain rfl := Option.some.inj H
        first | rfl | simp only [Bool.and_false, Bool.false_and, Bool.and_true, Bool.true_and]
  · cases hb
/-! hotspot/forward.find$1 -/
noncomputable def ct66t0 : Ct := tab [(51, pureC body51)]
theorem ct66t0_ok : CtOk Try.prog ct66t0 := tab_cons ok51 <| tab_nil
theorem ct66t0_51 (l : List AV) (h : List ABlk) : ct66t0 51 l h = pureC body51 l h := rfl
noncomputable def F66 (p0 : TForwardHop) (p1 : A6u8) : Option (Int) :=
  (F51 p0.Dest p1).bind fun r1 => some r1
noncomputable def body66 : List AV -> AR
  | [v0, v1] => .pure (aK 12 k_TForwardHop v0 /\ aK 6 k_A6u8 v1 /\ (F66 (g_TForwardHop (aL v0)) (g_A6u8 (aL v1))).isSome = true) (.int .i64 (gt (F66 (g_TForwardHop (aL v0)) (g_A6u8 (aL v1)))))
  | _ => .fail
set_option maxHeartbeats 4000000 in
set_option maxRecDepth 20000 in
theorem ok66 : FnOk Try.prog 66 (pureC body66) := by
  refine pure_fnM body66 (rs := [.tmp 4]) Try.func66 (by kernel_rfl) rfl rfl ?_
  intro l ob v hb hob
  unfold body66 at hb
  split at hb
  · rename_i v0 v1
    injection hb with q1 q2; subst q1 q2
    obtain ⟨hk0_0, hk1_0, hob⟩ := hob
    obtain ⟨r, H⟩ := Option.isSome_iff_exists.1 hob
    rw [H, gt_some]
    have hw0 := wA_TForwardHop hk0_0
    have hw1 := wA_A6u8 hk1_0
    generalize g_TForwardHop (aL v0) = p0 at H hw0
    generalize g_A6u8 (aL v1) = p1 at H hw1
    refine ⟨[.agg [.int .u8 p0.Dest.x0, .int .u8 p0.Dest.x1, .int .u8 p0.Dest.x2, .int .u8 p0.Dest.x3, .int .u8 p0.Dest.x4, .int .u8 p0.Dest.x5, .int .u8 p0.Next.x0, .int .u8 p0.Next.x1, .int .u8 p0.Next.x2, .int .u8 p0.Next.x3, .int .u8 p0.Next.x4, .int .u8 p0.Next.x5], .agg [.int .u8 p1.x0, .int .u8 p1.x1, .int .u8 p1.x2, .int .u8 p1.x3, .int .u8 p1.x4, .int .u8 p1.x5]], _, (fun E vs F => FR_wk1 hw0.1 F (fun vs F => FR_wk1 hw1.1 F (fun vs F => F))), rfl, rfl, ?_⟩
    rw [Try.ntmps66]
    simp only [List.length_cons, List.length_nil, Nat.reduceAdd, Nat.reduceSub, List.replicate_succ, List.replicate_zero, List.cons_append, List.nil_append]
    unfold F66 at H
    try dsimp only at H
    refine sq ctNo_ok ?_
    simp only [go_sem, Nat.reduceLeDiff, Nat.reduceLT, Nat.reduceAdd, Nat.reduceMul, Nat.reduceSub, Nat.reduceEqDiff, Nat.reduceBEq, Int.reduceToNat, reduceCtorEq]
    refine seqM ?_
    obtain ⟨r1, e2, H⟩ := bsi H
    refine rg ct66t0_ok ?_
    simp only [go_sem, Nat.reduceLeDiff, Nat.reduceLT, Nat.reduceAdd, Nat.reduceMul, Nat.reduceSub, Nat.reduceEqDiff, Nat.reduceBEq, Int.reduceToNat, reduceCtorEq, ct66t0_51, body51, e2]
    repeat ((with_reducible refine And.intro ?_ ?_); focus exact an0)
    refine rg ctNo_ok ?_
    simp only [go_sem, Nat.reduceLeDiff, Nat.reduceLT, Nat.reduceAdd, Nat.reduceMul, Nat.reduceSub, Nat.reduceEqDiff, Nat.reduceBEq, Int.reduceToNat, reduceCtorEq]
    obtain rfl := Option.some.inj H
    first | rfl | simp only [Bool.and_false, Bool.false_and, Bool.and_true, Bool.true_and]
  · cases hb
/-! slices.BinarySearchFunc[[]hotspot/api.ForwardHop,hotspot/api.ForwardHop,hotspot/api.Addr] -/
noncomputable def ct65_0t0 : Ct := tab [(66, pureC body66)]
theorem ct65_0t0_ok : CtOk Try.prog ct65_0t0 := tab_cons ok66 <| tab_nil
theorem ct65_0t0_66 (l : List AV) (h : List ABlk) : ct65_0t0 66 l h = pureC body66 l h := rfl
noncomputable def F65_0_L1 (p0 : List TForwardHop) (p1 : A6u8) (v1_1 : Int) (v1_2 : Int) : Option (Lp (Int × Int) ((Int) ⊕ (Int × Bool))) :=
  bif (bLt v1_1 v1_2) then (need (inb (wr .i64 (shrI .u64 (wr .u64 (wr .i64 (v1_1 + v1_2))) 1)) p0.length) <| (F66 (TForwardHop.mk (A6u8.mk (((gd p0 ((wr .i64 (shrI .u64 (wr .u64 (wr .i64 (v1_1 + v1_2))) 1)).toNat)).Dest).x0) (((gd p0 ((wr .i64 (shrI .u64 (wr .u64 (wr .i64 (v1_1 + v1_2))) 1)).toNat)).Dest).x1) (((gd p0 ((wr .i64 (shrI .u64 (wr .u64 (wr .i64 (v1_1 + v1_2))) 1)).toNat)).Dest).x2) (((gd p0 ((wr .i64 (shrI .u64 (wr .u64 (wr .i64 (v1_1 + v1_2))) 1)).toNat)).Dest).x3) (((gd p0 ((wr .i64 (shrI .u64 (wr .u64 (wr .i64 (v1_1 + v1_2))) 1)).toNat)).Dest).x4) (((gd p0 ((wr .i64 (shrI .u64 (wr .u64 (wr .i64 (v1_1 + v1_2))) 1)).toNat)).Dest).x5)) (A6u8.mk (((gd p0 ((wr .i64 (shrI .u64 (wr .u64 (wr .i64 (v1_1 + v1_2))) 1)).toNat)).Next).x0) (((gd p0 ((wr .i64 (shrI .u64 (wr .u64 (wr .i64 (v1_1 + v1_2))) 1)).toNat)).Next).x1) (((gd p0 ((wr .i64 (shrI .u64 (wr .u64 (wr .i64 (v1_1 + v1_2))) 1)).toNat)).Next).x2) (((gd p0 ((wr .i64 (shrI .u64 (wr .u64 (wr .i64 (v1_1 + v1_2))) 1)).toNat)).Next).x3) (((gd p0 ((wr .i64 (shrI .u64 (wr .u64 (wr .i64 (v1_1 + v1_2))) 1)).toNat)).Next).x4) (((gd p0 ((wr .i64 (shrI .u64 (wr .u64 (wr .i64 (v1_1 + v1_2))) 1)).toNat)).Next).x5))) p1).bind fun r2 => bif (bLt r2 0) then (some (.next (wr .i64 ((wr .i64 (shrI .u64 (wr .u64 (wr .i64 (v1_1 + v1_2))) 1)) + 1), v1_2))) else (some (.next (v1_1, wr .i64 (shrI .u64 (wr .u64 (wr .i64 (v1_1 + v1_2))) 1))))) else (some (.done (.inl v1_1)))
noncomputable def F65_0 (p0 : List TForwardHop) (p1 : A6u8) : Option (Int × Bool) :=
  lp (loopD (fun s => F65_0_L1 p0 p1 s.1 s.2) (0, (p0.length : Nat))) (fun w1_3 => need (bif (bLt w1_3 (p0.length : Nat)) then inb w1_3 p0.length else true) <| need (bif (bLt w1_3 (p0.length : Nat)) then ((F66 (TForwardHop.mk (A6u8.mk (((gd p0 w1_3.toNat).Dest).x0) (((gd p0 w1_3.toNat).Dest).x1) (((gd p0 w1_3.toNat).Dest).x2) (((gd p0 w1_3.toNat).Dest).x3) (((gd p0 w1_3.toNat).Dest).x4) (((gd p0 w1_3.toNat).Dest).x5)) (A6u8.mk (((gd p0 w1_3.toNat).Next).x0) (((gd p0 w1_3.toNat).Next).x1) (((gd p0 w1_3.toNat).Next).x2) (((gd p0 w1_3.toNat).Next).x3) (((gd p0 w1_3.toNat).Next).x4) (((gd p0 w1_3.toNat).Next).x5))) p1).isSome) else true) <| some (w1_3, ((bLt w1_3 (p0.length : Nat)) && (bEq (gt (F66 (TForwardHop.mk (A6u8.mk (((gd p0 w1_3.toNat).Dest).x0) (((gd p0 w1_3.toNat).Dest).x1) (((gd p0 w1_3.toNat).Dest).x2) (((gd p0 w1_3.toNat).Dest).x3) (((gd p0 w1_3.toNat).Dest).x4) (((gd p0 w1_3.toNat).Dest).x5)) (A6u8.mk (((gd p0 w1_3.toNat).Next).x0) (((gd p0 w1_3.toNat).Next).x1) (((gd p0 w1_3.toNat).Next).x2) (((gd p0 w1_3.toNat).Next).x3) (((gd p0 w1_3.toNat).Next).x4) (((gd p0 w1_3.toNat).Next).x5))) p1)) 0)))) some
noncomputable def body65_0 : List AV -> AR
  | [v0, v1, .fn 66 []] => .pure (lK k_TForwardHop 12 v0 /\ aK 6 k_A6u8 v1 /\ (F65_0 (lA g_TForwardHop v0) (g_A6u8 (aL v1))).isSome = true) (.tup [.int .i64 ((gt (F65_0 (lA g_TForwardHop v0) (g_A6u8 (aL v1)))).1), .bool ((gt (F65_0 (lA g_TForwardHop v0) (g_A6u8 (aL v1)))).2)])
  | _ => .fail
set_option maxHeartbeats 4000000 in
set_option maxRecDepth 20000 in
theorem ok65_0 : FnOk Try.prog 65 (pureC body65_0) := by
  refine pure_fnM body65_0 (rs := [.tmp 6, .tmp 7]) Try.func65 (by kernel_rfl) rfl rfl ?_
  intro l ob v hb hob
  unfold body65_0 at hb
  split at hb
  · rename_i v0 v1
    injection hb with q1 q2; subst q1 q2
    obtain ⟨hk0_0, hk1_0, hob⟩ := hob
    obtain ⟨r, H⟩ := Option.isSome_iff_exists.1 hob
    rw [H, gt_some]
    have hw0 := lK_wk (fun r h => w_TForwardHop h) hk0_0
    have hw1 := wA_A6u8 hk1_0
    generalize lA g_TForwardHop v0 = p0 at H hw0
    generalize g_A6u8 (aL v1) = p1 at H hw1
    refine ⟨[.ro 12 p0.length false (enR c_TForwardHop p0), .agg [.int .u8 p1.x0, .int .u8 p1.x1, .int .u8 p1.x2, .int .u8 p1.x3, .int .u8 p1.x4, .int .u8 p1.x5], .fn 66 []], _, (fun E vs F => FR_wk1 hw0.1 F (fun vs F => FR_wk1 hw1.1 F (fun vs F => FR_wk1 (fn_wk LW_nil) F (fun vs F => F)))), rfl, rfl, ?_⟩
    rw [Try.ntmps65]
    simp only [List.length_cons, List.length_nil, Nat.reduceAdd, Nat.reduceSub, List.replicate_succ, List.replicate_zero, List.cons_append, List.nil_append]
    unfold F65_0 at H
    try dsimp only at H
    refine sq ctNo_ok ?_
    simp only [go_sem, Nat.reduceLeDiff, Nat.reduceLT, Nat.reduceAdd, Nat.reduceMul, Nat.reduceSub, Nat.reduceEqDiff, Nat.reduceBEq, Int.reduceToNat, reduceCtorEq]
    refine sq ctNo_ok ?_
    simp only [go_sem, Nat.reduceLeDiff, Nat.reduceLT, Nat.reduceAdd, Nat.reduceMul, Nat.reduceSub, Nat.reduceEqDiff, Nat.reduceBEq, Int.reduceToNat, reduceCtorEq]
    repeat ((with_reducible refine And.intro ?_ ?_); focus exact an0)
    refine sq ctNo_ok ?_
    simp only [go_sem, Nat.reduceLeDiff, Nat.reduceLT, Nat.reduceAdd, Nat.reduceMul, Nat.reduceSub, Nat.reduceEqDiff, Nat.reduceBEq, Int.reduceToNat, reduceCtorEq]
    refine seqM ?_
    refine blkM ?_
    refine loop_den (fun s : Int × Int => (.ro 12 p0.length false (enR c_TForwardHop p0) :: .top :: .fn 66 [] :: .top :: .ptr 0 0 0 0 :: .top :: .top :: .top :: .int .i64 (p0.length : Nat) :: .int .i64 s.1 :: .int .i64 s.2 :: tp 38 [])) (fun s => [.lit 23 [.int .u8 p1.x0, .int .u8 p1.x1, .int .u8 p1.x2, .int .u8 p1.x3, .int .u8 p1.x4, .int .u8 p1.x5]]) (fun e : Int => (.ro 12 p0.length false (enR c_TForwardHop p0) :: .top :: .fn 66 [] :: .top :: .ptr 0 0 0 0 :: .top :: .top :: .top :: .int .i64 (p0.length : Nat) :: .int .i64 e :: tp 39 [])) (fun e => [.lit 23 [.int .u8 p1.x0, .int .u8 p1.x1, .int .u8 p1.x2, .int .u8 p1.x3, .int .u8 p1.x4, .int .u8 p1.x5]]) H ?_ (fun s o H hn1_1 hn2_1 => ?_) (fun w1_3 H => ?_)
    · refine SubF_of ⟨[some 0], ?_, ?_, by rfl, by rfl⟩
      · simp [CvL, Cv, getM, tp]
      · exact ⟨cv, trivial⟩
    · obtain ⟨v1_1, v1_2⟩ := s
      unfold F65_0_L1 at H
      try dsimp only at H ⊢
      try simp only [tp]
      refine seqM ?_
      refine sq ctNo_ok ?_
      simp only [go_sem, Nat.reduceLeDiff, Nat.reduceLT, Nat.reduceAdd, Nat.reduceMul, Nat.reduceSub, Nat.reduceEqDiff, Nat.reduceBEq, Int.reduceToNat, reduceCtorEq]
      refine condM' rfl trivial (fun hc => ?_) (fun hc => ?_)
      · replace H := cond_f hc H
        refine rg ctNo_ok ?_
        simp only [go_sem, Nat.reduceLeDiff, Nat.reduceLT, Nat.reduceAdd, Nat.reduceMul, Nat.reduceSub, Nat.reduceEqDiff, Nat.reduceBEq, Int.reduceToNat, reduceCtorEq]
        refine ⟨_, (Option.some.inj H).symm, ?_⟩
        refine SubF_of ⟨[some 0], ?_, ?_, by rfl, by rfl⟩
        · simp [CvL, Cv, getM, tp]
        · exact ⟨cv, trivial⟩
      replace H := cond_t hc H
      refine rg ctNo_ok ?_
      simp only [go_sem, Nat.reduceLeDiff, Nat.reduceLT, Nat.reduceAdd, Nat.reduceMul, Nat.reduceSub, Nat.reduceEqDiff, Nat.reduceBEq, Int.reduceToNat, reduceCtorEq]
      refine blkM ?_
      refine sq ctNo_ok ?_
      simp only [go_sem, Nat.reduceLeDiff, Nat.reduceLT, Nat.reduceAdd, Nat.reduceMul, Nat.reduceSub, Nat.reduceEqDiff, Nat.reduceBEq, Int.reduceToNat, reduceCtorEq]
      repeat ((with_reducible refine And.intro ?_ ?_); focus exact an4)
      refine seqM ?_
      obtain ⟨f1, H⟩ := need_some.1 H
      replace f1 := inb_iff.1 f1
      obtain ⟨r2, e3, H⟩ := bsi H
      refine draw_quiet shT_ok ct65_0t0_ok (by kernel_rfl) (by kernel_rfl) ?_
      simp only [go_sem, Nat.reduceLeDiff, Nat.reduceLT, Nat.reduceAdd, Nat.reduceMul, Nat.reduceSub, Nat.reduceEqDiff, Nat.reduceBEq, Int.reduceToNat, reduceCtorEq, ct65_0t0_66, body66, f1, e3]
      repeat ((with_reducible refine And.intro ?_ ?_); focus exact an0)
      refine condM rfl trivial (fun hc => ?_) (fun hc => ?_)
      · replace H := cond_t hc H
        refine rg ctNo_ok ?_
        simp only [go_sem, Nat.reduceLeDiff, Nat.reduceLT, Nat.reduceAdd, Nat.reduceMul, Nat.reduceSub, Nat.reduceEqDiff, Nat.reduceBEq, Int.reduceToNat, reduceCtorEq]
        refine ⟨_, (Option.some.inj H).symm, ?_⟩
        refine SubF_of ⟨[some 0], ?_, ?_, by rfl, by rfl⟩
        · simp [CvL, Cv, getM, tp]
        · exact ⟨cv, trivial⟩
      replace H := cond_f hc H
      refine rg ctNo_ok ?_
      simp only [go_sem, Nat.reduceLeDiff, Nat.reduceLT, Nat.reduceAdd, Nat.reduceMul, Nat.reduceSub, Nat.reduceEqDiff, Nat.reduceBEq, Int.reduceToNat, reduceCtorEq]
      refine ⟨_, (Option.some.inj H).symm, ?_⟩
      refine SubF_of ⟨[some 0], ?_, ?_, by rfl, by rfl⟩
      · simp [CvL, Cv, getM, tp]
      · exact ⟨cv, trivial⟩
    · try dsimp only at H ⊢
      try simp only [tp]
      try simp only [m_normal, k_normal, b_normal, kL_normal, r_normal]
      refine seqM ?_
      obtain ⟨f4, H⟩ := need_some.1 H
      replace f4 := g_iff.1 f4
      replace f4 := fun g => inb_iff.1 (f4 g)
      obtain ⟨f5, H⟩ := need_some.1 H
      replace f5 := g_iff.1 f5
      refine draw_quiet shT_ok ct65_0t0_ok (by kernel_rfl) (by kernel_rfl) ?_
      simp only [go_sem, Nat.reduceLeDiff, Nat.reduceLT, Nat.reduceAdd, Nat.reduceMul, Nat.reduceSub, Nat.reduceEqDiff, Nat.reduceBEq, Int.reduceToNat, reduceCtorEq, ct65_0t0_66, body66]
      repeat ((with_reducible refine And.intro ?_ ?_); focus (first | (with_reducible trivial) | omega | exact f4 | exact f5 | (intro g; have q := f4 (by first | exact g | (rw [g]; rfl) | simpa using g); first | exact q | exact ⟨q.1, q.2.1⟩ | exact q.2.2 | omega | exact ⟨g, q⟩ | exact ⟨trivial, q⟩ | exact ⟨g, q.1, q.2.1⟩ | exact ⟨g, q.2.2⟩) | (intro g; have q := f5 (by first | exact g | (rw [g]; rfl) | simpa using g); first | exact q | exact ⟨q.1, q.2.1⟩ | exact q.2.2 | omega | exact ⟨g, q⟩ | exact ⟨trivial, q⟩ | exact ⟨g, q.1, q.2.1⟩ | exact ⟨g, q.2.2⟩) | (intro g; (try have q0 := f4 (by first | exact g | (rw [g]; rfl) | simpa using g)); (try have q1 := f5 (by first | exact g | (rw [g]; rfl) | simpa using g)); and_intros <;> first | (with_reducible trivial) | assumption | exact nfc | (intro g2; rw [g, g2]; rfl) | (intro g2; assumption) | (simp only [g, Bool.true_and, Bool.and_true, Bool.not_false, Bool.not_true]; assumption) | grind) | (and_intros <;> first | (with_reducible trivial) | omega | assumption | exact nfc | first | exact rfl | exact trivial | exact fitI | exact .inr rfl | exact .inl rfl | exact fun x hx => absurd hx (by omega)) | grind))
      refine rg ctNo_ok ?_
      simp only [go_sem, Nat.reduceLeDiff, Nat.reduceLT, Nat.reduceAdd, Nat.reduceMul, Nat.reduceSub, Nat.reduceEqDiff, Nat.reduceBEq, Int.reduceToNat, reduceCtorEq]
      obtain rfl := Option.some.inj H
      first | rfl | simp only [Bool.and_false, Bool.false_and, Bool.and_true, Bool.true_and]
  · cases hb
/-! hotspot/forward.find -/
noncomputable def ct52t0 : Ct := tab [(65, pureC body65_0)]
theorem ct52t0_ok : CtOk Try.prog ct52t0 := tab_cons ok65_0 <| tab_nil
theorem ct52t0_65 (l : List AV) (h : List ABlk) : ct52t0 65 l h = pureC body65_0 l h := rfl
noncomputable def F52 (p0 : TForward) (p1 : A6u8) : Option (Int × Bool) :=
  (F65_0 p0.Nexts p1).bind fun r1 => some (r1.1, r1.2)
noncomputable def body52 : List AV -> AR
  | [v0, v1] => .pure (aK 9 k_TForward v0 /\ aK 6 k_A6u8 v1 /\ (F52 (g_TForward (aL v0)) (g_A6u8 (aL v1))).isSome = true) (.tup [.int .i64 ((gt (F52 (g_TForward (aL v0)) (g_A6u8 (aL v1)))).1), .bool ((gt (F52 (g_TForward (aL v0)) (g_A6u8 (aL v1)))).2)])
  | _ => .fail
set_option maxHeartbeats 4000000 in
set_option maxRecDepth 20000 in
theorem ok52 : FnOk Try.prog 52 (pureC body52) := by
  refine pure_fnM body52 (rs := [.tmp 4, .tmp 5]) Try.func52 (by kernel_rfl) rfl rfl ?_
  intro l ob v hb hob
  unfold body52 at hb
  split at hb
  · rename_i v0 v1
    injection hb with q1 q2; subst q1 q2
    obtain ⟨hk0_0, hk1_0, hob⟩ := hob
    obtain ⟨r, H⟩ := Option.isSome_iff_exists.1 hob
    rw [H, gt_some]
    have hw0 := wA_TForward hk0_0
    have hw1 := wA_A6u8 hk1_0
    generalize g_TForward (aL v0) = p0 at H hw0
    generalize g_A6u8 (aL v1) = p1 at H hw1
    refine ⟨[.agg [.int .u8 p0.Own.x0, .int .u8 p0.Own.x1, .int .u8 p0.Own.x2, .int .u8 p0.Own.x3, .int .u8 p0.Own.x4, .int .u8 p0.Own.x5, .int .i64 p0.Seq, .ro 7 p0.Seen.length false (enR c_TForwardMark p0.Seen), .ro 12 p0.Nexts.length false (enR c_TForwardHop p0.Nexts)], .agg [.int .u8 p1.x0, .int .u8 p1.x1, .int .u8 p1.x2, .int .u8 p1.x3, .int .u8 p1.x4, .int .u8 p1.x5]], _, (fun E vs F => FR_wk1 hw0.1 F (fun vs F => FR_wk1 hw1.1 F (fun vs F => F))), rfl, rfl, ?_⟩
    rw [Try.ntmps52]
    simp only [List.length_cons, List.length_nil, Nat.reduceAdd, Nat.reduceSub, List.replicate_succ, List.replicate_zero, List.cons_append, List.nil_append]
    unfold F52 at H
    try dsimp only at H
    refine sq ctNo_ok ?_
    simp only [go_sem, Nat.reduceLeDiff, Nat.reduceLT, Nat.reduceAdd, Nat.reduceMul, Nat.reduceSub, Nat.reduceEqDiff, Nat.reduceBEq, Int.reduceToNat, reduceCtorEq]
    refine seqM ?_
    obtain ⟨r1, e2, H⟩ := bsi H
    refine rg ct52t0_ok ?_
    simp only [go_sem, Nat.reduceLeDiff, Nat.reduceLT, Nat.reduceAdd, Nat.reduceMul, Nat.reduceSub, Nat.reduceEqDiff, Nat.reduceBEq, Int.reduceToNat, reduceCtorEq, ct52t0_65, body65_0, e2]
    repeat ((with_reducible refine And.intro ?_ ?_); focus exact an0)
    refine rg ctNo_ok ?_
    simp only [go_sem, Nat.reduceLeDiff, Nat.reduceLT, Nat.reduceAdd, Nat.reduceMul, Nat.reduceSub, Nat.reduceEqDiff, Nat.reduceBEq, Int.reduceToNat, reduceCtorEq]
    obtain rfl := Option.some.inj H
    first | rfl | simp only [Bool.and_false, Bool.false_and, Bool.and_true, Bool.true_and]
  · cases hb
/-! slices.Clone[[]hotspot/api.ForwardMark,hotspot/api.ForwardMark] -/
noncomputable def F55 (p0 : List TForwardMark) : Option (List TForwardMark) :=
  need (capb 16 p0.length) <| some p0
noncomputable def body55 : List AV -> List ABlk -> ED
  | [v0], h => .ed [] (lK k_TForwardMark 7 (roD (deadL h []) v0) /\ roDOb (deadL h []) v0 /\ (F55 (lA g_TForwardMark (roD (deadL h []) v0))).isSome = true) (.sl 0 7 0 (gt (F55 (lA g_TForwardMark (roD (deadL h []) v0)))).length false) [.row 59 7 (gt (F55 (lA g_TForwardMark (roD (deadL h []) v0)))).length (enR c_TForwardMark (gt (F55 (lA g_TForwardMark (roD (deadL h []) v0)))))]
  | _, _ => .fail
set_option maxHeartbeats 4000000 in
set_option maxRecDepth 20000 in
theorem ok55 : FnOk Try.prog 55 (edC body55) := by
  refine edit_fnV body55 (rs := [.tmp 2]) Try.func55 (by kernel_rfl) rfl rfl ?_
  intro l h bs ob q0 g0 hb hob
  unfold body55 at hb
  split at hb
  · rename_i v0
    injection hb with q1 q2 q3 q4; subst q1 q2 q3 q4
    obtain ⟨hk0, hk1, hob⟩ := hob
    obtain ⟨r, H⟩ := Option.isSome_iff_exists.1 hob
    rw [H, gt_some]
    have hw0 := lK_wk (fun r h => w_TForwardMark h) hk0
    generalize lA g_TForwardMark (roD (deadL h []) v0) = p0 at H hw0
    unfold F55 at H
    obtain ⟨f1, H⟩ := need_some.1 H
    replace f1 := capb_iff.1 f1
    obtain rfl := Option.some.inj H
    refine ⟨[.ro 7 p0.length false (enR c_TForwardMark p0)], [], rfl, ⟨EW_view hk1 hw0, trivial⟩, trivial, trivial, ⟨nfB_en nr_TForwardMark, trivial⟩, ⟨noroB_en, trivial⟩, (by simp only [noro]), ?_⟩
    rw [Try.ntmps55]
    simp only [List.length_cons, List.length_nil, Nat.reduceAdd, Nat.reduceSub, List.replicate_succ, List.replicate_zero, List.cons_append, List.nil_append]
    refine rg ctNo_ok ?_
    have nfs : ∀ x y, nref (enR c_TForwardMark p0 x y) := fun x y => nfR_en nr_TForwardMark
    generalize hc : enR c_TForwardMark p0 = c at nfs hw0
    cases hn : p0.length with
    | zero =>
      simp only [go_sem, Nat.reduceLeDiff, Nat.reduceLT, Nat.reduceAdd, Nat.reduceMul, Nat.reduceSub, Nat.reduceEqDiff, Nat.reduceBEq, Int.reduceToNat, reduceCtorEq]
      have hp : p0 = [] := List.eq_nil_of_length_eq_zero hn
      subst hp; subst hc
      refine ⟨?_, ?_⟩
      · refine RetE_mk [] [none] ?_ ?_ ?_ ?_ (by rfl) (by rfl)
        · simp only [List.length_cons, List.length_nil, Nat.zero_mul, Nat.add_zero, fzV, fzL, fzOb, fzObL, fzH, fzHF, fzB, fzObB, fzObH, inL, rowOb, geth, cond_true, cond_false, Bool.or_false, Bool.or_true, Bool.false_or, Bool.true_or, and_self, true_and, and_true, Nat.reduceEqDiff, Nat.reduceBEq, beq_self_eq_true, sub_enR0, Nat.reduceAdd, Nat.zero_add, Nat.le_refl, List.nil_append]
        · simp only [List.length_cons, List.length_nil, Nat.zero_mul, Nat.add_zero, fzV, fzL, fzOb, fzObL, fzH, fzHF, fzB, fzObB, fzObH, inL, rowOb, geth, cond_true, cond_false, Bool.or_false, Bool.or_true, Bool.false_or, Bool.true_or, and_self, true_and, and_true, Nat.reduceEqDiff, Nat.reduceBEq, beq_self_eq_true, sub_enR0, Nat.reduceAdd, Nat.zero_add, Nat.le_refl, List.nil_append]
        · simp [fzV, Cv, CvL, getM]
        · simp only [List.length_cons, List.length_nil, Nat.zero_mul, Nat.add_zero, fzV, fzL, fzOb, fzObL, fzH, fzHF, fzB, fzObB, fzObH, inL, rowOb, geth, cond_true, cond_false, Bool.or_false, Bool.or_true, Bool.false_or, Bool.true_or, and_self, true_and, and_true, Nat.reduceEqDiff, Nat.reduceBEq, beq_self_eq_true, sub_enR0, Nat.reduceAdd, Nat.zero_add, Nat.le_refl, List.nil_append, CvH, and_true]; exact CvB_none
      · refine ⟨by omega, RetE_mk [] [some 1] ?_ ?_ ?_ ?_ (by rfl) (by rfl)⟩
        · simp only [List.length_cons, List.length_nil, Nat.zero_mul, Nat.add_zero, fzV, fzL, fzOb, fzObL, fzH, fzHF, fzB, fzObB, fzObH, inL, rowOb, geth, cond_true, cond_false, Bool.or_false, Bool.or_true, Bool.false_or, Bool.true_or, and_self, true_and, and_true, Nat.reduceEqDiff, Nat.reduceBEq, beq_self_eq_true, sub_enR0, Nat.reduceAdd, Nat.zero_add, Nat.le_refl, List.nil_append]
        · simp only [List.length_cons, List.length_nil, Nat.zero_mul, Nat.add_zero, fzV, fzL, fzOb, fzObL, fzH, fzHF, fzB, fzObB, fzObH, inL, rowOb, geth, cond_true, cond_false, Bool.or_false, Bool.or_true, Bool.false_or, Bool.true_or, and_self, true_and, and_true, Nat.reduceEqDiff, Nat.reduceBEq, beq_self_eq_true, sub_enR0, Nat.reduceAdd, Nat.zero_add, Nat.le_refl, List.nil_append]
        · simp [fzV, inL, Cv, CvL, getM]
        · simp only [List.length_cons, List.length_nil, Nat.zero_mul, Nat.add_zero, fzV, fzL, fzOb, fzObL, fzH, fzHF, fzB, fzObB, fzObH, inL, rowOb, geth, cond_true, cond_false, Bool.or_false, Bool.or_true, Bool.false_or, Bool.true_or, and_self, true_and, and_true, Nat.reduceEqDiff, Nat.reduceBEq, beq_self_eq_true, sub_enR0, Nat.reduceAdd, Nat.zero_add, Nat.le_refl, List.nil_append, CvH, and_true]; exact CvB_row0 nr_TForwardMark
    | succ m =>
      simp only [go_sem, Nat.reduceLeDiff, Nat.reduceLT, Nat.reduceAdd, Nat.reduceMul, Nat.reduceSub, Nat.reduceEqDiff, Nat.reduceBEq, Int.reduceToNat, reduceCtorEq]
      refine ⟨by omega, RetE_mk [] [some 1] ?_ ?_ ?_ ?_ (by rfl) (by rfl)⟩
      · simp only [List.length_cons, List.length_nil, Nat.zero_mul, Nat.add_zero, fzV, fzL, fzOb, fzObL, fzH, fzHF, fzB, fzObB, fzObH, inL, rowOb, geth, cond_true, cond_false, Bool.or_false, Bool.or_true, Bool.false_or, Bool.true_or, and_self, true_and, and_true, Nat.reduceEqDiff, Nat.reduceBEq, beq_self_eq_true, sub_enR0, Nat.reduceAdd, Nat.zero_add, Nat.le_refl, List.nil_append]
      · simp only [List.length_cons, List.length_nil, Nat.zero_mul, Nat.add_zero, fzV, fzL, fzOb, fzObL, fzH, fzHF, fzB, fzObB, fzObH, inL, rowOb, geth, cond_true, cond_false, Bool.or_false, Bool.or_true, Bool.false_or, Bool.true_or, and_self, true_and, and_true, Nat.reduceEqDiff, Nat.reduceBEq, beq_self_eq_true, sub_enR0, Nat.reduceAdd, Nat.zero_add, Nat.le_refl, List.nil_append]
      · simp [fzV, inL, Cv, CvL, getM]
      · simp only [List.length_cons, List.length_nil, Nat.zero_mul, Nat.add_zero, fzV, fzL, fzOb, fzObL, fzH, fzHF, fzB, fzObB, fzObH, inL, rowOb, geth, cond_true, cond_false, Bool.or_false, Bool.or_true, Bool.false_or, Bool.true_or, and_self, true_and, and_true, Nat.reduceEqDiff, Nat.reduceBEq, beq_self_eq_true, sub_enR0, Nat.reduceAdd, Nat.zero_add, Nat.le_refl, List.nil_append, CvH, and_true]; rw [← hn, ← hc]; exact CvB_row nr_TForwardMark rfl (fun x y hx hy => by simp only [appC, Nat.not_lt_zero, if_false, Nat.sub_zero])
  · cases hb
/-! slices.Clone[[]hotspot/api.ForwardHop,hotspot/api.ForwardHop] -/
noncomputable def F59 (p0 : List TForwardHop) : Option (List TForwardHop) :=
  need (capb 12 p0.length) <| some p0
noncomputable def body59 : List AV -> List ABlk -> ED
  | [v0], h => .ed [] (lK k_TForwardHop 12 (roD (deadL h []) v0) /\ roDOb (deadL h []) v0 /\ (F59 (lA g_TForwardHop (roD (deadL h []) v0))).isSome = true) (.sl 0 12 0 (gt (F59 (lA g_TForwardHop (roD (deadL h []) v0)))).length false) [.row 90 12 (gt (F59 (lA g_TForwardHop (roD (deadL h []) v0)))).length (enR c_TForwardHop (gt (F59 (lA g_TForwardHop (roD (deadL h []) v0)))))]
  | _, _ => .fail
set_option maxHeartbeats 4000000 in
set_option maxRecDepth 20000 in
theorem ok59 : FnOk Try.prog 59 (edC body59) := by
  refine edit_fnV body59 (rs := [.tmp 2]) Try.func59 (by kernel_rfl) rfl rfl ?_
  intro l h bs ob q0 g0 hb hob
  unfold body59 at hb
  split at hb
  · rename_i v0
    injection hb with q1 q2 q3 q4; subst q1 q2 q3 q4
    obtain ⟨hk0, hk1, hob⟩ := hob
    obtain ⟨r, H⟩ := Option.isSome_iff_exists.1 hob
    rw [H, gt_some]
    have hw0 := lK_wk (fun r h => w_TForwardHop h) hk0
    generalize lA g_TForwardHop (roD (deadL h []) v0) = p0 at H hw0
    unfold F59 at H
    obtain ⟨f1, H⟩ := need_some.1 H
    replace f1 := capb_iff.1 f1
    obtain rfl := Option.some.inj H
    refine ⟨[.ro 12 p0.length false (enR c_TForwardHop p0)], [], rfl, ⟨EW_view hk1 hw0, trivial⟩, trivial, trivial, ⟨nfB_en nr_TForwardHop, trivial⟩, ⟨noroB_en, trivial⟩, (by simp only [noro]), ?_⟩
    rw [Try.ntmps59]
    simp only [List.length_cons, List.length_nil, Nat.reduceAdd, Nat.reduceSub, List.replicate_succ, List.replicate_zero, List.cons_append, List.nil_append]
    refine rg ctNo_ok ?_
    have nfs : ∀ x y, nref (enR c_TForwardHop p0 x y) := fun x y => nfR_en nr_TForwardHop
    generalize hc : enR c_TForwardHop p0 = c at nfs hw0
    cases hn : p0.length with
    | zero =>
      simp only [go_sem, Nat.reduceLeDiff, Nat.reduceLT, Nat.reduceAdd, Nat.reduceMul, Nat.reduceSub, Nat.reduceEqDiff, Nat.reduceBEq, Int.reduceToNat, reduceCtorEq]
      have hp : p0 = [] := List.eq_nil_of_length_eq_zero hn
      subst hp; subst hc
      refine ⟨?_, ?_⟩
      · refine RetE_mk [] [none] ?_ ?_ ?_ ?_ (by rfl) (by rfl)
        · simp only [List.length_cons, List.length_nil, Nat.zero_mul, Nat.add_zero, fzV, fzL, fzOb, fzObL, fzH, fzHF, fzB, fzObB, fzObH, inL, rowOb, geth, cond_true, cond_false, Bool.or_false, Bool.or_true, Bool.false_or, Bool.true_or, and_self, true_and, and_true, Nat.reduceEqDiff, Nat.reduceBEq, beq_self_eq_true, sub_enR0, Nat.reduceAdd, Nat.zero_add, Nat.le_refl, List.nil_append]
        · simp only [List.length_cons, List.length_nil, Nat.zero_mul, Nat.add_zero, fzV, fzL, fzOb, fzObL, fzH, fzHF, fzB, fzObB, fzObH, inL, rowOb, geth, cond_true, cond_false, Bool.or_false, Bool.or_true, Bool.false_or, Bool.true_or, and_self, true_and, and_true, Nat.reduceEqDiff, Nat.reduceBEq, beq_self_eq_true, sub_enR0, Nat.reduceAdd, Nat.zero_add, Nat.le_refl, List.nil_append]
        · simp [fzV, Cv, CvL, getM]
        · simp only [List.length_cons, List.length_nil, Nat.zero_mul, Nat.add_zero, fzV, fzL, fzOb, fzObL, fzH, fzHF, fzB, fzObB, fzObH, inL, rowOb, geth, cond_true, cond_false, Bool.or_false, Bool.or_true, Bool.false_or, Bool.true_or, and_self, true_and, and_true, Nat.reduceEqDiff, Nat.reduceBEq, beq_self_eq_true, sub_enR0, Nat.reduceAdd, Nat.zero_add, Nat.le_refl, List.nil_append, CvH, and_true]; exact CvB_none
      · refine ⟨by omega, RetE_mk [] [some 1] ?_ ?_ ?_ ?_ (by rfl) (by rfl)⟩
        · simp only [List.length_cons, List.length_nil, Nat.zero_mul, Nat.add_zero, fzV, fzL, fzOb, fzObL, fzH, fzHF, fzB, fzObB, fzObH, inL, rowOb, geth, cond_true, cond_false, Bool.or_false, Bool.or_true, Bool.false_or, Bool.true_or, and_self, true_and, and_true, Nat.reduceEqDiff, Nat.reduceBEq, beq_self_eq_true, sub_enR0, Nat.reduceAdd, Nat.zero_add, Nat.le_refl, List.nil_append]
        · simp only [List.length_cons, List.length_nil, Nat.zero_mul, Nat.add_zero, fzV, fzL, fzOb, fzObL, fzH, fzHF, fzB, fzObB, fzObH, inL, rowOb, geth, cond_true, cond_false, Bool.or_false, Bool.or_true, Bool.false_or, Bool.true_or, and_self, true_and, and_true, Nat.reduceEqDiff, Nat.reduceBEq, beq_self_eq_true, sub_enR0, Nat.reduceAdd, Nat.zero_add, Nat.le_refl, List.nil_append]
        · simp [fzV, inL, Cv, CvL, getM]
        · simp only [List.length_cons, List.length_nil, Nat.zero_mul, Nat.add_zero, fzV, fzL, fzOb, fzObL, fzH, fzHF, fzB, fzObB, fzObH, inL, rowOb, geth, cond_true, cond_false, Bool.or_false, Bool.or_true, Bool.false_or, Bool.true_or, and_self, true_and, and_true, Nat.reduceEqDiff, Nat.reduceBEq, beq_self_eq_true, sub_enR0, Nat.reduceAdd, Nat.zero_add, Nat.le_refl, List.nil_append, CvH, and_true]; exact CvB_row0 nr_TForwardHop
    | succ m =>
      simp only [go_sem, Nat.reduceLeDiff, Nat.reduceLT, Nat.reduceAdd, Nat.reduceMul, Nat.reduceSub, Nat.reduceEqDiff, Nat.reduceBEq, Int.reduceToNat, reduceCtorEq]
      refine ⟨by omega, RetE_mk [] [some 1] ?_ ?_ ?_ ?_ (by rfl) (by rfl)⟩
      · simp only [List.length_cons, List.length_nil, Nat.zero_mul, Nat.add_zero, fzV, fzL, fzOb, fzObL, fzH, fzHF, fzB, fzObB, fzObH, inL, rowOb, geth, cond_true, cond_false, Bool.or_false, Bool.or_true, Bool.false_or, Bool.true_or, and_self, true_and, and_true, Nat.reduceEqDiff, Nat.reduceBEq, beq_self_eq_true, sub_enR0, Nat.reduceAdd, Nat.zero_add, Nat.le_refl, List.nil_append]
      · simp only [List.length_cons, List.length_nil, Nat.zero_mul, Nat.add_zero, fzV, fzL, fzOb, fzObL, fzH, fzHF, fzB, fzObB, fzObH, inL, rowOb, geth, cond_true, cond_false, Bool.or_false, Bool.or_true, Bool.false_or, Bool.true_or, and_self, true_and, and_true, Nat.reduceEqDiff, Nat.reduceBEq, beq_self_eq_true, sub_enR0, Nat.reduceAdd, Nat.zero_add, Nat.le_refl, List.nil_append]
      · simp [fzV, inL, Cv, CvL, getM]
      · simp only [List.length_cons, List.length_nil, Nat.zero_mul, Nat.add_zero, fzV, fzL, fzOb, fzObL, fzH, fzHF, fzB, fzObB, fzObH, inL, rowOb, geth, cond_true, cond_false, Bool.or_false, Bool.or_true, Bool.false_or, Bool.true_or, and_self, true_and, and_true, Nat.reduceEqDiff, Nat.reduceBEq, beq_self_eq_true, sub_enR0, Nat.reduceAdd, Nat.zero_add, Nat.le_refl, List.nil_append, CvH, and_true]; rw [← hn, ← hc]; exact CvB_row nr_TForwardHop rfl (fun x y hx hy => by simp only [appC, Nat.not_lt_zero, if_false, Nat.sub_zero])
  · cases hb
/-! hotspot/forward.own -/
noncomputable def ct41t0 : Ct := tab [(55, edC body55), (59, edC body59)]
theorem ct41t0_ok : CtOk Try.prog ct41t0 := tab_cons ok55 <| tab_cons ok59 <| tab_nil
theorem ct41t0_55 (l : List AV) (h : List ABlk) : ct41t0 55 l h = edC body55 l h := rfl
theorem ct41t0_59 (l : List AV) (h : List ABlk) : ct41t0 59 l h = edC body59 l h := rfl
noncomputable def F41 (p0 : TForward) : Option (TForward) :=
  (F55 p0.Seen).bind fun r1 => (F59 p0.Nexts).bind fun r3 => some (TForward.mk (A6u8.mk p0.Own.x0 p0.Own.x1 p0.Own.x2 p0.Own.x3 p0.Own.x4 p0.Own.x5) p0.Seq r1 r3)
noncomputable def body41 : List AV -> List ABlk -> ED
  | [v0], h => .ed [] (aK 9 k_TForward (roD (deadL h []) v0) /\ roDOb (deadL h []) v0 /\ (F41 (g_TForward (aL (roD (deadL h []) v0)))).isSome = true) (.agg [.int .u8 (((gt (F41 (g_TForward (aL (roD (deadL h []) v0))))).Own).x0), .int .u8 (((gt (F41 (g_TForward (aL (roD (deadL h []) v0))))).Own).x1), .int .u8 (((gt (F41 (g_TForward (aL (roD (deadL h []) v0))))).Own).x2), .int .u8 (((gt (F41 (g_TForward (aL (roD (deadL h []) v0))))).Own).x3), .int .u8 (((gt (F41 (g_TForward (aL (roD (deadL h []) v0))))).Own).x4), .int .u8 (((gt (F41 (g_TForward (aL (roD (deadL h []) v0))))).Own).x5), .int .i64 ((gt (F41 (g_TForward (aL (roD (deadL h []) v0))))).Seq), .sl 0 7 0 (((gt (F41 (g_TForward (aL (roD (deadL h []) v0))))).Seen).length) false, .sl 1 12 0 (((gt (F41 (g_TForward (aL (roD (deadL h []) v0))))).Nexts).length) false]) [.row 59 7 (((gt (F41 (g_TForward (aL (roD (deadL h []) v0))))).Seen).length) (enR c_TForwardMark ((gt (F41 (g_TForward (aL (roD (deadL h []) v0))))).Seen)), .row 90 12 (((gt (F41 (g_TForward (aL (roD (deadL h []) v0))))).Nexts).length) (enR c_TForwardHop ((gt (F41 (g_TForward (aL (roD (deadL h []) v0))))).Nexts))]
  | _, _ => .fail
set_option maxHeartbeats 4000000 in
set_option maxRecDepth 20000 in
theorem ok41 : FnOk Try.prog 41 (edC body41) := by
  refine edit_fnV body41 (rs := [.cell 2 31]) Try.func41 (by kernel_rfl) rfl rfl ?_
  intro l h bs ob q0 g0 hb hob
  unfold body41 at hb
  split at hb
  · rename_i v0
    injection hb with q1 q2 q3 q4; subst q1 q2 q3 q4
    obtain ⟨hk0_0, hk0_1, hob⟩ := hob
    obtain ⟨r, H⟩ := Option.isSome_iff_exists.1 hob
    rw [H, gt_some]
    have hw0 := wA_TForward hk0_0
    obtain ⟨p0, hp_p0⟩ : ∃ p0, p0 = g_TForward (aL (roD (deadL h []) v0)) := ⟨_, rfl⟩
    rw [← hp_p0] at H hw0
    refine ⟨[.agg [.int .u8 p0.Own.x0, .int .u8 p0.Own.x1, .int .u8 p0.Own.x2, .int .u8 p0.Own.x3, .int .u8 p0.Own.x4, .int .u8 p0.Own.x5, .int .i64 p0.Seq, .ro 7 p0.Seen.length false (enR c_TForwardMark p0.Seen), .ro 12 p0.Nexts.length false (enR c_TForwardHop p0.Nexts)]], [], rfl, ⟨(EW_view hk0_1 hw0), trivial⟩, trivial, trivial, ⟨(nfB_en nr_TForwardMark), ⟨(nfB_en nr_TForwardHop), trivial⟩⟩, ⟨noroB_en, ⟨noroB_en, trivial⟩⟩, (by first | (simp only [noro, noroL, and_self]; done) | (simp only [noro, noroL]; and_intros <;> first | trivial | exact noro_bif (by simp only [noro]) (by simp only [noro]) | (simp only [noro, noroL, and_self]))), ?_⟩
    rw [Try.ntmps41]
    simp only [List.length_cons, List.length_nil, Nat.reduceAdd, Nat.reduceSub, List.replicate_succ, List.replicate_zero, List.cons_append, List.nil_append]
    unfold F41 at H
    try dsimp only at H
    refine sq ctNo_ok ?_
    simp only [go_sem, Nat.reduceLeDiff, Nat.reduceLT, Nat.reduceAdd, Nat.reduceMul, Nat.reduceSub, Nat.reduceEqDiff, Nat.reduceBEq, Int.reduceToNat, reduceCtorEq]
    refine seqM ?_
    obtain ⟨r1, e2, H⟩ := bsi H
    obtain ⟨r3, e4, H⟩ := bsi H
    refine draw_rule shT_ok ct41t0_ok 2 (by kernel_rfl) (by kernel_rfl) ?_
    intro an han
    simp only [d_nil, d_cons, nxtD, xrD, xoD, roEq, minL, List.append_nil, refsOp, refs, refsL, mask, maskF, place, placeF, okLog, pairOk, hit, inL, slotsF, ren, renL, rnN, nrH, nrB, nrL, nr, dead0, deadS, List.replicate_zero, List.replicate_succ, Nat.sub_self, Nat.add_zero, Nat.zero_add, Nat.reduceSub, Nat.not_lt_zero, Nat.zero_le, Nat.lt_add_one, go_sem, Nat.reduceLeDiff, Nat.reduceLT, Nat.reduceAdd, Nat.reduceMul, Nat.reduceSub, Nat.reduceEqDiff, Nat.reduceBEq, Int.reduceToNat, reduceCtorEq, ct41t0_55, body55, ct41t0_59, body59, e2, e4]
    repeat ((with_reducible refine And.intro ?_ ?_); focus exact an1)
    refine sq ctNo_ok ?_
    simp only [go_sem, Nat.reduceLeDiff, Nat.reduceLT, Nat.reduceAdd, Nat.reduceMul, Nat.reduceSub, Nat.reduceEqDiff, Nat.reduceBEq, Int.reduceToNat, reduceCtorEq]
    repeat ((with_reducible refine And.intro ?_ ?_); focus exact an4)
    refine rg ctNo_ok ?_
    simp only [go_sem, Nat.reduceLeDiff, Nat.reduceLT, Nat.reduceAdd, Nat.reduceMul, Nat.reduceSub, Nat.reduceEqDiff, Nat.reduceBEq, Int.reduceToNat, reduceCtorEq]
    obtain rfl := Option.some.inj H
    refine RetE_mk [] [some 2, some 3] ?_ ?_ ?_ ?_ (by rfl) (by rfl)
    · simp only [go_sem, Nat.reduceEqDiff, Nat.reduceBEq, Nat.reduceAdd]
      try exact at0
    · simp only [go_sem, Nat.reduceEqDiff, Nat.reduceBEq, Nat.reduceAdd]
      try exact at0
    · simp only [go_sem, Nat.reduceEqDiff, Nat.reduceBEq, Nat.reduceAdd]
      exact (by first | (simp [Cv, CvL, getM, gt_some]; done) | (simp [Cv, CvL, getM, gt_some]; omega))
    · simp only [go_sem, Nat.reduceEqDiff, Nat.reduceBEq, Nat.reduceAdd, CvH, gt_some, Option.isSome_some, Option.isSome_none]
      first | exact ⟨CvB_row nr_TForwardMark cl (fun _ _ _ _ => rfl), CvB_row nr_TForwardHop cl (fun _ _ _ _ => rfl)⟩ | trivial
  · cases hb
/-! slices.Insert[[]hotspot/api.ForwardHop,hotspot/api.ForwardHop] -/
theorem ext53 : ExtOk Try.prog 67 ovC2 := ov_ext2 (t := 29) (tr := 4) (e := 90) (z := 12) Try.func67 (by kernel_rfl) (by kernel_rfl) (by kernel_rfl) (by kernel_rfl) (by kernel_rfl) (by kernel_rfl)
def ctI53 : Ct := tab [(67, ovC2)]
theorem ctI53_ok : CtOk Try.prog ctI53 := tab_ext ext53 tab_nil
theorem ctI53_eq (l : List AV) (h : List ABlk) : ctI53 67 l h = ovC2 l h := rfl
theorem tik53_0 : tintk Try.prog 2 = true := by kernel_rfl
theorem tik53_1 : tintk Try.prog 29 = false := by kernel_rfl
set_option maxHeartbeats 8000000 in
set_option maxRecDepth 20000 in
theorem okF53 : FnOk Try.prog 53 (insF 90 12) := by
  refine edit1_fn (sh := fun _ => none) (fun _ _ h => by cases h) ctI53_ok (insF 90 12) (rs := [.tmp 6]) Try.func53 (by kernel_rfl) rfl rfl insF_np ?_
  intro E h l vs ob v h' H F hc hob
  unfold insF at hc
  split at hc
  · rename_i b es' i n nl p b2 es3 i2 m nl2
    split at hc
    · rename_i e' es2 NN c hb
      split at hc
      · rename_i e4 es4 N2 d hb2
        injection hc with q1 q2 q3
        subst q1 q2 q3
        obtain ⟨rfl, rfl, rfl, rfl, rfl, hbb, hN, hN2, hpn, hmm, hbig, hfl, hfl2⟩ := hob
        obtain ⟨vs⟩ := vs
        match vs, F.1 with
        | [u1, u2, u3], _ =>
          have hne : geth h b ≠ .dead := by rw [hb]; exact fun e => by cases e
          obtain ⟨cap, hcap, hV⟩ := csl_of_sl (only_sl (F.2 0 _ u1 rfl rfl))
          have g2 := F.2 1 _ u2 rfl rfl
          have g3 := only_ro (b := b) H (F.2 2 _ u3 rfl rfl) hb2 hne hbb hN2 fun x y hx hy => (hfl2 x y hx hy).1
          obtain rfl := VR_int g2
          refine ⟨b, 90, 12, NN, c, n + m, insA i p m c (subC i2 d), [.csl 0 12 i n cap, .int .i64 p, .ro 12 m nl2 (subC i2 d)], hb, fun x y hx hy => (hfl x y hx hy).1, fun x y hx hy => ?_, rfl, rfl, ?_, ?_⟩
          · unfold insA subC
            split
            · exact hfl _ _ (by omega) hy
            · split
              · exact hfl2 _ _ (by omega) hy
              · exact hfl _ _ (by omega) hy
          · refine ⟨rfl, fun j a w ha hw => ?_⟩
            match j with
            | 0 => simp at ha hw; subst ha hw; exact hV
            | 1 => simp at ha hw; subst ha hw; exact .int _ _
            | 2 => simp at ha hw; subst ha hw; exact g3
            | j + 3 => simp at ha
          · rw [Try.ntmps53]
            show wpC _ _ _ _ _ (.csl 0 12 i n cap :: .int .i64 p :: .ro 12 m nl2 (subC i2 d) :: .top :: .top :: .top :: .top :: .top :: .top :: .top :: .top :: .top :: .top :: .top :: .top :: .top :: .top :: .top :: .top :: .top :: .top :: .top :: .top :: .top :: .top :: .top :: .top :: .top :: .top :: .top :: .top :: .top :: .top :: .top :: .top :: .top :: .top :: .top :: .top :: .top :: .top :: .top :: .top :: .top :: .top :: .top :: .top :: .top :: .top :: .top :: .top :: .top :: .top :: .top :: .top :: .top :: .top :: .top :: .top :: .top :: .top :: .top :: .top :: .top :: .top :: .top :: .top :: .top :: .top :: .top :: .top :: .top :: .top :: .top :: .top :: .top :: .top :: .top :: .top :: .top :: .top :: .top :: .top :: .top :: .top :: .top :: .top :: .top :: .top :: .top :: .top :: .top :: .top :: .top :: .top :: []) _
            have hm0 : 0 < m := by omega
            have hm1 : ((m : Int) == 0) = false := by simp; omega
            rcases Nat.lt_or_ge p n with hp | hp
            · have hpq : ((p : Int) == (n : Int)) = false := by simp; omega
              have w1 : wr .i64 ((n : Int) + (m : Int)) = ((n + m : Nat) : Int) := by unfold wr; rw [IntWalk.i64_in _ (by omega)]; omega
              have w2 : wr .i64 (((n + m : Nat) : Int) - (p : Int)) = ((n + m - p : Nat) : Int) := by unfold wr; rw [IntWalk.i64_in _ (by omega)]; omega
              have w3 : wr .i64 ((p : Int) + (m : Int)) = ((p + m : Nat) : Int) := by unfold wr; rw [IntWalk.i64_in _ (by omega)]; omega
              have hpm : p + (n + m - p) = n + m := by omega
              have mn1 : min m (n + m - p) = m := by omega
              have mn2 : min (n - p) (n + m - (p + m)) = n - p := by omega
              have mn3 : min (n + m - p) (n + m - (p + m)) = n - p := by omega
              have fin : ∀ x y, x < n + m -> insA i p m c (subC i2 d) x y = insA i p m c (subC i2 d) x y := fun _ _ _ => rfl
              by_cases hroom : n + m <= cap
              · have hg : decide ((cap : Int) < ((n + m : Nat) : Int)) = false := by simp; omega
                simp only [go_sem, Nat.reduceLeDiff, Nat.reduceLT, Nat.reduceAdd, Nat.reduceMul, Nat.reduceSub, Nat.reduceEqDiff, Nat.reduceBEq, Int.reduceToNat, reduceCtorEq, evCopy, evCopyR, lenS, cutS, evClear, evClearR, evCap, evAppZ, tik53_0, tik53_1, bEq, Option.isSome_some, Option.isNone_some, Option.isSome_none, Option.isNone_none, Int.ofNat_eq_natCast, Int.toNat_natCast, hm1, hpq, hg, Nat.sub_zero, bLt, bLe, w1, w2, w3, hpm, mn1, mn2, mn3, ctI53_eq, ovC2, slB, Nat.add_zero, Nat.zero_add]
                refine ⟨by omega, by omega, by omega, by omega, ?_⟩
                refine draw_rule (sh := fun _ => none) (fun _ _ h => by cases h) ctI53_ok 0 (by kernel_rfl) (by kernel_rfl) ?_
                intro an han
                simp only [go_sem, Nat.reduceLeDiff, Nat.reduceLT, Nat.reduceAdd, Nat.reduceMul, Nat.reduceSub, Nat.reduceEqDiff, Nat.reduceBEq, Int.reduceToNat, reduceCtorEq, evCopy, evCopyR, lenS, cutS, evClear, evClearR, evCap, evAppZ, tik53_0, tik53_1, bEq, Option.isSome_some, Option.isNone_some, Option.isSome_none, Option.isNone_none, Int.ofNat_eq_natCast, Int.toNat_natCast, hm1, hpq, hg, Nat.sub_zero, bLt, bLe, w1, w2, w3, hpm, mn1, mn2, mn3, ctI53_eq, ovC2, slB, Nat.add_zero, Nat.zero_add, d_nil, d_cons, nxtD, refsOp, refs, refsL, mask, maskF, place, placeF, okLog, pairOk, hit, inL, slotsF, ren, renL, rnN, nrH, nrB, nrL, nr, dead0, deadS, List.replicate_zero, List.replicate_succ, Bool.or_false, Bool.false_or, Bool.or_true, Bool.true_or, Bool.and_false, Bool.false_and, Nat.sub_self, Nat.add_zero, Nat.zero_add, Nat.reduceSub, Nat.not_lt_zero, Nat.zero_le, Nat.lt_add_one]
                refine ⟨by omega, by omega, by omega, by omega, by omega, ?_⟩
                refine conv_move (b := 0) rfl (by omega) (by omega) fun x y hx hy => ?_
                unfold ovwC insA subC
                by_cases hxp : x < p
                · rw [if_neg (by omega), if_neg (by omega), if_pos hxp]
                · rw [if_neg hxp]
                  by_cases hxm : x < p + m
                  · rw [if_pos (by omega), if_pos hxm]
                    congr 1
                    omega
                  · rw [if_neg (by omega), if_pos (by omega), if_neg hxm]
                    congr 1
                    omega
              · have hg : decide ((cap : Int) < ((n + m : Nat) : Int)) = true := by simp; omega
                have hd : decide (cap < n + m) = true := by simp; omega
                simp only [go_sem, Nat.reduceLeDiff, Nat.reduceLT, Nat.reduceAdd, Nat.reduceMul, Nat.reduceSub, Nat.reduceEqDiff, Nat.reduceBEq, Int.reduceToNat, reduceCtorEq, evCopy, evCopyR, lenS, cutS, evClear, evClearR, evCap, evAppZ, tik53_0, tik53_1, bEq, Option.isSome_some, Option.isNone_some, Option.isSome_none, Option.isNone_none, Int.ofNat_eq_natCast, Int.toNat_natCast, hm1, hpq, hg, hd, Nat.sub_zero, bLt, bLe, w1, w2, w3, hpm, mn1, mn2, mn3, ctI53_eq, ovC2, slB, Nat.add_zero, Nat.zero_add]
                refine ⟨by omega, by omega, by omega, by omega, by omega, ?_⟩
                refine draw_rule (sh := fun _ => none) (fun _ _ h => by cases h) ctI53_ok 0 (by kernel_rfl) (by kernel_rfl) ?_
                intro an han
                simp only [go_sem, Nat.reduceLeDiff, Nat.reduceLT, Nat.reduceAdd, Nat.reduceMul, Nat.reduceSub, Nat.reduceEqDiff, Nat.reduceBEq, Int.reduceToNat, reduceCtorEq, evCopy, evCopyR, lenS, cutS, evClear, evClearR, evCap, evAppZ, tik53_0, tik53_1, bEq, Option.isSome_some, Option.isNone_some, Option.isSome_none, Option.isNone_none, Int.ofNat_eq_natCast, Int.toNat_natCast, hm1, hpq, hg, hd, Nat.sub_zero, bLt, bLe, w1, w2, w3, hpm, mn1, mn2, mn3, ctI53_eq, ovC2, slB, Nat.add_zero, Nat.zero_add, d_nil, d_cons, nxtD, refsOp, refs, refsL, mask, maskF, place, placeF, okLog, pairOk, hit, inL, slotsF, ren, renL, rnN, nrH, nrB, nrL, nr, dead0, deadS, List.replicate_zero, List.replicate_succ, Bool.or_false, Bool.false_or, Bool.or_true, Bool.true_or, Bool.and_false, Bool.false_and, Nat.sub_self, Nat.add_zero, Nat.zero_add, Nat.reduceSub, Nat.not_lt_zero, Nat.zero_le, Nat.lt_add_one]
                refine ⟨by omega, by omega, by omega, ?_⟩
                refine conv_two (by omega) fun x y hx hy => ?_
                unfold ovwC appC insA subC
                by_cases hxp : x < p
                · rw [if_neg (by omega), if_neg (by omega), if_pos hxp, if_pos hxp]
                · by_cases hxm : x < p + m
                  · rw [if_neg (by omega), if_pos (by omega), if_neg hxp, if_pos hxm]
                  · rw [if_pos (by omega), if_neg hxp, if_neg hxm]
                    congr 1
                    omega
            · obtain rfl : p = n := by omega
              have hpq : ((p : Int) == (p : Int)) = true := by simp
              by_cases hroom : p + m <= cap
              · have hd1 : decide (p + m <= cap) = true := by simpa using hroom
                simp only [go_sem, Nat.reduceLeDiff, Nat.reduceLT, Nat.reduceAdd, Nat.reduceMul, Nat.reduceSub, Nat.reduceEqDiff, Nat.reduceBEq, Int.reduceToNat, reduceCtorEq, evCopy, evCopyR, lenS, cutS, evClear, evClearR, evCap, evAppZ, tik53_0, tik53_1, bEq, Option.isSome_some, Option.isNone_some, Option.isSome_none, Option.isNone_none, Int.ofNat_eq_natCast, Int.toNat_natCast, hm1, hpq, hd1, Nat.sub_zero]
                refine ⟨by omega, by omega, ?_⟩
                refine conv_move (b := 0) rfl (by omega) (by omega) fun x y hx hy => ?_
                unfold ovwC insA
                by_cases hxp : x < p
                · rw [if_neg (by omega), if_pos hxp]
                · rw [if_pos (by omega), if_neg hxp, if_pos (by omega)]
                  congr 1
                  omega
              · have hd1 : decide (p + m <= cap) = false := by simpa using hroom
                simp only [go_sem, Nat.reduceLeDiff, Nat.reduceLT, Nat.reduceAdd, Nat.reduceMul, Nat.reduceSub, Nat.reduceEqDiff, Nat.reduceBEq, Int.reduceToNat, reduceCtorEq, evCopy, evCopyR, lenS, cutS, evClear, evClearR, evCap, evAppZ, tik53_0, tik53_1, bEq, Option.isSome_some, Option.isNone_some, Option.isSome_none, Option.isNone_none, Int.ofNat_eq_natCast, Int.toNat_natCast, hm1, hpq, hd1, Nat.sub_zero]
                refine ⟨by omega, by omega, ?_⟩
                refine conv_two (Nat.le_refl _) fun x y hx hy => ?_
                unfold appC insA subC
                by_cases hxp : x < p
                · rw [if_pos hxp, if_pos hxp]
                · rw [if_neg hxp, if_neg hxp, if_pos (by omega)]
      · cases hc
    · cases hc
  · cases hc
theorem ok53 : FnOk Try.prog 53 (insN 90 12) := insN_ok okF53
/-! hotspot/forward.SetNext -/
noncomputable def ct30t0 : Ct := tab [(27, pureC body27)]
theorem ct30t0_ok : CtOk Try.prog ct30t0 := tab_cons ok27 <| tab_nil
theorem ct30t0_27 (l : List AV) (h : List ABlk) : ct30t0 27 l h = pureC body27 l h := rfl
noncomputable def ct30t1 : Ct := tab [(52, pureC body52)]
theorem ct30t1_ok : CtOk Try.prog ct30t1 := tab_cons ok52 <| tab_nil
theorem ct30t1_52 (l : List AV) (h : List ABlk) : ct30t1 52 l h = pureC body52 l h := rfl
noncomputable def ct30t2 : Ct := tab [(50, pureC body50)]
theorem ct30t2_ok : CtOk Try.prog ct30t2 := tab_cons ok50 <| tab_nil
theorem ct30t2_50 (l : List AV) (h : List ABlk) : ct30t2 50 l h = pureC body50 l h := rfl
noncomputable def ct30t3 : Ct := tab [(41, edC body41)]
theorem ct30t3_ok : CtOk Try.prog ct30t3 := tab_cons ok41 <| tab_nil
theorem ct30t3_41 (l : List AV) (h : List ABlk) : ct30t3 41 l h = edC body41 l h := rfl
noncomputable def ct30t4 : Ct := tab [(53, insN 90 12)]
theorem ct30t4_ok : CtOk Try.prog ct30t4 := tab_cons ok53 <| tab_nil
theorem ct30t4_53 (l : List AV) (h : List ABlk) : ct30t4 53 l h = insN 90 12 l h := rfl
noncomputable def F30 (p0 : TForward) (p1 : A6u8) (p2 : A6u8) : Option (TForward × Int) :=
  (F27 p0).bind fun r1 => bif (!bEq r1 0) then (some ((TForward.mk (A6u8.mk 0 0 0 0 0 0) 0 [] []), r1)) else ((F52 p0 p1).bind fun r3 => (F50 p0 p1).bind fun r5 => need (bif (!r5) then ((F50 p0 p2).isSome) else true) <| bif (r5 || (gt (F50 p0 p2))) then (some ((TForward.mk (A6u8.mk 0 0 0 0 0 0) 0 [] []), 2)) else (bif ((!r3.2) && (bEq (p0.Nexts.length : Nat) 64)) then (some ((TForward.mk (A6u8.mk 0 0 0 0 0 0) 0 [] []), 22)) else ((F41 p0).bind fun r8 => bif r3.2 then (need (inb r3.1 r8.Nexts.length) <| some ((TForward.mk (A6u8.mk r8.Own.x0 r8.Own.x1 r8.Own.x2 r8.Own.x3 r8.Own.x4 r8.Own.x5) r8.Seq r8.Seen (r8.Nexts.set r3.1.toNat (TForwardHop.mk (A6u8.mk (((gd r8.Nexts r3.1.toNat).Dest).x0) (((gd r8.Nexts r3.1.toNat).Dest).x1) (((gd r8.Nexts r3.1.toNat).Dest).x2) (((gd r8.Nexts r3.1.toNat).Dest).x3) (((gd r8.Nexts r3.1.toNat).Dest).x4) (((gd r8.Nexts r3.1.toNat).Dest).x5)) (A6u8.mk p2.x0 p2.x1 p2.x2 p2.x3 p2.x4 p2.x5)))), 0)) else (need (insb r3.1 r8.Nexts.length) <| (some [(TForwardHop.mk (A6u8.mk p1.x0 p1.x1 p1.x2 p1.x3 p1.x4 p1.x5) (A6u8.mk p2.x0 p2.x1 p2.x2 p2.x3 p2.x4 p2.x5))]).bind fun w12 => (some (insL r8.Nexts r3.1 [(TForwardHop.mk (A6u8.mk p1.x0 p1.x1 p1.x2 p1.x3 p1.x4 p1.x5) (A6u8.mk p2.x0 p2.x1 p2.x2 p2.x3 p2.x4 p2.x5))])).bind fun w14 => some ((TForward.mk (A6u8.mk r8.Own.x0 r8.Own.x1 r8.Own.x2 r8.Own.x3 r8.Own.x4 r8.Own.x5) r8.Seq r8.Seen w14), 0)))))
noncomputable def body30 : List AV -> List ABlk -> ED
  | [v0, v1, v2], h => .ed [] (aK 9 k_TForward (roD (deadL h []) v0) /\ roDOb (deadL h []) v0 /\ aK 6 k_A6u8 (roD (deadL h []) v1) /\ roDOb (deadL h []) v1 /\ aK 6 k_A6u8 (roD (deadL h []) v2) /\ roDOb (deadL h []) v2 /\ (F30 (g_TForward (aL (roD (deadL h []) v0))) (g_A6u8 (aL (roD (deadL h []) v1))) (g_A6u8 (aL (roD (deadL h []) v2)))).isSome = true) (.tup [.agg [.int .u8 ((((gt (F30 (g_TForward (aL (roD (deadL h []) v0))) (g_A6u8 (aL (roD (deadL h []) v1))) (g_A6u8 (aL (roD (deadL h []) v2))))).1).Own).x0), .int .u8 ((((gt (F30 (g_TForward (aL (roD (deadL h []) v0))) (g_A6u8 (aL (roD (deadL h []) v1))) (g_A6u8 (aL (roD (deadL h []) v2))))).1).Own).x1), .int .u8 ((((gt (F30 (g_TForward (aL (roD (deadL h []) v0))) (g_A6u8 (aL (roD (deadL h []) v1))) (g_A6u8 (aL (roD (deadL h []) v2))))).1).Own).x2), .int .u8 ((((gt (F30 (g_TForward (aL (roD (deadL h []) v0))) (g_A6u8 (aL (roD (deadL h []) v1))) (g_A6u8 (aL (roD (deadL h []) v2))))).1).Own).x3), .int .u8 ((((gt (F30 (g_TForward (aL (roD (deadL h []) v0))) (g_A6u8 (aL (roD (deadL h []) v1))) (g_A6u8 (aL (roD (deadL h []) v2))))).1).Own).x4), .int .u8 ((((gt (F30 (g_TForward (aL (roD (deadL h []) v0))) (g_A6u8 (aL (roD (deadL h []) v1))) (g_A6u8 (aL (roD (deadL h []) v2))))).1).Own).x5), .int .i64 (((gt (F30 (g_TForward (aL (roD (deadL h []) v0))) (g_A6u8 (aL (roD (deadL h []) v1))) (g_A6u8 (aL (roD (deadL h []) v2))))).1).Seq), .sl 0 7 0 ((((gt (F30 (g_TForward (aL (roD (deadL h []) v0))) (g_A6u8 (aL (roD (deadL h []) v1))) (g_A6u8 (aL (roD (deadL h []) v2))))).1).Seen).length) false, .sl 1 12 0 ((((gt (F30 (g_TForward (aL (roD (deadL h []) v0))) (g_A6u8 (aL (roD (deadL h []) v1))) (g_A6u8 (aL (roD (deadL h []) v2))))).1).Nexts).length) false], .int .i64 ((gt (F30 (g_TForward (aL (roD (deadL h []) v0))) (g_A6u8 (aL (roD (deadL h []) v1))) (g_A6u8 (aL (roD (deadL h []) v2))))).2)]) [.row 59 7 ((((gt (F30 (g_TForward (aL (roD (deadL h []) v0))) (g_A6u8 (aL (roD (deadL h []) v1))) (g_A6u8 (aL (roD (deadL h []) v2))))).1).Seen).length) (enR c_TForwardMark (((gt (F30 (g_TForward (aL (roD (deadL h []) v0))) (g_A6u8 (aL (roD (deadL h []) v1))) (g_A6u8 (aL (roD (deadL h []) v2))))).1).Seen)), .row 90 12 ((((gt (F30 (g_TForward (aL (roD (deadL h []) v0))) (g_A6u8 (aL (roD (deadL h []) v1))) (g_A6u8 (aL (roD (deadL h []) v2))))).1).Nexts).length) (enR c_TForwardHop (((gt (F30 (g_TForward (aL (roD (deadL h []) v0))) (g_A6u8 (aL (roD (deadL h []) v1))) (g_A6u8 (aL (roD (deadL h []) v2))))).1).Nexts))]
  | _, _ => .fail
set_option maxHeartbeats 4000000 in
set_option maxRecDepth 20000 in
theorem ok30 : FnOk Try.prog 30 (edC body30) := by
  refine edit_fnV body30 (rs := [.cell 6 31, .tmp 7]) Try.func30 (by kernel_rfl) rfl rfl ?_
  intro l h bs ob q0 g0 hb hob
  unfold body30 at hb
  split at hb
  · rename_i v0 v1 v2
    injection hb with q1 q2 q3 q4; subst q1 q2 q3 q4
    obtain ⟨hk0_0, hk0_1, hk1_0, hk1_1, hk2_0, hk2_1, hob⟩ := hob
    obtain ⟨r, H⟩ := Option.isSome_iff_exists.1 hob
    rw [H, gt_some]
    have hw0 := wA_TForward hk0_0
    obtain ⟨p0, hp_p0⟩ : ∃ p0, p0 = g_TForward (aL (roD (deadL h []) v0)) := ⟨_, rfl⟩
    rw [← hp_p0] at H hw0
    have hw1 := wA_A6u8 hk1_0
    obtain ⟨p1, hp_p1⟩ : ∃ p1, p1 = g_A6u8 (aL (roD (deadL h []) v1)) := ⟨_, rfl⟩
    rw [← hp_p1] at H hw1
    have hw2 := wA_A6u8 hk2_0
    obtain ⟨p2, hp_p2⟩ : ∃ p2, p2 = g_A6u8 (aL (roD (deadL h []) v2)) := ⟨_, rfl⟩
    rw [← hp_p2] at H hw2
    refine ⟨[.agg [.int .u8 p0.Own.x0, .int .u8 p0.Own.x1, .int .u8 p0.Own.x2, .int .u8 p0.Own.x3, .int .u8 p0.Own.x4, .int .u8 p0.Own.x5, .int .i64 p0.Seq, .ro 7 p0.Seen.length false (enR c_TForwardMark p0.Seen), .ro 12 p0.Nexts.length false (enR c_TForwardHop p0.Nexts)], .agg [.int .u8 p1.x0, .int .u8 p1.x1, .int .u8 p1.x2, .int .u8 p1.x3, .int .u8 p1.x4, .int .u8 p1.x5], .agg [.int .u8 p2.x0, .int .u8 p2.x1, .int .u8 p2.x2, .int .u8 p2.x3, .int .u8 p2.x4, .int .u8 p2.x5]], [], rfl, ⟨(EW_view hk0_1 hw0), ⟨(EW_view hk1_1 hw1), ⟨(EW_view hk2_1 hw2), trivial⟩⟩⟩, trivial, trivial, ⟨(nfB_en nr_TForwardMark), ⟨(nfB_en nr_TForwardHop), trivial⟩⟩, ⟨noroB_en, ⟨noroB_en, trivial⟩⟩, (by first | (simp only [noro, noroL, and_self]; done) | (simp only [noro, noroL]; and_intros <;> first | trivial | exact noro_bif (by simp only [noro]) (by simp only [noro]) | (simp only [noro, noroL, and_self]))), ?_⟩
    rw [Try.ntmps30]
    simp only [List.length_cons, List.length_nil, Nat.reduceAdd, Nat.reduceSub, List.replicate_succ, List.replicate_zero, List.cons_append, List.nil_append]
    unfold F30 at H
    try dsimp only at H
    refine sq ctNo_ok ?_
    simp only [go_sem, Nat.reduceLeDiff, Nat.reduceLT, Nat.reduceAdd, Nat.reduceMul, Nat.reduceSub, Nat.reduceEqDiff, Nat.reduceBEq, Int.reduceToNat, reduceCtorEq]
    refine seqM ?_
    refine seqM ?_
    obtain ⟨r1, e2, H⟩ := bsi H
    refine rg ct30t0_ok ?_
    simp only [go_sem, Nat.reduceLeDiff, Nat.reduceLT, Nat.reduceAdd, Nat.reduceMul, Nat.reduceSub, Nat.reduceEqDiff, Nat.reduceBEq, Int.reduceToNat, reduceCtorEq, ct30t0_27, body27, e2]
    repeat ((with_reducible refine And.intro ?_ ?_); focus exact an0)
    refine sq ctNo_ok ?_
    simp only [go_sem, Nat.reduceLeDiff, Nat.reduceLT, Nat.reduceAdd, Nat.reduceMul, Nat.reduceSub, Nat.reduceEqDiff, Nat.reduceBEq, Int.reduceToNat, reduceCtorEq]
    refine condM rfl trivial (fun hc => ?_) (fun hc => ?_)
    · replace H := cond_t hc H
      refine sq ctNo_ok ?_
      simp only [go_sem, Nat.reduceLeDiff, Nat.reduceLT, Nat.reduceAdd, Nat.reduceMul, Nat.reduceSub, Nat.reduceEqDiff, Nat.reduceBEq, Int.reduceToNat, reduceCtorEq]
      repeat ((with_reducible refine And.intro ?_ ?_); focus exact an4)
      refine rg ctNo_ok ?_
      simp only [go_sem, Nat.reduceLeDiff, Nat.reduceLT, Nat.reduceAdd, Nat.reduceMul, Nat.reduceSub, Nat.reduceEqDiff, Nat.reduceBEq, Int.reduceToNat, reduceCtorEq]
      obtain rfl := Option.some.inj H
      refine RetE_mk [] [none, none] ?_ ?_ ?_ ?_ (by rfl) (by rfl)
      · simp only [go_sem, Nat.reduceEqDiff, Nat.reduceBEq, Nat.reduceAdd]
        try exact at0
      · simp only [go_sem, Nat.reduceEqDiff, Nat.reduceBEq, Nat.reduceAdd]
        try exact at0
      · simp only [go_sem, Nat.reduceEqDiff, Nat.reduceBEq, Nat.reduceAdd]
        exact Cv_tup (CvL_cons (by first | (simp [Cv, CvL, getM, gt_some]; done) | (simp [Cv, CvL, getM, gt_some]; omega)) (CvL_cons (by simp [Cv, CvL, getM, gt_some]) CvL_nil))
      · simp only [go_sem, Nat.reduceEqDiff, Nat.reduceBEq, Nat.reduceAdd, CvH, gt_some, Option.isSome_some, Option.isSome_none]
        first | exact ⟨CvB_none, CvB_none⟩ | trivial
    replace H := cond_f hc H
    refine rg ctNo_ok ?_
    simp only [go_sem, Nat.reduceLeDiff, Nat.reduceLT, Nat.reduceAdd, Nat.reduceMul, Nat.reduceSub, Nat.reduceEqDiff, Nat.reduceBEq, Int.reduceToNat, reduceCtorEq]
    refine seqM ?_
    obtain ⟨r3, e4, H⟩ := bsi H
    refine rg ct30t1_ok ?_
    simp only [go_sem, Nat.reduceLeDiff, Nat.reduceLT, Nat.reduceAdd, Nat.reduceMul, Nat.reduceSub, Nat.reduceEqDiff, Nat.reduceBEq, Int.reduceToNat, reduceCtorEq, ct30t1_52, body52, e4]
    repeat ((with_reducible refine And.intro ?_ ?_); focus exact an0)
    refine seqM ?_
    refine blkM ?_
    refine seqM ?_
    obtain ⟨r5, e6, H⟩ := bsi H
    obtain ⟨f7, H⟩ := need_some.1 H
    replace f7 := g_iff.1 f7
    refine rg ct30t2_ok ?_
    simp only [go_sem, Nat.reduceLeDiff, Nat.reduceLT, Nat.reduceAdd, Nat.reduceMul, Nat.reduceSub, Nat.reduceEqDiff, Nat.reduceBEq, Int.reduceToNat, reduceCtorEq, ct30t2_50, body50, e6]
    repeat ((with_reducible refine And.intro ?_ ?_); focus (first | (with_reducible trivial) | omega | exact f7 | (intro g; have q := f7 (by first | exact g | (rw [g]; rfl) | simpa using g); first | exact q | exact ⟨q.1, q.2.1⟩ | exact q.2.2 | omega | exact ⟨g, q⟩ | exact ⟨trivial, q⟩ | exact ⟨g, q.1, q.2.1⟩ | exact ⟨g, q.2.2⟩) | (intro g; (try have q0 := f7 (by first | exact g | (rw [g]; rfl) | simpa using g)); and_intros <;> first | (with_reducible trivial) | assumption | exact nfc | (intro g2; rw [g, g2]; rfl) | (intro g2; assumption) | (simp only [g, Bool.true_and, Bool.and_true, Bool.not_false, Bool.not_true]; assumption) | grind) | (and_intros <;> first | (with_reducible trivial) | omega | assumption | exact nfc | first | exact rfl | exact trivial | exact fitI | exact .inr rfl | exact .inl rfl | exact fun x hx => absurd hx (by omega)) | grind))
    refine condM rfl trivial (fun hc => ?_) (fun hc => ?_)
    · replace H := cond_t hc H
      refine sq ctNo_ok ?_
      simp only [go_sem, Nat.reduceLeDiff, Nat.reduceLT, Nat.reduceAdd, Nat.reduceMul, Nat.reduceSub, Nat.reduceEqDiff, Nat.reduceBEq, Int.reduceToNat, reduceCtorEq]
      repeat ((with_reducible refine And.intro ?_ ?_); focus exact an4)
      refine rg ctNo_ok ?_
      simp only [go_sem, Nat.reduceLeDiff, Nat.reduceLT, Nat.reduceAdd, Nat.reduceMul, Nat.reduceSub, Nat.reduceEqDiff, Nat.reduceBEq, Int.reduceToNat, reduceCtorEq]
      obtain rfl := Option.some.inj H
      refine RetE_mk [] [none, none] ?_ ?_ ?_ ?_ (by rfl) (by rfl)
      · simp only [go_sem, Nat.reduceEqDiff, Nat.reduceBEq, Nat.reduceAdd]
        try exact at0
      · simp only [go_sem, Nat.reduceEqDiff, Nat.reduceBEq, Nat.reduceAdd]
        try exact at0
      · simp only [go_sem, Nat.reduceEqDiff, Nat.reduceBEq, Nat.reduceAdd]
        exact Cv_tup (CvL_cons (by first | (simp [Cv, CvL, getM, gt_some]; done) | (simp [Cv, CvL, getM, gt_some]; omega)) (CvL_cons (by simp [Cv, CvL, getM, gt_some]) CvL_nil))
      · simp only [go_sem, Nat.reduceEqDiff, Nat.reduceBEq, Nat.reduceAdd, CvH, gt_some, Option.isSome_some, Option.isSome_none]
        first | exact ⟨CvB_none, CvB_none⟩ | trivial
    replace H := cond_f hc H
    refine sq ctNo_ok ?_
    simp only [go_sem, Nat.reduceLeDiff, Nat.reduceLT, Nat.reduceAdd, Nat.reduceMul, Nat.reduceSub, Nat.reduceEqDiff, Nat.reduceBEq, Int.reduceToNat, reduceCtorEq]
    repeat ((with_reducible refine And.intro ?_ ?_); focus exact an6)
    refine condM rfl trivial (fun hc => ?_) (fun hc => ?_)
    · replace H := cond_t hc H
      refine sq ctNo_ok ?_
      simp only [go_sem, Nat.reduceLeDiff, Nat.reduceLT, Nat.reduceAdd, Nat.reduceMul, Nat.reduceSub, Nat.reduceEqDiff, Nat.reduceBEq, Int.reduceToNat, reduceCtorEq]
      repeat ((with_reducible refine And.intro ?_ ?_); focus exact an4)
      refine rg ctNo_ok ?_
      simp only [go_sem, Nat.reduceLeDiff, Nat.reduceLT, Nat.reduceAdd, Nat.reduceMul, Nat.reduceSub, Nat.reduceEqDiff, Nat.reduceBEq, Int.reduceToNat, reduceCtorEq]
      obtain rfl := Option.some.inj H
      refine RetE_mk [] [none, none] ?_ ?_ ?_ ?_ (by rfl) (by rfl)
      · simp only [go_sem, Nat.reduceEqDiff, Nat.reduceBEq, Nat.reduceAdd]
        try exact at0
      · simp only [go_sem, Nat.reduceEqDiff, Nat.reduceBEq, Nat.reduceAdd]
        try exact at0
      · simp only [go_sem, Nat.reduceEqDiff, Nat.reduceBEq, Nat.reduceAdd]
        exact Cv_tup (CvL_cons (by first | (simp [Cv, CvL, getM, gt_some]; done) | (simp [Cv, CvL, getM, gt_some]; omega)) (CvL_cons (by simp [Cv, CvL, getM, gt_some]) CvL_nil))
      · simp only [go_sem, Nat.reduceEqDiff, Nat.reduceBEq, Nat.reduceAdd, CvH, gt_some, Option.isSome_some, Option.isSome_none]
        first | exact ⟨CvB_none, CvB_none⟩ | trivial
    replace H := cond_f hc H
    refine rg ctNo_ok ?_
    simp only [go_sem, Nat.reduceLeDiff, Nat.reduceLT, Nat.reduceAdd, Nat.reduceMul, Nat.reduceSub, Nat.reduceEqDiff, Nat.reduceBEq, Int.reduceToNat, reduceCtorEq]
    refine seqM ?_
    obtain ⟨r8, e9, H⟩ := bsi H
    refine rg ct30t3_ok ?_
    simp only [go_sem, Nat.reduceLeDiff, Nat.reduceLT, Nat.reduceAdd, Nat.reduceMul, Nat.reduceSub, Nat.reduceEqDiff, Nat.reduceBEq, Int.reduceToNat, reduceCtorEq, ct30t3_41, body41, e9]
    repeat ((with_reducible refine And.intro ?_ ?_); focus exact an0)
    refine seqM ?_
    refine sq ctNo_ok ?_
    simp only [go_sem, Nat.reduceLeDiff, Nat.reduceLT, Nat.reduceAdd, Nat.reduceMul, Nat.reduceSub, Nat.reduceEqDiff, Nat.reduceBEq, Int.reduceToNat, reduceCtorEq]
    refine condM rfl trivial (fun hc => ?_) (fun hc => ?_)
    · replace H := cond_t hc H
      obtain ⟨f10, H⟩ := need_some.1 H
      replace f10 := inb_iff.1 f10
      refine rg ctNo_ok ?_
      simp only [go_sem, Nat.reduceLeDiff, Nat.reduceLT, Nat.reduceAdd, Nat.reduceMul, Nat.reduceSub, Nat.reduceEqDiff, Nat.reduceBEq, Int.reduceToNat, reduceCtorEq, f10]
      repeat ((with_reducible refine And.intro ?_ ?_); focus exact an4)
      refine sq ctNo_ok ?_
      simp only [go_sem, Nat.reduceLeDiff, Nat.reduceLT, Nat.reduceAdd, Nat.reduceMul, Nat.reduceSub, Nat.reduceEqDiff, Nat.reduceBEq, Int.reduceToNat, reduceCtorEq]
      repeat ((with_reducible refine And.intro ?_ ?_); focus exact an4)
      refine rg ctNo_ok ?_
      simp only [go_sem, Nat.reduceLeDiff, Nat.reduceLT, Nat.reduceAdd, Nat.reduceMul, Nat.reduceSub, Nat.reduceEqDiff, Nat.reduceBEq, Int.reduceToNat, reduceCtorEq]
      obtain rfl := Option.some.inj H
      refine RetE_mk [] [some 4, some 5] ?_ ?_ ?_ ?_ (by rfl) (by rfl)
      · simp only [go_sem, Nat.reduceEqDiff, Nat.reduceBEq, Nat.reduceAdd]
        try exact at0
      · simp only [go_sem, Nat.reduceEqDiff, Nat.reduceBEq, Nat.reduceAdd]
        try exact at0
      · simp only [go_sem, Nat.reduceEqDiff, Nat.reduceBEq, Nat.reduceAdd]
        exact Cv_tup (CvL_cons (by first | (simp [Cv, CvL, getM, gt_some]; done) | (simp [Cv, CvL, getM, gt_some]; omega)) (CvL_cons (by simp [Cv, CvL, getM, gt_some]) CvL_nil))
      · simp only [go_sem, Nat.reduceEqDiff, Nat.reduceBEq, Nat.reduceAdd, CvH, gt_some, Option.isSome_some, Option.isSome_none]
        first | exact ⟨CvB_row nr_TForwardMark cl (fun _ _ _ _ => rfl), CvB_row nr_TForwardHop cl (upc_row (f := c_TForwardHop) r8.Nexts r3.1.toNat 6 (TForwardHop.mk (A6u8.mk (((gd r8.Nexts r3.1.toNat).Dest).x0) (((gd r8.Nexts r3.1.toNat).Dest).x1) (((gd r8.Nexts r3.1.toNat).Dest).x2) (((gd r8.Nexts r3.1.toNat).Dest).x3) (((gd r8.Nexts r3.1.toNat).Dest).x4) (((gd r8.Nexts r3.1.toNat).Dest).x5)) (A6u8.mk p2.x0 p2.x1 p2.x2 p2.x3 p2.x4 p2.x5)) (fun _ _ _ _ => rfl) (fun y hy => match y, hy with | 0, _ => rfl | 1, _ => rfl | 2, _ => rfl | 3, _ => rfl | 4, _ => rfl | 5, _ => rfl | 6, _ => rfl | 7, _ => rfl | 8, _ => rfl | 9, _ => rfl | 10, _ => rfl | 11, _ => rfl | (y+12), h => absurd h nlt))⟩ | trivial
    replace H := cond_f hc H
    obtain ⟨f11, H⟩ := need_some.1 H
    replace f11 := insb_iff.1 f11
    refine rg ct30t4_ok ?_
    simp only [go_sem, Nat.reduceLeDiff, Nat.reduceLT, Nat.reduceAdd, Nat.reduceMul, Nat.reduceSub, Nat.reduceEqDiff, Nat.reduceBEq, Int.reduceToNat, reduceCtorEq, ct30t4_53, insN, f11]
    repeat ((with_reducible refine And.intro ?_ ?_); focus exact an2)
    refine seqM ?_
    obtain ⟨w12, hw13, H⟩ := bsi H
    replace hw13 := Option.some.inj hw13
    have lhw13 : w12.length = 1 := by rw [← hw13]; exact cl
    obtain ⟨w14, hw15, H⟩ := bsi H
    replace hw15 := Option.some.inj hw15
    have lhw15 : w14.length = r8.Nexts.length + 1 := by rw [← hw15]; exact (ins_len f11 cl)
    refine subF_mean (t2 := (.top :: .top :: .top :: .ptr 0 0 0 0 :: .top :: .top :: .ptr 3 0 0 0 :: tp 55 [])) (h2 := [.lit 31 [.int .u8 r8.Own.x0, .int .u8 r8.Own.x1, .int .u8 r8.Own.x2, .int .u8 r8.Own.x3, .int .u8 r8.Own.x4, .int .u8 r8.Own.x5, .int .i64 r8.Seq, .sl 4 7 0 r8.Seen.length false, .sl 7 12 0 w14.length false], .lit 23 [.int .u8 p1.x0, .int .u8 p1.x1, .int .u8 p1.x2, .int .u8 p1.x3, .int .u8 p1.x4, .int .u8 p1.x5], .lit 23 [.int .u8 p2.x0, .int .u8 p2.x1, .int .u8 p2.x2, .int .u8 p2.x3, .int .u8 p2.x4, .int .u8 p2.x5], .lit 31 [.int .u8 0, .int .u8 0, .int .u8 0, .int .u8 0, .int .u8 0, .int .u8 0, .int .i64 0, .ro 0 0 true (fun _ _ => .top), .ro 0 0 true (fun _ _ => .top)], .row 59 7 r8.Seen.length (enR c_TForwardMark r8.Seen), .dead, .row 90 12 w12.length (enR c_TForwardHop w12), .row 90 12 w14.length (enR c_TForwardHop w14)]) ?_ ?_
    · refine SubF_of ⟨[some 0, some 1, some 2, some 3, some 4, some 5, some 6, some 7], ?_, ?_, by rfl, by rfl⟩
      · simp [CvL, Cv, getM, tp, lhw13, lhw15]
      · exact ⟨(by simp [CvB, CvL, Cv, blkAt, geth, getM, lhw13, lhw15]), (by simp [CvB, CvL, Cv, blkAt, geth, getM, lhw13, lhw15]), (by simp [CvB, CvL, Cv, blkAt, geth, getM, lhw13, lhw15]), (by simp [CvB, CvL, Cv, blkAt, geth, getM, lhw13, lhw15]), CvB_row nr_TForwardMark rfl (fun _ _ _ _ => rfl), CvB_dead, CvB_row nr_TForwardHop lhw13 (hw13 ▸ (lit_row (f := c_TForwardHop) [(TForwardHop.mk (A6u8.mk p1.x0 p1.x1 p1.x2 p1.x3 p1.x4 p1.x5) (A6u8.mk p2.x0 p2.x1 p2.x2 p2.x3 p2.x4 p2.x5))] (fun _ _ => rfl) rfl)), CvB_row nr_TForwardHop lhw15 (hw15 ▸ (ins_row f11 cl (fun _ _ _ _ => rfl) (lit_row (f := c_TForwardHop) [(TForwardHop.mk (A6u8.mk p1.x0 p1.x1 p1.x2 p1.x3 p1.x4 p1.x5) (A6u8.mk p2.x0 p2.x1 p2.x2 p2.x3 p2.x4 p2.x5))] (fun _ _ => rfl) rfl))), trivial⟩
    simp only [tp]
    refine rg ctNo_ok ?_
    simp only [go_sem, Nat.reduceLeDiff, Nat.reduceLT, Nat.reduceAdd, Nat.reduceMul, Nat.reduceSub, Nat.reduceEqDiff, Nat.reduceBEq, Int.reduceToNat, reduceCtorEq]
    repeat ((with_reducible refine And.intro ?_ ?_); focus exact an4)
    refine rg ctNo_ok ?_
    simp only [go_sem, Nat.reduceLeDiff, Nat.reduceLT, Nat.reduceAdd, Nat.reduceMul, Nat.reduceSub, Nat.reduceEqDiff, Nat.reduceBEq, Int.reduceToNat, reduceCtorEq]
    obtain rfl := Option.some.inj H
    refine RetE_mk [] [some 4, some 7] ?_ ?_ ?_ ?_ (by rfl) (by rfl)
    · simp only [go_sem, Nat.reduceEqDiff, Nat.reduceBEq, Nat.reduceAdd]
      try exact at0
    · simp only [go_sem, Nat.reduceEqDiff, Nat.reduceBEq, Nat.reduceAdd]
      try exact at0
    · simp only [go_sem, Nat.reduceEqDiff, Nat.reduceBEq, Nat.reduceAdd]
      exact Cv_tup (CvL_cons (by first | (simp [Cv, CvL, getM, gt_some]; done) | (simp [Cv, CvL, getM, gt_some]; omega)) (CvL_cons (by simp [Cv, CvL, getM, gt_some]) CvL_nil))
    · simp only [go_sem, Nat.reduceEqDiff, Nat.reduceBEq, Nat.reduceAdd, CvH, gt_some, Option.isSome_some, Option.isSome_none]
      first | exact ⟨CvB_row nr_TForwardMark cl (fun _ _ _ _ => rfl), CvB_row nr_TForwardHop cl (fun _ _ _ _ => rfl)⟩ | trivial
  · cases hb
/-! hotspot/forward.CheckFrame -/
noncomputable def ct23t0 : Ct := tab [(39, pureC body39), (48, pureC body48)]
theorem ct23t0_ok : CtOk Try.prog ct23t0 := tab_cons ok39 <| tab_cons ok48 <| tab_nil
theorem ct23t0_39 (l : List AV) (h : List ABlk) : ct23t0 39 l h = pureC body39 l h := rfl
theorem ct23t0_48 (l : List AV) (h : List ABlk) : ct23t0 48 l h = pureC body48 l h := rfl
noncomputable def F23 (p0 : TMeshFrame) : Option (Int) :=
  (F39 p0.From).bind fun r1 => need (bif (!r1) then ((F39 p0.Enter).isSome) else true) <| need (bif (!(r1 || (gt (F39 p0.Enter)))) then ((F39 p0.To).isSome) else true) <| need (bif (!(r1 || (gt (F39 p0.Enter)))) then ((F39 p0.Leave).isSome) else true) <| need (bif (!((r1 || (gt (F39 p0.Enter))) || (!bB (gt (F39 p0.To)) (gt (F39 p0.Leave))))) then ((F48 p0.Seq).isSome) else true) <| bif ((((((r1 || (gt (F39 p0.Enter))) || (!bB (gt (F39 p0.To)) (gt (F39 p0.Leave)))) || (!(gt (F48 p0.Seq)))) || (bLt p0.Ttl 1)) || (bLt 31 p0.Ttl)) || (bLt 2264 (p0.Data.length : Nat))) then (some 8) else (some 0)
noncomputable def body23 : List AV -> AR
  | [v0] => .pure (aK 39 k_TMeshFrame v0 /\ (F23 (g_TMeshFrame (aL v0))).isSome = true) (.int .i64 (gt (F23 (g_TMeshFrame (aL v0)))))
  | _ => .fail
set_option maxHeartbeats 4000000 in
set_option maxRecDepth 20000 in
theorem ok23 : FnOk Try.prog 23 (pureC body23) := by
  refine pure_fnM body23 (rs := [.tmp 2]) Try.func23 (by kernel_rfl) rfl rfl ?_
  intro l ob v hb hob
  unfold body23 at hb
  split at hb
  · rename_i v0
    injection hb with q1 q2; subst q1 q2
    obtain ⟨hk0_0, hob⟩ := hob
    obtain ⟨r, H⟩ := Option.isSome_iff_exists.1 hob
    rw [H, gt_some]
    have hw0 := wA_TMeshFrame hk0_0
    generalize g_TMeshFrame (aL v0) = p0 at H hw0
    refine ⟨[.agg (.int .u8 p0.From.x0 :: .int .u8 p0.From.x1 :: .int .u8 p0.From.x2 :: .int .u8 p0.From.x3 :: .int .u8 p0.From.x4 :: .int .u8 p0.From.x5 :: .int .u8 p0.To.x0 :: .int .u8 p0.To.x1 :: .int .u8 p0.To.x2 :: .int .u8 p0.To.x3 :: .int .u8 p0.To.x4 :: .int .u8 p0.To.x5 :: .int .u8 p0.Enter.x0 :: .int .u8 p0.Enter.x1 :: .int .u8 p0.Enter.x2 :: .int .u8 p0.Enter.x3 :: .int .u8 p0.Enter.x4 :: .int .u8 p0.Enter.x5 :: .int .u8 p0.Leave.x0 :: .int .u8 p0.Leave.x1 :: .int .u8 p0.Leave.x2 :: .int .u8 p0.Leave.x3 :: .int .u8 p0.Leave.x4 :: .int .u8 p0.Leave.x5 :: .int .u8 p0.Source.x0 :: .int .u8 p0.Source.x1 :: .int .u8 p0.Source.x2 :: .int .u8 p0.Source.x3 :: .int .u8 p0.Source.x4 :: .int .u8 p0.Source.x5 :: .int .u8 p0.Target.x0 :: .int .u8 p0.Target.x1 :: .int .u8 p0.Target.x2 :: .int .u8 p0.Target.x3 :: .int .u8 p0.Target.x4 :: .int .u8 p0.Target.x5 :: .int .i64 p0.Seq :: .int .i64 p0.Ttl :: .ro 1 p0.Data.length false (enR c_u8 p0.Data) :: [])], _, (fun E vs F => FR_wk1 hw0.1 F (fun vs F => F)), rfl, rfl, ?_⟩
    rw [Try.ntmps23]
    simp only [List.length_cons, List.length_nil, Nat.reduceAdd, Nat.reduceSub, List.replicate_succ, List.replicate_zero, List.cons_append, List.nil_append]
    unfold F23 at H
    try dsimp only at H
    refine sq ctNo_ok ?_
    simp only [go_sem, Nat.reduceLeDiff, Nat.reduceLT, Nat.reduceAdd, Nat.reduceMul, Nat.reduceSub, Nat.reduceEqDiff, Nat.reduceBEq, Int.reduceToNat, reduceCtorEq]
    refine seqM ?_
    refine seqM ?_
    obtain ⟨r1, e2, H⟩ := bsi H
    obtain ⟨f3, H⟩ := need_some.1 H
    replace f3 := g_iff.1 f3
    obtain ⟨f4, H⟩ := need_some.1 H
    replace f4 := g_iff.1 f4
    obtain ⟨f5, H⟩ := need_some.1 H
    replace f5 := g_iff.1 f5
    obtain ⟨f6, H⟩ := need_some.1 H
    replace f6 := g_iff.1 f6
    refine draw_quiet shT_ok ct23t0_ok (by kernel_rfl) (by kernel_rfl) ?_
    simp only [go_sem, Nat.reduceLeDiff, Nat.reduceLT, Nat.reduceAdd, Nat.reduceMul, Nat.reduceSub, Nat.reduceEqDiff, Nat.reduceBEq, Int.reduceToNat, reduceCtorEq, ct23t0_39, body39, ct23t0_48, body48, e2]
    repeat ((with_reducible refine And.intro ?_ ?_); focus (first | (with_reducible trivial) | omega | exact f3 | exact f4 | exact f5 | exact f6 | (intro g; have q := f3 (by first | exact g | (rw [g]; rfl) | simpa using g); first | exact q | exact ⟨q.1, q.2.1⟩ | exact q.2.2 | omega | exact ⟨g, q⟩ | exact ⟨trivial, q⟩ | exact ⟨g, q.1, q.2.1⟩ | exact ⟨g, q.2.2⟩) | (intro g; have q := f4 (by first | exact g | (rw [g]; rfl) | simpa using g); first | exact q | exact ⟨q.1, q.2.1⟩ | exact q.2.2 | omega | exact ⟨g, q⟩ | exact ⟨trivial, q⟩ | exact ⟨g, q.1, q.2.1⟩ | exact ⟨g, q.2.2⟩) | (intro g; have q := f5 (by first | exact g | (rw [g]; rfl) | simpa using g); first | exact q | exact ⟨q.1, q.2.1⟩ | exact q.2.2 | omega | exact ⟨g, q⟩ | exact ⟨trivial, q⟩ | exact ⟨g, q.1, q.2.1⟩ | exact ⟨g, q.2.2⟩) | (intro g; have q := f6 (by first | exact g | (rw [g]; rfl) | simpa using g); first | exact q | exact ⟨q.1, q.2.1⟩ | exact q.2.2 | omega | exact ⟨g, q⟩ | exact ⟨trivial, q⟩ | exact ⟨g, q.1, q.2.1⟩ | exact ⟨g, q.2.2⟩) | (intro g; (try have q0 := f3 (by first | exact g | (rw [g]; rfl) | simpa using g)); (try have q1 := f4 (by first | exact g | (rw [g]; rfl) | simpa using g)); (try have q2 := f5 (by first | exact g | (rw [g]; rfl) | simpa using g)); (try have q3 := f6 (by first | exact g | (rw [g]; rfl) | simpa using g)); and_intros <;> first | (with_reducible trivial) | assumption | exact nfc | (intro g2; rw [g, g2]; rfl) | (intro g2; assumption) | (simp only [g, Bool.true_and, Bool.and_true, Bool.not_false, Bool.not_true]; assumption) | grind) | (and_intros <;> first | (with_reducible trivial) | omega | assumption | exact nfc | first | exact rfl | exact trivial | exact fitI | exact .inr rfl | exact .inl rfl | exact fun x hx => absurd hx (by omega)) | grind))
    refine condM rfl trivial (fun hc => ?_) (fun hc => ?_)
    · replace H := cond_t hc H
      refine sq ctNo_ok ?_
      simp only [go_sem, Nat.reduceLeDiff, Nat.reduceLT, Nat.reduceAdd, Nat.reduceMul, Nat.reduceSub, Nat.reduceEqDiff, Nat.reduceBEq, Int.reduceToNat, reduceCtorEq]
      refine rg ctNo_ok ?_
      simp only [go_sem, Nat.reduceLeDiff, Nat.reduceLT, Nat.reduceAdd, Nat.reduceMul, Nat.reduceSub, Nat.reduceEqDiff, Nat.reduceBEq, Int.reduceToNat, reduceCtorEq]
      obtain rfl := Option.some.inj H
      first | rfl | simp only [Bool.and_false, Bool.false_and, Bool.and_true, Bool.true_and]
    replace H := cond_f hc H
    refine rg ctNo_ok ?_
    simp only [go_sem, Nat.reduceLeDiff, Nat.reduceLT, Nat.reduceAdd, Nat.reduceMul, Nat.reduceSub, Nat.reduceEqDiff, Nat.reduceBEq, Int.reduceToNat, reduceCtorEq]
    refine sq ctNo_ok ?_
    simp only [go_sem, Nat.reduceLeDiff, Nat.reduceLT, Nat.reduceAdd, Nat.reduceMul, Nat.reduceSub, Nat.reduceEqDiff, Nat.reduceBEq, Int.reduceToNat, reduceCtorEq]
    refine rg ctNo_ok ?_
    simp only [go_sem, Nat.reduceLeDiff, Nat.reduceLT, Nat.reduceAdd, Nat.reduceMul, Nat.reduceSub, Nat.reduceEqDiff, Nat.reduceBEq, Int.reduceToNat, reduceCtorEq]
    obtain rfl := Option.some.inj H
    first | rfl | simp only [Bool.and_false, Bool.false_and, Bool.and_true, Bool.true_and]
  · cases hb
/-! hotspot/forward.remember$1 -/
noncomputable def F60_0 (p0 : TForwardMark) (p1 : TForwardMark) : Option (Bool) :=
  some (bEq p0.Enter.x0 p1.Enter.x0 && (bEq p0.Enter.x1 p1.Enter.x1 && (bEq p0.Enter.x2 p1.Enter.x2 && (bEq p0.Enter.x3 p1.Enter.x3 && (bEq p0.Enter.x4 p1.Enter.x4 && (bEq p0.Enter.x5 p1.Enter.x5 && (bEq p0.Seq p1.Seq)))))))
noncomputable def body60_0 : List AV -> AR
  | [v0, v1] => .pure (aK 7 k_TForwardMark v0 /\ rK 7 k_TForwardMark v1 /\ (F60_0 (g_TForwardMark (aL v0)) (g_TForwardMark (rG v1))).isSome = true) (.bool (gt (F60_0 (g_TForwardMark (aL v0)) (g_TForwardMark (rG v1)))))
  | _ => .fail
set_option maxHeartbeats 4000000 in
set_option maxRecDepth 20000 in
theorem ok60_0 : FnOk Try.prog 60 (pureC body60_0) := by
  refine pure_fnM body60_0 (rs := [.tmp 3]) Try.func60 (by kernel_rfl) rfl rfl ?_
  intro l ob v hb hob
  unfold body60_0 at hb
  split at hb
  · rename_i v0 v1
    injection hb with q1 q2; subst q1 q2
    obtain ⟨hk0_0, hk1_0, hob⟩ := hob
    obtain ⟨r, H⟩ := Option.isSome_iff_exists.1 hob
    rw [H, gt_some]
    have hw0 := wA_TForwardMark hk0_0
    have hw1 := rK_wk (f := c_TForwardMark) (g := g_TForwardMark) (fun r h => w_TForwardMark h) hk1_0
    generalize g_TForwardMark (aL v0) = p0 at H hw0
    generalize g_TForwardMark (rG v1) = p1 at H hw1
    refine ⟨[.agg [.int .u8 p0.Enter.x0, .int .u8 p0.Enter.x1, .int .u8 p0.Enter.x2, .int .u8 p0.Enter.x3, .int .u8 p0.Enter.x4, .int .u8 p0.Enter.x5, .int .i64 p0.Seq], .rptr 7 1 0 0 (enR c_TForwardMark [p1])], _, (fun E vs F => FR_wk1 hw0.1 F (fun vs F => FR_wk1 hw1.1 F (fun vs F => F))), rfl, rfl, ?_⟩
    rw [Try.ntmps60]
    simp only [List.length_cons, List.length_nil, Nat.reduceAdd, Nat.reduceSub, List.replicate_succ, List.replicate_zero, List.cons_append, List.nil_append]
    unfold F60_0 at H
    try dsimp only at H
    refine sq ctNo_ok ?_
    simp only [go_sem, Nat.reduceLeDiff, Nat.reduceLT, Nat.reduceAdd, Nat.reduceMul, Nat.reduceSub, Nat.reduceEqDiff, Nat.reduceBEq, Int.reduceToNat, reduceCtorEq]
    refine sq ctNo_ok ?_
    simp only [go_sem, Nat.reduceLeDiff, Nat.reduceLT, Nat.reduceAdd, Nat.reduceMul, Nat.reduceSub, Nat.reduceEqDiff, Nat.reduceBEq, Int.reduceToNat, reduceCtorEq]
    refine rg ctNo_ok ?_
    simp only [go_sem, Nat.reduceLeDiff, Nat.reduceLT, Nat.reduceAdd, Nat.reduceMul, Nat.reduceSub, Nat.reduceEqDiff, Nat.reduceBEq, Int.reduceToNat, reduceCtorEq]
    obtain rfl := Option.some.inj H
    first | rfl | simp only [Bool.and_false, Bool.false_and, Bool.and_true, Bool.true_and]
  · cases hb
/-! slices.IndexFunc[[]hotspot/api.ForwardMark,hotspot/api.ForwardMark] -/
noncomputable def ct69_0t0 : Ct := tab [(60, pureC body60_0)]
theorem ct69_0t0_ok : CtOk Try.prog ct69_0t0 := tab_cons ok60_0 <| tab_nil
theorem ct69_0t0_60 (l : List AV) (h : List ABlk) : ct69_0t0 60 l h = pureC body60_0 l h := rfl
noncomputable def F69_0_L1 (p0 : List TForwardMark) (p1 : TForwardMark) (v1_1 : Int) : Option (Lp (Int) ((Unit) ⊕ (Int))) :=
  bif (bLt v1_1 (p0.length : Nat)) then (need (inb v1_1 p0.length) <| (F60_0 (TForwardMark.mk (A6u8.mk (((gd p0 v1_1.toNat).Enter).x0) (((gd p0 v1_1.toNat).Enter).x1) (((gd p0 v1_1.toNat).Enter).x2) (((gd p0 v1_1.toNat).Enter).x3) (((gd p0 v1_1.toNat).Enter).x4) (((gd p0 v1_1.toNat).Enter).x5)) ((gd p0 v1_1.toNat).Seq)) p1).bind fun r2 => bif r2 then (some (.done (.inr v1_1))) else (some (.next (wr .i64 (v1_1 + 1))))) else (some (.done (.inl ())))
noncomputable def F69_0 (p0 : List TForwardMark) (p1 : TForwardMark) : Option (Int) :=
  lp (loopD (fun s => F69_0_L1 p0 p1 s) 0) (fun _ => some (-1)) some
noncomputable def body69_0 : List AV -> AR
  | [v0, .fn 60 [v1]] => .pure (lK k_TForwardMark 7 v0 /\ rK 7 k_TForwardMark v1 /\ (F69_0 (lA g_TForwardMark v0) (g_TForwardMark (rG v1))).isSome = true) (.int .i64 (gt (F69_0 (lA g_TForwardMark v0) (g_TForwardMark (rG v1)))))
  | _ => .fail
set_option maxHeartbeats 4000000 in
set_option maxRecDepth 20000 in
theorem ok69_0 : FnOk Try.prog 69 (pureC body69_0) := by
  refine pure_fnM body69_0 (rs := [.tmp 4]) Try.func69 (by kernel_rfl) rfl rfl ?_
  intro l ob v hb hob
  unfold body69_0 at hb
  split at hb
  · rename_i v0 v1
    injection hb with q1 q2; subst q1 q2
    obtain ⟨hk0_0, hk1_0, hob⟩ := hob
    obtain ⟨r, H⟩ := Option.isSome_iff_exists.1 hob
    rw [H, gt_some]
    have hw0 := lK_wk (fun r h => w_TForwardMark h) hk0_0
    have hw1 := rK_wk (f := c_TForwardMark) (g := g_TForwardMark) (fun r h => w_TForwardMark h) hk1_0
    generalize lA g_TForwardMark v0 = p0 at H hw0
    generalize g_TForwardMark (rG v1) = p1 at H hw1
    refine ⟨[.ro 7 p0.length false (enR c_TForwardMark p0), .fn 60 [.rptr 7 1 0 0 (enR c_TForwardMark [p1])]], _, (fun E vs F => FR_wk1 hw0.1 F (fun vs F => FR_wk1 (fn_wk (LW_cons hw1.1 LW_nil)) F (fun vs F => F))), rfl, rfl, ?_⟩
    rw [Try.ntmps69]
    simp only [List.length_cons, List.length_nil, Nat.reduceAdd, Nat.reduceSub, List.replicate_succ, List.replicate_zero, List.cons_append, List.nil_append]
    unfold F69_0 at H
    try dsimp only at H
    refine sq ctNo_ok ?_
    simp only [go_sem, Nat.reduceLeDiff, Nat.reduceLT, Nat.reduceAdd, Nat.reduceMul, Nat.reduceSub, Nat.reduceEqDiff, Nat.reduceBEq, Int.reduceToNat, reduceCtorEq]
    refine seqM ?_
    refine sq ctNo_ok ?_
    simp only [go_sem, Nat.reduceLeDiff, Nat.reduceLT, Nat.reduceAdd, Nat.reduceMul, Nat.reduceSub, Nat.reduceEqDiff, Nat.reduceBEq, Int.reduceToNat, reduceCtorEq]
    repeat ((with_reducible refine And.intro ?_ ?_); focus exact an0)
    refine blkM ?_
    refine loop_den (fun s : Int => (.ro 7 p0.length false (enR c_TForwardMark p0) :: .fn 60 [.rptr 7 1 0 0 (enR c_TForwardMark [p1])] :: tp 5 (.int .i64 (p0.length : Nat) :: .int .i64 s :: tp 10 []))) (fun s => []) (fun e : Unit => (tp 19 [])) (fun e => []) H ?_ (fun v1_1 o H hn1_1 hn2_1 => ?_) (fun e H => ?_)
    · refine SubF_of ⟨[], ?_, ?_, by rfl, by rfl⟩
      · simp [CvL, Cv, getM, tp]
      · trivial
    · unfold F69_0_L1 at H
      try dsimp only at H ⊢
      try simp only [tp]
      refine sq ctNo_ok ?_
      simp only [go_sem, Nat.reduceLeDiff, Nat.reduceLT, Nat.reduceAdd, Nat.reduceMul, Nat.reduceSub, Nat.reduceEqDiff, Nat.reduceBEq, Int.reduceToNat, reduceCtorEq]
      refine seqM ?_
      refine condM' rfl trivial (fun hc => ?_) (fun hc => ?_)
      · replace H := cond_f hc H
        refine rg ctNo_ok ?_
        simp only [go_sem, Nat.reduceLeDiff, Nat.reduceLT, Nat.reduceAdd, Nat.reduceMul, Nat.reduceSub, Nat.reduceEqDiff, Nat.reduceBEq, Int.reduceToNat, reduceCtorEq]
        refine ⟨_, (Option.some.inj H).symm, ?_⟩
        refine SubF_of ⟨[], ?_, ?_, by rfl, by rfl⟩
        · simp [CvL, Cv, getM, tp]
        · trivial
      replace H := cond_t hc H
      refine rg ctNo_ok ?_
      simp only [go_sem, Nat.reduceLeDiff, Nat.reduceLT, Nat.reduceAdd, Nat.reduceMul, Nat.reduceSub, Nat.reduceEqDiff, Nat.reduceBEq, Int.reduceToNat, reduceCtorEq]
      refine seqM ?_
      refine blkM ?_
      refine sq ctNo_ok ?_
      simp only [go_sem, Nat.reduceLeDiff, Nat.reduceLT, Nat.reduceAdd, Nat.reduceMul, Nat.reduceSub, Nat.reduceEqDiff, Nat.reduceBEq, Int.reduceToNat, reduceCtorEq]
      refine seqM ?_
      obtain ⟨f1, H⟩ := need_some.1 H
      replace f1 := inb_iff.1 f1
      obtain ⟨r2, e3, H⟩ := bsi H
      refine rg ct69_0t0_ok ?_
      simp only [go_sem, Nat.reduceLeDiff, Nat.reduceLT, Nat.reduceAdd, Nat.reduceMul, Nat.reduceSub, Nat.reduceEqDiff, Nat.reduceBEq, Int.reduceToNat, reduceCtorEq, ct69_0t0_60, body60_0, f1, e3]
      repeat ((with_reducible refine And.intro ?_ ?_); focus exact an0)
      refine condM rfl trivial (fun hc => ?_) (fun hc => ?_)
      · replace H := cond_t hc H
        refine sq ctNo_ok ?_
        simp only [go_sem, Nat.reduceLeDiff, Nat.reduceLT, Nat.reduceAdd, Nat.reduceMul, Nat.reduceSub, Nat.reduceEqDiff, Nat.reduceBEq, Int.reduceToNat, reduceCtorEq]
        refine rg ctNo_ok ?_
        simp only [go_sem, Nat.reduceLeDiff, Nat.reduceLT, Nat.reduceAdd, Nat.reduceMul, Nat.reduceSub, Nat.reduceEqDiff, Nat.reduceBEq, Int.reduceToNat, reduceCtorEq]
        have H := hn2_1 _ (Option.some.inj H).symm
        obtain rfl := Option.some.inj H
        first | rfl | simp only [Bool.and_false, Bool.false_and, Bool.and_true, Bool.true_and]
      replace H := cond_f hc H
      refine rg ctNo_ok ?_
      simp only [go_sem, Nat.reduceLeDiff, Nat.reduceLT, Nat.reduceAdd, Nat.reduceMul, Nat.reduceSub, Nat.reduceEqDiff, Nat.reduceBEq, Int.reduceToNat, reduceCtorEq]
      refine rg ctNo_ok ?_
      simp only [go_sem, Nat.reduceLeDiff, Nat.reduceLT, Nat.reduceAdd, Nat.reduceMul, Nat.reduceSub, Nat.reduceEqDiff, Nat.reduceBEq, Int.reduceToNat, reduceCtorEq]
      refine ⟨_, (Option.some.inj H).symm, ?_⟩
      refine SubF_of ⟨[], ?_, ?_, by rfl, by rfl⟩
      · simp [CvL, Cv, getM, tp]
      · trivial
    · try dsimp only at H ⊢
      try simp only [tp]
      try simp only [m_normal, k_normal, b_normal, kL_normal, r_normal]
      refine sq ctNo_ok ?_
      simp only [go_sem, Nat.reduceLeDiff, Nat.reduceLT, Nat.reduceAdd, Nat.reduceMul, Nat.reduceSub, Nat.reduceEqDiff, Nat.reduceBEq, Int.reduceToNat, reduceCtorEq]
      refine rg ctNo_ok ?_
      simp only [go_sem, Nat.reduceLeDiff, Nat.reduceLT, Nat.reduceAdd, Nat.reduceMul, Nat.reduceSub, Nat.reduceEqDiff, Nat.reduceBEq, Int.reduceToNat, reduceCtorEq]
      obtain rfl := Option.some.inj H
      first | rfl | simp only [Bool.and_false, Bool.false_and, Bool.and_true, Bool.true_and]
  · cases hb
/-! slices.DeleteFunc[[]hotspot/api.ForwardMark,hotspot/api.ForwardMark] -/
noncomputable def ct54_0t0 : Ct := tab [(69, pureC body69_0)]
theorem ct54_0t0_ok : CtOk Try.prog ct54_0t0 := tab_cons ok69_0 <| tab_nil
theorem ct54_0t0_69 (l : List AV) (h : List ABlk) : ct54_0t0 69 l h = pureC body69_0 l h := rfl
noncomputable def ct54_0t1 : Ct := tab [(60, pureC body60_0)]
theorem ct54_0t1_ok : CtOk Try.prog ct54_0t1 := tab_cons ok60_0 <| tab_nil
theorem ct54_0t1_60 (l : List AV) (h : List ABlk) : ct54_0t1 60 l h = pureC body60_0 l h := rfl
noncomputable def F54_0_L1 (p1 : TForwardMark) (v1_1 : List TForwardMark) (v1_2 : Int) (v1_3 : Int) : Option (Lp ((List TForwardMark) × Int × Int) (((List TForwardMark) × Int) ⊕ (List TForwardMark))) :=
  bif (bLt v1_3 (v1_1.length : Nat)) then (need (inb v1_3 v1_1.length) <| (F60_0 (TForwardMark.mk (A6u8.mk (((gd v1_1 v1_3.toNat).Enter).x0) (((gd v1_1 v1_3.toNat).Enter).x1) (((gd v1_1 v1_3.toNat).Enter).x2) (((gd v1_1 v1_3.toNat).Enter).x3) (((gd v1_1 v1_3.toNat).Enter).x4) (((gd v1_1 v1_3.toNat).Enter).x5)) ((gd v1_1 v1_3.toNat).Seq)) p1).bind fun r4 => bif (!r4) then (need (inb v1_2 v1_1.length) <| some (.next ((v1_1.set v1_2.toNat (TForwardMark.mk (A6u8.mk (((gd v1_1 v1_3.toNat).Enter).x0) (((gd v1_1 v1_3.toNat).Enter).x1) (((gd v1_1 v1_3.toNat).Enter).x2) (((gd v1_1 v1_3.toNat).Enter).x3) (((gd v1_1 v1_3.toNat).Enter).x4) (((gd v1_1 v1_3.toNat).Enter).x5)) ((gd v1_1 v1_3.toNat).Seq))), wr .i64 (v1_2 + 1), wr .i64 (v1_3 + 1)))) else (some (.next (v1_1, v1_2, wr .i64 (v1_3 + 1))))) else (some (.done (.inl (v1_1, v1_2))))
noncomputable def F54_0 (p0 : List TForwardMark) (p1 : TForwardMark) : Option (List TForwardMark) :=
  (F69_0 p0 p1).bind fun r1 => bif (bEq r1 (-1)) then (some p0) else (lp (loopD (fun s => F54_0_L1 p1 s.1 s.2.1 s.2.2) (p0, r1, wr .i64 (r1 + 1))) (fun e1 => need (slb e1.2 (e1.1.length : Nat) e1.1.length) <| need (slb 0 e1.2 e1.1.length) <| some (List.take e1.2.toNat e1.1)) some)
noncomputable def body54_0 : List AV -> List ABlk -> ED
  | [v0, .fn 60 [v1]], h => .ed [slN v0] (oS 59 7 h v0 /\ lK k_TForwardMark 7 (roW h v0) /\ rK 7 k_TForwardMark (roD (deadL h [slN v0]) v1) /\ roDOb (deadL h [slN v0]) v1 /\ (F54_0 (lA g_TForwardMark (roW h v0)) (g_TForwardMark (rG (roD (deadL h [slN v0]) v1)))).isSome = true) (.sl 1 7 0 ((gt (F54_0 (lA g_TForwardMark (roW h v0)) (g_TForwardMark (rG (roD (deadL h [slN v0]) v1))))).length) false) [.dead, .row 59 7 ((gt (F54_0 (lA g_TForwardMark (roW h v0)) (g_TForwardMark (rG (roD (deadL h [slN v0]) v1))))).length) (enR c_TForwardMark (gt (F54_0 (lA g_TForwardMark (roW h v0)) (g_TForwardMark (rG (roD (deadL h [slN v0]) v1))))))]
  | _, _ => .fail
set_option maxHeartbeats 4000000 in
set_option maxRecDepth 20000 in
theorem ok54_0 : FnOk Try.prog 54 (edC body54_0) := by
  refine edit_fnV body54_0 (rs := [.tmp 4]) Try.func54 (by kernel_rfl) rfl rfl ?_
  intro l h bs ob q0 g0 hb hob
  unfold body54_0 at hb
  split at hb
  · rename_i v0 v1
    injection hb with q1 q2 q3 q4; subst q1 q2 q3 q4
    obtain ⟨hk0_0, hk0_1, hk1_0, hk1_1, hob⟩ := hob
    obtain ⟨r, H⟩ := Option.isSome_iff_exists.1 hob
    rw [H, gt_some]
    obtain ⟨p0, hp0⟩ : ∃ p0, p0 = lA g_TForwardMark (roW h v0) := ⟨_, rfl⟩
    rw [← hp0] at H
    obtain ⟨ev0, eb0⟩ := own_row2 (f := c_TForwardMark) (g := g_TForwardMark) (bs := [slN v0]) (i := 0) (fun hr => w_TForwardMark hr) hk0_0 hk0_1 (L := p0) (by rw [hp0]) rfl
    have hw1 := rK_wk (f := c_TForwardMark) (g := g_TForwardMark) (fun r h => w_TForwardMark h) hk1_0
    obtain ⟨p1, hp_p1⟩ : ∃ p1, p1 = g_TForwardMark (rG (roD (deadL h [slN v0]) v1)) := ⟨_, rfl⟩
    rw [← hp_p1] at H hw1
    refine ⟨[.sl 0 7 0 p0.length false, .fn 60 [.rptr 7 1 0 0 (enR c_TForwardMark [p1])]], [.row 59 7 p0.length (enR c_TForwardMark p0)], rfl, ⟨(EW_own ev0 (by simp only [noro])), ⟨(EW_fn ⟨(EW_view hk1_1 hw1), trivial⟩), trivial⟩⟩, ⟨eb0, trivial⟩, ⟨noroB_en, trivial⟩, ⟨trivial, ⟨(nfB_en nr_TForwardMark), trivial⟩⟩, ⟨trivial, ⟨noroB_en, trivial⟩⟩, (by first | (simp only [noro, noroL, and_self]; done) | (simp only [noro, noroL]; and_intros <;> first | trivial | exact noro_bif (by simp only [noro]) (by simp only [noro]) | (simp only [noro, noroL, and_self]))), ?_⟩
    rw [Try.ntmps54]
    simp only [List.length_cons, List.length_nil, Nat.reduceAdd, Nat.reduceSub, List.replicate_succ, List.replicate_zero, List.cons_append, List.nil_append]
    unfold F54_0 at H
    try dsimp only at H
    refine sq ctNo_ok ?_
    simp only [go_sem, Nat.reduceLeDiff, Nat.reduceLT, Nat.reduceAdd, Nat.reduceMul, Nat.reduceSub, Nat.reduceEqDiff, Nat.reduceBEq, Int.reduceToNat, reduceCtorEq]
    refine seqM ?_
    obtain ⟨r1, e2, H⟩ := bsi H
    refine rg ct54_0t0_ok ?_
    simp only [go_sem, Nat.reduceLeDiff, Nat.reduceLT, Nat.reduceAdd, Nat.reduceMul, Nat.reduceSub, Nat.reduceEqDiff, Nat.reduceBEq, Int.reduceToNat, reduceCtorEq, ct54_0t0_69, body69_0, e2]
    repeat ((with_reducible refine And.intro ?_ ?_); focus exact an0)
    refine seqM ?_
    refine sq ctNo_ok ?_
    simp only [go_sem, Nat.reduceLeDiff, Nat.reduceLT, Nat.reduceAdd, Nat.reduceMul, Nat.reduceSub, Nat.reduceEqDiff, Nat.reduceBEq, Int.reduceToNat, reduceCtorEq]
    refine condM rfl trivial (fun hc => ?_) (fun hc => ?_)
    · replace H := cond_t hc H
      refine sq ctNo_ok ?_
      simp only [go_sem, Nat.reduceLeDiff, Nat.reduceLT, Nat.reduceAdd, Nat.reduceMul, Nat.reduceSub, Nat.reduceEqDiff, Nat.reduceBEq, Int.reduceToNat, reduceCtorEq]
      refine rg ctNo_ok ?_
      simp only [go_sem, Nat.reduceLeDiff, Nat.reduceLT, Nat.reduceAdd, Nat.reduceMul, Nat.reduceSub, Nat.reduceEqDiff, Nat.reduceBEq, Int.reduceToNat, reduceCtorEq]
      obtain rfl := Option.some.inj H
      refine RetE_mk [] [some 0, some 0] ?_ ?_ ?_ ?_ (by rfl) (by rfl)
      · simp only [go_sem, Nat.reduceEqDiff, Nat.reduceBEq, Nat.reduceAdd]
        try exact at0
      · simp only [go_sem, Nat.reduceEqDiff, Nat.reduceBEq, Nat.reduceAdd]
        try exact at0
      · simp only [go_sem, Nat.reduceEqDiff, Nat.reduceBEq, Nat.reduceAdd]
        exact (by first | (simp [Cv, CvL, getM, gt_some]; done) | (simp [Cv, CvL, getM, gt_some]; omega))
      · simp only [go_sem, Nat.reduceEqDiff, Nat.reduceBEq, Nat.reduceAdd, CvH, gt_some, Option.isSome_some, Option.isSome_none]
        first | exact ⟨CvB_dead, CvB_row nr_TForwardMark cl (fun _ _ _ _ => rfl)⟩ | trivial
    replace H := cond_f hc H
    refine rg ctNo_ok ?_
    simp only [go_sem, Nat.reduceLeDiff, Nat.reduceLT, Nat.reduceAdd, Nat.reduceMul, Nat.reduceSub, Nat.reduceEqDiff, Nat.reduceBEq, Int.reduceToNat, reduceCtorEq]
    refine seqM ?_
    refine sq ctNo_ok ?_
    simp only [go_sem, Nat.reduceLeDiff, Nat.reduceLT, Nat.reduceAdd, Nat.reduceMul, Nat.reduceSub, Nat.reduceEqDiff, Nat.reduceBEq, Int.reduceToNat, reduceCtorEq]
    refine blkM ?_
    refine loop_den (fun s : (List TForwardMark) × Int × Int => (.sl 1 7 0 s.1.length false :: .fn 60 [.rptr 7 1 0 0 (enR c_TForwardMark [p1])] :: .top :: .top :: .top :: .int .i64 s.2.1 :: .int .i64 s.2.2 :: tp 35 [])) (fun s => [.dead, .row 59 7 s.1.length (enR c_TForwardMark s.1)]) (fun e : (List TForwardMark) × Int => (.sl 1 7 0 e.1.length false :: tp 4 (.int .i64 e.2 :: tp 36 []))) (fun e => [.dead, .row 59 7 e.1.length (enR c_TForwardMark e.1)]) H ?_ (fun s o H hn1_1 hn2_1 => ?_) (fun e H => ?_)
    · refine SubF_of ⟨[some 0, some 0], ?_, ?_, by rfl, by rfl⟩
      · simp [CvL, Cv, getM, tp]
      · exact ⟨CvB_dead, CvB_row nr_TForwardMark cl (fun _ _ _ _ => rfl), trivial⟩
    · obtain ⟨v1_1, v1_2, v1_3⟩ := s
      unfold F54_0_L1 at H
      try dsimp only at H ⊢
      try simp only [tp]
      refine seqM ?_
      refine sq ctNo_ok ?_
      simp only [go_sem, Nat.reduceLeDiff, Nat.reduceLT, Nat.reduceAdd, Nat.reduceMul, Nat.reduceSub, Nat.reduceEqDiff, Nat.reduceBEq, Int.reduceToNat, reduceCtorEq]
      repeat ((with_reducible refine And.intro ?_ ?_); focus exact an0)
      refine condM' rfl trivial (fun hc => ?_) (fun hc => ?_)
      · replace H := cond_f hc H
        refine rg ctNo_ok ?_
        simp only [go_sem, Nat.reduceLeDiff, Nat.reduceLT, Nat.reduceAdd, Nat.reduceMul, Nat.reduceSub, Nat.reduceEqDiff, Nat.reduceBEq, Int.reduceToNat, reduceCtorEq]
        refine ⟨_, (Option.some.inj H).symm, ?_⟩
        refine SubF_of ⟨[some 0, some 1], ?_, ?_, by rfl, by rfl⟩
        · simp [CvL, Cv, getM, tp]
        · exact ⟨CvB_dead, CvB_row nr_TForwardMark cl (fun _ _ _ _ => rfl), trivial⟩
      replace H := cond_t hc H
      refine rg ctNo_ok ?_
      simp only [go_sem, Nat.reduceLeDiff, Nat.reduceLT, Nat.reduceAdd, Nat.reduceMul, Nat.reduceSub, Nat.reduceEqDiff, Nat.reduceBEq, Int.reduceToNat, reduceCtorEq]
      refine seqM ?_
      refine blkM ?_
      refine seqM ?_
      obtain ⟨f3, H⟩ := need_some.1 H
      replace f3 := inb_iff.1 f3
      refine rg ctNo_ok ?_
      simp only [go_sem, Nat.reduceLeDiff, Nat.reduceLT, Nat.reduceAdd, Nat.reduceMul, Nat.reduceSub, Nat.reduceEqDiff, Nat.reduceBEq, Int.reduceToNat, reduceCtorEq, f3]
      repeat ((with_reducible refine And.intro ?_ ?_); focus exact an4)
      refine seqM ?_
      obtain ⟨r4, e5, H⟩ := bsi H
      refine rg ct54_0t1_ok ?_
      simp only [go_sem, Nat.reduceLeDiff, Nat.reduceLT, Nat.reduceAdd, Nat.reduceMul, Nat.reduceSub, Nat.reduceEqDiff, Nat.reduceBEq, Int.reduceToNat, reduceCtorEq, ct54_0t1_60, body60_0, e5]
      repeat ((with_reducible refine And.intro ?_ ?_); focus exact an0)
      refine condM' rfl trivial (fun hc => ?_) (fun hc => ?_)
      · replace H := cond_f hc H
        refine rg ctNo_ok ?_
        simp only [go_sem, Nat.reduceLeDiff, Nat.reduceLT, Nat.reduceAdd, Nat.reduceMul, Nat.reduceSub, Nat.reduceEqDiff, Nat.reduceBEq, Int.reduceToNat, reduceCtorEq]
        refine rg ctNo_ok ?_
        simp only [go_sem, Nat.reduceLeDiff, Nat.reduceLT, Nat.reduceAdd, Nat.reduceMul, Nat.reduceSub, Nat.reduceEqDiff, Nat.reduceBEq, Int.reduceToNat, reduceCtorEq]
        refine ⟨_, (Option.some.inj H).symm, ?_⟩
        refine SubF_of ⟨[some 0, some 1], ?_, ?_, by rfl, by rfl⟩
        · simp [CvL, Cv, getM, tp]
        · exact ⟨CvB_dead, CvB_row nr_TForwardMark cl (fun _ _ _ _ => rfl), trivial⟩
      replace H := cond_t hc H
      refine seqM ?_
      obtain ⟨f6, H⟩ := need_some.1 H
      replace f6 := inb_iff.1 f6
      refine rg ctNo_ok ?_
      simp only [go_sem, Nat.reduceLeDiff, Nat.reduceLT, Nat.reduceAdd, Nat.reduceMul, Nat.reduceSub, Nat.reduceEqDiff, Nat.reduceBEq, Int.reduceToNat, reduceCtorEq, f6]
      repeat ((with_reducible refine And.intro ?_ ?_); focus exact an4)
      refine rg ctNo_ok ?_
      simp only [go_sem, Nat.reduceLeDiff, Nat.reduceLT, Nat.reduceAdd, Nat.reduceMul, Nat.reduceSub, Nat.reduceEqDiff, Nat.reduceBEq, Int.reduceToNat, reduceCtorEq]
      refine rg ctNo_ok ?_
      simp only [go_sem, Nat.reduceLeDiff, Nat.reduceLT, Nat.reduceAdd, Nat.reduceMul, Nat.reduceSub, Nat.reduceEqDiff, Nat.reduceBEq, Int.reduceToNat, reduceCtorEq]
      refine ⟨_, (Option.some.inj H).symm, ?_⟩
      refine SubF_of ⟨[some 0, some 1], ?_, ?_, by rfl, by rfl⟩
      · simp [CvL, Cv, getM, tp]
      · exact ⟨CvB_dead, CvB_row nr_TForwardMark cl (upc_row (f := c_TForwardMark) v1_1 v1_2.toNat 0 (TForwardMark.mk (A6u8.mk (((gd v1_1 v1_3.toNat).Enter).x0) (((gd v1_1 v1_3.toNat).Enter).x1) (((gd v1_1 v1_3.toNat).Enter).x2) (((gd v1_1 v1_3.toNat).Enter).x3) (((gd v1_1 v1_3.toNat).Enter).x4) (((gd v1_1 v1_3.toNat).Enter).x5)) ((gd v1_1 v1_3.toNat).Seq)) (fun _ _ _ _ => rfl) (fun y hy => match y, hy with | 0, _ => rfl | 1, _ => rfl | 2, _ => rfl | 3, _ => rfl | 4, _ => rfl | 5, _ => rfl | 6, _ => rfl | (y+7), h => absurd h nlt)), trivial⟩
    · obtain ⟨w1_4, w1_5⟩ := e
      try dsimp only at H ⊢
      try simp only [tp]
      try simp only [m_normal, k_normal, b_normal, kL_normal, r_normal]
      refine seqM ?_
      obtain ⟨f7, H⟩ := need_some.1 H
      replace f7 := slb_iff.1 f7
      refine rg ctNo_ok ?_
      simp only [go_sem, Nat.reduceLeDiff, Nat.reduceLT, Nat.reduceAdd, Nat.reduceMul, Nat.reduceSub, Nat.reduceEqDiff, Nat.reduceBEq, Int.reduceToNat, reduceCtorEq, f7]
      repeat ((with_reducible refine And.intro ?_ ?_); focus exact an2)
      refine seqM ?_
      obtain ⟨f8, H⟩ := need_some.1 H
      replace f8 := slb_iff.1 f8
      refine rg ctNo_ok ?_
      simp only [go_sem, Nat.reduceLeDiff, Nat.reduceLT, Nat.reduceAdd, Nat.reduceMul, Nat.reduceSub, Nat.reduceEqDiff, Nat.reduceBEq, Int.reduceToNat, reduceCtorEq, f8]
      repeat ((with_reducible refine And.intro ?_ ?_); focus exact an4)
      refine rg ctNo_ok ?_
      simp only [go_sem, Nat.reduceLeDiff, Nat.reduceLT, Nat.reduceAdd, Nat.reduceMul, Nat.reduceSub, Nat.reduceEqDiff, Nat.reduceBEq, Int.reduceToNat, reduceCtorEq]
      obtain rfl := Option.some.inj H
      refine RetE_mk [] [some 0, some 1] ?_ ?_ ?_ ?_ (by rfl) (by rfl)
      · simp only [go_sem, Nat.reduceEqDiff, Nat.reduceBEq, Nat.reduceAdd]
        try exact at0
      · simp only [go_sem, Nat.reduceEqDiff, Nat.reduceBEq, Nat.reduceAdd]
        try exact at0
      · simp only [go_sem, Nat.reduceEqDiff, Nat.reduceBEq, Nat.reduceAdd]
        exact (by first | (simp [Cv, CvL, getM, gt_some, (show (List.take w1_5.toNat w1_4).length = w1_5.toNat from take_len (n := w1_4.length) cl (by omega))]; done) | (simp [Cv, CvL, getM, gt_some, (show (List.take w1_5.toNat w1_4).length = w1_5.toNat from take_len (n := w1_4.length) cl (by omega))]; omega))
      · simp only [go_sem, Nat.reduceEqDiff, Nat.reduceBEq, Nat.reduceAdd, CvH, gt_some, Option.isSome_some, Option.isSome_none]
        first | exact ⟨CvB_dead, (CvB_pre nr_TForwardMark (by rw [show (List.take w1_5.toNat w1_4).length = w1_5.toNat from take_len (n := w1_4.length) cl (by omega)]; omega) (clr_row (fun _ _ _ _ => rfl)))⟩ | trivial
  · cases hb
/-! hotspot/forward.remember -/
noncomputable def ct42t0 : Ct := tab [(41, edC body41)]
theorem ct42t0_ok : CtOk Try.prog ct42t0 := tab_cons ok41 <| tab_nil
theorem ct42t0_41 (l : List AV) (h : List ABlk) : ct42t0 41 l h = edC body41 l h := rfl
noncomputable def ct42t1 : Ct := tab [(54, edC body54_0)]
theorem ct42t1_ok : CtOk Try.prog ct42t1 := tab_cons ok54_0 <| tab_nil
theorem ct42t1_54 (l : List AV) (h : List ABlk) : ct42t1 54 l h = edC body54_0 l h := rfl
noncomputable def F42 (p0 : TForward) (p1 : A6u8) (p2 : Int) : Option (TForward) :=
  (F41 p0).bind fun r1 => (F54_0 r1.Seen (TForwardMark.mk (A6u8.mk p1.x0 p1.x1 p1.x2 p1.x3 p1.x4 p1.x5) p2)).bind fun r3 => need (capb 16 (r3.length + 1)) <| bif (bLt 128 (r3.length + 1 : Nat)) then (need (slb 1 (r3.length + 1 : Nat) (r3.length + 1)) <| (some [(TForwardMark.mk (A6u8.mk p1.x0 p1.x1 p1.x2 p1.x3 p1.x4 p1.x5) p2)]).bind fun w7 => (some (r3 ++ [(TForwardMark.mk (A6u8.mk p1.x0 p1.x1 p1.x2 p1.x3 p1.x4 p1.x5) p2)])).bind fun w9 => (some (List.drop 1 w9)).bind fun w11 => some (TForward.mk (A6u8.mk r1.Own.x0 r1.Own.x1 r1.Own.x2 r1.Own.x3 r1.Own.x4 r1.Own.x5) r1.Seq w11 r1.Nexts)) else (some (TForward.mk (A6u8.mk r1.Own.x0 r1.Own.x1 r1.Own.x2 r1.Own.x3 r1.Own.x4 r1.Own.x5) r1.Seq (r3 ++ [(TForwardMark.mk (A6u8.mk p1.x0 p1.x1 p1.x2 p1.x3 p1.x4 p1.x5) p2)]) r1.Nexts))
noncomputable def body42 : List AV -> List ABlk -> ED
  | [v0, v1, v2], h => .ed [] (aK 9 k_TForward (roD (deadL h []) v0) /\ roDOb (deadL h []) v0 /\ aK 6 k_A6u8 (roD (deadL h []) v1) /\ roDOb (deadL h []) v1 /\ iK .i64 (roD (deadL h []) v2) /\ roDOb (deadL h []) v2 /\ (F42 (g_TForward (aL (roD (deadL h []) v0))) (g_A6u8 (aL (roD (deadL h []) v1))) (iA (roD (deadL h []) v2))).isSome = true) (.agg [.int .u8 (((gt (F42 (g_TForward (aL (roD (deadL h []) v0))) (g_A6u8 (aL (roD (deadL h []) v1))) (iA (roD (deadL h []) v2)))).Own).x0), .int .u8 (((gt (F42 (g_TForward (aL (roD (deadL h []) v0))) (g_A6u8 (aL (roD (deadL h []) v1))) (iA (roD (deadL h []) v2)))).Own).x1), .int .u8 (((gt (F42 (g_TForward (aL (roD (deadL h []) v0))) (g_A6u8 (aL (roD (deadL h []) v1))) (iA (roD (deadL h []) v2)))).Own).x2), .int .u8 (((gt (F42 (g_TForward (aL (roD (deadL h []) v0))) (g_A6u8 (aL (roD (deadL h []) v1))) (iA (roD (deadL h []) v2)))).Own).x3), .int .u8 (((gt (F42 (g_TForward (aL (roD (deadL h []) v0))) (g_A6u8 (aL (roD (deadL h []) v1))) (iA (roD (deadL h []) v2)))).Own).x4), .int .u8 (((gt (F42 (g_TForward (aL (roD (deadL h []) v0))) (g_A6u8 (aL (roD (deadL h []) v1))) (iA (roD (deadL h []) v2)))).Own).x5), .int .i64 ((gt (F42 (g_TForward (aL (roD (deadL h []) v0))) (g_A6u8 (aL (roD (deadL h []) v1))) (iA (roD (deadL h []) v2)))).Seq), .sl 0 7 0 (((gt (F42 (g_TForward (aL (roD (deadL h []) v0))) (g_A6u8 (aL (roD (deadL h []) v1))) (iA (roD (deadL h []) v2)))).Seen).length) false, .sl 1 12 0 (((gt (F42 (g_TForward (aL (roD (deadL h []) v0))) (g_A6u8 (aL (roD (deadL h []) v1))) (iA (roD (deadL h []) v2)))).Nexts).length) false]) [.row 59 7 (((gt (F42 (g_TForward (aL (roD (deadL h []) v0))) (g_A6u8 (aL (roD (deadL h []) v1))) (iA (roD (deadL h []) v2)))).Seen).length) (enR c_TForwardMark ((gt (F42 (g_TForward (aL (roD (deadL h []) v0))) (g_A6u8 (aL (roD (deadL h []) v1))) (iA (roD (deadL h []) v2)))).Seen)), .row 90 12 (((gt (F42 (g_TForward (aL (roD (deadL h []) v0))) (g_A6u8 (aL (roD (deadL h []) v1))) (iA (roD (deadL h []) v2)))).Nexts).length) (enR c_TForwardHop ((gt (F42 (g_TForward (aL (roD (deadL h []) v0))) (g_A6u8 (aL (roD (deadL h []) v1))) (iA (roD (deadL h []) v2)))).Nexts))]
  | _, _ => .fail
set_option maxHeartbeats 4000000 in
set_option maxRecDepth 20000 in
theorem ok42 : FnOk Try.prog 42 (edC body42) := by
  refine edit_fnV body42 (rs := [.cell 6 31]) Try.func42 (by kernel_rfl) rfl rfl ?_
  intro l h bs ob q0 g0 hb hob
  unfold body42 at hb
  split at hb
  · rename_i v0 v1 v2
    injection hb with q1 q2 q3 q4; subst q1 q2 q3 q4
    obtain ⟨hk0_0, hk0_1, hk1_0, hk1_1, hk2_0, hk2_1, hob⟩ := hob
    obtain ⟨r, H⟩ := Option.isSome_iff_exists.1 hob
    rw [H, gt_some]
    have hw0 := wA_TForward hk0_0
    obtain ⟨p0, hp_p0⟩ : ∃ p0, p0 = g_TForward (aL (roD (deadL h []) v0)) := ⟨_, rfl⟩
    rw [← hp_p0] at H hw0
    have hw1 := wA_A6u8 hk1_0
    obtain ⟨p1, hp_p1⟩ : ∃ p1, p1 = g_A6u8 (aL (roD (deadL h []) v1)) := ⟨_, rfl⟩
    rw [← hp_p1] at H hw1
    have hw2 := iK_wk hk2_0
    obtain ⟨p2, hp_p2⟩ : ∃ p2, p2 = iA (roD (deadL h []) v2) := ⟨_, rfl⟩
    rw [← hp_p2] at H hw2
    refine ⟨[.agg [.int .u8 p0.Own.x0, .int .u8 p0.Own.x1, .int .u8 p0.Own.x2, .int .u8 p0.Own.x3, .int .u8 p0.Own.x4, .int .u8 p0.Own.x5, .int .i64 p0.Seq, .ro 7 p0.Seen.length false (enR c_TForwardMark p0.Seen), .ro 12 p0.Nexts.length false (enR c_TForwardHop p0.Nexts)], .agg [.int .u8 p1.x0, .int .u8 p1.x1, .int .u8 p1.x2, .int .u8 p1.x3, .int .u8 p1.x4, .int .u8 p1.x5], .int .i64 p2], [], rfl, ⟨(EW_view hk0_1 hw0), ⟨(EW_view hk1_1 hw1), ⟨(EW_view hk2_1 hw2), trivial⟩⟩⟩, trivial, trivial, ⟨(nfB_en nr_TForwardMark), ⟨(nfB_en nr_TForwardHop), trivial⟩⟩, ⟨noroB_en, ⟨noroB_en, trivial⟩⟩, (by first | (simp only [noro, noroL, and_self]; done) | (simp only [noro, noroL]; and_intros <;> first | trivial | exact noro_bif (by simp only [noro]) (by simp only [noro]) | (simp only [noro, noroL, and_self]))), ?_⟩
    rw [Try.ntmps42]
    simp only [List.length_cons, List.length_nil, Nat.reduceAdd, Nat.reduceSub, List.replicate_succ, List.replicate_zero, List.cons_append, List.nil_append]
    unfold F42 at H
    try dsimp only at H
    refine sq ctNo_ok ?_
    simp only [go_sem, Nat.reduceLeDiff, Nat.reduceLT, Nat.reduceAdd, Nat.reduceMul, Nat.reduceSub, Nat.reduceEqDiff, Nat.reduceBEq, Int.reduceToNat, reduceCtorEq]
    refine seqM ?_
    obtain ⟨r1, e2, H⟩ := bsi H
    refine rg ct42t0_ok ?_
    simp only [go_sem, Nat.reduceLeDiff, Nat.reduceLT, Nat.reduceAdd, Nat.reduceMul, Nat.reduceSub, Nat.reduceEqDiff, Nat.reduceBEq, Int.reduceToNat, reduceCtorEq, ct42t0_41, body41, e2]
    repeat ((with_reducible refine And.intro ?_ ?_); focus exact an0)
    refine sq ctNo_ok ?_
    simp only [go_sem, Nat.reduceLeDiff, Nat.reduceLT, Nat.reduceAdd, Nat.reduceMul, Nat.reduceSub, Nat.reduceEqDiff, Nat.reduceBEq, Int.reduceToNat, reduceCtorEq]
    repeat ((with_reducible refine And.intro ?_ ?_); focus exact an4)
    refine seqM ?_
    obtain ⟨r3, e4, H⟩ := bsi H
    obtain ⟨f5, H⟩ := need_some.1 H
    replace f5 := capb_iff.1 f5
    refine draw_ruleX [(16, [], [5])] shT_ok ct42t1_ok 3 (by kernel_rfl) (by kernel_rfl) ?_
    intro an han
    simp only [d_nil, d_cons, nxtD, xrD, xoD, roEq, minL, List.append_nil, refsOp, refs, refsL, mask, maskF, place, placeF, okLog, pairOk, hit, inL, slotsF, ren, renL, rnN, nrH, nrB, nrL, nr, dead0, deadS, List.replicate_zero, List.replicate_succ, Nat.sub_self, Nat.add_zero, Nat.zero_add, Nat.reduceSub, Nat.not_lt_zero, Nat.zero_le, Nat.lt_add_one, go_sem, Nat.reduceLeDiff, Nat.reduceLT, Nat.reduceAdd, Nat.reduceMul, Nat.reduceSub, Nat.reduceEqDiff, Nat.reduceBEq, Int.reduceToNat, reduceCtorEq, ct42t1_54, body54_0, e4, f5]
    repeat ((with_reducible refine And.intro ?_ ?_); focus exact an5)
    refine seqM ?_
    refine sq ctNo_ok ?_
    simp only [go_sem, Nat.reduceLeDiff, Nat.reduceLT, Nat.reduceAdd, Nat.reduceMul, Nat.reduceSub, Nat.reduceEqDiff, Nat.reduceBEq, Int.reduceToNat, reduceCtorEq]
    repeat ((with_reducible refine And.intro ?_ ?_); focus exact an3)
    refine condM' rfl trivial (fun hc => ?_) (fun hc => ?_)
    · replace H := cond_f hc H
      refine rg ctNo_ok ?_
      simp only [go_sem, Nat.reduceLeDiff, Nat.reduceLT, Nat.reduceAdd, Nat.reduceMul, Nat.reduceSub, Nat.reduceEqDiff, Nat.reduceBEq, Int.reduceToNat, reduceCtorEq]
      refine sq ctNo_ok ?_
      simp only [go_sem, Nat.reduceLeDiff, Nat.reduceLT, Nat.reduceAdd, Nat.reduceMul, Nat.reduceSub, Nat.reduceEqDiff, Nat.reduceBEq, Int.reduceToNat, reduceCtorEq]
      repeat ((with_reducible refine And.intro ?_ ?_); focus exact an4)
      refine rg ctNo_ok ?_
      simp only [go_sem, Nat.reduceLeDiff, Nat.reduceLT, Nat.reduceAdd, Nat.reduceMul, Nat.reduceSub, Nat.reduceEqDiff, Nat.reduceBEq, Int.reduceToNat, reduceCtorEq]
      obtain rfl := Option.some.inj H
      refine RetE_mk [] [some 8, some 4] ?_ ?_ ?_ ?_ (by rfl) (by rfl)
      · simp only [go_sem, Nat.reduceEqDiff, Nat.reduceBEq, Nat.reduceAdd]
        try exact at0
      · simp only [go_sem, Nat.reduceEqDiff, Nat.reduceBEq, Nat.reduceAdd]
        try exact at0
      · simp only [go_sem, Nat.reduceEqDiff, Nat.reduceBEq, Nat.reduceAdd]
        exact (by first | (simp [Cv, CvL, getM, gt_some]; done) | (simp [Cv, CvL, getM, gt_some]; omega))
      · simp only [go_sem, Nat.reduceEqDiff, Nat.reduceBEq, Nat.reduceAdd, CvH, gt_some, Option.isSome_some, Option.isSome_none]
        first | exact ⟨CvB_row nr_TForwardMark cl (app_row (f := c_TForwardMark) r3 [(TForwardMark.mk (A6u8.mk p1.x0 p1.x1 p1.x2 p1.x3 p1.x4 p1.x5) p2)] (fun _ _ _ _ => rfl) (lit_row (f := c_TForwardMark) [(TForwardMark.mk (A6u8.mk p1.x0 p1.x1 p1.x2 p1.x3 p1.x4 p1.x5) p2)] (fun _ _ => rfl) rfl)), CvB_row nr_TForwardHop cl (fun _ _ _ _ => rfl)⟩ | trivial
    replace H := cond_t hc H
    obtain ⟨f6, H⟩ := need_some.1 H
    replace f6 := slb_iff.1 f6
    refine rg ctNo_ok ?_
    simp only [go_sem, Nat.reduceLeDiff, Nat.reduceLT, Nat.reduceAdd, Nat.reduceMul, Nat.reduceSub, Nat.reduceEqDiff, Nat.reduceBEq, Int.reduceToNat, reduceCtorEq, f6]
    repeat ((with_reducible refine And.intro ?_ ?_); focus exact an4)
    refine seqM ?_
    obtain ⟨w7, hw8, H⟩ := bsi H
    replace hw8 := Option.some.inj hw8
    have lhw8 : w7.length = 1 := by rw [← hw8]; exact cl
    obtain ⟨w9, hw10, H⟩ := bsi H
    replace hw10 := Option.some.inj hw10
    have lhw10 : w9.length = r3.length + 1 := by rw [← hw10]; exact cl
    refine subF_mean (t2 := (.top :: .top :: .top :: .ptr 0 0 0 0 :: .top :: .top :: .ptr 2 0 0 0 :: tp 23 [])) (h2 := [.lit 31 [.int .u8 r1.Own.x0, .int .u8 r1.Own.x1, .int .u8 r1.Own.x2, .int .u8 r1.Own.x3, .int .u8 r1.Own.x4, .int .u8 r1.Own.x5, .int .i64 r1.Seq, .sl 8 7 1 (r3.length + 1 - 1) false, .sl 4 12 0 r1.Nexts.length false], .lit 23 [.int .u8 p1.x0, .int .u8 p1.x1, .int .u8 p1.x2, .int .u8 p1.x3, .int .u8 p1.x4, .int .u8 p1.x5], .lit 31 [.int .u8 0, .int .u8 0, .int .u8 0, .int .u8 0, .int .u8 0, .int .u8 0, .int .i64 0, .ro 0 0 true (fun _ _ => .top), .ro 0 0 true (fun _ _ => .top)], .dead, .row 90 12 r1.Nexts.length (enR c_TForwardHop r1.Nexts), .lit 59 [.int .u8 p1.x0, .int .u8 p1.x1, .int .u8 p1.x2, .int .u8 p1.x3, .int .u8 p1.x4, .int .u8 p1.x5, .int .i64 p2], .dead, .row 59 7 w7.length (enR c_TForwardMark w7), .row 59 7 w9.length (enR c_TForwardMark w9)]) ?_ ?_
    · refine SubF_of ⟨[some 0, some 1, some 2, some 3, some 4, some 5, some 6, some 7, some 8], ?_, ?_, by rfl, by rfl⟩
      · simp [CvL, Cv, getM, tp, lhw8, lhw10]
      · exact ⟨(by simp [CvB, CvL, Cv, blkAt, geth, getM, lhw8, lhw10]), (by simp [CvB, CvL, Cv, blkAt, geth, getM, lhw8, lhw10]), (by simp [CvB, CvL, Cv, blkAt, geth, getM, lhw8, lhw10]), CvB_dead, CvB_row nr_TForwardHop rfl (fun _ _ _ _ => rfl), (by simp [CvB, CvL, Cv, blkAt, geth, getM, lhw8, lhw10]), CvB_dead, CvB_row nr_TForwardMark lhw8 (hw8 ▸ (lit_row (f := c_TForwardMark) [(TForwardMark.mk (A6u8.mk p1.x0 p1.x1 p1.x2 p1.x3 p1.x4 p1.x5) p2)] (fun _ _ => rfl) rfl)), CvB_row nr_TForwardMark lhw10 (hw10 ▸ (app_row (f := c_TForwardMark) r3 [(TForwardMark.mk (A6u8.mk p1.x0 p1.x1 p1.x2 p1.x3 p1.x4 p1.x5) p2)] (fun _ _ _ _ => rfl) (lit_row (f := c_TForwardMark) [(TForwardMark.mk (A6u8.mk p1.x0 p1.x1 p1.x2 p1.x3 p1.x4 p1.x5) p2)] (fun _ _ => rfl) rfl))), trivial⟩
    simp only [tp]
    refine rb_mean 8 1 (r3.length + 1 - 1) (by rfl) ?_ ?_
    · first | omega | (simp only [slb_iff] at *; omega)
    simp only [List.length_cons, List.length_nil, Nat.zero_mul, Nat.add_zero, rbV, rbL, rbH, rbHF, rbB, cond_true, cond_false, Bool.and_false, Bool.and_true, Bool.false_and, Bool.true_and, Nat.reduceEqDiff, Nat.reduceBEq, beq_self_eq_true, Nat.reduceAdd, Nat.zero_add, List.cons_append, List.nil_append, sub_enR]
    obtain ⟨w11, hw12, H⟩ := bsi H
    replace hw12 := Option.some.inj hw12
    have lhw12 : w11.length = r3.length + 1 - 1 := by rw [← hw12]; exact (by rw [List.length_drop]; first | done | omega)
    refine subF_mean (t2 := (.top :: .top :: .top :: .ptr 0 0 0 0 :: .top :: .top :: .ptr 2 0 0 0 :: tp 23 [])) (h2 := [.lit 31 [.int .u8 r1.Own.x0, .int .u8 r1.Own.x1, .int .u8 r1.Own.x2, .int .u8 r1.Own.x3, .int .u8 r1.Own.x4, .int .u8 r1.Own.x5, .int .i64 r1.Seq, .sl 9 7 0 w11.length false, .sl 4 12 0 r1.Nexts.length false], .lit 23 [.int .u8 p1.x0, .int .u8 p1.x1, .int .u8 p1.x2, .int .u8 p1.x3, .int .u8 p1.x4, .int .u8 p1.x5], .lit 31 [.int .u8 0, .int .u8 0, .int .u8 0, .int .u8 0, .int .u8 0, .int .u8 0, .int .i64 0, .ro 0 0 true (fun _ _ => .top), .ro 0 0 true (fun _ _ => .top)], .dead, .row 90 12 r1.Nexts.length (enR c_TForwardHop r1.Nexts), .lit 59 [.int .u8 p1.x0, .int .u8 p1.x1, .int .u8 p1.x2, .int .u8 p1.x3, .int .u8 p1.x4, .int .u8 p1.x5, .int .i64 p2], .dead, .row 59 7 w7.length (enR c_TForwardMark w7), .dead, .row 59 7 w11.length (enR c_TForwardMark w11)]) ?_ ?_
    · refine SubF_of ⟨[some 0, some 1, some 2, some 3, some 4, some 5, some 6, some 7, some 8, some 9], ?_, ?_, by rfl, by rfl⟩
      · simp [CvL, Cv, getM, tp, lhw12]
      · exact ⟨(by simp [CvB, CvL, Cv, blkAt, geth, getM, lhw12]), (by simp [CvB, CvL, Cv, blkAt, geth, getM, lhw12]), (by simp [CvB, CvL, Cv, blkAt, geth, getM, lhw12]), CvB_dead, CvB_row nr_TForwardHop rfl (fun _ _ _ _ => rfl), (by simp [CvB, CvL, Cv, blkAt, geth, getM, lhw12]), CvB_dead, CvB_row nr_TForwardMark rfl (fun _ _ _ _ => rfl), CvB_dead, CvB_row nr_TForwardMark lhw12 (hw12 ▸ (fun _ _ _ _ => rfl)), trivial⟩
    simp only [tp]
    refine rg ctNo_ok ?_
    simp only [go_sem, Nat.reduceLeDiff, Nat.reduceLT, Nat.reduceAdd, Nat.reduceMul, Nat.reduceSub, Nat.reduceEqDiff, Nat.reduceBEq, Int.reduceToNat, reduceCtorEq]
    repeat ((with_reducible refine And.intro ?_ ?_); focus exact an4)
    refine rg ctNo_ok ?_
    simp only [go_sem, Nat.reduceLeDiff, Nat.reduceLT, Nat.reduceAdd, Nat.reduceMul, Nat.reduceSub, Nat.reduceEqDiff, Nat.reduceBEq, Int.reduceToNat, reduceCtorEq]
    obtain rfl := Option.some.inj H
    refine RetE_mk [] [some 9, some 4] ?_ ?_ ?_ ?_ (by rfl) (by rfl)
    · simp only [go_sem, Nat.reduceEqDiff, Nat.reduceBEq, Nat.reduceAdd]
      try exact at0
    · simp only [go_sem, Nat.reduceEqDiff, Nat.reduceBEq, Nat.reduceAdd]
      try exact at0
    · simp only [go_sem, Nat.reduceEqDiff, Nat.reduceBEq, Nat.reduceAdd]
      exact (by first | (simp [Cv, CvL, getM, gt_some]; done) | (simp [Cv, CvL, getM, gt_some]; omega))
    · simp only [go_sem, Nat.reduceEqDiff, Nat.reduceBEq, Nat.reduceAdd, CvH, gt_some, Option.isSome_some, Option.isSome_none]
      first | exact ⟨CvB_row nr_TForwardMark cl (fun _ _ _ _ => rfl), CvB_row nr_TForwardHop cl (fun _ _ _ _ => rfl)⟩ | trivial
  · cases hb
/-! bytes.Clone -/
noncomputable def F37 (p0 : List Int) : Option (List Int) :=
  need (capb 1 p0.length) <| some p0
noncomputable def body37 : List AV -> List ABlk -> ED
  | [v0], h => .ed [] (lK k_u8 1 (roD (deadL h []) v0) /\ roDOb (deadL h []) v0 /\ (F37 (lA g_u8 (roD (deadL h []) v0))).isSome = true) (.sl 0 1 0 (gt (F37 (lA g_u8 (roD (deadL h []) v0)))).length false) [.row 5 1 (gt (F37 (lA g_u8 (roD (deadL h []) v0)))).length (enR c_u8 (gt (F37 (lA g_u8 (roD (deadL h []) v0)))))]
  | _, _ => .fail
set_option maxHeartbeats 4000000 in
set_option maxRecDepth 20000 in
theorem ok37 : FnOk Try.prog 37 (edC body37) := by
  refine edit_fnV body37 (rs := [.tmp 2]) Try.func37 (by kernel_rfl) rfl rfl ?_
  intro l h bs ob q0 g0 hb hob
  unfold body37 at hb
  split at hb
  · rename_i v0
    injection hb with q1 q2 q3 q4; subst q1 q2 q3 q4
    obtain ⟨hk0, hk1, hob⟩ := hob
    obtain ⟨r, H⟩ := Option.isSome_iff_exists.1 hob
    rw [H, gt_some]
    have hw0 := lK_wk (fun r h => w_u8 h) hk0
    generalize lA g_u8 (roD (deadL h []) v0) = p0 at H hw0
    unfold F37 at H
    obtain ⟨f1, H⟩ := need_some.1 H
    replace f1 := capb_iff.1 f1
    obtain rfl := Option.some.inj H
    refine ⟨[.ro 1 p0.length false (enR c_u8 p0)], [], rfl, ⟨EW_view hk1 hw0, trivial⟩, trivial, trivial, ⟨nfB_en nr_u8, trivial⟩, ⟨noroB_en, trivial⟩, (by simp only [noro]), ?_⟩
    rw [Try.ntmps37]
    simp only [List.length_cons, List.length_nil, Nat.reduceAdd, Nat.reduceSub, List.replicate_succ, List.replicate_zero, List.cons_append, List.nil_append]
    refine rg ctNo_ok ?_
    have nfs : ∀ x y, nref (enR c_u8 p0 x y) := fun x y => nfR_en nr_u8
    generalize hc : enR c_u8 p0 = c at nfs hw0
    cases hn : p0.length with
    | zero =>
      simp only [go_sem, Nat.reduceLeDiff, Nat.reduceLT, Nat.reduceAdd, Nat.reduceMul, Nat.reduceSub, Nat.reduceEqDiff, Nat.reduceBEq, Int.reduceToNat, reduceCtorEq]
      have hp : p0 = [] := List.eq_nil_of_length_eq_zero hn
      subst hp; subst hc
      refine ⟨?_, ?_⟩
      · refine RetE_mk [] [none] ?_ ?_ ?_ ?_ (by rfl) (by rfl)
        · simp only [List.length_cons, List.length_nil, Nat.zero_mul, Nat.add_zero, fzV, fzL, fzOb, fzObL, fzH, fzHF, fzB, fzObB, fzObH, inL, rowOb, geth, cond_true, cond_false, Bool.or_false, Bool.or_true, Bool.false_or, Bool.true_or, and_self, true_and, and_true, Nat.reduceEqDiff, Nat.reduceBEq, beq_self_eq_true, sub_enR0, Nat.reduceAdd, Nat.zero_add, Nat.le_refl, List.nil_append]
        · simp only [List.length_cons, List.length_nil, Nat.zero_mul, Nat.add_zero, fzV, fzL, fzOb, fzObL, fzH, fzHF, fzB, fzObB, fzObH, inL, rowOb, geth, cond_true, cond_false, Bool.or_false, Bool.or_true, Bool.false_or, Bool.true_or, and_self, true_and, and_true, Nat.reduceEqDiff, Nat.reduceBEq, beq_self_eq_true, sub_enR0, Nat.reduceAdd, Nat.zero_add, Nat.le_refl, List.nil_append]
        · simp [fzV, Cv, CvL, getM]
        · simp only [List.length_cons, List.length_nil, Nat.zero_mul, Nat.add_zero, fzV, fzL, fzOb, fzObL, fzH, fzHF, fzB, fzObB, fzObH, inL, rowOb, geth, cond_true, cond_false, Bool.or_false, Bool.or_true, Bool.false_or, Bool.true_or, and_self, true_and, and_true, Nat.reduceEqDiff, Nat.reduceBEq, beq_self_eq_true, sub_enR0, Nat.reduceAdd, Nat.zero_add, Nat.le_refl, List.nil_append, CvH, and_true]; exact CvB_none
      · refine ⟨by omega, RetE_mk [] [some 1] ?_ ?_ ?_ ?_ (by rfl) (by rfl)⟩
        · simp only [List.length_cons, List.length_nil, Nat.zero_mul, Nat.add_zero, fzV, fzL, fzOb, fzObL, fzH, fzHF, fzB, fzObB, fzObH, inL, rowOb, geth, cond_true, cond_false, Bool.or_false, Bool.or_true, Bool.false_or, Bool.true_or, and_self, true_and, and_true, Nat.reduceEqDiff, Nat.reduceBEq, beq_self_eq_true, sub_enR0, Nat.reduceAdd, Nat.zero_add, Nat.le_refl, List.nil_append]
        · simp only [List.length_cons, List.length_nil, Nat.zero_mul, Nat.add_zero, fzV, fzL, fzOb, fzObL, fzH, fzHF, fzB, fzObB, fzObH, inL, rowOb, geth, cond_true, cond_false, Bool.or_false, Bool.or_true, Bool.false_or, Bool.true_or, and_self, true_and, and_true, Nat.reduceEqDiff, Nat.reduceBEq, beq_self_eq_true, sub_enR0, Nat.reduceAdd, Nat.zero_add, Nat.le_refl, List.nil_append]
        · simp [fzV, inL, Cv, CvL, getM]
        · simp only [List.length_cons, List.length_nil, Nat.zero_mul, Nat.add_zero, fzV, fzL, fzOb, fzObL, fzH, fzHF, fzB, fzObB, fzObH, inL, rowOb, geth, cond_true, cond_false, Bool.or_false, Bool.or_true, Bool.false_or, Bool.true_or, and_self, true_and, and_true, Nat.reduceEqDiff, Nat.reduceBEq, beq_self_eq_true, sub_enR0, Nat.reduceAdd, Nat.zero_add, Nat.le_refl, List.nil_append, CvH, and_true]; exact CvB_row0 nr_u8
    | succ m =>
      simp only [go_sem, Nat.reduceLeDiff, Nat.reduceLT, Nat.reduceAdd, Nat.reduceMul, Nat.reduceSub, Nat.reduceEqDiff, Nat.reduceBEq, Int.reduceToNat, reduceCtorEq]
      refine ⟨by omega, RetE_mk [] [some 1] ?_ ?_ ?_ ?_ (by rfl) (by rfl)⟩
      · simp only [List.length_cons, List.length_nil, Nat.zero_mul, Nat.add_zero, fzV, fzL, fzOb, fzObL, fzH, fzHF, fzB, fzObB, fzObH, inL, rowOb, geth, cond_true, cond_false, Bool.or_false, Bool.or_true, Bool.false_or, Bool.true_or, and_self, true_and, and_true, Nat.reduceEqDiff, Nat.reduceBEq, beq_self_eq_true, sub_enR0, Nat.reduceAdd, Nat.zero_add, Nat.le_refl, List.nil_append]
      · simp only [List.length_cons, List.length_nil, Nat.zero_mul, Nat.add_zero, fzV, fzL, fzOb, fzObL, fzH, fzHF, fzB, fzObB, fzObH, inL, rowOb, geth, cond_true, cond_false, Bool.or_false, Bool.or_true, Bool.false_or, Bool.true_or, and_self, true_and, and_true, Nat.reduceEqDiff, Nat.reduceBEq, beq_self_eq_true, sub_enR0, Nat.reduceAdd, Nat.zero_add, Nat.le_refl, List.nil_append]
      · simp [fzV, inL, Cv, CvL, getM]
      · simp only [List.length_cons, List.length_nil, Nat.zero_mul, Nat.add_zero, fzV, fzL, fzOb, fzObL, fzH, fzHF, fzB, fzObB, fzObH, inL, rowOb, geth, cond_true, cond_false, Bool.or_false, Bool.or_true, Bool.false_or, Bool.true_or, and_self, true_and, and_true, Nat.reduceEqDiff, Nat.reduceBEq, beq_self_eq_true, sub_enR0, Nat.reduceAdd, Nat.zero_add, Nat.le_refl, List.nil_append, CvH, and_true]; rw [← hn, ← hc]; exact CvB_row nr_u8 rfl (fun x y hx hy => by simp only [appC, Nat.not_lt_zero, if_false, Nat.sub_zero])
  · cases hb
/-! hotspot/forward.NextOf$1 -/
noncomputable def F62_0 (p0 : TForwardHop) (p1 : A6u8) : Option (Bool) :=
  some (bEq p0.Dest.x0 p1.x0 && (bEq p0.Dest.x1 p1.x1 && (bEq p0.Dest.x2 p1.x2 && (bEq p0.Dest.x3 p1.x3 && (bEq p0.Dest.x4 p1.x4 && (bEq p0.Dest.x5 p1.x5))))))
noncomputable def body62_0 : List AV -> AR
  | [v0, v1] => .pure (aK 12 k_TForwardHop v0 /\ rK 6 k_A6u8 v1 /\ (F62_0 (g_TForwardHop (aL v0)) (g_A6u8 (rG v1))).isSome = true) (.bool (gt (F62_0 (g_TForwardHop (aL v0)) (g_A6u8 (rG v1)))))
  | _ => .fail
set_option maxHeartbeats 4000000 in
set_option maxRecDepth 20000 in
theorem ok62_0 : FnOk Try.prog 62 (pureC body62_0) := by
  refine pure_fnM body62_0 (rs := [.tmp 3]) Try.func62 (by kernel_rfl) rfl rfl ?_
  intro l ob v hb hob
  unfold body62_0 at hb
  split at hb
  · rename_i v0 v1
    injection hb with q1 q2; subst q1 q2
    obtain ⟨hk0_0, hk1_0, hob⟩ := hob
    obtain ⟨r, H⟩ := Option.isSome_iff_exists.1 hob
    rw [H, gt_some]
    have hw0 := wA_TForwardHop hk0_0
    have hw1 := rK_wk (f := c_A6u8) (g := g_A6u8) (fun r h => w_A6u8 h) hk1_0
    generalize g_TForwardHop (aL v0) = p0 at H hw0
    generalize g_A6u8 (rG v1) = p1 at H hw1
    refine ⟨[.agg [.int .u8 p0.Dest.x0, .int .u8 p0.Dest.x1, .int .u8 p0.Dest.x2, .int .u8 p0.Dest.x3, .int .u8 p0.Dest.x4, .int .u8 p0.Dest.x5, .int .u8 p0.Next.x0, .int .u8 p0.Next.x1, .int .u8 p0.Next.x2, .int .u8 p0.Next.x3, .int .u8 p0.Next.x4, .int .u8 p0.Next.x5], .rptr 6 1 0 0 (enR c_A6u8 [p1])], _, (fun E vs F => FR_wk1 hw0.1 F (fun vs F => FR_wk1 hw1.1 F (fun vs F => F))), rfl, rfl, ?_⟩
    rw [Try.ntmps62]
    simp only [List.length_cons, List.length_nil, Nat.reduceAdd, Nat.reduceSub, List.replicate_succ, List.replicate_zero, List.cons_append, List.nil_append]
    unfold F62_0 at H
    try dsimp only at H
    refine sq ctNo_ok ?_
    simp only [go_sem, Nat.reduceLeDiff, Nat.reduceLT, Nat.reduceAdd, Nat.reduceMul, Nat.reduceSub, Nat.reduceEqDiff, Nat.reduceBEq, Int.reduceToNat, reduceCtorEq]
    refine sq ctNo_ok ?_
    simp only [go_sem, Nat.reduceLeDiff, Nat.reduceLT, Nat.reduceAdd, Nat.reduceMul, Nat.reduceSub, Nat.reduceEqDiff, Nat.reduceBEq, Int.reduceToNat, reduceCtorEq]
    refine rg ctNo_ok ?_
    simp only [go_sem, Nat.reduceLeDiff, Nat.reduceLT, Nat.reduceAdd, Nat.reduceMul, Nat.reduceSub, Nat.reduceEqDiff, Nat.reduceBEq, Int.reduceToNat, reduceCtorEq]
    obtain rfl := Option.some.inj H
    first | rfl | simp only [Bool.and_false, Bool.false_and, Bool.and_true, Bool.true_and]
  · cases hb
/-! slices.IndexFunc[[]hotspot/api.ForwardHop,hotspot/api.ForwardHop] -/
noncomputable def ct61_0t0 : Ct := tab [(62, pureC body62_0)]
theorem ct61_0t0_ok : CtOk Try.prog ct61_0t0 := tab_cons ok62_0 <| tab_nil
theorem ct61_0t0_62 (l : List AV) (h : List ABlk) : ct61_0t0 62 l h = pureC body62_0 l h := rfl
noncomputable def F61_0_L1 (p0 : List TForwardHop) (p1 : A6u8) (v1_1 : Int) : Option (Lp (Int) ((Unit) ⊕ (Int))) :=
  bif (bLt v1_1 (p0.length : Nat)) then (need (inb v1_1 p0.length) <| (F62_0 (TForwardHop.mk (A6u8.mk (((gd p0 v1_1.toNat).Dest).x0) (((gd p0 v1_1.toNat).Dest).x1) (((gd p0 v1_1.toNat).Dest).x2) (((gd p0 v1_1.toNat).Dest).x3) (((gd p0 v1_1.toNat).Dest).x4) (((gd p0 v1_1.toNat).Dest).x5)) (A6u8.mk (((gd p0 v1_1.toNat).Next).x0) (((gd p0 v1_1.toNat).Next).x1) (((gd p0 v1_1.toNat).Next).x2) (((gd p0 v1_1.toNat).Next).x3) (((gd p0 v1_1.toNat).Next).x4) (((gd p0 v1_1.toNat).Next).x5))) p1).bind fun r2 => bif r2 then (some (.done (.inr v1_1))) else (some (.next (wr .i64 (v1_1 + 1))))) else (some (.done (.inl ())))
noncomputable def F61_0 (p0 : List TForwardHop) (p1 : A6u8) : Option (Int) :=
  lp (loopD (fun s => F61_0_L1 p0 p1 s) 0) (fun _ => some (-1)) some
noncomputable def body61_0 : List AV -> AR
  | [v0, .fn 62 [v1]] => .pure (lK k_TForwardHop 12 v0 /\ rK 6 k_A6u8 v1 /\ (F61_0 (lA g_TForwardHop v0) (g_A6u8 (rG v1))).isSome = true) (.int .i64 (gt (F61_0 (lA g_TForwardHop v0) (g_A6u8 (rG v1)))))
  | _ => .fail
set_option maxHeartbeats 4000000 in
set_option maxRecDepth 20000 in
theorem ok61_0 : FnOk Try.prog 61 (pureC body61_0) := by
  refine pure_fnM body61_0 (rs := [.tmp 4]) Try.func61 (by kernel_rfl) rfl rfl ?_
  intro l ob v hb hob
  unfold body61_0 at hb
  split at hb
  · rename_i v0 v1
    injection hb with q1 q2; subst q1 q2
    obtain ⟨hk0_0, hk1_0, hob⟩ := hob
    obtain ⟨r, H⟩ := Option.isSome_iff_exists.1 hob
    rw [H, gt_some]
    have hw0 := lK_wk (fun r h => w_TForwardHop h) hk0_0
    have hw1 := rK_wk (f := c_A6u8) (g := g_A6u8) (fun r h => w_A6u8 h) hk1_0
    generalize lA g_TForwardHop v0 = p0 at H hw0
    generalize g_A6u8 (rG v1) = p1 at H hw1
    refine ⟨[.ro 12 p0.length false (enR c_TForwardHop p0), .fn 62 [.rptr 6 1 0 0 (enR c_A6u8 [p1])]], _, (fun E vs F => FR_wk1 hw0.1 F (fun vs F => FR_wk1 (fn_wk (LW_cons hw1.1 LW_nil)) F (fun vs F => F))), rfl, rfl, ?_⟩
    rw [Try.ntmps61]
    simp only [List.length_cons, List.length_nil, Nat.reduceAdd, Nat.reduceSub, List.replicate_succ, List.replicate_zero, List.cons_append, List.nil_append]
    unfold F61_0 at H
    try dsimp only at H
    refine sq ctNo_ok ?_
    simp only [go_sem, Nat.reduceLeDiff, Nat.reduceLT, Nat.reduceAdd, Nat.reduceMul, Nat.reduceSub, Nat.reduceEqDiff, Nat.reduceBEq, Int.reduceToNat, reduceCtorEq]
    refine seqM ?_
    refine sq ctNo_ok ?_
    simp only [go_sem, Nat.reduceLeDiff, Nat.reduceLT, Nat.reduceAdd, Nat.reduceMul, Nat.reduceSub, Nat.reduceEqDiff, Nat.reduceBEq, Int.reduceToNat, reduceCtorEq]
    repeat ((with_reducible refine And.intro ?_ ?_); focus exact an0)
    refine blkM ?_
    refine loop_den (fun s : Int => (.ro 12 p0.length false (enR c_TForwardHop p0) :: .fn 62 [.rptr 6 1 0 0 (enR c_A6u8 [p1])] :: tp 5 (.int .i64 (p0.length : Nat) :: .int .i64 s :: tp 10 []))) (fun s => []) (fun e : Unit => (tp 19 [])) (fun e => []) H ?_ (fun v1_1 o H hn1_1 hn2_1 => ?_) (fun e H => ?_)
    · refine SubF_of ⟨[], ?_, ?_, by rfl, by rfl⟩
      · simp [CvL, Cv, getM, tp]
      · trivial
    · unfold F61_0_L1 at H
      try dsimp only at H ⊢
      try simp only [tp]
      refine sq ctNo_ok ?_
      simp only [go_sem, Nat.reduceLeDiff, Nat.reduceLT, Nat.reduceAdd, Nat.reduceMul, Nat.reduceSub, Nat.reduceEqDiff, Nat.reduceBEq, Int.reduceToNat, reduceCtorEq]
      refine seqM ?_
      refine condM' rfl trivial (fun hc => ?_) (fun hc => ?_)
      · replace H := cond_f hc H
        refine rg ctNo_ok ?_
        simp only [go_sem, Nat.reduceLeDiff, Nat.reduceLT, Nat.reduceAdd, Nat.reduceMul, Nat.reduceSub, Nat.reduceEqDiff, Nat.reduceBEq, Int.reduceToNat, reduceCtorEq]
        refine ⟨_, (Option.some.inj H).symm, ?_⟩
        refine SubF_of ⟨[], ?_, ?_, by rfl, by rfl⟩
        · simp [CvL, Cv, getM, tp]
        · trivial
      replace H := cond_t hc H
      refine rg ctNo_ok ?_
      simp only [go_sem, Nat.reduceLeDiff, Nat.reduceLT, Nat.reduceAdd, Nat.reduceMul, Nat.reduceSub, Nat.reduceEqDiff, Nat.reduceBEq, Int.reduceToNat, reduceCtorEq]
      refine seqM ?_
      refine blkM ?_
      refine sq ctNo_ok ?_
      simp only [go_sem, Nat.reduceLeDiff, Nat.reduceLT, Nat.reduceAdd, Nat.reduceMul, Nat.reduceSub, Nat.reduceEqDiff, Nat.reduceBEq, Int.reduceToNat, reduceCtorEq]
      refine seqM ?_
      obtain ⟨f1, H⟩ := need_some.1 H
      replace f1 := inb_iff.1 f1
      obtain ⟨r2, e3, H⟩ := bsi H
      refine rg ct61_0t0_ok ?_
      simp only [go_sem, Nat.reduceLeDiff, Nat.reduceLT, Nat.reduceAdd, Nat.reduceMul, Nat.reduceSub, Nat.reduceEqDiff, Nat.reduceBEq, Int.reduceToNat, reduceCtorEq, ct61_0t0_62, body62_0, f1, e3]
      repeat ((with_reducible refine And.intro ?_ ?_); focus exact an0)
      refine condM rfl trivial (fun hc => ?_) (fun hc => ?_)
      · replace H := cond_t hc H
        refine sq ctNo_ok ?_
        simp only [go_sem, Nat.reduceLeDiff, Nat.reduceLT, Nat.reduceAdd, Nat.reduceMul, Nat.reduceSub, Nat.reduceEqDiff, Nat.reduceBEq, Int.reduceToNat, reduceCtorEq]
        refine rg ctNo_ok ?_
        simp only [go_sem, Nat.reduceLeDiff, Nat.reduceLT, Nat.reduceAdd, Nat.reduceMul, Nat.reduceSub, Nat.reduceEqDiff, Nat.reduceBEq, Int.reduceToNat, reduceCtorEq]
        have H := hn2_1 _ (Option.some.inj H).symm
        obtain rfl := Option.some.inj H
        first | rfl | simp only [Bool.and_false, Bool.false_and, Bool.and_true, Bool.true_and]
      replace H := cond_f hc H
      refine rg ctNo_ok ?_
      simp only [go_sem, Nat.reduceLeDiff, Nat.reduceLT, Nat.reduceAdd, Nat.reduceMul, Nat.reduceSub, Nat.reduceEqDiff, Nat.reduceBEq, Int.reduceToNat, reduceCtorEq]
      refine rg ctNo_ok ?_
      simp only [go_sem, Nat.reduceLeDiff, Nat.reduceLT, Nat.reduceAdd, Nat.reduceMul, Nat.reduceSub, Nat.reduceEqDiff, Nat.reduceBEq, Int.reduceToNat, reduceCtorEq]
      refine ⟨_, (Option.some.inj H).symm, ?_⟩
      refine SubF_of ⟨[], ?_, ?_, by rfl, by rfl⟩
      · simp [CvL, Cv, getM, tp]
      · trivial
    · try dsimp only at H ⊢
      try simp only [tp]
      try simp only [m_normal, k_normal, b_normal, kL_normal, r_normal]
      refine sq ctNo_ok ?_
      simp only [go_sem, Nat.reduceLeDiff, Nat.reduceLT, Nat.reduceAdd, Nat.reduceMul, Nat.reduceSub, Nat.reduceEqDiff, Nat.reduceBEq, Int.reduceToNat, reduceCtorEq]
      refine rg ctNo_ok ?_
      simp only [go_sem, Nat.reduceLeDiff, Nat.reduceLT, Nat.reduceAdd, Nat.reduceMul, Nat.reduceSub, Nat.reduceEqDiff, Nat.reduceBEq, Int.reduceToNat, reduceCtorEq]
      obtain rfl := Option.some.inj H
      first | rfl | simp only [Bool.and_false, Bool.false_and, Bool.and_true, Bool.true_and]
  · cases hb
/-! hotspot/forward.NextOf -/
noncomputable def ct43t0 : Ct := tab [(61, pureC body61_0)]
theorem ct43t0_ok : CtOk Try.prog ct43t0 := tab_cons ok61_0 <| tab_nil
theorem ct43t0_61 (l : List AV) (h : List ABlk) : ct43t0 61 l h = pureC body61_0 l h := rfl
noncomputable def F43 (p0 : TForward) (p1 : A6u8) : Option (A6u8 × Bool) :=
  (F61_0 p0.Nexts p1).bind fun r1 => bif (bLt r1 0) then (some ((A6u8.mk 0 0 0 0 0 0), false)) else (need (inb r1 p0.Nexts.length) <| some (((gd p0.Nexts r1.toNat).Next), true))
noncomputable def body43 : List AV -> AR
  | [v0, v1] => .pure (aK 9 k_TForward v0 /\ aK 6 k_A6u8 v1 /\ (F43 (g_TForward (aL v0)) (g_A6u8 (aL v1))).isSome = true) (.tup [.agg [.int .u8 (((gt (F43 (g_TForward (aL v0)) (g_A6u8 (aL v1)))).1).x0), .int .u8 (((gt (F43 (g_TForward (aL v0)) (g_A6u8 (aL v1)))).1).x1), .int .u8 (((gt (F43 (g_TForward (aL v0)) (g_A6u8 (aL v1)))).1).x2), .int .u8 (((gt (F43 (g_TForward (aL v0)) (g_A6u8 (aL v1)))).1).x3), .int .u8 (((gt (F43 (g_TForward (aL v0)) (g_A6u8 (aL v1)))).1).x4), .int .u8 (((gt (F43 (g_TForward (aL v0)) (g_A6u8 (aL v1)))).1).x5)], .bool ((gt (F43 (g_TForward (aL v0)) (g_A6u8 (aL v1)))).2)])
  | _ => .fail
set_option maxHeartbeats 4000000 in
set_option maxRecDepth 20000 in
theorem ok43 : FnOk Try.prog 43 (pureC body43) := by
  refine pure_fnM body43 (rs := [.cell 4 23, .tmp 5]) Try.func43 (by kernel_rfl) rfl rfl ?_
  intro l ob v hb hob
  unfold body43 at hb
  split at hb
  · rename_i v0 v1
    injection hb with q1 q2; subst q1 q2
    obtain ⟨hk0_0, hk1_0, hob⟩ := hob
    obtain ⟨r, H⟩ := Option.isSome_iff_exists.1 hob
    rw [H, gt_some]
    have hw0 := wA_TForward hk0_0
    have hw1 := wA_A6u8 hk1_0
    generalize g_TForward (aL v0) = p0 at H hw0
    generalize g_A6u8 (aL v1) = p1 at H hw1
    refine ⟨[.agg [.int .u8 p0.Own.x0, .int .u8 p0.Own.x1, .int .u8 p0.Own.x2, .int .u8 p0.Own.x3, .int .u8 p0.Own.x4, .int .u8 p0.Own.x5, .int .i64 p0.Seq, .ro 7 p0.Seen.length false (enR c_TForwardMark p0.Seen), .ro 12 p0.Nexts.length false (enR c_TForwardHop p0.Nexts)], .agg [.int .u8 p1.x0, .int .u8 p1.x1, .int .u8 p1.x2, .int .u8 p1.x3, .int .u8 p1.x4, .int .u8 p1.x5]], _, (fun E vs F => FR_wk1 hw0.1 F (fun vs F => FR_wk1 hw1.1 F (fun vs F => F))), rfl, rfl, ?_⟩
    rw [Try.ntmps43]
    simp only [List.length_cons, List.length_nil, Nat.reduceAdd, Nat.reduceSub, List.replicate_succ, List.replicate_zero, List.cons_append, List.nil_append]
    unfold F43 at H
    try dsimp only at H
    refine sq ctNo_ok ?_
    simp only [go_sem, Nat.reduceLeDiff, Nat.reduceLT, Nat.reduceAdd, Nat.reduceMul, Nat.reduceSub, Nat.reduceEqDiff, Nat.reduceBEq, Int.reduceToNat, reduceCtorEq]
    refine seqM ?_
    obtain ⟨r1, e2, H⟩ := bsi H
    refine rg ct43t0_ok ?_
    simp only [go_sem, Nat.reduceLeDiff, Nat.reduceLT, Nat.reduceAdd, Nat.reduceMul, Nat.reduceSub, Nat.reduceEqDiff, Nat.reduceBEq, Int.reduceToNat, reduceCtorEq, ct43t0_61, body61_0, e2]
    repeat ((with_reducible refine And.intro ?_ ?_); focus exact an0)
    refine seqM ?_
    refine sq ctNo_ok ?_
    simp only [go_sem, Nat.reduceLeDiff, Nat.reduceLT, Nat.reduceAdd, Nat.reduceMul, Nat.reduceSub, Nat.reduceEqDiff, Nat.reduceBEq, Int.reduceToNat, reduceCtorEq]
    refine condM rfl trivial (fun hc => ?_) (fun hc => ?_)
    · replace H := cond_t hc H
      refine sq ctNo_ok ?_
      simp only [go_sem, Nat.reduceLeDiff, Nat.reduceLT, Nat.reduceAdd, Nat.reduceMul, Nat.reduceSub, Nat.reduceEqDiff, Nat.reduceBEq, Int.reduceToNat, reduceCtorEq]
      repeat ((with_reducible refine And.intro ?_ ?_); focus exact an4)
      refine rg ctNo_ok ?_
      simp only [go_sem, Nat.reduceLeDiff, Nat.reduceLT, Nat.reduceAdd, Nat.reduceMul, Nat.reduceSub, Nat.reduceEqDiff, Nat.reduceBEq, Int.reduceToNat, reduceCtorEq]
      obtain rfl := Option.some.inj H
      first | rfl | simp only [Bool.and_false, Bool.false_and, Bool.and_true, Bool.true_and]
    replace H := cond_f hc H
    refine rg ctNo_ok ?_
    simp only [go_sem, Nat.reduceLeDiff, Nat.reduceLT, Nat.reduceAdd, Nat.reduceMul, Nat.reduceSub, Nat.reduceEqDiff, Nat.reduceBEq, Int.reduceToNat, reduceCtorEq]
    refine seqM ?_
    obtain ⟨f3, H⟩ := need_some.1 H
    replace f3 := inb_iff.1 f3
    refine rg ctNo_ok ?_
    simp only [go_sem, Nat.reduceLeDiff, Nat.reduceLT, Nat.reduceAdd, Nat.reduceMul, Nat.reduceSub, Nat.reduceEqDiff, Nat.reduceBEq, Int.reduceToNat, reduceCtorEq, f3]
    repeat ((with_reducible refine And.intro ?_ ?_); focus exact an4)
    refine rg ctNo_ok ?_
    simp only [go_sem, Nat.reduceLeDiff, Nat.reduceLT, Nat.reduceAdd, Nat.reduceMul, Nat.reduceSub, Nat.reduceEqDiff, Nat.reduceBEq, Int.reduceToNat, reduceCtorEq]
    obtain rfl := Option.some.inj H
    first | rfl | simp only [Bool.and_false, Bool.false_and, Bool.and_true, Bool.true_and]
  · cases hb
end Go.Proofs.Ytbahnppiobafoaa
