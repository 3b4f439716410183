/-
  What RootSettled reaches.
-/
import Derived.Test.YtdcepineppafpaaB
namespace Go.Proofs.Ytdcepineppafpaa
open Go.Am
set_option maxHeartbeats 4000000
set_option maxRecDepth 20000
set_option linter.unusedVariables false
set_option linter.unusedSimpArgs false
attribute [go_sem] w_skip w_label w_goto w_scope k_goto b_goto l_goto s_normal s_exit s_ret s_goto w_region w_draw w_seq w_cond w_block w_exit w_ret w_loop k_normal k_exit k_ret bG b_exit b_ret l_normal l_exit l_ret xA m_exit m_ret m_goto kL_normal kL_exit kL_ret kJ_normal kJ_exit kJ_ret kS_normal kS_exit kS_ret kS_goto r_normal r_ret o_nil o_cons q_nil q_cons nxt gval gvd gvl gvw dstOf evO vG ogC og ogL ogP ogO rho rhoO strip optOk zL eT wY absC absV absL pO hO qZ ldB geth seth bQ stRes stB evBox evAlloc uJ fJ xP gF binI binB binNR binU nilR_isEmpty nilR_t nilR_0 nilR_s evInt evStr evUn evConv cvO eE mrg dC evNil eD fP gR evLen2 vcells vcOk atom fY cnd retK resFin resL resA resC resCons jY jG gH kA fillA fK dN getP nxtQ pureC_eq pureR genC_eq genR roV roL xZ qV roW roWL roWOb roWObL nref nrefL binA binN fW eqRes kG bN evIndexS evSlice bP gT yL evConv2 cvS uB gA tM evMake tW repL evFn evMin evMax freshC freshR sub_enR0 kF gS tF uR cP bJ Bool.or_false Bool.false_or Bool.or_true Bool.true_or Bool.and_false Bool.false_and Option.map_some Option.map_none Option.getD_some Option.getD_none Option.bind_some Option.bind_none Option.or_some Option.or_none Option.none_or Option.isSome_none Option.isNone_none Option.isNone_some aN aC List.append_nil cond_true cond_false lC lN beq_self_eq_true Bool.and_true Bool.true_and Bool.not_true Bool.not_false true_and and_true and_self true_implies implies_true ne_eq not_false_eq_true Bool.false_eq_true Bool.true_eq_false false_implies Nat.lt_irrefl Nat.le_refl Nat.succ_ne_self imp_self Bool.cond_false_right Bool.cond_true_left decide_true decide_false Bool.not_eq_true' Bool.not_eq_false' Bool.not_not Nat.zero_mul Nat.zero_add Nat.add_zero Nat.mul_one Nat.one_mul Bool.cond_self tsz3 tby3 tagg3 tslice3 tarr3 tzero3 tzn3 tplaces3 tint3 tstr3 tnoint3 tbool3 tany3 tintk3 tbytes3 tsz4 tby4 tagg4 tslice4 tarr4 tzero4 tzn4 tplaces4 tint4 tstr4 tnoint4 tbool4 tany4 tintk4 tbytes4 tsz5 tby5 tagg5 tslice5 tarr5 tzero5 tzn5 tplaces5 tint5 tstr5 tnoint5 tbool5 tany5 tintk5 tbytes5 tsz23 tby23 tagg23 tslice23 tarr23 tzero23 tzn23 tplaces23 tint23 tstr23 tnoint23 tbool23 tany23 tintk23 tbytes23 tsz25 tby25 tagg25 tslice25 tarr25 tzero25 tzn25 tplaces25 tint25 tstr25 tnoint25 tbool25 tany25 tintk25 tbytes25 tfld25_0 tfld25_1 tfld25_2 tfld25_3 tfld25_4 tsz26 tby26 tagg26 tslice26 tarr26 tzero26 tzn26 tplaces26 tint26 tstr26 tnoint26 tbool26 tany26 tintk26 tbytes26 tsz27 tby27 tagg27 tslice27 tarr27 tzero27 tzn27 tplaces27 tint27 tstr27 tnoint27 tbool27 tany27 tintk27 tbytes27 tsz38 tby38 tagg38 tslice38 tarr38 tzero38 tzn38 tplaces38 tint38 tstr38 tnoint38 tbool38 tany38 tintk38 tbytes38 tsz39 tby39 tagg39 tslice39 tarr39 tzero39 tzn39 tplaces39 tint39 tstr39 tnoint39 tbool39 tany39 tintk39 tbytes39 tsz41 tby41 tagg41 tslice41 tarr41 tzero41 tzn41 tplaces41 tint41 tstr41 tnoint41 tbool41 tany41 tintk41 tbytes41 tfld41_0 tfld41_1 tfld41_2 tfld41_3 tfld41_4 tfld41_5 tsz48 tby48 tagg48 tslice48 tarr48 tzero48 tzn48 tplaces48 tint48 tstr48 tnoint48 tbool48 tany48 tintk48 tbytes48 tsz53 tby53 tagg53 tslice53 tarr53 tzero53 tzn53 tplaces53 tint53 tstr53 tnoint53 tbool53 tany53 tintk53 tbytes53 tsz62 tby62 tagg62 tslice62 tarr62 tzero62 tzn62 tplaces62 tint62 tstr62 tnoint62 tbool62 tany62 tintk62 tbytes62 tfld62_0 tfld62_1 tfld62_2 tfld62_3 tfld62_4 tfld62_5 tfld62_6 tsz64 tby64 tagg64 tslice64 tarr64 tzero64 tzn64 tplaces64 tint64 tstr64 tnoint64 tbool64 tany64 tintk64 tbytes64 tfld64_0 tfld64_1 tfld64_2 tsz80 tby80 tagg80 tslice80 tarr80 tzero80 tzn80 tplaces80 tint80 tstr80 tnoint80 tbool80 tany80 tintk80 tbytes80 tsz81 tby81 tagg81 tslice81 tarr81 tzero81 tzn81 tplaces81 tint81 tstr81 tnoint81 tbool81 tany81 tintk81 tbytes81 tsz82 tby82 tagg82 tslice82 tarr82 tzero82 tzn82 tplaces82 tint82 tstr82 tnoint82 tbool82 tany82 tintk82 tbytes82 tsz84 tby84 tagg84 tslice84 tarr84 tzero84 tzn84 tplaces84 tint84 tstr84 tnoint84 tbool84 tany84 tintk84 tbytes84 tsz94 tby94 tagg94 tslice94 tarr94 tzero94 tzn94 tplaces94 tint94 tstr94 tnoint94 tbool94 tany94 tintk94 tbytes94 tsz97 tby97 tagg97 tslice97 tarr97 tzero97 tzn97 tplaces97 tint97 tstr97 tnoint97 tbool97 tany97 tintk97 tbytes97 tsz100 tby100 tagg100 tslice100 tarr100 tzero100 tzn100 tplaces100 tint100 tstr100 tnoint100 tbool100 tany100 tintk100 tbytes100 tfld100_0 tfld100_1 tsz117 tby117 tagg117 tslice117 tarr117 tzero117 tzn117 tplaces117 tint117 tstr117 tnoint117 tbool117 tany117 tintk117 tbytes117 tsz119 tby119 tagg119 tslice119 tarr119 tzero119 tzn119 tplaces119 tint119 tstr119 tnoint119 tbool119 tany119 tintk119 tbytes119 tsz125 tby125 tagg125 tslice125 tarr125 tzero125 tzn125 tplaces125 tint125 tstr125 tnoint125 tbool125 tany125 tintk125 tbytes125 tsz127 tby127 tagg127 tslice127 tarr127 tzero127 tzn127 tplaces127 tint127 tstr127 tnoint127 tbool127 tany127 tintk127 tbytes127 tsz130 tby130 tagg130 tslice130 tarr130 tzero130 tzn130 tplaces130 tint130 tstr130 tnoint130 tbool130 tany130 tintk130 tbytes130 tfld130_0 tfld130_1 tfld130_2 tsz140 tby140 tagg140 tslice140 tarr140 tzero140 tzn140 tplaces140 tint140 tstr140 tnoint140 tbool140 tany140 tintk140 tbytes140 tsz148 tby148 tagg148 tslice148 tarr148 tzero148 tzn148 tplaces148 tint148 tstr148 tnoint148 tbool148 tany148 tintk148 tbytes148 tsz152 tby152 tagg152 tslice152 tarr152 tzero152 tzn152 tplaces152 tint152 tstr152 tnoint152 tbool152 tany152 tintk152 tbytes152 e_u8_0 fit_u8 de_u8 bT k_u8 e_i64_0 fit_i64 de_i64 g_i64 dV e_b_0 fit_b de_b g_b k_b e_A6u8_0 e_A6u8_1 e_A6u8_2 e_A6u8_3 e_A6u8_4 e_A6u8_5 fit_A6u8 de_A6u8 yB tB uA e_TRootWord_0 e_TRootWord_1 e_TRootWord_2 e_TRootWord_3 e_TRootWord_4 e_TRootWord_5 e_TRootWord_6 e_TRootWord_7 e_TRootWord_8 e_TRootWord_9 fit_TRootWord de_TRootWord zZ wH gE e_lu8_0 fit_lu8 de_lu8 g_lu8 k_lu8 e_TTree_0 e_TTree_1 e_TTree_2 e_TTree_3 e_TTree_4 e_TTree_5 e_TTree_6 e_TTree_7 e_TTree_8 e_TTree_9 e_TTree_10 e_TTree_11 e_TTree_12 e_TTree_13 e_TTree_14 e_TTree_15 e_TTree_16 fit_TTree de_TTree zV xF qH e_lTTree_0 fit_lTTree de_lTTree bS eJ e_TProxied_0 e_TProxied_1 e_TProxied_2 e_TProxied_3 e_TProxied_4 e_TProxied_5 e_TProxied_6 e_TProxied_7 e_TProxied_8 e_TProxied_9 e_TProxied_10 e_TProxied_11 e_TProxied_12 fit_TProxied de_TProxied yT xG eta_TProxied e_lTProxied_0 fit_lTProxied de_lTProxied jZ qP e_TRoots_0 e_TRoots_1 e_TRoots_2 e_TRoots_3 e_TRoots_4 e_TRoots_5 e_TRoots_6 e_TRoots_7 e_TRoots_8 e_TRoots_9 e_TRoots_10 fit_TRoots de_TRoots zI vF qG e_lTRootWord_0 fit_lTRootWord de_lTRootWord kH qB e_lA6u8_0 fit_lA6u8 de_lA6u8 g_lA6u8 k_lA6u8 e_A8i64_0 e_A8i64_1 e_A8i64_2 e_A8i64_3 e_A8i64_4 e_A8i64_5 e_A8i64_6 e_A8i64_7 fit_A8i64 de_A8i64 g_A8i64 bZ eta_A8i64 e_A8A8i64_0 e_A8A8i64_1 e_A8A8i64_2 e_A8A8i64_3 e_A8A8i64_4 e_A8A8i64_5 e_A8A8i64_6 e_A8A8i64_7 e_A8A8i64_8 e_A8A8i64_9 e_A8A8i64_10 e_A8A8i64_11 e_A8A8i64_12 e_A8A8i64_13 e_A8A8i64_14 e_A8A8i64_15 e_A8A8i64_16 e_A8A8i64_17 e_A8A8i64_18 e_A8A8i64_19 e_A8A8i64_20 e_A8A8i64_21 e_A8A8i64_22 e_A8A8i64_23 e_A8A8i64_24 e_A8A8i64_25 e_A8A8i64_26 e_A8A8i64_27 e_A8A8i64_28 e_A8A8i64_29 e_A8A8i64_30 e_A8A8i64_31 e_A8A8i64_32 e_A8A8i64_33 e_A8A8i64_34 e_A8A8i64_35 e_A8A8i64_36 e_A8A8i64_37 e_A8A8i64_38 e_A8A8i64_39 e_A8A8i64_40 e_A8A8i64_41 e_A8A8i64_42 e_A8A8i64_43 e_A8A8i64_44 e_A8A8i64_45 e_A8A8i64_46 e_A8A8i64_47 e_A8A8i64_48 e_A8A8i64_49 e_A8A8i64_50 e_A8A8i64_51 e_A8A8i64_52 e_A8A8i64_53 e_A8A8i64_54 e_A8A8i64_55 e_A8A8i64_56 e_A8A8i64_57 e_A8A8i64_58 e_A8A8i64_59 e_A8A8i64_60 e_A8A8i64_61 e_A8A8i64_62 e_A8A8i64_63 fit_A8A8i64 de_A8A8i64 g_A8A8i64 vC eta_A8A8i64 e_li64_0 fit_li64 de_li64 g_li64 k_li64 e_A8TRoots_0 e_A8TRoots_1 e_A8TRoots_2 e_A8TRoots_3 e_A8TRoots_4 e_A8TRoots_5 e_A8TRoots_6 e_A8TRoots_7 e_A8TRoots_8 e_A8TRoots_9 e_A8TRoots_10 e_A8TRoots_11 e_A8TRoots_12 e_A8TRoots_13 e_A8TRoots_14 e_A8TRoots_15 e_A8TRoots_16 e_A8TRoots_17 e_A8TRoots_18 e_A8TRoots_19 e_A8TRoots_20 e_A8TRoots_21 e_A8TRoots_22 e_A8TRoots_23 e_A8TRoots_24 e_A8TRoots_25 e_A8TRoots_26 e_A8TRoots_27 e_A8TRoots_28 e_A8TRoots_29 e_A8TRoots_30 e_A8TRoots_31 e_A8TRoots_32 e_A8TRoots_33 e_A8TRoots_34 e_A8TRoots_35 e_A8TRoots_36 e_A8TRoots_37 e_A8TRoots_38 e_A8TRoots_39 e_A8TRoots_40 e_A8TRoots_41 e_A8TRoots_42 e_A8TRoots_43 e_A8TRoots_44 e_A8TRoots_45 e_A8TRoots_46 e_A8TRoots_47 e_A8TRoots_48 e_A8TRoots_49 e_A8TRoots_50 e_A8TRoots_51 e_A8TRoots_52 e_A8TRoots_53 e_A8TRoots_54 e_A8TRoots_55 e_A8TRoots_56 e_A8TRoots_57 e_A8TRoots_58 e_A8TRoots_59 e_A8TRoots_60 e_A8TRoots_61 e_A8TRoots_62 e_A8TRoots_63 e_A8TRoots_64 e_A8TRoots_65 e_A8TRoots_66 e_A8TRoots_67 e_A8TRoots_68 e_A8TRoots_69 e_A8TRoots_70 e_A8TRoots_71 e_A8TRoots_72 e_A8TRoots_73 e_A8TRoots_74 e_A8TRoots_75 e_A8TRoots_76 e_A8TRoots_77 e_A8TRoots_78 e_A8TRoots_79 e_A8TRoots_80 e_A8TRoots_81 e_A8TRoots_82 e_A8TRoots_83 e_A8TRoots_84 e_A8TRoots_85 e_A8TRoots_86 e_A8TRoots_87 fit_A8TRoots de_A8TRoots wN uL eta_A8TRoots e_u32_0 fit_u32 de_u32 g_u32 k_u32 e_u64_0 fit_u64 de_u64 g_u64 k_u64 e_TReader_0 e_TReader_1 fit_TReader de_TReader dD gV eta_TReader e_Tmessage_0 e_Tmessage_1 e_Tmessage_2 e_Tmessage_3 e_Tmessage_4 e_Tmessage_5 e_Tmessage_6 e_Tmessage_7 e_Tmessage_8 e_Tmessage_9 e_Tmessage_10 e_Tmessage_11 fit_Tmessage de_Tmessage wA uM fI e_lTmessage_0 fit_lTmessage de_lTmessage hD qQ deR_0 deR_1 deR_2 deR_3 deR_4 deR_5 deR_6 deR_7 deR_8 deR_9 deR_10 deR_11 deR_12 litC_x0 litC_x1 litC_x2 litC_x3 litC_x4 litC_x5 litC_x6 litC_x7 litC_x8 litC_x9 litC_x10 litC_x11 strE_u8 Fit_0 Option.isSome_some zU gd_one dB bO mapC_nil tabR sub_enR dZ xrD xoD dP qU rK rM rG aL aK iK bK sK lK iA bA sA lA or_true true_or Int.toNat_natCast shT_23 shT_25 shT_62 shT_64 shT_80 shT_130 Int.toNat_zero Int.cast_ofNat_Int aLs roD uY zG edC edR fQ rnm rnmL rnmB rnmH rnm_bif rnmB_bif cT gQ dO ptB slN litL celL pK isLit oS isRow inL fzV fzL xS tH fzH eF fzB bR tX rowOb
theorem an0 {A:Prop} (a:A:=by first|(and_intros<;>first|(with_reducible trivial)|omega|assumption|exact nfc|first|exact rfl|exact trivial|exact tP|exact .inr rfl|exact .inl rfl|exact fun x hx=>absurd hx (by omega))|grind):A:=a
theorem an1 {A:Prop} (a:A:=by first|(with_reducible trivial)|omega|grind):A:=a
theorem an2 {A:Prop} (a:A:=by first|(and_intros<;>first|(with_reducible trivial)|omega|assumption|exact nfc|first|exact rfl|exact trivial|exact tP|exact .inr rfl|exact .inl rfl|exact fun x hx=>absurd hx (by omega)|(intro x hx;(repeat (first|(and_intros<;>(first|exact rfl|exact trivial|exact tP|exact .inr rfl|exact .inl rfl|exact fun x hx=>absurd hx (by omega)))|(exfalso;omega)|(rcases x with _|x)));done))|grind):A:=a
theorem an3 {A:Prop} (a:A:=by and_intros<;>first|(with_reducible trivial)|(show anB _ _ _=true;subst han;kernel_rfl)|(show (anB _ _ _ && _)=true;subst han;kernel_rfl)|omega|assumption|exact nrc|exact nfc|first|exact rfl|exact trivial|exact tP|exact .inr rfl|exact .inl rfl|exact fun x hx=>absurd hx (by omega)):A:=a
theorem an4 {A:Prop} (a:A:=by first|(and_intros<;>first|(with_reducible trivial)|omega|assumption|exact nfc|first|exact rfl|exact trivial|exact tP|exact .inr rfl|exact .inl rfl|exact fun x hx=>absurd hx (by omega)|(intro x hx;(repeat (first|(and_intros<;>(first|exact rfl|exact trivial|exact tP|exact .inr rfl|exact .inl rfl|exact fun x hx=>absurd hx (by omega)))|(exfalso;omega)|(rcases x with _|x)));done)|(refine Fit_app ?_ ?_<;>first|exact tP|(intro x hx;(repeat (first|(and_intros<;>(first|exact rfl|exact trivial|exact tP|exact .inr rfl|exact .inl rfl|exact fun x hx=>absurd hx (by omega)))|(exfalso;omega)|(rcases x with _|x)));done)|(refine Fit_app ?_ ?_<;>first|exact tP|(intro x hx;(repeat (first|(and_intros<;>(first|exact rfl|exact trivial|exact tP|exact .inr rfl|exact .inl rfl|exact fun x hx=>absurd hx (by omega)))|(exfalso;omega)|(rcases x with _|x)));done))))|grind):A:=a
theorem an5 {A:Prop} (a:A:=by first|(with_reducible trivial)|omega|(intro g;and_intros<;>first|(with_reducible trivial)|assumption|exact nfc|(intro g2;rw [g,g2];rfl)|(intro g2;assumption)|(simp only [g,Bool.true_and,Bool.and_true,Bool.not_false,Bool.not_true];assumption)|grind)|(and_intros<;>first|(with_reducible trivial)|omega|assumption|exact nfc|first|exact rfl|exact trivial|exact tP|exact .inr rfl|exact .inl rfl|exact fun x hx=>absurd hx (by omega))|grind):A:=a
theorem at0 {A:Prop} (a:A:=by and_intros<;>first|(with_reducible trivial)|omega|exact nfc|trivial):A:=a
theorem cv {A:Prop} (a:A:=by simp [CvB,CvL,Cv,tC,geth,yE]):A:=a
theorem cl {A:Prop} (a:A:=by first|rfl|(simp;done)|(simp;omega)):A:=a
noncomputable def F33 (p0:A6u8) (p1:Bool) (p2:Bool):Option (TRoots × Int) :=
 bif (p2 && (!p1)) then (some ((TRoots.mk (A6u8.mk 0 0 0 0 0 0) false false 0 [] []),2)) else (some ((TRoots.mk (A6u8.mk p0.x0 p0.x1 p0.x2 p0.x3 p0.x4 p0.x5) p1 p2 0 [] []),0))
noncomputable def fF:List AV->List ABlk->ED
 | [v0,v1,v2],h=>.ed [] (aK 6 tB (roD (zG h []) v0)/\uY (zG h []) v0/\bK (roD (zG h []) v1)/\uY (zG h []) v1/\bK (roD (zG h []) v2)/\uY (zG h []) v2/\(F33 (yB (aL (roD (zG h []) v0))) (bA (roD (zG h []) v1)) (bA (roD (zG h []) v2))).isSome=true) (.tup [.agg [.int .u8 ((((gt (F33 (yB (aL (roD (zG h []) v0))) (bA (roD (zG h []) v1)) (bA (roD (zG h []) v2)))).1).Own).x0),.int .u8 ((((gt (F33 (yB (aL (roD (zG h []) v0))) (bA (roD (zG h []) v1)) (bA (roD (zG h []) v2)))).1).Own).x1),.int .u8 ((((gt (F33 (yB (aL (roD (zG h []) v0))) (bA (roD (zG h []) v1)) (bA (roD (zG h []) v2)))).1).Own).x2),.int .u8 ((((gt (F33 (yB (aL (roD (zG h []) v0))) (bA (roD (zG h []) v1)) (bA (roD (zG h []) v2)))).1).Own).x3),.int .u8 ((((gt (F33 (yB (aL (roD (zG h []) v0))) (bA (roD (zG h []) v1)) (bA (roD (zG h []) v2)))).1).Own).x4),.int .u8 ((((gt (F33 (yB (aL (roD (zG h []) v0))) (bA (roD (zG h []) v1)) (bA (roD (zG h []) v2)))).1).Own).x5),.bool (((gt (F33 (yB (aL (roD (zG h []) v0))) (bA (roD (zG h []) v1)) (bA (roD (zG h []) v2)))).1).Root),.bool (((gt (F33 (yB (aL (roD (zG h []) v0))) (bA (roD (zG h []) v1)) (bA (roD (zG h []) v2)))).1).Gate),.int .i64 (((gt (F33 (yB (aL (roD (zG h []) v0))) (bA (roD (zG h []) v1)) (bA (roD (zG h []) v2)))).1).Seq),.sl 0 17 0 ((((gt (F33 (yB (aL (roD (zG h []) v0))) (bA (roD (zG h []) v1)) (bA (roD (zG h []) v2)))).1).Trees).length) false,.sl 1 13 0 ((((gt (F33 (yB (aL (roD (zG h []) v0))) (bA (roD (zG h []) v1)) (bA (roD (zG h []) v2)))).1).Proxies).length) false],.int .i64 ((gt (F33 (yB (aL (roD (zG h []) v0))) (bA (roD (zG h []) v1)) (bA (roD (zG h []) v2)))).2)]) [.row 62 17 ((((gt (F33 (yB (aL (roD (zG h []) v0))) (bA (roD (zG h []) v1)) (bA (roD (zG h []) v2)))).1).Trees).length) (enR zH (((gt (F33 (yB (aL (roD (zG h []) v0))) (bA (roD (zG h []) v1)) (bA (roD (zG h []) v2)))).1).Trees)),.row 64 13 ((((gt (F33 (yB (aL (roD (zG h []) v0))) (bA (roD (zG h []) v1)) (bA (roD (zG h []) v2)))).1).Proxies).length) (enR zC (((gt (F33 (yB (aL (roD (zG h []) v0))) (bA (roD (zG h []) v1)) (bA (roD (zG h []) v2)))).1).Proxies))]
 | _,_=>.fail
theorem ok33:wS Try.prog 33 (edC fF):=by
 refine qO fF (rs:=[.cell 6 41,.tmp 7]) Try.func33 (by kernel_rfl) rfl rfl ?_
 intro l h bs ob q0 g0 hb hob
 unfold fF at hb
 split at hb
 ·rename_i v0 v1 v2
  injection hb with q1 q2 q3 q4;subst q1 q2 q3 q4
  obtain ⟨hk0_0,hk0_1,hk1_0,hk1_1,hk2_0,hk2_1,hob⟩:=hob
  obtain ⟨r,H⟩:=oE.1 hob
  rw [H,zU]
  have hw0:=hZ hk0_0
  obtain ⟨p0,hp_p0⟩:∃ p0,p0=yB (aL (roD (zG h []) v0)):=⟨_,rfl⟩
  rw [← hp_p0] at H hw0
  have hw1:=vZ hk1_0
  obtain ⟨p1,hp_p1⟩:∃ p1,p1=bA (roD (zG h []) v1):=⟨_,rfl⟩
  rw [← hp_p1] at H hw1
  have hw2:=vZ hk2_0
  obtain ⟨p2,hp_p2⟩:∃ p2,p2=bA (roD (zG h []) v2):=⟨_,rfl⟩
  rw [← hp_p2] at H hw2
  refine ⟨[.agg [.int .u8 p0.x0,.int .u8 p0.x1,.int .u8 p0.x2,.int .u8 p0.x3,.int .u8 p0.x4,.int .u8 p0.x5],.bool p1,.bool p2],[],rfl,⟨(vO hk0_1 hw0),⟨(vO hk1_1 hw1),⟨(vO hk2_1 hw2),trivial⟩⟩⟩,trivial,trivial,⟨(qI xC),⟨(qI xB),trivial⟩⟩,⟨wU,⟨wU,trivial⟩⟩,(by first|(simp only [noro,xY,and_self];done)|(simp only [noro,xY];and_intros<;>first|trivial|exact gZ (by simp only [noro]) (by simp only [noro])|(simp only [noro,xY,and_self]))),?_⟩
  rw [Try.ntmps33]
  simp only [lC,lN,Nat.reduceAdd,Nat.reduceSub,rS,rZ,aC,aN]
  unfold F33 at H
  refine sq zB ?_
  simp only [go_sem]
  refine zW ?_
  refine sq zB ?_
  simp only [go_sem]
  refine xJ rfl trivial (fun hc=>?_) (fun hc=>?_)
  ·replace H:=yJ hc H
   refine sq zB ?_
   simp only [go_sem,Nat.reduceAdd]
   refine rg zB ?_
   simp only [go_sem,Nat.reduceLT,Nat.reduceAdd]
   obtain rfl:=Option.some.inj H
   refine xO [] [none,none] ?_ ?_ ?_ ?_ (by rfl) (by rfl)
   ·simp only [go_sem]
    try exact at0
   ·simp only [go_sem]
    try exact at0
   ·simp only [go_sem]
    exact vQ (zA (by first|(simp [Cv,CvL];done)|(simp [Cv,CvL,yE,zU];omega)) (zA (by simp [Cv]) xU))
   ·simp only [go_sem,CvH]
    first|exact ⟨yN,yN⟩|trivial
  replace H:=yI hc H
  refine rg zB ?_
  simp only [go_sem]
  refine sq zB ?_
  simp only [go_sem,Nat.reduceLeDiff,Nat.reduceLT,Nat.reduceAdd]
  refine rg zB ?_
  simp only [go_sem,Nat.reduceLT,Nat.reduceAdd]
  obtain rfl:=Option.some.inj H
  refine xO [] [none,none] ?_ ?_ ?_ ?_ (by rfl) (by rfl)
  ·simp only [go_sem]
   try exact at0
  ·simp only [go_sem]
   try exact at0
  ·simp only [go_sem]
   exact vQ (zA (by first|(simp [Cv,CvL];done)|(simp [Cv,CvL,yE,zU];omega)) (zA (by simp [Cv]) xU))
  ·simp only [go_sem,CvH]
   first|exact ⟨yN,yN⟩|trivial
 ·cases hb
noncomputable def F57 (p0:Int) (p1:Int) (p2:Int):Option (Bool) :=
 some ((bLe p1 p0) && (bLe p0 p2))
noncomputable def uZ:List AV->AR
 | [v0,v1,v2]=>.pure (iK .i64 v0/\iK .i64 v1/\iK .i64 v2/\(F57 (iA v0) (iA v1) (iA v2)).isSome=true) (.bool (gt (F57 (iA v0) (iA v1) (iA v2))))
 | _=>.fail
theorem ok57:wS Try.prog 57 (yD uZ):=by
 refine xH uZ (rs:=[.tmp 6]) Try.func57 (by kernel_rfl) rfl rfl ?_
 intro l ob v hb hob
 unfold uZ at hb
 split at hb
 ·rename_i v0 v1 v2
  injection hb with q1 q2;subst q1 q2
  obtain ⟨hk0_0,hk1_0,hk2_0,hob⟩:=hob
  obtain ⟨r,H⟩:=oE.1 hob
  rw [H,zU]
  have hw0:=zK hk0_0
  have hw1:=zK hk1_0
  have hw2:=zK hk2_0
  generalize iA v0=p0 at H hw0
  generalize iA v1=p1 at H hw1
  generalize iA v2=p2 at H hw2
  refine ⟨[.int .i64 p0,.int .i64 p1,.int .i64 p2],_,(fun E vs F=>yU hw0.1 F (fun vs F=>yU hw1.1 F (fun vs F=>yU hw2.1 F (fun vs F=>F)))),rfl,rfl,?_⟩
  rw [Try.ntmps57]
  simp only [lC,lN,Nat.reduceAdd,Nat.reduceSub,rS,rZ,aC,aN]
  unfold F57 at H
  refine sq zB ?_
  simp only [go_sem]
  refine sq zB ?_
  simp only [go_sem]
  refine rg zB ?_
  simp only [go_sem]
  obtain rfl:=Option.some.inj H
  first|rfl|simp only [Bool.and_false,Bool.false_and,Bool.and_true,Bool.true_and]
 ·cases hb
noncomputable def F94 (p0:List Int) (p1:List Int):Option Int :=
 need (u8A p0) <| need (u8A p1) <| some (cmpL p0 p1)
noncomputable def body94:List AV->AR
 | [v0,v1]=>.pure (lK k_u8 1 v0/\lK k_u8 1 v1/\(F94 (lA bT v0) (lA bT v1)).isSome=true) (.int .i64 (gt (F94 (lA bT v0) (lA bT v1))))
 | _=>.fail
theorem walk94 (u v:Value) (r:Int) (w:World) (hd:(callFunc 101 #[u,v]).run Try.prog w = .ok (.value (.int .i64 r)) w):Calls Try.prog 94 #[u,v] w fun e w'=>e = .returned (.int .i64 r)/\w'=w:=by
 go_enter Try.func94,Try.ntmps94
 go_wp2
 go_ret
 exact ⟨rfl,rfl⟩
theorem ok94:wS Try.prog 94 (yD body94):=by
 refine pure_ext ⟨_,Try.func94,by kernel_rfl,by kernel_rfl⟩ body94 ?_
 intro E l vs ob x hb hob F
 unfold body94 at hb
 split at hb
 ·rename_i v0 v1
  injection hb with q1 q2;subst q1 q2
  obtain ⟨h0,h1,hob⟩:=hob
  obtain ⟨r,H⟩:=oE.1 hob
  rw [H,zU]
  have w0:=vN (fun r h=>w_u8 h) h0
  have w1:=vN (fun r h=>w_u8 h) h1
  generalize lA bT v0=p0 at H w0
  generalize lA bT v1=p1 at H w1
  unfold F94 at H
  obtain ⟨f0,H⟩:=zM.1 H
  obtain ⟨f1,H⟩:=zM.1 H
  obtain rfl:=Option.some.inj H
  obtain ⟨vs⟩:=vs
  match vs,F.1 with
  | [u,v],_ =>
   have hx:=w0.1 E u (F.2 0 _ u rfl rfl)
   have hy:=w1.1 E v (F.2 1 _ v rfl rfl)
   refine ⟨_,rfl,walk94 u v _ E.w ?_⟩
   rw [run_callFunc_extern Try.func101 (by kernel_rfl) (by kernel_rfl) (by kernel_rfl) (e:=Extern.BytealgCompare.compare) (by kernel_rfl),run_compareBytes hx hy (u8b_iff.1 ((u8b_enR (f:=kE) (fun _=>rfl) p0).trans f0)) (u8b_iff.1 ((u8b_enR (f:=kE) (fun _=>rfl) p1).trans f1)),bytesC_enR (f:=kE) (fun _=>rfl),bytesC_enR (f:=kE) (fun _=>rfl)]
   simp only [strL]
   rw [cmpL_eq p0 p1 (u8A_iff.1 f0) (u8A_iff.1 f1)]
   rfl
 ·cases hb
noncomputable def ct72t0:Ct:=tab [(94,yD body94)]
theorem ct72t0_ok:xK Try.prog ct72t0:=yG ok94 <| yM
theorem ct72t0_94 (l:List AV) (h:List ABlk):ct72t0 94 l h=yD body94 l h:=rfl
noncomputable def F72 (p0:A6u8) (p1:A6u8):Option (Int) :=
 (F94 [p0.x0,p0.x1,p0.x2,p0.x3,p0.x4,p0.x5] [p1.x0,p1.x1,p1.x2,p1.x3,p1.x4,p1.x5]).bind fun r1=>some r1
noncomputable def tE:List AV->AR
 | [v0,v1]=>.pure (aK 6 tB v0/\aK 6 tB v1/\(F72 (yB (aL v0)) (yB (aL v1))).isSome=true) (.int .i64 (gt (F72 (yB (aL v0)) (yB (aL v1)))))
 | _=>.fail
theorem ok72:wS Try.prog 72 (yD tE):=by
 refine xH tE (rs:=[.tmp 4]) Try.func72 (by kernel_rfl) rfl rfl ?_
 intro l ob v hb hob
 unfold tE at hb
 split at hb
 ·rename_i v0 v1
  injection hb with q1 q2;subst q1 q2
  obtain ⟨hk0_0,hk1_0,hob⟩:=hob
  obtain ⟨r,H⟩:=oE.1 hob
  rw [H,zU]
  have hw0:=hZ hk0_0
  have hw1:=hZ hk1_0
  generalize yB (aL v0)=p0 at H hw0
  generalize yB (aL v1)=p1 at H hw1
  refine ⟨[.agg [.int .u8 p0.x0,.int .u8 p0.x1,.int .u8 p0.x2,.int .u8 p0.x3,.int .u8 p0.x4,.int .u8 p0.x5],.agg [.int .u8 p1.x0,.int .u8 p1.x1,.int .u8 p1.x2,.int .u8 p1.x3,.int .u8 p1.x4,.int .u8 p1.x5]],_,(fun E vs F=>yU hw0.1 F (fun vs F=>yU hw1.1 F (fun vs F=>F))),rfl,rfl,?_⟩
  rw [Try.ntmps72]
  simp only [lC,lN,Nat.reduceAdd,Nat.reduceSub,rS,rZ,aC,aN]
  unfold F72 at H
  refine sq zB ?_
  simp only [go_sem]
  refine zW ?_
  obtain ⟨r1,e2,H⟩:=bsi H
  refine wT zR ct72t0_ok (by kernel_rfl) (by kernel_rfl) ?_
  simp only [go_sem,Nat.reduceLeDiff,Nat.reduceAdd,Nat.reduceSub,Int.reduceToNat,reduceCtorEq,ct72t0_94,body94,e2]
  repeat ((with_reducible refine aI ?_ ?_);exact an2)
  refine rg zB ?_
  simp only [go_sem]
  obtain rfl:=Option.some.inj H
  first|rfl|simp only [Bool.and_false,Bool.false_and,Bool.and_true,Bool.true_and]
 ·cases hb
noncomputable def ct34t0:Ct:=tab [(57,yD uZ)]
theorem ct34t0_ok:xK Try.prog ct34t0:=yG ok57 <| yM
theorem ct34t0_57 (l:List AV) (h:List ABlk):ct34t0 57 l h=yD uZ l h:=rfl
noncomputable def ct34t1:Ct:=tab [(72,yD tE)]
theorem ct34t1_ok:xK Try.prog ct34t1:=yG ok72 <| yM
theorem ct34t1_72 (l:List AV) (h:List ABlk):ct34t1 72 l h=yD tE l h:=rfl
noncomputable def ct34t2:Ct:=tab [(57,yD uZ),(72,yD tE)]
theorem ct34t2_ok:xK Try.prog ct34t2:=yG ok57 <| yG ok72 <| yM
theorem ct34t2_57 (l:List AV) (h:List ABlk):ct34t2 57 l h=yD uZ l h:=rfl
theorem ct34t2_72 (l:List AV) (h:List ABlk):ct34t2 72 l h=yD tE l h:=rfl
noncomputable def F34_L1 (p0:TRoots) (v1_1:Int):Option (Lp (Int) ((Unit) ⊕ (Int))) :=
 bif (bLt v1_1 (p0.Trees.length:Nat)) then (need (inb v1_1 p0.Trees.length) <| need (bif (!(bEq v1_1 0)) then inb (wr .i64 (v1_1 - 1)) p0.Trees.length else true) <| need (bif (!(bEq v1_1 0)) then ((F72 ((gd p0.Trees ((wr .i64 (v1_1 - 1)).toNat)).Root) ((gd p0.Trees v1_1.toNat).Root)).isSome) else true) <| (F57 ((gd p0.Trees v1_1.toNat).Seq) 1 2147483647).bind fun r5=>need (bif r5 then ((F57 ((gd p0.Trees v1_1.toNat).Hops) 1 16).isSome) else true) <| need (bif (r5 && (gt (F57 ((gd p0.Trees v1_1.toNat).Hops) 1 16))) then ((F57 ((gd p0.Trees v1_1.toNat).Cost) 1 1099511627776).isSome) else true) <| need (bif ((r5 && (gt (F57 ((gd p0.Trees v1_1.toNat).Hops) 1 16))) && (gt (F57 ((gd p0.Trees v1_1.toNat).Cost) 1 1099511627776))) then ((F57 ((gd p0.Trees v1_1.toNat).Until) 0 1099516627776).isSome) else true) <| bif ((((!((bEq v1_1 0) || (bLt (gt (F72 ((gd p0.Trees ((wr .i64 (v1_1 - 1)).toNat)).Root) ((gd p0.Trees v1_1.toNat).Root))) 0))) || (!(((r5 && (gt (F57 ((gd p0.Trees v1_1.toNat).Hops) 1 16))) && (gt (F57 ((gd p0.Trees v1_1.toNat).Cost) 1 1099511627776))) && (gt (F57 ((gd p0.Trees v1_1.toNat).Until) 0 1099516627776))))) || (bEq (((gd p0.Trees v1_1.toNat).Root).x0) p0.Own.x0 && (bEq (((gd p0.Trees v1_1.toNat).Root).x1) p0.Own.x1 && (bEq (((gd p0.Trees v1_1.toNat).Root).x2) p0.Own.x2 && (bEq (((gd p0.Trees v1_1.toNat).Root).x3) p0.Own.x3 && (bEq (((gd p0.Trees v1_1.toNat).Root).x4) p0.Own.x4 && (bEq (((gd p0.Trees v1_1.toNat).Root).x5) p0.Own.x5))))))) || (bEq (((gd p0.Trees v1_1.toNat).Parent).x0) p0.Own.x0 && (bEq (((gd p0.Trees v1_1.toNat).Parent).x1) p0.Own.x1 && (bEq (((gd p0.Trees v1_1.toNat).Parent).x2) p0.Own.x2 && (bEq (((gd p0.Trees v1_1.toNat).Parent).x3) p0.Own.x3 && (bEq (((gd p0.Trees v1_1.toNat).Parent).x4) p0.Own.x4 && (bEq (((gd p0.Trees v1_1.toNat).Parent).x5) p0.Own.x5))))))) then (some (.done (.inr 8))) else (some (.next (wr .i64 (v1_1+1))))) else (some (.done (.inl ())))
noncomputable def F34_L2 (p0:TRoots) (v2_1:Int):Option (Lp (Int) ((Unit) ⊕ (Int))) :=
 bif (bLt v2_1 (p0.Proxies.length:Nat)) then (need (inb v2_1 p0.Proxies.length) <| need (bif (bLt 0 v2_1) then inb (wr .i64 (v2_1 - 1)) p0.Proxies.length else true) <| need (bif (bLt 0 v2_1) then ((F72 ((gd p0.Proxies ((wr .i64 (v2_1 - 1)).toNat)).Out) ((gd p0.Proxies v2_1.toNat).Out)).isSome) else true) <| need (bif (!((bLt 0 v2_1) && (bLe 0 (gt (F72 ((gd p0.Proxies ((wr .i64 (v2_1 - 1)).toNat)).Out) ((gd p0.Proxies v2_1.toNat).Out)))))) then ((F57 ((gd p0.Proxies v2_1.toNat).Until) 0 1099520627776).isSome) else true) <| bif (((bLt 0 v2_1) && (bLe 0 (gt (F72 ((gd p0.Proxies ((wr .i64 (v2_1 - 1)).toNat)).Out) ((gd p0.Proxies v2_1.toNat).Out))))) || (!(gt (F57 ((gd p0.Proxies v2_1.toNat).Until) 0 1099520627776)))) then (some (.done (.inr 8))) else (some (.next (wr .i64 (v2_1+1))))) else (some (.done (.inl ())))
noncomputable def F34 (p0:TRoots):Option (Int) :=
 need (bif (!(p0.Gate && (!p0.Root))) then ((F57 p0.Seq 0 2147483647).isSome) else true) <| bif ((((p0.Gate && (!p0.Root)) || (!(gt (F57 p0.Seq 0 2147483647)))) || (bLt 8 (p0.Trees.length:Nat))) || (bLt 64 (p0.Proxies.length:Nat))) then (some 8) else (lp (yP (fun s=>F34_L1 p0 s) 0) (fun _=>lp (yP (fun s=>F34_L2 p0 s) 0) (fun _=>some 0) some) some)
noncomputable def qW:List AV->AR
 | [v0]=>.pure (aK 11 vF v0/\(F34 (zI (aL v0))).isSome=true) (.int .i64 (gt (F34 (zI (aL v0)))))
 | _=>.fail
theorem ok34:wS Try.prog 34 (yD qW):=by
 refine xH qW (rs:=[.tmp 2]) Try.func34 (by kernel_rfl) rfl rfl ?_
 intro l ob v hb hob
 unfold qW at hb
 split at hb
 ·rename_i v0
  injection hb with q1 q2;subst q1 q2
  obtain ⟨hk0_0,hob⟩:=hob
  obtain ⟨r,H⟩:=oE.1 hob
  rw [H,zU]
  have hw0:=qK hk0_0
  generalize zI (aL v0)=p0 at H hw0
  refine ⟨[.agg [.int .u8 p0.Own.x0,.int .u8 p0.Own.x1,.int .u8 p0.Own.x2,.int .u8 p0.Own.x3,.int .u8 p0.Own.x4,.int .u8 p0.Own.x5,.bool p0.Root,.bool p0.Gate,.int .i64 p0.Seq,.ro 17 p0.Trees.length false (enR zH p0.Trees),.ro 13 p0.Proxies.length false (enR zC p0.Proxies)]],_,(fun E vs F=>yU hw0.1 F (fun vs F=>F)),rfl,rfl,?_⟩
  rw [Try.ntmps34]
  simp only [lC,lN,Nat.reduceAdd,Nat.reduceSub,rS,rZ,aC,aN]
  unfold F34 at H
  try dsimp only at H
  refine sq zB ?_
  simp only [go_sem]
  refine zW ?_
  refine zW ?_
  obtain ⟨f1,H⟩:=zM.1 H
  replace f1:=xX.1 f1
  refine rg ct34t0_ok ?_
  simp only [go_sem,Nat.reduceLeDiff,Nat.reduceLT,Nat.reduceAdd,ct34t0_57,uZ]
  repeat ((with_reducible refine And.intro ?_ ?_);focus (first|(with_reducible trivial)|omega|exact f1|(intro g;have q:=f1 (by first|exact g|(rw [g];rfl)|simpa using g);first|exact q|exact ⟨q.1,q.2.1⟩|exact q.2.2|omega|exact ⟨g,q⟩|exact ⟨trivial,q⟩|exact ⟨g,q.1,q.2.1⟩|exact ⟨g,q.2.2⟩)|(intro g;(try have q0:=f1 (by first|exact g|(rw [g];rfl)|simpa using g));and_intros<;>first|(with_reducible trivial)|assumption|exact nfc|(intro g2;rw [g,g2];rfl)|(intro g2;assumption)|(simp only [g,Bool.true_and,Bool.and_true,Bool.not_false,Bool.not_true];assumption)|grind)|(and_intros<;>first|(with_reducible trivial)|omega|assumption|exact nfc|first|exact rfl|exact trivial|exact tP|exact .inr rfl|exact .inl rfl|exact fun x hx=>absurd hx (by omega))|grind))
  refine xJ rfl trivial (fun hc=>?_) (fun hc=>?_)
  ·replace H:=yJ hc H
   refine sq zB ?_
   simp only [go_sem]
   refine rg zB ?_
   simp only [go_sem]
   obtain rfl:=Option.some.inj H
   first|rfl|simp only [Bool.and_false,Bool.false_and,Bool.and_true,Bool.true_and]
  replace H:=yI hc H
  refine rg zB ?_
  simp only [go_sem]
  refine zW ?_
  refine sq zB ?_
  simp only [go_sem,Nat.reduceLeDiff,Nat.reduceLT,Nat.reduceAdd]
  refine vE ?_
  refine xQ (fun s:Int=>(.top::.ptr 0 0 0 0::tp 33 (.ro 17 p0.Trees.length false (enR zH p0.Trees)::.int .i64 (p0.Trees.length:Nat)::.int .i64 s::tp 88 []))) (fun s=>[.lit 41 [.int .u8 p0.Own.x0,.int .u8 p0.Own.x1,.int .u8 p0.Own.x2,.int .u8 p0.Own.x3,.int .u8 p0.Own.x4,.int .u8 p0.Own.x5,.bool p0.Root,.bool p0.Gate,.int .i64 p0.Seq,.ro 17 p0.Trees.length false (enR zH p0.Trees),.ro 13 p0.Proxies.length false (enR zC p0.Proxies)]]) (fun e:Unit=>(.top::.ptr 0 0 0 0::tp 124 [])) (fun e=>[.lit 41 [.int .u8 p0.Own.x0,.int .u8 p0.Own.x1,.int .u8 p0.Own.x2,.int .u8 p0.Own.x3,.int .u8 p0.Own.x4,.int .u8 p0.Own.x5,.bool p0.Root,.bool p0.Gate,.int .i64 p0.Seq,.ro 17 p0.Trees.length false (enR zH p0.Trees),.ro 13 p0.Proxies.length false (enR zC p0.Proxies)]]) H ?_ (fun v1_1 o H hn1_1 hn2_1=>?_) (fun e H=>?_)
  ·refine zN ⟨[some 0],?_,?_,by rfl,by rfl⟩
   ·simp [CvL,Cv,yE,tp]
   ·exact ⟨cv,trivial⟩
  ·unfold F34_L1 at H
   try simp only [tp]
   refine sq zB ?_
   simp only [go_sem]
   refine zW ?_
   refine condM' rfl trivial (fun hc=>?_) (fun hc=>?_)
   ·replace H:=yI hc H
    refine rg zB ?_
    simp only [go_sem]
    refine ⟨_,(Option.some.inj H).symm,?_⟩
    refine zN ⟨[some 0],?_,?_,by rfl,by rfl⟩
    ·simp [CvL,Cv,yE]
    ·exact ⟨cv,trivial⟩
   replace H:=yJ hc H
   refine rg zB ?_
   simp only [go_sem]
   refine zW ?_
   refine vE ?_
   refine zW ?_
   obtain ⟨f2,H⟩:=nI H
   refine rg zB ?_
   simp only [go_sem,Nat.reduceLT,Nat.reduceAdd,f2]
   refine zW ?_
   obtain ⟨f3,H⟩:=zM.1 H
   replace f3:=xX.1 f3
   replace f3:=fun g=>yX.1 (f3 g)
   obtain ⟨f4,H⟩:=zM.1 H
   replace f4:=xX.1 f4
   refine wT zR ct34t1_ok (by kernel_rfl) (by kernel_rfl) ?_
   simp only [go_sem,Nat.reduceLeDiff,Nat.reduceLT,Nat.reduceAdd,reduceCtorEq,ct34t1_72,tE]
   repeat ((with_reducible refine And.intro ?_ ?_);focus (first|(with_reducible trivial)|omega|exact f3|exact f4|(intro g;have q:=f3 (by first|exact g|(rw [g];rfl)|simpa using g);first|exact q|exact ⟨q.1,q.2.1⟩|exact q.2.2|omega|exact ⟨g,q⟩|exact ⟨trivial,q⟩|exact ⟨g,q.1,q.2.1⟩|exact ⟨g,q.2.2⟩)|(intro g;have q:=f4 (by first|exact g|(rw [g];rfl)|simpa using g);first|exact q|exact ⟨q.1,q.2.1⟩|exact q.2.2|omega|exact ⟨g,q⟩|exact ⟨trivial,q⟩|exact ⟨g,q.1,q.2.1⟩|exact ⟨g,q.2.2⟩)|(intro g;(try have q0:=f3 (by first|exact g|(rw [g];rfl)|simpa using g));(try have q1:=f4 (by first|exact g|(rw [g];rfl)|simpa using g));and_intros<;>first|(with_reducible trivial)|assumption|exact nfc|(intro g2;rw [g,g2];rfl)|(intro g2;assumption)|(simp only [g,Bool.true_and,Bool.and_true,Bool.not_false,Bool.not_true];assumption)|grind)|(and_intros<;>first|(with_reducible trivial)|omega|assumption|exact nfc|first|exact rfl|exact trivial|exact tP|exact .inr rfl|exact .inl rfl|exact fun x hx=>absurd hx (by omega))|grind))
   refine zW ?_
   obtain ⟨r5,e6,H⟩:=bsi H
   obtain ⟨f7,H⟩:=zM.1 H
   replace f7:=xX.1 f7
   obtain ⟨f8,H⟩:=zM.1 H
   replace f8:=xX.1 f8
   obtain ⟨f9,H⟩:=zM.1 H
   replace f9:=xX.1 f9
   refine rg ct34t0_ok ?_
   simp only [go_sem,Nat.reduceLeDiff,Nat.reduceLT,Nat.reduceAdd,ct34t0_57,uZ,e6]
   repeat ((with_reducible refine And.intro ?_ ?_);focus (first|(with_reducible trivial)|omega|exact f7|exact f8|exact f9|(intro g;have q:=f7 (by first|exact g|(rw [g];rfl)|simpa using g);first|exact q|exact ⟨q.1,q.2.1⟩|exact q.2.2|omega|exact ⟨g,q⟩|exact ⟨trivial,q⟩|exact ⟨g,q.1,q.2.1⟩|exact ⟨g,q.2.2⟩)|(intro g;have q:=f8 (by first|exact g|(rw [g];rfl)|simpa using g);first|exact q|exact ⟨q.1,q.2.1⟩|exact q.2.2|omega|exact ⟨g,q⟩|exact ⟨trivial,q⟩|exact ⟨g,q.1,q.2.1⟩|exact ⟨g,q.2.2⟩)|(intro g;have q:=f9 (by first|exact g|(rw [g];rfl)|simpa using g);first|exact q|exact ⟨q.1,q.2.1⟩|exact q.2.2|omega|exact ⟨g,q⟩|exact ⟨trivial,q⟩|exact ⟨g,q.1,q.2.1⟩|exact ⟨g,q.2.2⟩)|(intro g;(try have q0:=f7 (by first|exact g|(rw [g];rfl)|simpa using g));(try have q1:=f8 (by first|exact g|(rw [g];rfl)|simpa using g));(try have q2:=f9 (by first|exact g|(rw [g];rfl)|simpa using g));and_intros<;>first|(with_reducible trivial)|assumption|exact nfc|(intro g2;rw [g,g2];rfl)|(intro g2;assumption)|(simp only [g,Bool.true_and,Bool.and_true,Bool.not_false,Bool.not_true];assumption)|grind)|(and_intros<;>first|(with_reducible trivial)|omega|assumption|exact nfc|first|exact rfl|exact trivial|exact tP|exact .inr rfl|exact .inl rfl|exact fun x hx=>absurd hx (by omega))|grind))
   refine sq zB ?_
   simp only [go_sem,Nat.reduceLeDiff,Nat.reduceLT,Nat.reduceAdd,reduceCtorEq]
   refine xJ rfl trivial (fun hc=>?_) (fun hc=>?_)
   ·replace H:=yJ hc H
    refine sq zB ?_
    simp only [go_sem]
    refine rg zB ?_
    simp only [go_sem]
    have H:=hn2_1 _ (Option.some.inj H).symm
    obtain rfl:=Option.some.inj H
    first|rfl|simp only [Bool.and_false,Bool.false_and,Bool.and_true,Bool.true_and]
   replace H:=yI hc H
   refine rg zB ?_
   simp only [go_sem]
   refine rg zB ?_
   simp only [go_sem]
   refine ⟨_,(Option.some.inj H).symm,?_⟩
   refine zN ⟨[some 0],?_,?_,by rfl,by rfl⟩
   ·simp [CvL,Cv,yE]
   ·exact ⟨cv,trivial⟩
  ·try dsimp only at H ⊢
   try simp only [tp]
   try simp only [xA]
   refine zW ?_
   refine sq zB ?_
   simp only [go_sem,Nat.reduceLT,Nat.reduceAdd]
   refine vE ?_
   refine xQ (fun s:Int=>(.top::.ptr 0 0 0 0::tp 95 (.ro 13 p0.Proxies.length false (enR zC p0.Proxies)::.int .i64 (p0.Proxies.length:Nat)::.int .i64 s::tp 26 []))) (fun s=>[.lit 41 [.int .u8 p0.Own.x0,.int .u8 p0.Own.x1,.int .u8 p0.Own.x2,.int .u8 p0.Own.x3,.int .u8 p0.Own.x4,.int .u8 p0.Own.x5,.bool p0.Root,.bool p0.Gate,.int .i64 p0.Seq,.ro 17 p0.Trees.length false (enR zH p0.Trees),.ro 13 p0.Proxies.length false (enR zC p0.Proxies)]]) (fun e:Unit=>(tp 126 [])) (fun e=>[.dead]) H ?_ (fun v2_1 o H hn1_2 hn2_2=>?_) (fun e H=>?_)
   ·refine zN ⟨[some 0],?_,?_,by rfl,by rfl⟩
    ·simp [CvL,Cv,yE,tp]
    ·exact ⟨cv,trivial⟩
   ·unfold F34_L2 at H
    try simp only [tp]
    refine sq zB ?_
    simp only [go_sem]
    refine zW ?_
    refine condM' rfl trivial (fun hc=>?_) (fun hc=>?_)
    ·replace H:=yI hc H
     refine rg zB ?_
     simp only [go_sem]
     refine ⟨_,(Option.some.inj H).symm,?_⟩
     refine zN ⟨[some 0],?_,?_,by rfl,by rfl⟩
     ·simp [CvL,Cv]
     ·exact ⟨zD,trivial⟩
    replace H:=yJ hc H
    refine rg zB ?_
    simp only [go_sem]
    refine zW ?_
    refine vE ?_
    refine zW ?_
    obtain ⟨f10,H⟩:=nI H
    refine rg zB ?_
    simp only [go_sem,Nat.reduceLT,Nat.reduceAdd,f10]
    repeat ((with_reducible refine aI ?_ ?_);exact an1)
    refine zW ?_
    obtain ⟨f11,H⟩:=zM.1 H
    replace f11:=xX.1 f11
    replace f11:=fun g=>yX.1 (f11 g)
    obtain ⟨f12,H⟩:=zM.1 H
    replace f12:=xX.1 f12
    obtain ⟨f13,H⟩:=zM.1 H
    replace f13:=xX.1 f13
    refine wT zR ct34t2_ok (by kernel_rfl) (by kernel_rfl) ?_
    simp only [go_sem,Nat.reduceLeDiff,Nat.reduceLT,Nat.reduceAdd,reduceCtorEq,ct34t2_57,uZ,ct34t2_72,tE]
    repeat ((with_reducible refine And.intro ?_ ?_);focus (first|(with_reducible trivial)|omega|exact f11|exact f12|exact f13|(intro g;have q:=f11 (by first|exact g|(rw [g];rfl)|simpa using g);first|exact q|exact ⟨q.1,q.2.1⟩|exact q.2.2|omega|exact ⟨g,q⟩|exact ⟨trivial,q⟩|exact ⟨g,q.1,q.2.1⟩|exact ⟨g,q.2.2⟩)|(intro g;have q:=f12 (by first|exact g|(rw [g];rfl)|simpa using g);first|exact q|exact ⟨q.1,q.2.1⟩|exact q.2.2|omega|exact ⟨g,q⟩|exact ⟨trivial,q⟩|exact ⟨g,q.1,q.2.1⟩|exact ⟨g,q.2.2⟩)|(intro g;have q:=f13 (by first|exact g|(rw [g];rfl)|simpa using g);first|exact q|exact ⟨q.1,q.2.1⟩|exact q.2.2|omega|exact ⟨g,q⟩|exact ⟨trivial,q⟩|exact ⟨g,q.1,q.2.1⟩|exact ⟨g,q.2.2⟩)|(intro g;(try have q0:=f11 (by first|exact g|(rw [g];rfl)|simpa using g));(try have q1:=f12 (by first|exact g|(rw [g];rfl)|simpa using g));(try have q2:=f13 (by first|exact g|(rw [g];rfl)|simpa using g));and_intros<;>first|(with_reducible trivial)|assumption|exact nfc|(intro g2;rw [g,g2];rfl)|(intro g2;assumption)|(simp only [g,Bool.true_and,Bool.and_true,Bool.not_false,Bool.not_true];assumption)|grind)|(and_intros<;>first|(with_reducible trivial)|omega|assumption|exact nfc|first|exact rfl|exact trivial|exact tP|exact .inr rfl|exact .inl rfl|exact fun x hx=>absurd hx (by omega))|grind))
    refine xJ rfl trivial (fun hc=>?_) (fun hc=>?_)
    ·replace H:=yJ hc H
     refine sq zB ?_
     simp only [go_sem]
     refine rg zB ?_
     simp only [go_sem]
     have H:=hn2_2 _ (Option.some.inj H).symm
     obtain rfl:=Option.some.inj H
     first|rfl|simp only [Bool.and_false,Bool.false_and,Bool.and_true,Bool.true_and]
    replace H:=yI hc H
    refine rg zB ?_
    simp only [go_sem]
    refine rg zB ?_
    simp only [go_sem]
    refine ⟨_,(Option.some.inj H).symm,?_⟩
    refine zN ⟨[some 0],?_,?_,by rfl,by rfl⟩
    ·simp [CvL,Cv,yE]
    ·exact ⟨cv,trivial⟩
   ·try dsimp only at H ⊢
    try simp only [tp]
    try simp only [xA]
    refine sq zB ?_
    simp only [go_sem]
    refine rg zB ?_
    simp only [go_sem]
    obtain rfl:=Option.some.inj H
    first|rfl|simp only [Bool.and_false,Bool.false_and,Bool.and_true,Bool.true_and]
 ·cases hb
noncomputable def ct43t0:Ct:=tab [(57,yD uZ)]
theorem ct43t0_ok:xK Try.prog ct43t0:=yG ok57 <| yM
theorem ct43t0_57 (l:List AV) (h:List ABlk):ct43t0 57 l h=yD uZ l h:=rfl
noncomputable def F43 (p0:TRootWord):Option (Bool) :=
 (F57 p0.Seq 1 2147483647).bind fun r1=>need (bif r1 then ((F57 p0.Hops 0 15).isSome) else true) <| need (bif (r1 && (gt (F57 p0.Hops 0 15))) then ((F57 p0.Cost 0 1099511627776).isSome) else true) <| some ((r1 && (gt (F57 p0.Hops 0 15))) && (gt (F57 p0.Cost 0 1099511627776)))
noncomputable def body43:List AV->AR
 | [v0]=>.pure (aK 10 wH v0/\(F43 (zZ (aL v0))).isSome=true) (.bool (gt (F43 (zZ (aL v0)))))
 | _=>.fail
theorem ok43:wS Try.prog 43 (yD body43):=by
 refine xH body43 (rs:=[.tmp 2]) Try.func43 (by kernel_rfl) rfl rfl ?_
 intro l ob v hb hob
 unfold body43 at hb
 split at hb
 ·rename_i v0
  injection hb with q1 q2;subst q1 q2
  obtain ⟨hk0_0,hob⟩:=hob
  obtain ⟨r,H⟩:=oE.1 hob
  rw [H,zU]
  have hw0:=fS hk0_0
  generalize zZ (aL v0)=p0 at H hw0
  refine ⟨[.agg [.int .u8 p0.Root.x0,.int .u8 p0.Root.x1,.int .u8 p0.Root.x2,.int .u8 p0.Root.x3,.int .u8 p0.Root.x4,.int .u8 p0.Root.x5,.int .i64 p0.Seq,.int .i64 p0.Hops,.int .i64 p0.Cost,.bool p0.Gate]],_,(fun E vs F=>yU hw0.1 F (fun vs F=>F)),rfl,rfl,?_⟩
  rw [Try.ntmps43]
  simp only [lC,lN,Nat.reduceAdd,Nat.reduceSub,rS,rZ,aC,aN]
  unfold F43 at H
  refine sq zB ?_
  simp only [go_sem]
  refine zW ?_
  obtain ⟨r1,e2,H⟩:=bsi H
  obtain ⟨f3,H⟩:=zM.1 H
  replace f3:=xX.1 f3
  obtain ⟨f4,H⟩:=zM.1 H
  replace f4:=xX.1 f4
  refine rg ct43t0_ok ?_
  simp only [go_sem,Nat.reduceLeDiff,Nat.reduceLT,Nat.reduceAdd,ct43t0_57,uZ,e2]
  repeat ((with_reducible refine And.intro ?_ ?_);focus (first|(with_reducible trivial)|omega|exact f3|exact f4|(intro g;have q:=f3 (by first|exact g|(rw [g];rfl)|simpa using g);first|exact q|exact ⟨q.1,q.2.1⟩|exact q.2.2|omega|exact ⟨g,q⟩|exact ⟨trivial,q⟩|exact ⟨g,q.1,q.2.1⟩|exact ⟨g,q.2.2⟩)|(intro g;have q:=f4 (by first|exact g|(rw [g];rfl)|simpa using g);first|exact q|exact ⟨q.1,q.2.1⟩|exact q.2.2|omega|exact ⟨g,q⟩|exact ⟨trivial,q⟩|exact ⟨g,q.1,q.2.1⟩|exact ⟨g,q.2.2⟩)|(intro g;(try have q0:=f3 (by first|exact g|(rw [g];rfl)|simpa using g));(try have q1:=f4 (by first|exact g|(rw [g];rfl)|simpa using g));and_intros<;>first|(with_reducible trivial)|assumption|exact nfc|(intro g2;rw [g,g2];rfl)|(intro g2;assumption)|(simp only [g,Bool.true_and,Bool.and_true,Bool.not_false,Bool.not_true];assumption)|grind)|(and_intros<;>first|(with_reducible trivial)|omega|assumption|exact nfc|first|exact rfl|exact trivial|exact tP|exact .inr rfl|exact .inl rfl|exact fun x hx=>absurd hx (by omega))|grind))
  refine rg zB ?_
  simp only [go_sem]
  obtain rfl:=Option.some.inj H
  first|rfl|simp only [Bool.and_false,Bool.false_and,Bool.and_true,Bool.true_and]
 ·cases hb
noncomputable def ct88t0:Ct:=tab [(72,yD tE)]
theorem ct88t0_ok:xK Try.prog ct88t0:=yG ok72 <| yM
theorem ct88t0_72 (l:List AV) (h:List ABlk):ct88t0 72 l h=yD tE l h:=rfl
noncomputable def F88 (p0:TTree) (p1:A6u8):Option (Int) :=
 (F72 p0.Root p1).bind fun r1=>some r1
noncomputable def cF:List AV->AR
 | [v0,v1]=>.pure (aK 17 xF v0/\aK 6 tB v1/\(F88 (zV (aL v0)) (yB (aL v1))).isSome=true) (.int .i64 (gt (F88 (zV (aL v0)) (yB (aL v1)))))
 | _=>.fail
theorem ok88:wS Try.prog 88 (yD cF):=by
 refine xH cF (rs:=[.tmp 4]) Try.func88 (by kernel_rfl) rfl rfl ?_
 intro l ob v hb hob
 unfold cF at hb
 split at hb
 ·rename_i v0 v1
  injection hb with q1 q2;subst q1 q2
  obtain ⟨hk0_0,hk1_0,hob⟩:=hob
  obtain ⟨r,H⟩:=oE.1 hob
  rw [H,zU]
  have hw0:=fD hk0_0
  have hw1:=hZ hk1_0
  generalize zV (aL v0)=p0 at H hw0
  generalize yB (aL v1)=p1 at H hw1
  refine ⟨[.agg [.int .u8 p0.Root.x0,.int .u8 p0.Root.x1,.int .u8 p0.Root.x2,.int .u8 p0.Root.x3,.int .u8 p0.Root.x4,.int .u8 p0.Root.x5,.int .u8 p0.Parent.x0,.int .u8 p0.Parent.x1,.int .u8 p0.Parent.x2,.int .u8 p0.Parent.x3,.int .u8 p0.Parent.x4,.int .u8 p0.Parent.x5,.int .i64 p0.Seq,.int .i64 p0.Hops,.int .i64 p0.Cost,.bool p0.Gate,.int .i64 p0.Until],.agg [.int .u8 p1.x0,.int .u8 p1.x1,.int .u8 p1.x2,.int .u8 p1.x3,.int .u8 p1.x4,.int .u8 p1.x5]],_,(fun E vs F=>yU hw0.1 F (fun vs F=>yU hw1.1 F (fun vs F=>F))),rfl,rfl,?_⟩
  rw [Try.ntmps88]
  simp only [lC,lN,Nat.reduceAdd,Nat.reduceSub,rS,rZ,aC,aN]
  unfold F88 at H
  refine sq zB ?_
  simp only [go_sem]
  refine zW ?_
  obtain ⟨r1,e2,H⟩:=bsi H
  refine rg ct88t0_ok ?_
  simp only [go_sem,Nat.reduceLeDiff,Nat.reduceLT,Nat.reduceAdd,reduceCtorEq,ct88t0_72,tE,e2]
  refine rg zB ?_
  simp only [go_sem]
  obtain rfl:=Option.some.inj H
  first|rfl|simp only [Bool.and_false,Bool.false_and,Bool.and_true,Bool.true_and]
 ·cases hb
noncomputable def ct87_0t0:Ct:=tab [(88,yD cF)]
theorem ct87_0t0_ok:xK Try.prog ct87_0t0:=yG ok88 <| yM
theorem ct87_0t0_88 (l:List AV) (h:List ABlk):ct87_0t0 88 l h=yD cF l h:=rfl
noncomputable def F87_0_L1 (p0:List TTree) (p1:A6u8) (v1_1:Int) (v1_2:Int):Option (Lp (Int × Int) ((Int) ⊕ (Int × Bool))) :=
 bif (bLt v1_1 v1_2) then (need (inb (wr .i64 (tG .u64 (wr .u64 (wr .i64 (v1_1+v1_2))) 1)) p0.length) <| (F88 (TTree.mk (A6u8.mk (((gd p0 ((wr .i64 (tG .u64 (wr .u64 (wr .i64 (v1_1+v1_2))) 1)).toNat)).Root).x0) (((gd p0 ((wr .i64 (tG .u64 (wr .u64 (wr .i64 (v1_1+v1_2))) 1)).toNat)).Root).x1) (((gd p0 ((wr .i64 (tG .u64 (wr .u64 (wr .i64 (v1_1+v1_2))) 1)).toNat)).Root).x2) (((gd p0 ((wr .i64 (tG .u64 (wr .u64 (wr .i64 (v1_1+v1_2))) 1)).toNat)).Root).x3) (((gd p0 ((wr .i64 (tG .u64 (wr .u64 (wr .i64 (v1_1+v1_2))) 1)).toNat)).Root).x4) (((gd p0 ((wr .i64 (tG .u64 (wr .u64 (wr .i64 (v1_1+v1_2))) 1)).toNat)).Root).x5)) (A6u8.mk (((gd p0 ((wr .i64 (tG .u64 (wr .u64 (wr .i64 (v1_1+v1_2))) 1)).toNat)).Parent).x0) (((gd p0 ((wr .i64 (tG .u64 (wr .u64 (wr .i64 (v1_1+v1_2))) 1)).toNat)).Parent).x1) (((gd p0 ((wr .i64 (tG .u64 (wr .u64 (wr .i64 (v1_1+v1_2))) 1)).toNat)).Parent).x2) (((gd p0 ((wr .i64 (tG .u64 (wr .u64 (wr .i64 (v1_1+v1_2))) 1)).toNat)).Parent).x3) (((gd p0 ((wr .i64 (tG .u64 (wr .u64 (wr .i64 (v1_1+v1_2))) 1)).toNat)).Parent).x4) (((gd p0 ((wr .i64 (tG .u64 (wr .u64 (wr .i64 (v1_1+v1_2))) 1)).toNat)).Parent).x5)) ((gd p0 ((wr .i64 (tG .u64 (wr .u64 (wr .i64 (v1_1+v1_2))) 1)).toNat)).Seq) ((gd p0 ((wr .i64 (tG .u64 (wr .u64 (wr .i64 (v1_1+v1_2))) 1)).toNat)).Hops) ((gd p0 ((wr .i64 (tG .u64 (wr .u64 (wr .i64 (v1_1+v1_2))) 1)).toNat)).Cost) ((gd p0 ((wr .i64 (tG .u64 (wr .u64 (wr .i64 (v1_1+v1_2))) 1)).toNat)).Gate) ((gd p0 ((wr .i64 (tG .u64 (wr .u64 (wr .i64 (v1_1+v1_2))) 1)).toNat)).Until)) p1).bind fun r2=>bif (bLt r2 0) then (some (.next (wr .i64 ((wr .i64 (tG .u64 (wr .u64 (wr .i64 (v1_1+v1_2))) 1))+1),v1_2))) else (some (.next (v1_1,wr .i64 (tG .u64 (wr .u64 (wr .i64 (v1_1+v1_2))) 1))))) else (some (.done (.inl v1_1)))
noncomputable def F87_0 (p0:List TTree) (p1:A6u8):Option (Int × Bool) :=
 lp (yP (fun s=>F87_0_L1 p0 p1 s.1 s.2) (0,(p0.length:Nat))) (fun w1_3=>need (bif (bLt w1_3 (p0.length:Nat)) then inb w1_3 p0.length else true) <| need (bif (bLt w1_3 (p0.length:Nat)) then ((F88 (TTree.mk (A6u8.mk (((gd p0 w1_3.toNat).Root).x0) (((gd p0 w1_3.toNat).Root).x1) (((gd p0 w1_3.toNat).Root).x2) (((gd p0 w1_3.toNat).Root).x3) (((gd p0 w1_3.toNat).Root).x4) (((gd p0 w1_3.toNat).Root).x5)) (A6u8.mk (((gd p0 w1_3.toNat).Parent).x0) (((gd p0 w1_3.toNat).Parent).x1) (((gd p0 w1_3.toNat).Parent).x2) (((gd p0 w1_3.toNat).Parent).x3) (((gd p0 w1_3.toNat).Parent).x4) (((gd p0 w1_3.toNat).Parent).x5)) ((gd p0 w1_3.toNat).Seq) ((gd p0 w1_3.toNat).Hops) ((gd p0 w1_3.toNat).Cost) ((gd p0 w1_3.toNat).Gate) ((gd p0 w1_3.toNat).Until)) p1).isSome) else true) <| some (w1_3,((bLt w1_3 (p0.length:Nat)) && (bEq (gt (F88 (TTree.mk (A6u8.mk (((gd p0 w1_3.toNat).Root).x0) (((gd p0 w1_3.toNat).Root).x1) (((gd p0 w1_3.toNat).Root).x2) (((gd p0 w1_3.toNat).Root).x3) (((gd p0 w1_3.toNat).Root).x4) (((gd p0 w1_3.toNat).Root).x5)) (A6u8.mk (((gd p0 w1_3.toNat).Parent).x0) (((gd p0 w1_3.toNat).Parent).x1) (((gd p0 w1_3.toNat).Parent).x2) (((gd p0 w1_3.toNat).Parent).x3) (((gd p0 w1_3.toNat).Parent).x4) (((gd p0 w1_3.toNat).Parent).x5)) ((gd p0 w1_3.toNat).Seq) ((gd p0 w1_3.toNat).Hops) ((gd p0 w1_3.toNat).Cost) ((gd p0 w1_3.toNat).Gate) ((gd p0 w1_3.toNat).Until)) p1)) 0)))) some
noncomputable def gL:List AV->AR
 | [v0,v1,.fn 88 []]=>.pure (lK xF 17 v0/\aK 6 tB v1/\(F87_0 (lA zV v0) (yB (aL v1))).isSome=true) (.tup [.int .i64 ((gt (F87_0 (lA zV v0) (yB (aL v1)))).1),.bool ((gt (F87_0 (lA zV v0) (yB (aL v1)))).2)])
 | _=>.fail
theorem ok87_0:wS Try.prog 87 (yD gL):=by
 refine xH gL (rs:=[.tmp 6,.tmp 7]) Try.func87 (by kernel_rfl) rfl rfl ?_
 intro l ob v hb hob
 unfold gL at hb
 split at hb
 ·rename_i v0 v1
  injection hb with q1 q2;subst q1 q2
  obtain ⟨hk0_0,hk1_0,hob⟩:=hob
  obtain ⟨r,H⟩:=oE.1 hob
  rw [H,zU]
  have hw0:=vN (fun r h=>vY h) hk0_0
  have hw1:=hZ hk1_0
  generalize lA zV v0=p0 at H hw0
  generalize yB (aL v1)=p1 at H hw1
  refine ⟨[.ro 17 p0.length false (enR zH p0),.agg [.int .u8 p1.x0,.int .u8 p1.x1,.int .u8 p1.x2,.int .u8 p1.x3,.int .u8 p1.x4,.int .u8 p1.x5],.fn 88 []],_,(fun E vs F=>yU hw0.1 F (fun vs F=>yU hw1.1 F (fun vs F=>yU (fn_wk LW_nil) F (fun vs F=>F)))),rfl,rfl,?_⟩
  rw [Try.ntmps87]
  simp only [lC,lN,Nat.reduceAdd,Nat.reduceSub,rS,rZ,aC,aN]
  unfold F87_0 at H
  refine sq zB ?_
  simp only [go_sem]
  refine sq zB ?_
  simp only [go_sem]
  refine sq zB ?_
  simp only [go_sem]
  refine zW ?_
  refine vE ?_
  refine xQ (fun s:Int × Int=>(.ro 17 p0.length false (enR zH p0)::.top::.fn 88 []::.top::.ptr 0 0 0 0::.top::.top::.top::.int .i64 (p0.length:Nat)::.int .i64 s.1::.int .i64 s.2::tp 38 [])) (fun s=>[.lit 23 [.int .u8 p1.x0,.int .u8 p1.x1,.int .u8 p1.x2,.int .u8 p1.x3,.int .u8 p1.x4,.int .u8 p1.x5]]) (fun e:Int=>(.ro 17 p0.length false (enR zH p0)::.top::.fn 88 []::.top::.ptr 0 0 0 0::.top::.top::.top::.int .i64 (p0.length:Nat)::.int .i64 e::tp 39 [])) (fun e=>[.lit 23 [.int .u8 p1.x0,.int .u8 p1.x1,.int .u8 p1.x2,.int .u8 p1.x3,.int .u8 p1.x4,.int .u8 p1.x5]]) H ?_ (fun s o H hn1_1 hn2_1=>?_) (fun w1_3 H=>?_)
  ·refine zN ⟨[some 0],?_,?_,by rfl,by rfl⟩
   ·simp [CvL,Cv,yE,tp]
   ·exact ⟨cv,trivial⟩
  ·obtain ⟨v1_1,v1_2⟩:=s
   unfold F87_0_L1 at H
   try simp only [tp]
   refine zW ?_
   refine sq zB ?_
   simp only [go_sem]
   refine condM' rfl trivial (fun hc=>?_) (fun hc=>?_)
   ·replace H:=yI hc H
    refine rg zB ?_
    simp only [go_sem]
    refine ⟨_,(Option.some.inj H).symm,?_⟩
    refine zN ⟨[some 0],?_,?_,by rfl,by rfl⟩
    ·simp [CvL,Cv,yE]
    ·exact ⟨cv,trivial⟩
   replace H:=yJ hc H
   refine rg zB ?_
   simp only [go_sem]
   refine vE ?_
   refine sq zB ?_
   simp only [go_sem]
   repeat ((with_reducible refine aI ?_ ?_);exact an1)
   refine zW ?_
   obtain ⟨f1,H⟩:=nI H
   obtain ⟨r2,e3,H⟩:=bsi H
   refine wT zR ct87_0t0_ok (by kernel_rfl) (by kernel_rfl) ?_
   simp only [go_sem,Nat.reduceLT,Nat.reduceAdd,ct87_0t0_88,cF,f1,e3]
   refine xJ rfl trivial (fun hc=>?_) (fun hc=>?_)
   ·replace H:=yJ hc H
    refine rg zB ?_
    simp only [go_sem]
    refine ⟨_,(Option.some.inj H).symm,?_⟩
    refine zN ⟨[some 0],?_,?_,by rfl,by rfl⟩
    ·simp [CvL,Cv,yE]
    ·exact ⟨cv,trivial⟩
   replace H:=yI hc H
   refine rg zB ?_
   simp only [go_sem]
   refine ⟨_,(Option.some.inj H).symm,?_⟩
   refine zN ⟨[some 0],?_,?_,by rfl,by rfl⟩
   ·simp [CvL,Cv,yE]
   ·exact ⟨cv,trivial⟩
  ·try dsimp only at H ⊢
   try simp only [tp]
   try simp only [xA]
   refine zW ?_
   obtain ⟨f4,H⟩:=zM.1 H
   replace f4:=xX.1 f4
   replace f4:=fun g=>yX.1 (f4 g)
   obtain ⟨f5,H⟩:=zM.1 H
   replace f5:=xX.1 f5
   refine wT zR ct87_0t0_ok (by kernel_rfl) (by kernel_rfl) ?_
   simp only [go_sem,Nat.reduceLT,Nat.reduceAdd,ct87_0t0_88,cF]
   repeat ((with_reducible refine And.intro ?_ ?_);focus (first|(with_reducible trivial)|omega|exact f4|exact f5|(intro g;have q:=f4 (by first|exact g|(rw [g];rfl)|simpa using g);first|exact q|exact ⟨q.1,q.2.1⟩|exact q.2.2|omega|exact ⟨g,q⟩|exact ⟨trivial,q⟩|exact ⟨g,q.1,q.2.1⟩|exact ⟨g,q.2.2⟩)|(intro g;have q:=f5 (by first|exact g|(rw [g];rfl)|simpa using g);first|exact q|exact ⟨q.1,q.2.1⟩|exact q.2.2|omega|exact ⟨g,q⟩|exact ⟨trivial,q⟩|exact ⟨g,q.1,q.2.1⟩|exact ⟨g,q.2.2⟩)|(intro g;(try have q0:=f4 (by first|exact g|(rw [g];rfl)|simpa using g));(try have q1:=f5 (by first|exact g|(rw [g];rfl)|simpa using g));and_intros<;>first|(with_reducible trivial)|assumption|exact nfc|(intro g2;rw [g,g2];rfl)|(intro g2;assumption)|(simp only [g,Bool.true_and,Bool.and_true,Bool.not_false,Bool.not_true];assumption)|grind)|(and_intros<;>first|(with_reducible trivial)|omega|assumption|exact nfc|first|exact rfl|exact trivial|exact tP|exact .inr rfl|exact .inl rfl|exact fun x hx=>absurd hx (by omega))|grind))
   refine rg zB ?_
   simp only [go_sem]
   obtain rfl:=Option.some.inj H
   first|rfl|simp only [Bool.and_false,Bool.false_and,Bool.and_true,Bool.true_and]
 ·cases hb
noncomputable def ct58t0:Ct:=tab [(87,yD gL)]
theorem ct58t0_ok:xK Try.prog ct58t0:=yG ok87_0 <| yM
theorem ct58t0_87 (l:List AV) (h:List ABlk):ct58t0 87 l h=yD gL l h:=rfl
noncomputable def F58 (p0:TRoots) (p1:A6u8):Option (Int × Bool) :=
 (F87_0 p0.Trees p1).bind fun r1=>some (r1.1,r1.2)
noncomputable def body58:List AV->AR
 | [v0,v1]=>.pure (aK 11 vF v0/\aK 6 tB v1/\(F58 (zI (aL v0)) (yB (aL v1))).isSome=true) (.tup [.int .i64 ((gt (F58 (zI (aL v0)) (yB (aL v1)))).1),.bool ((gt (F58 (zI (aL v0)) (yB (aL v1)))).2)])
 | _=>.fail
theorem ok58:wS Try.prog 58 (yD body58):=by
 refine xH body58 (rs:=[.tmp 4,.tmp 5]) Try.func58 (by kernel_rfl) rfl rfl ?_
 intro l ob v hb hob
 unfold body58 at hb
 split at hb
 ·rename_i v0 v1
  injection hb with q1 q2;subst q1 q2
  obtain ⟨hk0_0,hk1_0,hob⟩:=hob
  obtain ⟨r,H⟩:=oE.1 hob
  rw [H,zU]
  have hw0:=qK hk0_0
  have hw1:=hZ hk1_0
  generalize zI (aL v0)=p0 at H hw0
  generalize yB (aL v1)=p1 at H hw1
  refine ⟨[.agg [.int .u8 p0.Own.x0,.int .u8 p0.Own.x1,.int .u8 p0.Own.x2,.int .u8 p0.Own.x3,.int .u8 p0.Own.x4,.int .u8 p0.Own.x5,.bool p0.Root,.bool p0.Gate,.int .i64 p0.Seq,.ro 17 p0.Trees.length false (enR zH p0.Trees),.ro 13 p0.Proxies.length false (enR zC p0.Proxies)],.agg [.int .u8 p1.x0,.int .u8 p1.x1,.int .u8 p1.x2,.int .u8 p1.x3,.int .u8 p1.x4,.int .u8 p1.x5]],_,(fun E vs F=>yU hw0.1 F (fun vs F=>yU hw1.1 F (fun vs F=>F))),rfl,rfl,?_⟩
  rw [Try.ntmps58]
  simp only [lC,lN,Nat.reduceAdd,Nat.reduceSub,rS,rZ,aC,aN]
  unfold F58 at H
  refine sq zB ?_
  simp only [go_sem]
  refine zW ?_
  obtain ⟨r1,e2,H⟩:=bsi H
  refine rg ct58t0_ok ?_
  simp only [go_sem,Nat.reduceLeDiff,Nat.reduceLT,Nat.reduceAdd,ct58t0_87,gL,e2]
  refine rg zB ?_
  simp only [go_sem]
  obtain rfl:=Option.some.inj H
  first|rfl|simp only [Bool.and_false,Bool.false_and,Bool.and_true,Bool.true_and]
 ·cases hb
noncomputable def F66 (p0:List TTree):Option (List TTree) :=
 need (capb 56 p0.length) <| some p0
noncomputable def fH:List AV->List ABlk->ED
 | [v0],h=>.ed [] (lK xF 17 (roD (zG h []) v0)/\uY (zG h []) v0/\(F66 (lA zV (roD (zG h []) v0))).isSome=true) (.sl 0 17 0 (gt (F66 (lA zV (roD (zG h []) v0)))).length false) [.row 62 17 (gt (F66 (lA zV (roD (zG h []) v0)))).length (enR zH (gt (F66 (lA zV (roD (zG h []) v0)))))]
 | _,_=>.fail
theorem ok66:wS Try.prog 66 (edC fH):=by
 refine qO fH (rs:=[.tmp 2]) Try.func66 (by kernel_rfl) rfl rfl ?_
 intro l h bs ob q0 g0 hb hob
 unfold fH at hb
 split at hb
 ·rename_i v0
  injection hb with q1 q2 q3 q4;subst q1 q2 q3 q4
  obtain ⟨hk0,hk1,hob⟩:=hob
  obtain ⟨r,H⟩:=oE.1 hob
  rw [H,zU]
  have hw0:=vN (fun r h=>vY h) hk0
  generalize lA zV (roD (zG h []) v0)=p0 at H hw0
  unfold F66 at H
  obtain ⟨f1,H⟩:=nC H
  obtain rfl:=Option.some.inj H
  refine ⟨[.ro 17 p0.length false (enR zH p0)],[],rfl,⟨vO hk1 hw0,trivial⟩,trivial,trivial,⟨qI xC,trivial⟩,⟨wU,trivial⟩,(by simp only [noro]),?_⟩
  rw [Try.ntmps66]
  simp only [lC,lN,Nat.reduceAdd,Nat.reduceSub,rS,rZ,aC,aN]
  refine rg zB ?_
  have nfs:∀ x y,nref (enR zH p0 x y):=fun x y=>nfR_en xC
  generalize hc:enR zH p0=c at nfs hw0
  cases hn:p0.length with
  | zero =>
   simp only [go_sem,Nat.reduceLeDiff,Nat.reduceAdd]
   have hp:p0=[]:=List.eq_nil_of_length_eq_zero hn
   subst hp;subst hc
   refine ⟨?_,?_⟩
   ·refine xO [] [none] ?_ ?_ ?_ ?_ (by rfl) (by rfl)
    ·simp only [xS]
    ·simp only [tX]
    ·simp [fzV,Cv]
    ·simp only [fzH,eF,and_true,CvH,and_true];exact yN
   ·refine ⟨by omega,xO [] [some 1] ?_ ?_ ?_ ?_ (by rfl) (by rfl)⟩
    ·simp only [Nat.add_zero,xS,inL,rowOb,geth,cond_false,true_and,Nat.zero_add,Nat.le_refl]
    ·simp only [bR,tX,and_self]
    ·simp [fzV,inL,Cv,yE]
    ·simp only [fzH,eF,fzB,inL,cond_false,and_true,CvH,and_true];exact CvB_row0 xC
  | succ m =>
   simp only [go_sem,Nat.reduceLeDiff,Nat.reduceAdd,reduceCtorEq]
   refine ⟨by omega,xO [] [some 1] ?_ ?_ ?_ ?_ (by rfl) (by rfl)⟩
   ·simp only [xS,inL,rowOb,geth,cond_false,true_and,Nat.zero_add,Nat.le_refl]
   ·simp only [bR,tX,and_self]
   ·simp [fzV,inL,Cv,yE]
   ·simp only [fzH,eF,fzB,inL,cond_false,and_true,CvH,and_true];rw [← hn,← hc];exact zO xC rfl (fun x y hx hy=>by simp only [tR,Nat.not_lt_zero,if_false,Nat.sub_zero])
 ·cases hb
noncomputable def F86 (p0:List TProxied):Option (List TProxied) :=
 need (capb 24 p0.length) <| some p0
noncomputable def body86:List AV->List ABlk->ED
 | [v0],h=>.ed [] (lK xG 13 (roD (zG h []) v0)/\uY (zG h []) v0/\(F86 (lA yT (roD (zG h []) v0))).isSome=true) (.sl 0 13 0 (gt (F86 (lA yT (roD (zG h []) v0)))).length false) [.row 64 13 (gt (F86 (lA yT (roD (zG h []) v0)))).length (enR zC (gt (F86 (lA yT (roD (zG h []) v0)))))]
 | _,_=>.fail
theorem ok86:wS Try.prog 86 (edC body86):=by
 refine qO body86 (rs:=[.tmp 2]) Try.func86 (by kernel_rfl) rfl rfl ?_
 intro l h bs ob q0 g0 hb hob
 unfold body86 at hb
 split at hb
 ·rename_i v0
  injection hb with q1 q2 q3 q4;subst q1 q2 q3 q4
  obtain ⟨hk0,hk1,hob⟩:=hob
  obtain ⟨r,H⟩:=oE.1 hob
  rw [H,zU]
  have hw0:=vN (fun r h=>vM h) hk0
  generalize lA yT (roD (zG h []) v0)=p0 at H hw0
  unfold F86 at H
  obtain ⟨f1,H⟩:=nC H
  obtain rfl:=Option.some.inj H
  refine ⟨[.ro 13 p0.length false (enR zC p0)],[],rfl,⟨vO hk1 hw0,trivial⟩,trivial,trivial,⟨qI xB,trivial⟩,⟨wU,trivial⟩,(by simp only [noro]),?_⟩
  rw [Try.ntmps86]
  simp only [lC,lN,Nat.reduceAdd,Nat.reduceSub,rS,rZ,aC,aN]
  refine rg zB ?_
  have nfs:∀ x y,nref (enR zC p0 x y):=fun x y=>nfR_en xB
  generalize hc:enR zC p0=c at nfs hw0
  cases hn:p0.length with
  | zero =>
   simp only [go_sem,Nat.reduceLeDiff,Nat.reduceAdd]
   have hp:p0=[]:=List.eq_nil_of_length_eq_zero hn
   subst hp;subst hc
   refine ⟨?_,?_⟩
   ·refine xO [] [none] ?_ ?_ ?_ ?_ (by rfl) (by rfl)
    ·simp only [xS]
    ·simp only [tX]
    ·simp [fzV,Cv]
    ·simp only [fzH,eF,and_true,CvH,and_true];exact yN
   ·refine ⟨by omega,xO [] [some 1] ?_ ?_ ?_ ?_ (by rfl) (by rfl)⟩
    ·simp only [Nat.add_zero,xS,inL,rowOb,geth,cond_false,true_and,Nat.zero_add,Nat.le_refl]
    ·simp only [bR,tX,and_self]
    ·simp [fzV,inL,Cv,yE]
    ·simp only [fzH,eF,fzB,inL,cond_false,and_true,CvH,and_true];exact CvB_row0 xB
  | succ m =>
   simp only [go_sem,Nat.reduceLeDiff,Nat.reduceAdd,reduceCtorEq]
   refine ⟨by omega,xO [] [some 1] ?_ ?_ ?_ ?_ (by rfl) (by rfl)⟩
   ·simp only [xS,inL,rowOb,geth,cond_false,true_and,Nat.zero_add,Nat.le_refl]
   ·simp only [bR,tX,and_self]
   ·simp [fzV,inL,Cv,yE]
   ·simp only [fzH,eF,fzB,inL,cond_false,and_true,CvH,and_true];rw [← hn,← hc];exact zO xB rfl (fun x y hx hy=>by simp only [tR,Nat.not_lt_zero,if_false,Nat.sub_zero])
 ·cases hb
noncomputable def ct56t0:Ct:=tab [(66,edC fH),(86,edC body86)]
theorem ct56t0_ok:xK Try.prog ct56t0:=yG ok66 <| yG ok86 <| yM
theorem ct56t0_66 (l:List AV) (h:List ABlk):ct56t0 66 l h=edC fH l h:=rfl
theorem ct56t0_86 (l:List AV) (h:List ABlk):ct56t0 86 l h=edC body86 l h:=rfl
noncomputable def F56 (p0:TRoots):Option (TRoots) :=
 (F66 p0.Trees).bind fun r1=>(F86 p0.Proxies).bind fun r3=>some (TRoots.mk (A6u8.mk p0.Own.x0 p0.Own.x1 p0.Own.x2 p0.Own.x3 p0.Own.x4 p0.Own.x5) p0.Root p0.Gate p0.Seq r1 r3)
noncomputable def fG:List AV->List ABlk->ED
 | [v0],h=>.ed [] (aK 11 vF (roD (zG h []) v0)/\uY (zG h []) v0/\(F56 (zI (aL (roD (zG h []) v0)))).isSome=true) (.agg [.int .u8 (((gt (F56 (zI (aL (roD (zG h []) v0))))).Own).x0),.int .u8 (((gt (F56 (zI (aL (roD (zG h []) v0))))).Own).x1),.int .u8 (((gt (F56 (zI (aL (roD (zG h []) v0))))).Own).x2),.int .u8 (((gt (F56 (zI (aL (roD (zG h []) v0))))).Own).x3),.int .u8 (((gt (F56 (zI (aL (roD (zG h []) v0))))).Own).x4),.int .u8 (((gt (F56 (zI (aL (roD (zG h []) v0))))).Own).x5),.bool ((gt (F56 (zI (aL (roD (zG h []) v0))))).Root),.bool ((gt (F56 (zI (aL (roD (zG h []) v0))))).Gate),.int .i64 ((gt (F56 (zI (aL (roD (zG h []) v0))))).Seq),.sl 0 17 0 (((gt (F56 (zI (aL (roD (zG h []) v0))))).Trees).length) false,.sl 1 13 0 (((gt (F56 (zI (aL (roD (zG h []) v0))))).Proxies).length) false]) [.row 62 17 (((gt (F56 (zI (aL (roD (zG h []) v0))))).Trees).length) (enR zH ((gt (F56 (zI (aL (roD (zG h []) v0))))).Trees)),.row 64 13 (((gt (F56 (zI (aL (roD (zG h []) v0))))).Proxies).length) (enR zC ((gt (F56 (zI (aL (roD (zG h []) v0))))).Proxies))]
 | _,_=>.fail
theorem ok56:wS Try.prog 56 (edC fG):=by
 refine qO fG (rs:=[.cell 2 41]) Try.func56 (by kernel_rfl) rfl rfl ?_
 intro l h bs ob q0 g0 hb hob
 unfold fG at hb
 split at hb
 ·rename_i v0
  injection hb with q1 q2 q3 q4;subst q1 q2 q3 q4
  obtain ⟨hk0_0,hk0_1,hob⟩:=hob
  obtain ⟨r,H⟩:=oE.1 hob
  rw [H,zU]
  have hw0:=qK hk0_0
  obtain ⟨p0,hp_p0⟩:∃ p0,p0=zI (aL (roD (zG h []) v0)):=⟨_,rfl⟩
  rw [← hp_p0] at H hw0
  refine ⟨[.agg [.int .u8 p0.Own.x0,.int .u8 p0.Own.x1,.int .u8 p0.Own.x2,.int .u8 p0.Own.x3,.int .u8 p0.Own.x4,.int .u8 p0.Own.x5,.bool p0.Root,.bool p0.Gate,.int .i64 p0.Seq,.ro 17 p0.Trees.length false (enR zH p0.Trees),.ro 13 p0.Proxies.length false (enR zC p0.Proxies)]],[],rfl,⟨(vO hk0_1 hw0),trivial⟩,trivial,trivial,⟨(qI xC),⟨(qI xB),trivial⟩⟩,⟨wU,⟨wU,trivial⟩⟩,(by first|(simp only [noro,xY,and_self];done)|(simp only [noro,xY];and_intros<;>first|trivial|exact gZ (by simp only [noro]) (by simp only [noro])|(simp only [noro,xY,and_self]))),?_⟩
  rw [Try.ntmps56]
  simp only [lC,lN,Nat.reduceAdd,Nat.reduceSub,rS,rZ,aC,aN]
  unfold F56 at H
  refine sq zB ?_
  simp only [go_sem]
  refine zW ?_
  obtain ⟨r1,e2,H⟩:=bsi H
  obtain ⟨r3,e4,H⟩:=bsi H
  refine vA zR ct56t0_ok 2 (by kernel_rfl) (by kernel_rfl) ?_
  intro an han
  simp only [fT,qY,cS,xrD,xoD,dP,qU,List.append_nil,wJ,refs,jN,mask,tK,place,vS,tL,uE,hit,inL,wO,ren,rnN,nrH,nrB,nrL,nr,rZ,rS,Nat.sub_self,Nat.add_zero,Nat.zero_add,Nat.reduceSub,Nat.lt_add_one,go_sem,Nat.reduceLeDiff,Nat.reduceLT,Nat.reduceAdd,Nat.reduceSub,Nat.reduceBEq,ct56t0_66,fH,ct56t0_86,body86,e2,e4]
  repeat ((with_reducible refine aI ?_ ?_);exact an3)
  refine sq zB ?_
  simp only [go_sem,Nat.reduceLT,Nat.reduceAdd]
  refine rg zB ?_
  simp only [go_sem,Nat.reduceLT,Nat.reduceAdd]
  obtain rfl:=Option.some.inj H
  refine xO [] [some 2,some 3] ?_ ?_ ?_ ?_ (by rfl) (by rfl)
  ·simp only [go_sem]
   try exact at0
  ·simp only [go_sem]
   try exact at0
  ·simp only [go_sem]
   exact (by first|(simp [Cv,CvL,yE];done)|(simp [Cv,CvL,yE,zU];omega))
  ·simp only [go_sem,CvH]
   first|exact ⟨zO xC cl (fun _ _ _ _=>rfl),zO xB cl (fun _ _ _ _=>rfl)⟩|trivial
 ·cases hb
theorem ext59:ExtOk Try.prog 89 ovC2:=ov_ext2 (t:=38) (tr:=4) (e:=62) (z:=17) Try.func89 (by kernel_rfl) (by kernel_rfl) (by kernel_rfl) (by kernel_rfl) (by kernel_rfl) (by kernel_rfl)
def ctI59:Ct:=tab [(89,ovC2)]
theorem ctI59_ok:xK Try.prog ctI59:=tab_ext ext59 yM
theorem ctI59_eq (l:List AV) (h:List ABlk):ctI59 89 l h=ovC2 l h:=rfl
theorem tik59_0:tintk Try.prog 2=true:=by kernel_rfl
theorem tik59_1:tintk Try.prog 38=false:=by kernel_rfl
set_option maxHeartbeats 8000000 in
theorem okF59:wS Try.prog 59 (insF 62 17):=by
 refine edit1_fn (sh:=fun _=>none) (fun _ _ h=>by cases h) ctI59_ok (insF 62 17) (rs:=[.tmp 6]) Try.func59 (by kernel_rfl) rfl rfl insF_np ?_
 intro E h l vs ob v h' H F hc hob
 unfold insF at hc
 split at hc
 ·rename_i b es' i n nl p b2 es3 i2 m nl2
  split at hc
  ·rename_i e' es2 NN c hb
   split at hc
   ·rename_i e4 es4 N2 d hb2
    injection hc with q1 q2 q3
    subst q1 q2 q3
    obtain ⟨rfl,rfl,rfl,rfl,rfl,hbb,hN,hN2,hpn,hmm,hbig,hfl,hfl2⟩:=hob
    obtain ⟨vs⟩:=vs
    match vs,F.1 with
    | [u1,u2,u3],_ =>
     have hne:geth h b ≠ .dead:=by rw [hb];exact fun e=>by cases e
     obtain ⟨cap,hcap,hV⟩:=csl_of_sl (only_sl (F.2 0 _ u1 rfl rfl))
     have g2:=F.2 1 _ u2 rfl rfl
     have g3:=only_ro (b:=b) H (F.2 2 _ u3 rfl rfl) hb2 hne hbb hN2 fun x y hx hy=>(hfl2 x y hx hy).1
     obtain rfl:=vK g2
     refine ⟨b,62,17,NN,c,n+m,fX i p m c (xT i2 d),[.csl 0 17 i n cap,.int .i64 p,.ro 17 m nl2 (xT i2 d)],hb,fun x y hx hy=>(hfl x y hx hy).1,fun x y hx hy=>?_,rfl,rfl,?_,?_⟩
     ·unfold fX xT
      split
      ·exact hfl _ _ (by omega) hy
      ·split
       ·exact hfl2 _ _ (by omega) hy
       ·exact hfl _ _ (by omega) hy
     ·refine ⟨rfl,fun j a w ha hw=>?_⟩
      match j with
      | 0=>simp at ha hw;subst ha hw;exact hV
      | 1=>simp at ha hw;subst ha hw;exact .int _ _
      | 2=>simp at ha hw;subst ha hw;exact g3
      | j+3=>simp at ha
     ·rw [Try.ntmps59]
      show wpC _ _ _ _ _ (.csl 0 17 i n cap::.int .i64 p::.ro 17 m nl2 (xT i2 d)::.top::.top::.top::.top::.top::.top::.top::.top::.top::.top::.top::.top::.top::.top::.top::.top::.top::.top::.top::.top::.top::.top::.top::.top::.top::.top::.top::.top::.top::.top::.top::.top::.top::.top::.top::.top::.top::.top::.top::.top::.top::.top::.top::.top::.top::.top::.top::.top::.top::.top::.top::.top::.top::.top::.top::.top::.top::.top::.top::.top::.top::.top::.top::.top::.top::.top::.top::.top::.top::.top::.top::.top::.top::.top::.top::.top::.top::.top::.top::.top::.top::.top::.top::.top::.top::.top::.top::.top::.top::.top::.top::.top::[]) _
      have hm0:0 < m:=by omega
      have hm1:((m:Int) == 0)=false:=by simp;omega
      rcases Nat.lt_or_ge p n with hp|hp
      ·have hpq:((p:Int) == (n:Int))=false:=by simp;omega
       have w1:wr .i64 ((n:Int)+(m:Int))=((n+m:Nat):Int):=by unfold wr;rw [IntWalk.i64_in _ (by omega)];omega
       have w2:wr .i64 (((n+m:Nat):Int) - (p:Int))=((n+m - p:Nat):Int):=by unfold wr;rw [IntWalk.i64_in _ (by omega)];omega
       have w3:wr .i64 ((p:Int)+(m:Int))=((p+m:Nat):Int):=by unfold wr;rw [IntWalk.i64_in _ (by omega)];omega
       have hpm:p+(n+m - p)=n+m:=by omega
       have mn1:min m (n+m - p)=m:=by omega
       have mn2:min (n - p) (n+m - (p+m))=n - p:=by omega
       have mn3:min (n+m - p) (n+m - (p+m))=n - p:=by omega
       have fin:∀ x y,x < n+m->fX i p m c (xT i2 d) x y=fX i p m c (xT i2 d) x y:=fun _ _ _=>rfl
       by_cases hroom:n+m <= cap
       ·have hg:decide ((cap:Int) < ((n+m:Nat):Int))=false:=by simp;omega
        simp only [go_sem,Nat.reduceLeDiff,Nat.reduceAdd,reduceCtorEq,tF,uR,cP,bJ,bM,jF,tik59_1,bEq,Option.isNone_some,Option.isSome_none,Option.isNone_none,Int.toNat_natCast,hm1,hpq,hg,Nat.sub_zero,bLt,w1,w2,w3,hpm,ctI59_eq,ovC2,slB,Nat.add_zero,Nat.zero_add]
        refine ⟨by omega,by omega,by omega,by omega,?_⟩
        refine vA (sh:=fun _=>none) (fun _ _ h=>by cases h) ctI59_ok 0 (by kernel_rfl) (by kernel_rfl) ?_
        intro an han
        simp only [go_sem,Nat.reduceLeDiff,Nat.reduceAdd,Nat.reduceSub,tF,uR,cP,bJ,Option.isSome_none,Option.isNone_none,Int.toNat_natCast,w3,mn1,mn3,Nat.add_zero,Nat.zero_add,fT,qY,cS,wJ,refs,jN,mask,tK,place,vS,tL,uE,hit,inL,wO,ren,nrH,nrB,rZ,Bool.or_false,Bool.or_true,Bool.true_or,Bool.false_and,Nat.sub_self,Nat.add_zero,Nat.zero_add,Nat.reduceSub,Nat.lt_add_one]
        refine ⟨by omega,by omega,by omega,by omega,by omega,?_⟩
        refine conv_move (b:=0) rfl (by omega) (by omega) fun x y hx hy=>?_
        unfold jL fX xT
        by_cases hxp:x < p
        ·rw [if_neg (by omega),if_neg (by omega),if_pos hxp]
        ·rw [if_neg hxp]
         by_cases hxm:x < p+m
         ·rw [if_pos (by omega),if_pos hxm]
          congr 1
          omega
         ·rw [if_neg (by omega),if_pos (by omega),if_neg hxm]
          congr 1
          omega
       ·have hg:decide ((cap:Int) < ((n+m:Nat):Int))=true:=by simp;omega
        have hd:decide (cap < n+m)=true:=by simp;omega
        simp only [go_sem,Nat.reduceLeDiff,Nat.reduceAdd,reduceCtorEq,tF,uR,cP,bJ,bM,jF,tik59_1,bEq,Option.isNone_some,Option.isSome_none,Option.isNone_none,Int.toNat_natCast,hm1,hpq,hg,hd,Nat.sub_zero,bLt,w1,w2,w3,hpm,mn1,ctI59_eq,ovC2,slB,Nat.add_zero,Nat.zero_add]
        refine ⟨by omega,by omega,by omega,by omega,by omega,?_⟩
        refine vA (sh:=fun _=>none) (fun _ _ h=>by cases h) ctI59_ok 0 (by kernel_rfl) (by kernel_rfl) ?_
        intro an han
        simp only [go_sem,Nat.reduceLeDiff,Nat.reduceAdd,Nat.reduceSub,Nat.reduceBEq,tF,uR,cP,bJ,Option.isSome_none,Option.isNone_none,Int.toNat_natCast,w3,mn2,Nat.add_zero,Nat.zero_add,fT,qY,cS,wJ,refs,jN,mask,tK,place,vS,tL,uE,hit,inL,wO,ren,nrH,nrB,rZ,Bool.or_false,Bool.or_true,Bool.true_or,Bool.false_and,Nat.sub_self,Nat.add_zero,Nat.zero_add,Nat.reduceSub,Nat.lt_add_one]
        refine ⟨by omega,by omega,by omega,?_⟩
        refine conv_two (by omega) fun x y hx hy=>?_
        unfold jL tR fX xT
        by_cases hxp:x < p
        ·rw [if_neg (by omega),if_neg (by omega),if_pos hxp,if_pos hxp]
        ·by_cases hxm:x < p+m
         ·rw [if_neg (by omega),if_pos (by omega),if_neg hxp,if_pos hxm]
         ·rw [if_pos (by omega),if_neg hxp,if_neg hxm]
          congr 1
          omega
      ·obtain rfl:p=n:=by omega
       have hpq:((p:Int) == (p:Int))=true:=by simp
       by_cases hroom:p+m <= cap
       ·have hd1:decide (p+m <= cap)=true:=by simpa using hroom
        simp only [go_sem,Nat.reduceLeDiff,Nat.reduceAdd,tF,uR,cP,bJ,bM,jF,tik59_1,bEq,Option.isNone_some,Option.isSome_none,Option.isNone_none,Int.toNat_natCast,hm1,hpq,hd1,Nat.sub_zero]
        refine ⟨by omega,by omega,?_⟩
        refine conv_move (b:=0) rfl (by omega) (by omega) fun x y hx hy=>?_
        unfold jL fX
        by_cases hxp:x < p
        ·rw [if_neg (by omega),if_pos hxp]
        ·rw [if_pos (by omega),if_neg hxp,if_pos (by omega)]
         congr 1
         omega
       ·have hd1:decide (p+m <= cap)=false:=by simpa using hroom
        simp only [go_sem,Nat.reduceLeDiff,Nat.reduceAdd,tF,uR,cP,bJ,bM,jF,tik59_1,bEq,Option.isNone_some,Option.isSome_none,Option.isNone_none,Int.toNat_natCast,hm1,hpq,hd1,Nat.sub_zero]
        refine ⟨by omega,by omega,?_⟩
        refine conv_two (Nat.le_refl _) fun x y hx hy=>?_
        unfold tR fX xT
        by_cases hxp:x < p
        ·rw [if_pos hxp,if_pos hxp]
        ·rw [if_neg hxp,if_neg hxp,if_pos (by omega)]
   ·cases hc
  ·cases hc
 ·cases hc
theorem ok59:wS Try.prog 59 (insN 62 17):=insN_ok okF59
noncomputable def ct20t0:Ct:=tab [(34,yD qW)]
theorem ct20t0_ok:xK Try.prog ct20t0:=yG ok34 <| yM
theorem ct20t0_34 (l:List AV) (h:List ABlk):ct20t0 34 l h=yD qW l h:=rfl
noncomputable def ct20t1:Ct:=tab [(43,yD body43),(57,yD uZ)]
theorem ct20t1_ok:xK Try.prog ct20t1:=yG ok43 <| yG ok57 <| yM
theorem ct20t1_43 (l:List AV) (h:List ABlk):ct20t1 43 l h=yD body43 l h:=rfl
theorem ct20t1_57 (l:List AV) (h:List ABlk):ct20t1 57 l h=yD uZ l h:=rfl
noncomputable def ct20t2:Ct:=tab [(58,yD body58)]
theorem ct20t2_ok:xK Try.prog ct20t2:=yG ok58 <| yM
theorem ct20t2_58 (l:List AV) (h:List ABlk):ct20t2 58 l h=yD body58 l h:=rfl
noncomputable def ct20t3:Ct:=tab [(56,edC fG)]
theorem ct20t3_ok:xK Try.prog ct20t3:=yG ok56 <| yM
theorem ct20t3_56 (l:List AV) (h:List ABlk):ct20t3 56 l h=edC fG l h:=rfl
noncomputable def ct20t4:Ct:=tab [(59,insN 62 17)]
theorem ct20t4_ok:xK Try.prog ct20t4:=yG ok59 <| yM
theorem ct20t4_59 (l:List AV) (h:List ABlk):ct20t4 59 l h=insN 62 17 l h:=rfl
noncomputable def F20 (p0:TRoots) (p1:TRootWord) (p2:A6u8) (p3:Int) (p4:Int):Option (TRoots × (List TRootWord) × Int) :=
 (F34 p0).bind fun r1=>bif (!bEq r1 0) then (some ((TRoots.mk (A6u8.mk 0 0 0 0 0 0) false false 0 [] []),[],r1)) else ((F43 p1).bind fun r3=>need (bif (!((!r3) || (bEq p2.x0 p0.Own.x0 && (bEq p2.x1 p0.Own.x1 && (bEq p2.x2 p0.Own.x2 && (bEq p2.x3 p0.Own.x3 && (bEq p2.x4 p0.Own.x4 && (bEq p2.x5 p0.Own.x5)))))))) then ((F57 p3 1 1099511627776).isSome) else true) <| need (bif (!(((!r3) || (bEq p2.x0 p0.Own.x0 && (bEq p2.x1 p0.Own.x1 && (bEq p2.x2 p0.Own.x2 && (bEq p2.x3 p0.Own.x3 && (bEq p2.x4 p0.Own.x4 && (bEq p2.x5 p0.Own.x5))))))) || (!(gt (F57 p3 1 1099511627776))))) then ((F57 p4 0 1099511627776).isSome) else true) <| bif ((((!r3) || (bEq p2.x0 p0.Own.x0 && (bEq p2.x1 p0.Own.x1 && (bEq p2.x2 p0.Own.x2 && (bEq p2.x3 p0.Own.x3 && (bEq p2.x4 p0.Own.x4 && (bEq p2.x5 p0.Own.x5))))))) || (!(gt (F57 p3 1 1099511627776)))) || (!(gt (F57 p4 0 1099511627776)))) then (some ((TRoots.mk (A6u8.mk 0 0 0 0 0 0) false false 0 [] []),[],2)) else ((F58 p0 p1.Root).bind fun r7=>bif (bEq p1.Root.x0 p0.Own.x0 && (bEq p1.Root.x1 p0.Own.x1 && (bEq p1.Root.x2 p0.Own.x2 && (bEq p1.Root.x3 p0.Own.x3 && (bEq p1.Root.x4 p0.Own.x4 && (bEq p1.Root.x5 p0.Own.x5)))))) then (some ((TRoots.mk (A6u8.mk 0 0 0 0 0 0) false false 0 [] []),[],21)) else (need (bif r7.2 then inb r7.1 p0.Trees.length else true) <| need (bif (r7.2 && (!(bLt p1.Seq ((gd p0.Trees r7.1.toNat).Seq)))) then inb r7.1 p0.Trees.length else true) <| need (bif ((r7.2 && (!(bLt p1.Seq ((gd p0.Trees r7.1.toNat).Seq)))) && (bEq p1.Seq ((gd p0.Trees r7.1.toNat).Seq))) then inb r7.1 p0.Trees.length else true) <| bif (r7.2 && ((bLt p1.Seq ((gd p0.Trees r7.1.toNat).Seq)) || ((bEq p1.Seq ((gd p0.Trees r7.1.toNat).Seq)) && (bLe ((gd p0.Trees r7.1.toNat).Cost) (wr .i64 (p1.Cost+p3)))))) then (some ((TRoots.mk (A6u8.mk 0 0 0 0 0 0) false false 0 [] []),[],21)) else (bif (bLt 1099511627776 (wr .i64 (p1.Cost+p3))) then (some ((TRoots.mk (A6u8.mk 0 0 0 0 0 0) false false 0 [] []),[],41)) else (bif ((!r7.2) && (bEq (p0.Trees.length:Nat) 8)) then (some ((TRoots.mk (A6u8.mk 0 0 0 0 0 0) false false 0 [] []),[],22)) else ((F56 p0).bind fun r12=>bif r7.2 then (need (inb r7.1 r12.Trees.length) <| bif (bLt (wr .i64 (p1.Hops+1)) 16) then (some ((TRoots.mk (A6u8.mk r12.Own.x0 r12.Own.x1 r12.Own.x2 r12.Own.x3 r12.Own.x4 r12.Own.x5) r12.Root r12.Gate r12.Seq (r12.Trees.set r7.1.toNat (TTree.mk (A6u8.mk p1.Root.x0 p1.Root.x1 p1.Root.x2 p1.Root.x3 p1.Root.x4 p1.Root.x5) (A6u8.mk p2.x0 p2.x1 p2.x2 p2.x3 p2.x4 p2.x5) p1.Seq (wr .i64 (p1.Hops+1)) (wr .i64 (p1.Cost+p3)) p1.Gate (wr .i64 (p4+5000000)))) r12.Proxies),[(TRootWord.mk (A6u8.mk p1.Root.x0 p1.Root.x1 p1.Root.x2 p1.Root.x3 p1.Root.x4 p1.Root.x5) p1.Seq (wr .i64 (p1.Hops+1)) (wr .i64 (p1.Cost+p3)) p1.Gate)],0)) else (some ((TRoots.mk (A6u8.mk r12.Own.x0 r12.Own.x1 r12.Own.x2 r12.Own.x3 r12.Own.x4 r12.Own.x5) r12.Root r12.Gate r12.Seq (r12.Trees.set r7.1.toNat (TTree.mk (A6u8.mk p1.Root.x0 p1.Root.x1 p1.Root.x2 p1.Root.x3 p1.Root.x4 p1.Root.x5) (A6u8.mk p2.x0 p2.x1 p2.x2 p2.x3 p2.x4 p2.x5) p1.Seq (wr .i64 (p1.Hops+1)) (wr .i64 (p1.Cost+p3)) p1.Gate (wr .i64 (p4+5000000)))) r12.Proxies),[],0))) else (need (insb r7.1 r12.Trees.length) <| (some [(TTree.mk (A6u8.mk p1.Root.x0 p1.Root.x1 p1.Root.x2 p1.Root.x3 p1.Root.x4 p1.Root.x5) (A6u8.mk p2.x0 p2.x1 p2.x2 p2.x3 p2.x4 p2.x5) p1.Seq (wr .i64 (p1.Hops+1)) (wr .i64 (p1.Cost+p3)) p1.Gate (wr .i64 (p4+5000000)))]).bind fun w16=>(some (insL r12.Trees r7.1 [(TTree.mk (A6u8.mk p1.Root.x0 p1.Root.x1 p1.Root.x2 p1.Root.x3 p1.Root.x4 p1.Root.x5) (A6u8.mk p2.x0 p2.x1 p2.x2 p2.x3 p2.x4 p2.x5) p1.Seq (wr .i64 (p1.Hops+1)) (wr .i64 (p1.Cost+p3)) p1.Gate (wr .i64 (p4+5000000)))])).bind fun w18=>bif (bLt (wr .i64 (p1.Hops+1)) 16) then (some ((TRoots.mk (A6u8.mk r12.Own.x0 r12.Own.x1 r12.Own.x2 r12.Own.x3 r12.Own.x4 r12.Own.x5) r12.Root r12.Gate r12.Seq w18 r12.Proxies),[(TRootWord.mk (A6u8.mk p1.Root.x0 p1.Root.x1 p1.Root.x2 p1.Root.x3 p1.Root.x4 p1.Root.x5) p1.Seq (wr .i64 (p1.Hops+1)) (wr .i64 (p1.Cost+p3)) p1.Gate)],0)) else (some ((TRoots.mk (A6u8.mk r12.Own.x0 r12.Own.x1 r12.Own.x2 r12.Own.x3 r12.Own.x4 r12.Own.x5) r12.Root r12.Gate r12.Seq w18 r12.Proxies),[],0)))))))))
noncomputable def jA:List AV->List ABlk->ED
 | [v0,v1,v2,v3,v4],h=>.ed [] (aK 11 vF (roD (zG h []) v0)/\uY (zG h []) v0/\aK 10 wH (roD (zG h []) v1)/\uY (zG h []) v1/\aK 6 tB (roD (zG h []) v2)/\uY (zG h []) v2/\iK .i64 (roD (zG h []) v3)/\uY (zG h []) v3/\iK .i64 (roD (zG h []) v4)/\uY (zG h []) v4/\(F20 (zI (aL (roD (zG h []) v0))) (zZ (aL (roD (zG h []) v1))) (yB (aL (roD (zG h []) v2))) (iA (roD (zG h []) v3)) (iA (roD (zG h []) v4))).isSome=true) (.tup [.agg [.int .u8 ((((gt (F20 (zI (aL (roD (zG h []) v0))) (zZ (aL (roD (zG h []) v1))) (yB (aL (roD (zG h []) v2))) (iA (roD (zG h []) v3)) (iA (roD (zG h []) v4)))).1).Own).x0),.int .u8 ((((gt (F20 (zI (aL (roD (zG h []) v0))) (zZ (aL (roD (zG h []) v1))) (yB (aL (roD (zG h []) v2))) (iA (roD (zG h []) v3)) (iA (roD (zG h []) v4)))).1).Own).x1),.int .u8 ((((gt (F20 (zI (aL (roD (zG h []) v0))) (zZ (aL (roD (zG h []) v1))) (yB (aL (roD (zG h []) v2))) (iA (roD (zG h []) v3)) (iA (roD (zG h []) v4)))).1).Own).x2),.int .u8 ((((gt (F20 (zI (aL (roD (zG h []) v0))) (zZ (aL (roD (zG h []) v1))) (yB (aL (roD (zG h []) v2))) (iA (roD (zG h []) v3)) (iA (roD (zG h []) v4)))).1).Own).x3),.int .u8 ((((gt (F20 (zI (aL (roD (zG h []) v0))) (zZ (aL (roD (zG h []) v1))) (yB (aL (roD (zG h []) v2))) (iA (roD (zG h []) v3)) (iA (roD (zG h []) v4)))).1).Own).x4),.int .u8 ((((gt (F20 (zI (aL (roD (zG h []) v0))) (zZ (aL (roD (zG h []) v1))) (yB (aL (roD (zG h []) v2))) (iA (roD (zG h []) v3)) (iA (roD (zG h []) v4)))).1).Own).x5),.bool (((gt (F20 (zI (aL (roD (zG h []) v0))) (zZ (aL (roD (zG h []) v1))) (yB (aL (roD (zG h []) v2))) (iA (roD (zG h []) v3)) (iA (roD (zG h []) v4)))).1).Root),.bool (((gt (F20 (zI (aL (roD (zG h []) v0))) (zZ (aL (roD (zG h []) v1))) (yB (aL (roD (zG h []) v2))) (iA (roD (zG h []) v3)) (iA (roD (zG h []) v4)))).1).Gate),.int .i64 (((gt (F20 (zI (aL (roD (zG h []) v0))) (zZ (aL (roD (zG h []) v1))) (yB (aL (roD (zG h []) v2))) (iA (roD (zG h []) v3)) (iA (roD (zG h []) v4)))).1).Seq),.sl 0 17 0 ((((gt (F20 (zI (aL (roD (zG h []) v0))) (zZ (aL (roD (zG h []) v1))) (yB (aL (roD (zG h []) v2))) (iA (roD (zG h []) v3)) (iA (roD (zG h []) v4)))).1).Trees).length) false,.sl 1 13 0 ((((gt (F20 (zI (aL (roD (zG h []) v0))) (zZ (aL (roD (zG h []) v1))) (yB (aL (roD (zG h []) v2))) (iA (roD (zG h []) v3)) (iA (roD (zG h []) v4)))).1).Proxies).length) false],.sl 2 10 0 (((gt (F20 (zI (aL (roD (zG h []) v0))) (zZ (aL (roD (zG h []) v1))) (yB (aL (roD (zG h []) v2))) (iA (roD (zG h []) v3)) (iA (roD (zG h []) v4)))).2.1).length) false,.int .i64 ((gt (F20 (zI (aL (roD (zG h []) v0))) (zZ (aL (roD (zG h []) v1))) (yB (aL (roD (zG h []) v2))) (iA (roD (zG h []) v3)) (iA (roD (zG h []) v4)))).2.2)]) [.row 62 17 ((((gt (F20 (zI (aL (roD (zG h []) v0))) (zZ (aL (roD (zG h []) v1))) (yB (aL (roD (zG h []) v2))) (iA (roD (zG h []) v3)) (iA (roD (zG h []) v4)))).1).Trees).length) (enR zH (((gt (F20 (zI (aL (roD (zG h []) v0))) (zZ (aL (roD (zG h []) v1))) (yB (aL (roD (zG h []) v2))) (iA (roD (zG h []) v3)) (iA (roD (zG h []) v4)))).1).Trees)),.row 64 13 ((((gt (F20 (zI (aL (roD (zG h []) v0))) (zZ (aL (roD (zG h []) v1))) (yB (aL (roD (zG h []) v2))) (iA (roD (zG h []) v3)) (iA (roD (zG h []) v4)))).1).Proxies).length) (enR zC (((gt (F20 (zI (aL (roD (zG h []) v0))) (zZ (aL (roD (zG h []) v1))) (yB (aL (roD (zG h []) v2))) (iA (roD (zG h []) v3)) (iA (roD (zG h []) v4)))).1).Proxies)),.row 25 10 (((gt (F20 (zI (aL (roD (zG h []) v0))) (zZ (aL (roD (zG h []) v1))) (yB (aL (roD (zG h []) v2))) (iA (roD (zG h []) v3)) (iA (roD (zG h []) v4)))).2.1).length) (enR yF ((gt (F20 (zI (aL (roD (zG h []) v0))) (zZ (aL (roD (zG h []) v1))) (yB (aL (roD (zG h []) v2))) (iA (roD (zG h []) v3)) (iA (roD (zG h []) v4)))).2.1))]
 | _,_=>.fail
theorem ok20:wS Try.prog 20 (edC jA):=by
 refine qO jA (rs:=[.cell 10 41,.tmp 11,.tmp 12]) Try.func20 (by kernel_rfl) rfl rfl ?_
 intro l h bs ob q0 g0 hb hob
 unfold jA at hb
 split at hb
 ·rename_i v0 v1 v2 v3 v4
  injection hb with q1 q2 q3 q4;subst q1 q2 q3 q4
  obtain ⟨hk0_0,hk0_1,hk1_0,hk1_1,hk2_0,hk2_1,hk3_0,hk3_1,hk4_0,hk4_1,hob⟩:=hob
  obtain ⟨r,H⟩:=oE.1 hob
  rw [H,zU]
  have hw0:=qK hk0_0
  obtain ⟨p0,hp_p0⟩:∃ p0,p0=zI (aL (roD (zG h []) v0)):=⟨_,rfl⟩
  rw [← hp_p0] at H hw0
  have hw1:=fS hk1_0
  obtain ⟨p1,hp_p1⟩:∃ p1,p1=zZ (aL (roD (zG h []) v1)):=⟨_,rfl⟩
  rw [← hp_p1] at H hw1
  have hw2:=hZ hk2_0
  obtain ⟨p2,hp_p2⟩:∃ p2,p2=yB (aL (roD (zG h []) v2)):=⟨_,rfl⟩
  rw [← hp_p2] at H hw2
  have hw3:=zK hk3_0
  obtain ⟨p3,hp_p3⟩:∃ p3,p3=iA (roD (zG h []) v3):=⟨_,rfl⟩
  rw [← hp_p3] at H hw3
  have hw4:=zK hk4_0
  obtain ⟨p4,hp_p4⟩:∃ p4,p4=iA (roD (zG h []) v4):=⟨_,rfl⟩
  rw [← hp_p4] at H hw4
  refine ⟨[.agg [.int .u8 p0.Own.x0,.int .u8 p0.Own.x1,.int .u8 p0.Own.x2,.int .u8 p0.Own.x3,.int .u8 p0.Own.x4,.int .u8 p0.Own.x5,.bool p0.Root,.bool p0.Gate,.int .i64 p0.Seq,.ro 17 p0.Trees.length false (enR zH p0.Trees),.ro 13 p0.Proxies.length false (enR zC p0.Proxies)],.agg [.int .u8 p1.Root.x0,.int .u8 p1.Root.x1,.int .u8 p1.Root.x2,.int .u8 p1.Root.x3,.int .u8 p1.Root.x4,.int .u8 p1.Root.x5,.int .i64 p1.Seq,.int .i64 p1.Hops,.int .i64 p1.Cost,.bool p1.Gate],.agg [.int .u8 p2.x0,.int .u8 p2.x1,.int .u8 p2.x2,.int .u8 p2.x3,.int .u8 p2.x4,.int .u8 p2.x5],.int .i64 p3,.int .i64 p4],[],rfl,⟨(vO hk0_1 hw0),⟨(vO hk1_1 hw1),⟨(vO hk2_1 hw2),⟨(vO hk3_1 hw3),⟨(vO hk4_1 hw4),trivial⟩⟩⟩⟩⟩,trivial,trivial,⟨(qI xC),⟨(qI xB),⟨(qI kI),trivial⟩⟩⟩,⟨wU,⟨wU,⟨wU,trivial⟩⟩⟩,(by first|(simp only [noro,xY,and_self];done)|(simp only [noro,xY];and_intros<;>first|trivial|exact gZ (by simp only [noro]) (by simp only [noro])|(simp only [noro,xY,and_self]))),?_⟩
  rw [Try.ntmps20]
  simp only [lC,lN,Nat.reduceAdd,Nat.reduceSub,rS,rZ,aC,aN]
  unfold F20 at H
  try dsimp only at H
  refine sq zB ?_
  simp only [go_sem,Nat.reduceAdd]
  refine zW ?_
  refine zW ?_
  obtain ⟨r1,e2,H⟩:=bsi H
  refine rg ct20t0_ok ?_
  simp only [go_sem,Nat.reduceLT,Nat.reduceAdd,ct20t0_34,qW,e2]
  refine sq zB ?_
  simp only [go_sem]
  refine xJ rfl trivial (fun hc=>?_) (fun hc=>?_)
  ·replace H:=yJ hc H
   refine sq zB ?_
   simp only [go_sem,Nat.reduceAdd]
   refine rg zB ?_
   simp only [go_sem,Nat.reduceLT,Nat.reduceAdd]
   obtain rfl:=Option.some.inj H
   refine xO [] [none,none,none] ?_ ?_ ?_ ?_ (by rfl) (by rfl)
   ·simp only [go_sem]
    try exact at0
   ·simp only [go_sem]
    try exact at0
   ·simp only [go_sem]
    exact vQ (zA (by first|(simp [Cv,CvL];done)|(simp [Cv,CvL,yE,zU];omega)) (zA (by first|(simp [Cv];done)|(simp [Cv,CvL,yE,zU];omega)) (zA (by simp [Cv]) xU)))
   ·simp only [go_sem,CvH]
    first|exact ⟨yN,yN,yN⟩|trivial
  replace H:=yI hc H
  refine rg zB ?_
  simp only [go_sem]
  refine zW ?_
  refine zW ?_
  obtain ⟨r3,e4,H⟩:=bsi H
  obtain ⟨f5,H⟩:=zM.1 H
  replace f5:=xX.1 f5
  obtain ⟨f6,H⟩:=zM.1 H
  replace f6:=xX.1 f6
  refine rg ct20t1_ok ?_
  simp only [go_sem,Nat.reduceLeDiff,Nat.reduceLT,Nat.reduceAdd,reduceCtorEq,ct20t1_43,body43,ct20t1_57,uZ,e4]
  repeat ((with_reducible refine And.intro ?_ ?_);focus (first|(with_reducible trivial)|omega|exact f5|exact f6|(intro g;have q:=f5 (by first|exact g|(rw [g];rfl)|simpa using g);first|exact q|exact ⟨q.1,q.2.1⟩|exact q.2.2|omega|exact ⟨g,q⟩|exact ⟨trivial,q⟩|exact ⟨g,q.1,q.2.1⟩|exact ⟨g,q.2.2⟩)|(intro g;have q:=f6 (by first|exact g|(rw [g];rfl)|simpa using g);first|exact q|exact ⟨q.1,q.2.1⟩|exact q.2.2|omega|exact ⟨g,q⟩|exact ⟨trivial,q⟩|exact ⟨g,q.1,q.2.1⟩|exact ⟨g,q.2.2⟩)|(intro g;(try have q0:=f5 (by first|exact g|(rw [g];rfl)|simpa using g));(try have q1:=f6 (by first|exact g|(rw [g];rfl)|simpa using g));and_intros<;>first|(with_reducible trivial)|assumption|exact nfc|(intro g2;rw [g,g2];rfl)|(intro g2;assumption)|(simp only [g,Bool.true_and,Bool.and_true,Bool.not_false,Bool.not_true];assumption)|grind)|(and_intros<;>first|(with_reducible trivial)|omega|assumption|exact nfc|first|exact rfl|exact trivial|exact tP|exact .inr rfl|exact .inl rfl|exact fun x hx=>absurd hx (by omega))|grind))
  refine xJ rfl trivial (fun hc=>?_) (fun hc=>?_)
  ·replace H:=yJ hc H
   refine sq zB ?_
   simp only [go_sem,Nat.reduceAdd]
   refine rg zB ?_
   simp only [go_sem,Nat.reduceLT,Nat.reduceAdd]
   obtain rfl:=Option.some.inj H
   refine xO [] [none,none,none] ?_ ?_ ?_ ?_ (by rfl) (by rfl)
   ·simp only [go_sem]
    try exact at0
   ·simp only [go_sem]
    try exact at0
   ·simp only [go_sem]
    exact vQ (zA (by first|(simp [Cv,CvL];done)|(simp [Cv,CvL,yE,zU];omega)) (zA (by first|(simp [Cv];done)|(simp [Cv,CvL,yE,zU];omega)) (zA (by simp [Cv]) xU)))
   ·simp only [go_sem,CvH]
    first|exact ⟨yN,yN,yN⟩|trivial
  replace H:=yI hc H
  refine rg zB ?_
  simp only [go_sem]
  refine sq zB ?_
  simp only [go_sem,Nat.reduceLeDiff,Nat.reduceLT,Nat.reduceAdd,reduceCtorEq]
  refine zW ?_
  obtain ⟨r7,e8,H⟩:=bsi H
  refine rg ct20t2_ok ?_
  simp only [go_sem,Nat.reduceLeDiff,Nat.reduceLT,Nat.reduceAdd,reduceCtorEq,ct20t2_58,body58,e8]
  refine zW ?_
  refine vE ?_
  refine sq zB ?_
  simp only [go_sem,Nat.reduceLeDiff,Nat.reduceLT,Nat.reduceAdd,reduceCtorEq]
  refine xJ rfl trivial (fun hc=>?_) (fun hc=>?_)
  ·replace H:=yJ hc H
   refine sq zB ?_
   simp only [go_sem,Nat.reduceAdd]
   refine rg zB ?_
   simp only [go_sem,Nat.reduceLT,Nat.reduceAdd]
   obtain rfl:=Option.some.inj H
   refine xO [] [none,none,none] ?_ ?_ ?_ ?_ (by rfl) (by rfl)
   ·simp only [go_sem]
    try exact at0
   ·simp only [go_sem]
    try exact at0
   ·simp only [go_sem]
    exact vQ (zA (by first|(simp [Cv,CvL];done)|(simp [Cv,CvL,yE,zU];omega)) (zA (by first|(simp [Cv];done)|(simp [Cv,CvL,yE,zU];omega)) (zA (by simp [Cv]) xU)))
   ·simp only [go_sem,CvH]
    first|exact ⟨yN,yN,yN⟩|trivial
  replace H:=yI hc H
  refine zW ?_
  obtain ⟨f9,H⟩:=zM.1 H
  replace f9:=xX.1 f9
  replace f9:=fun g=>yX.1 (f9 g)
  obtain ⟨f10,H⟩:=zM.1 H
  replace f10:=xX.1 f10
  replace f10:=fun g=>yX.1 (f10 g)
  obtain ⟨f11,H⟩:=zM.1 H
  replace f11:=xX.1 f11
  replace f11:=fun g=>yX.1 (f11 g)
  refine wT zR zB (by kernel_rfl) (by kernel_rfl) ?_
  simp only [go_sem,Nat.reduceLeDiff,Nat.reduceLT,Nat.reduceAdd]
  repeat ((with_reducible refine And.intro ?_ ?_);focus (first|(with_reducible trivial)|omega|exact f9|exact f10|exact f11|(intro g;have q:=f9 (by first|exact g|(rw [g];rfl)|simpa using g);first|exact q|exact ⟨q.1,q.2.1⟩|exact q.2.2|omega|exact ⟨g,q⟩|exact ⟨trivial,q⟩|exact ⟨g,q.1,q.2.1⟩|exact ⟨g,q.2.2⟩)|(intro g;have q:=f10 (by first|exact g|(rw [g];rfl)|simpa using g);first|exact q|exact ⟨q.1,q.2.1⟩|exact q.2.2|omega|exact ⟨g,q⟩|exact ⟨trivial,q⟩|exact ⟨g,q.1,q.2.1⟩|exact ⟨g,q.2.2⟩)|(intro g;have q:=f11 (by first|exact g|(rw [g];rfl)|simpa using g);first|exact q|exact ⟨q.1,q.2.1⟩|exact q.2.2|omega|exact ⟨g,q⟩|exact ⟨trivial,q⟩|exact ⟨g,q.1,q.2.1⟩|exact ⟨g,q.2.2⟩)|grind))
  refine xJ rfl trivial (fun hc=>?_) (fun hc=>?_)
  ·replace H:=yJ hc H
   refine sq zB ?_
   simp only [go_sem,Nat.reduceAdd]
   refine rg zB ?_
   simp only [go_sem,Nat.reduceLT,Nat.reduceAdd]
   obtain rfl:=Option.some.inj H
   refine xO [] [none,none,none] ?_ ?_ ?_ ?_ (by rfl) (by rfl)
   ·simp only [go_sem]
    try exact at0
   ·simp only [go_sem]
    try exact at0
   ·simp only [go_sem]
    exact vQ (zA (by first|(simp [Cv,CvL];done)|(simp [Cv,CvL,yE,zU];omega)) (zA (by first|(simp [Cv];done)|(simp [Cv,CvL,yE,zU];omega)) (zA (by simp [Cv]) xU)))
   ·simp only [go_sem,CvH]
    first|exact ⟨yN,yN,yN⟩|trivial
  replace H:=yI hc H
  refine sq zB ?_
  simp only [go_sem,Nat.reduceLeDiff,Nat.reduceLT,Nat.reduceAdd]
  refine xJ rfl trivial (fun hc=>?_) (fun hc=>?_)
  ·replace H:=yJ hc H
   refine sq zB ?_
   simp only [go_sem,Nat.reduceAdd]
   refine rg zB ?_
   simp only [go_sem,Nat.reduceLT,Nat.reduceAdd]
   obtain rfl:=Option.some.inj H
   refine xO [] [none,none,none] ?_ ?_ ?_ ?_ (by rfl) (by rfl)
   ·simp only [go_sem]
    try exact at0
   ·simp only [go_sem]
    try exact at0
   ·simp only [go_sem]
    exact vQ (zA (by first|(simp [Cv,CvL];done)|(simp [Cv,CvL,yE,zU];omega)) (zA (by first|(simp [Cv];done)|(simp [Cv,CvL,yE,zU];omega)) (zA (by simp [Cv]) xU)))
   ·simp only [go_sem,CvH]
    first|exact ⟨yN,yN,yN⟩|trivial
  replace H:=yI hc H
  refine sq zB ?_
  simp only [go_sem,Nat.reduceLeDiff,Nat.reduceLT,Nat.reduceAdd]
  repeat ((with_reducible refine aI ?_ ?_);exact an5)
  refine xJ rfl trivial (fun hc=>?_) (fun hc=>?_)
  ·replace H:=yJ hc H
   refine sq zB ?_
   simp only [go_sem,Nat.reduceAdd]
   refine rg zB ?_
   simp only [go_sem,Nat.reduceLT,Nat.reduceAdd]
   obtain rfl:=Option.some.inj H
   refine xO [] [none,none,none] ?_ ?_ ?_ ?_ (by rfl) (by rfl)
   ·simp only [go_sem]
    try exact at0
   ·simp only [go_sem]
    try exact at0
   ·simp only [go_sem]
    exact vQ (zA (by first|(simp [Cv,CvL];done)|(simp [Cv,CvL,yE,zU];omega)) (zA (by first|(simp [Cv];done)|(simp [Cv,CvL,yE,zU];omega)) (zA (by simp [Cv]) xU)))
   ·simp only [go_sem,CvH]
    first|exact ⟨yN,yN,yN⟩|trivial
  replace H:=yI hc H
  refine rg zB ?_
  simp only [go_sem]
  refine zW ?_
  obtain ⟨r12,e13,H⟩:=bsi H
  refine rg ct20t3_ok ?_
  simp only [go_sem,Nat.reduceLT,Nat.reduceAdd,ct20t3_56,fG,e13]
  refine zW ?_
  refine sq zB ?_
  simp only [go_sem]
  refine xJ rfl trivial (fun hc=>?_) (fun hc=>?_)
  ·replace H:=yJ hc H
   obtain ⟨f14,H⟩:=nI H
   refine rg zB ?_
   simp only [go_sem,Nat.reduceLeDiff,Nat.reduceLT,Nat.reduceAdd,f14]
   refine zW ?_
   refine sq zB ?_
   simp only [go_sem,Nat.reduceLeDiff,Nat.reduceLT,Nat.reduceAdd]
   refine xJ rfl trivial (fun hc=>?_) (fun hc=>?_)
   ·replace H:=yJ hc H
    refine rg zB ?_
    simp only [go_sem,Nat.reduceLeDiff,Nat.reduceLT,Nat.reduceAdd,reduceCtorEq]
    refine sq zB ?_
    simp only [go_sem,Nat.reduceLT,Nat.reduceAdd]
    repeat ((with_reducible refine aI ?_ ?_);exact an1)
    refine rg zB ?_
    simp only [go_sem,Nat.reduceLT,Nat.reduceAdd]
    obtain rfl:=Option.some.inj H
    refine xO [] [some 5,some 6,some 7] ?_ ?_ ?_ ?_ (by rfl) (by rfl)
    ·simp only [go_sem]
     try exact at0
    ·simp only [go_sem]
     try exact at0
    ·simp only [go_sem]
     exact vQ (zA (by first|(simp [Cv,CvL,yE];done)|(simp [Cv,CvL,yE,zU];omega)) (zA (by first|(simp [Cv,yE];done)|(simp [Cv,CvL,yE,zU];omega)) (zA (by simp [Cv]) xU)))
    ·simp only [go_sem,CvH]
     first|exact ⟨zO xC cl (uV (f:=zH) r12.Trees r7.1.toNat 0 (TTree.mk (A6u8.mk p1.Root.x0 p1.Root.x1 p1.Root.x2 p1.Root.x3 p1.Root.x4 p1.Root.x5) (A6u8.mk p2.x0 p2.x1 p2.x2 p2.x3 p2.x4 p2.x5) p1.Seq (wr .i64 (p1.Hops+1)) (wr .i64 (p1.Cost+p3)) p1.Gate (wr .i64 (p4+5000000))) (fun _ _ _ _=>rfl) (fun y hy=>match y,hy with|0,_=>rfl|1,_=>rfl|2,_=>rfl|3,_=>rfl|4,_=>rfl|5,_=>rfl|6,_=>rfl|7,_=>rfl|8,_=>rfl|9,_=>rfl|10,_=>rfl|11,_=>rfl|12,_=>rfl|13,_=>rfl|14,_=>rfl|15,_=>rfl|16,_=>rfl|(y+17),h=>absurd h nlt)),zO xB cl (fun _ _ _ _=>rfl),zO kI cl (vP (f:=yF) [(TRootWord.mk (A6u8.mk p1.Root.x0 p1.Root.x1 p1.Root.x2 p1.Root.x3 p1.Root.x4 p1.Root.x5) p1.Seq (wr .i64 (p1.Hops+1)) (wr .i64 (p1.Cost+p3)) p1.Gate)] (fun _ _=>rfl) rfl)⟩|trivial
   replace H:=yI hc H
   refine rg zB ?_
   simp only [go_sem]
   refine sq zB ?_
   simp only [go_sem,Nat.reduceLT,Nat.reduceAdd]
   refine rg zB ?_
   simp only [go_sem,Nat.reduceLT,Nat.reduceAdd]
   obtain rfl:=Option.some.inj H
   refine xO [] [some 5,some 6,none] ?_ ?_ ?_ ?_ (by rfl) (by rfl)
   ·simp only [go_sem]
    try exact at0
   ·simp only [go_sem]
    try exact at0
   ·simp only [go_sem]
    exact vQ (zA (by first|(simp [Cv,CvL,yE];done)|(simp [Cv,CvL,yE,zU];omega)) (zA (by first|(simp [Cv];done)|(simp [Cv,CvL,yE,zU];omega)) (zA (by simp [Cv]) xU)))
   ·simp only [go_sem,CvH]
    first|exact ⟨zO xC cl (uV (f:=zH) r12.Trees r7.1.toNat 0 (TTree.mk (A6u8.mk p1.Root.x0 p1.Root.x1 p1.Root.x2 p1.Root.x3 p1.Root.x4 p1.Root.x5) (A6u8.mk p2.x0 p2.x1 p2.x2 p2.x3 p2.x4 p2.x5) p1.Seq (wr .i64 (p1.Hops+1)) (wr .i64 (p1.Cost+p3)) p1.Gate (wr .i64 (p4+5000000))) (fun _ _ _ _=>rfl) (fun y hy=>match y,hy with|0,_=>rfl|1,_=>rfl|2,_=>rfl|3,_=>rfl|4,_=>rfl|5,_=>rfl|6,_=>rfl|7,_=>rfl|8,_=>rfl|9,_=>rfl|10,_=>rfl|11,_=>rfl|12,_=>rfl|13,_=>rfl|14,_=>rfl|15,_=>rfl|16,_=>rfl|(y+17),h=>absurd h nlt)),zO xB cl (fun _ _ _ _=>rfl),yN⟩|trivial
  replace H:=yI hc H
  obtain ⟨f15,H⟩:=zM.1 H
  replace f15:=insb_iff.1 f15
  refine rg ct20t4_ok ?_
  simp only [go_sem,Nat.reduceLeDiff,Nat.reduceLT,Nat.reduceAdd,Nat.reduceEqDiff,ct20t4_59,insN,f15]
  refine zW ?_
  refine zW ?_
  obtain ⟨w16,hw17,H⟩:=bsj H
  have lhw17:w16.length=1:=by rw [← hw17];exact cl
  obtain ⟨w18,hw19,H⟩:=bsj H
  have lhw19:w18.length=r12.Trees.length+1:=by rw [← hw19];exact (ins_len f15 cl)
  refine vD (t2:=(tp 5 (.ptr 0 0 0 0::tp 4 (.ptr 3 0 0 0::.ro 0 0 true (fun _ _=>.top)::.top::.top::.ptr 4 0 0 0::tp 142 [])))) (h2:=[.lit 41 [.int .u8 r12.Own.x0,.int .u8 r12.Own.x1,.int .u8 r12.Own.x2,.int .u8 r12.Own.x3,.int .u8 r12.Own.x4,.int .u8 r12.Own.x5,.bool r12.Root,.bool r12.Gate,.int .i64 r12.Seq,.sl 8 17 0 w18.length false,.sl 6 13 0 r12.Proxies.length false],.lit 25 [.int .u8 p1.Root.x0,.int .u8 p1.Root.x1,.int .u8 p1.Root.x2,.int .u8 p1.Root.x3,.int .u8 p1.Root.x4,.int .u8 p1.Root.x5,.int .i64 p1.Seq,.int .i64 p1.Hops,.int .i64 p1.Cost,.bool p1.Gate],.lit 23 [.int .u8 p2.x0,.int .u8 p2.x1,.int .u8 p2.x2,.int .u8 p2.x3,.int .u8 p2.x4,.int .u8 p2.x5],.lit 41 [.int .u8 0,.int .u8 0,.int .u8 0,.int .u8 0,.int .u8 0,.int .u8 0,.bool false,.bool false,.int .i64 0,.ro 0 0 true (fun _ _=>.top),.ro 0 0 true (fun _ _=>.top)],.lit 62 [.int .u8 p1.Root.x0,.int .u8 p1.Root.x1,.int .u8 p1.Root.x2,.int .u8 p1.Root.x3,.int .u8 p1.Root.x4,.int .u8 p1.Root.x5,.int .u8 p2.x0,.int .u8 p2.x1,.int .u8 p2.x2,.int .u8 p2.x3,.int .u8 p2.x4,.int .u8 p2.x5,.int .i64 p1.Seq,.int .i64 (wr .i64 (p1.Hops+1)),.int .i64 (wr .i64 (p1.Cost+p3)),.bool p1.Gate,.int .i64 (wr .i64 (p4+5000000))],.dead,.row 64 13 r12.Proxies.length (enR zC r12.Proxies),.row 62 17 w16.length (enR zH w16),.row 62 17 w18.length (enR zH w18)]) ?_ ?_
  ·refine zN ⟨[some 0,some 1,some 2,some 3,some 4,some 5,some 6,some 7,some 8],?_,?_,by rfl,by rfl⟩
   ·simp [CvL,Cv,yE,tp]
   ·exact ⟨(by simp [CvB,CvL,Cv,tC,geth,yE,lhw19]),(by simp [CvB,CvL,Cv,tC,geth]),(by simp [CvB,CvL,Cv,tC,geth]),(by simp [CvB,CvL,Cv,tC,geth]),(by simp [CvB,CvL,Cv,tC,geth]),zD,zO xB rfl (fun _ _ _ _=>rfl),zO xC lhw17 (hw17 ▸ (vP (f:=zH) [(TTree.mk (A6u8.mk p1.Root.x0 p1.Root.x1 p1.Root.x2 p1.Root.x3 p1.Root.x4 p1.Root.x5) (A6u8.mk p2.x0 p2.x1 p2.x2 p2.x3 p2.x4 p2.x5) p1.Seq (wr .i64 (p1.Hops+1)) (wr .i64 (p1.Cost+p3)) p1.Gate (wr .i64 (p4+5000000)))] (fun _ _=>rfl) rfl)),zO xC lhw19 (hw19 ▸ (ins_row f15 cl (fun _ _ _ _=>rfl) (vP (f:=zH) [(TTree.mk (A6u8.mk p1.Root.x0 p1.Root.x1 p1.Root.x2 p1.Root.x3 p1.Root.x4 p1.Root.x5) (A6u8.mk p2.x0 p2.x1 p2.x2 p2.x3 p2.x4 p2.x5) p1.Seq (wr .i64 (p1.Hops+1)) (wr .i64 (p1.Cost+p3)) p1.Gate (wr .i64 (p4+5000000)))] (fun _ _=>rfl) rfl))),trivial⟩
  simp only [tp]
  refine rg zB ?_
  simp only [go_sem,Nat.reduceLeDiff,Nat.reduceLT,Nat.reduceAdd]
  refine xJ rfl trivial (fun hc=>?_) (fun hc=>?_)
  ·replace H:=yJ hc H
   refine rg zB ?_
   simp only [go_sem,Nat.reduceLeDiff,Nat.reduceLT,Nat.reduceAdd,reduceCtorEq]
   refine sq zB ?_
   simp only [go_sem,Nat.reduceLT,Nat.reduceAdd]
   repeat ((with_reducible refine aI ?_ ?_);exact an1)
   refine rg zB ?_
   simp only [go_sem,Nat.reduceLT,Nat.reduceAdd]
   obtain rfl:=Option.some.inj H
   refine xO [] [some 8,some 6,some 9] ?_ ?_ ?_ ?_ (by rfl) (by rfl)
   ·simp only [go_sem]
    try exact at0
   ·simp only [go_sem]
    try exact at0
   ·simp only [go_sem]
    exact vQ (zA (by first|(simp [Cv,CvL,yE];done)|(simp [Cv,CvL,yE,zU];omega)) (zA (by first|(simp [Cv,yE];done)|(simp [Cv,CvL,yE,zU];omega)) (zA (by simp [Cv]) xU)))
   ·simp only [go_sem,CvH]
    first|exact ⟨zO xC cl (fun _ _ _ _=>rfl),zO xB cl (fun _ _ _ _=>rfl),zO kI cl (vP (f:=yF) [(TRootWord.mk (A6u8.mk p1.Root.x0 p1.Root.x1 p1.Root.x2 p1.Root.x3 p1.Root.x4 p1.Root.x5) p1.Seq (wr .i64 (p1.Hops+1)) (wr .i64 (p1.Cost+p3)) p1.Gate)] (fun _ _=>rfl) rfl)⟩|trivial
  replace H:=yI hc H
  refine rg zB ?_
  simp only [go_sem]
  refine sq zB ?_
  simp only [go_sem,Nat.reduceLT,Nat.reduceAdd]
  refine rg zB ?_
  simp only [go_sem,Nat.reduceLT,Nat.reduceAdd]
  obtain rfl:=Option.some.inj H
  refine xO [] [some 8,some 6,none] ?_ ?_ ?_ ?_ (by rfl) (by rfl)
  ·simp only [go_sem]
   try exact at0
  ·simp only [go_sem]
   try exact at0
  ·simp only [go_sem]
   exact vQ (zA (by first|(simp [Cv,CvL,yE];done)|(simp [Cv,CvL,yE,zU];omega)) (zA (by first|(simp [Cv];done)|(simp [Cv,CvL,yE,zU];omega)) (zA (by simp [Cv]) xU)))
  ·simp only [go_sem,CvH]
   first|exact ⟨zO xC cl (fun _ _ _ _=>rfl),zO xB cl (fun _ _ _ _=>rfl),yN⟩|trivial
 ·cases hb
noncomputable def F67_0 (p0:TTree) (p1:Bool):Option (Bool) :=
 some (p1 && (!p0.Gate))
noncomputable def tT:List AV->AR
 | [v0,v1]=>.pure (aK 17 xF v0/\rK 1 k_b v1/\(F67_0 (zV (aL v0)) (g_b (rG v1))).isSome=true) (.bool (gt (F67_0 (zV (aL v0)) (g_b (rG v1)))))
 | _=>.fail
theorem ok67_0:wS Try.prog 67 (yD tT):=by
 refine xH tT (rs:=[.tmp 3]) Try.func67 (by kernel_rfl) rfl rfl ?_
 intro l ob v hb hob
 unfold tT at hb
 split at hb
 ·rename_i v0 v1
  injection hb with q1 q2;subst q1 q2
  obtain ⟨hk0_0,hk1_0,hob⟩:=hob
  obtain ⟨r,H⟩:=oE.1 hob
  rw [H,zU]
  have hw0:=fD hk0_0
  have hw1:=rK_wk (f:=c_b) (g:=g_b) (fun r h=>w_b h) hk1_0
  generalize zV (aL v0)=p0 at H hw0
  generalize g_b (rG v1)=p1 at H hw1
  refine ⟨[.agg [.int .u8 p0.Root.x0,.int .u8 p0.Root.x1,.int .u8 p0.Root.x2,.int .u8 p0.Root.x3,.int .u8 p0.Root.x4,.int .u8 p0.Root.x5,.int .u8 p0.Parent.x0,.int .u8 p0.Parent.x1,.int .u8 p0.Parent.x2,.int .u8 p0.Parent.x3,.int .u8 p0.Parent.x4,.int .u8 p0.Parent.x5,.int .i64 p0.Seq,.int .i64 p0.Hops,.int .i64 p0.Cost,.bool p0.Gate,.int .i64 p0.Until],.rptr 1 1 0 0 (enR c_b [p1])],_,(fun E vs F=>yU hw0.1 F (fun vs F=>yU hw1.1 F (fun vs F=>F))),rfl,rfl,?_⟩
  rw [Try.ntmps67]
  simp only [lC,lN,Nat.reduceAdd,Nat.reduceSub,rS,rZ,aC,aN]
  unfold F67_0 at H
  refine sq zB ?_
  simp only [go_sem]
  refine sq zB ?_
  simp only [go_sem,Nat.reduceLeDiff,Nat.reduceLT,Nat.reduceAdd]
  refine rg zB ?_
  simp only [go_sem]
  obtain rfl:=Option.some.inj H
  first|rfl|simp only [Bool.and_false,Bool.false_and,Bool.and_true,Bool.true_and]
 ·cases hb
noncomputable def ct91_0t0:Ct:=tab [(67,yD tT)]
theorem ct91_0t0_ok:xK Try.prog ct91_0t0:=yG ok67_0 <| yM
theorem ct91_0t0_67 (l:List AV) (h:List ABlk):ct91_0t0 67 l h=yD tT l h:=rfl
noncomputable def kY (p0:List TTree) (p1:Bool) (v1_1:Int):Option (Lp (Int) ((Unit) ⊕ (Int))) :=
 bif (bLt v1_1 (p0.length:Nat)) then (need (inb v1_1 p0.length) <| (F67_0 (TTree.mk (A6u8.mk (((gd p0 v1_1.toNat).Root).x0) (((gd p0 v1_1.toNat).Root).x1) (((gd p0 v1_1.toNat).Root).x2) (((gd p0 v1_1.toNat).Root).x3) (((gd p0 v1_1.toNat).Root).x4) (((gd p0 v1_1.toNat).Root).x5)) (A6u8.mk (((gd p0 v1_1.toNat).Parent).x0) (((gd p0 v1_1.toNat).Parent).x1) (((gd p0 v1_1.toNat).Parent).x2) (((gd p0 v1_1.toNat).Parent).x3) (((gd p0 v1_1.toNat).Parent).x4) (((gd p0 v1_1.toNat).Parent).x5)) ((gd p0 v1_1.toNat).Seq) ((gd p0 v1_1.toNat).Hops) ((gd p0 v1_1.toNat).Cost) ((gd p0 v1_1.toNat).Gate) ((gd p0 v1_1.toNat).Until)) p1).bind fun r2=>bif r2 then (some (.done (.inr v1_1))) else (some (.next (wr .i64 (v1_1+1))))) else (some (.done (.inl ())))
noncomputable def F91_0 (p0:List TTree) (p1:Bool):Option (Int) :=
 lp (yP (fun s=>kY p0 p1 s) 0) (fun _=>some (-1)) some
noncomputable def gM:List AV->AR
 | [v0,.fn 67 [v1]]=>.pure (lK xF 17 v0/\rK 1 k_b v1/\(F91_0 (lA zV v0) (g_b (rG v1))).isSome=true) (.int .i64 (gt (F91_0 (lA zV v0) (g_b (rG v1)))))
 | _=>.fail
theorem ok91_0:wS Try.prog 91 (yD gM):=by
 refine xH gM (rs:=[.tmp 4]) Try.func91 (by kernel_rfl) rfl rfl ?_
 intro l ob v hb hob
 unfold gM at hb
 split at hb
 ·rename_i v0 v1
  injection hb with q1 q2;subst q1 q2
  obtain ⟨hk0_0,hk1_0,hob⟩:=hob
  obtain ⟨r,H⟩:=oE.1 hob
  rw [H,zU]
  have hw0:=vN (fun r h=>vY h) hk0_0
  have hw1:=rK_wk (f:=c_b) (g:=g_b) (fun r h=>w_b h) hk1_0
  generalize lA zV v0=p0 at H hw0
  generalize g_b (rG v1)=p1 at H hw1
  refine ⟨[.ro 17 p0.length false (enR zH p0),.fn 67 [.rptr 1 1 0 0 (enR c_b [p1])]],_,(fun E vs F=>yU hw0.1 F (fun vs F=>yU (fn_wk (LW_cons hw1.1 LW_nil)) F (fun vs F=>F))),rfl,rfl,?_⟩
  rw [Try.ntmps91]
  simp only [lC,lN,Nat.reduceAdd,Nat.reduceSub,rS,rZ,aC,aN]
  unfold F91_0 at H
  refine sq zB ?_
  simp only [go_sem]
  refine zW ?_
  refine sq zB ?_
  simp only [go_sem]
  refine vE ?_
  refine xQ (fun s:Int=>(.ro 17 p0.length false (enR zH p0)::.fn 67 [.rptr 1 1 0 0 (enR c_b [p1])]::tp 5 (.int .i64 (p0.length:Nat)::.int .i64 s::tp 10 []))) (fun s=>[]) (fun e:Unit=>(tp 19 [])) (fun e=>[]) H ?_ (fun v1_1 o H hn1_1 hn2_1=>?_) (fun e H=>?_)
  ·refine zN ⟨[],?_,?_,by rfl,by rfl⟩
   ·simp [CvL,Cv,tp]
   ·trivial
  ·unfold kY at H
   try simp only [tp]
   refine sq zB ?_
   simp only [go_sem]
   refine zW ?_
   refine condM' rfl trivial (fun hc=>?_) (fun hc=>?_)
   ·replace H:=yI hc H
    refine rg zB ?_
    simp only [go_sem]
    refine ⟨_,(Option.some.inj H).symm,?_⟩
    refine zN ⟨[],?_,?_,by rfl,by rfl⟩
    ·simp [CvL,Cv]
    ·trivial
   replace H:=yJ hc H
   refine rg zB ?_
   simp only [go_sem]
   refine zW ?_
   refine vE ?_
   refine sq zB ?_
   simp only [go_sem]
   refine zW ?_
   obtain ⟨f1,H⟩:=nI H
   obtain ⟨r2,e3,H⟩:=bsi H
   refine rg ct91_0t0_ok ?_
   simp only [go_sem,Nat.reduceLT,Nat.reduceAdd,ct91_0t0_67,tT,f1,e3]
   refine xJ rfl trivial (fun hc=>?_) (fun hc=>?_)
   ·replace H:=yJ hc H
    refine sq zB ?_
    simp only [go_sem]
    refine rg zB ?_
    simp only [go_sem]
    have H:=hn2_1 _ (Option.some.inj H).symm
    obtain rfl:=Option.some.inj H
    first|rfl|simp only [Bool.and_false,Bool.false_and,Bool.and_true,Bool.true_and]
   replace H:=yI hc H
   refine rg zB ?_
   simp only [go_sem]
   refine rg zB ?_
   simp only [go_sem]
   refine ⟨_,(Option.some.inj H).symm,?_⟩
   refine zN ⟨[],?_,?_,by rfl,by rfl⟩
   ·simp [CvL,Cv]
   ·trivial
  ·try dsimp only at H ⊢
   try simp only [tp]
   try simp only [xA]
   refine sq zB ?_
   simp only [go_sem]
   refine rg zB ?_
   simp only [go_sem]
   obtain rfl:=Option.some.inj H
   first|rfl|simp only [Bool.and_false,Bool.false_and,Bool.and_true,Bool.true_and]
 ·cases hb
noncomputable def ct62_0t0:Ct:=tab [(91,yD gM)]
theorem ct62_0t0_ok:xK Try.prog ct62_0t0:=yG ok91_0 <| yM
theorem ct62_0t0_91 (l:List AV) (h:List ABlk):ct62_0t0 91 l h=yD gM l h:=rfl
noncomputable def ct62_0t1:Ct:=tab [(67,yD tT)]
theorem ct62_0t1_ok:xK Try.prog ct62_0t1:=yG ok67_0 <| yM
theorem ct62_0t1_67 (l:List AV) (h:List ABlk):ct62_0t1 67 l h=yD tT l h:=rfl
noncomputable def F62_0_L1 (p1:Bool) (v1_1:List TTree) (v1_2:Int) (v1_3:Int):Option (Lp ((List TTree) × Int × Int) (((List TTree) × Int) ⊕ (List TTree))) :=
 bif (bLt v1_3 (v1_1.length:Nat)) then (need (inb v1_3 v1_1.length) <| (F67_0 (TTree.mk (A6u8.mk (((gd v1_1 v1_3.toNat).Root).x0) (((gd v1_1 v1_3.toNat).Root).x1) (((gd v1_1 v1_3.toNat).Root).x2) (((gd v1_1 v1_3.toNat).Root).x3) (((gd v1_1 v1_3.toNat).Root).x4) (((gd v1_1 v1_3.toNat).Root).x5)) (A6u8.mk (((gd v1_1 v1_3.toNat).Parent).x0) (((gd v1_1 v1_3.toNat).Parent).x1) (((gd v1_1 v1_3.toNat).Parent).x2) (((gd v1_1 v1_3.toNat).Parent).x3) (((gd v1_1 v1_3.toNat).Parent).x4) (((gd v1_1 v1_3.toNat).Parent).x5)) ((gd v1_1 v1_3.toNat).Seq) ((gd v1_1 v1_3.toNat).Hops) ((gd v1_1 v1_3.toNat).Cost) ((gd v1_1 v1_3.toNat).Gate) ((gd v1_1 v1_3.toNat).Until)) p1).bind fun r4=>bif (!r4) then (need (inb v1_2 v1_1.length) <| some (.next ((v1_1.set v1_2.toNat (TTree.mk (A6u8.mk (((gd v1_1 v1_3.toNat).Root).x0) (((gd v1_1 v1_3.toNat).Root).x1) (((gd v1_1 v1_3.toNat).Root).x2) (((gd v1_1 v1_3.toNat).Root).x3) (((gd v1_1 v1_3.toNat).Root).x4) (((gd v1_1 v1_3.toNat).Root).x5)) (A6u8.mk (((gd v1_1 v1_3.toNat).Parent).x0) (((gd v1_1 v1_3.toNat).Parent).x1) (((gd v1_1 v1_3.toNat).Parent).x2) (((gd v1_1 v1_3.toNat).Parent).x3) (((gd v1_1 v1_3.toNat).Parent).x4) (((gd v1_1 v1_3.toNat).Parent).x5)) ((gd v1_1 v1_3.toNat).Seq) ((gd v1_1 v1_3.toNat).Hops) ((gd v1_1 v1_3.toNat).Cost) ((gd v1_1 v1_3.toNat).Gate) ((gd v1_1 v1_3.toNat).Until))),wr .i64 (v1_2+1),wr .i64 (v1_3+1)))) else (some (.next (v1_1,v1_2,wr .i64 (v1_3+1))))) else (some (.done (.inl (v1_1,v1_2))))
noncomputable def dQ (p0:List TTree) (p1:Bool):Option (List TTree) :=
 (F91_0 p0 p1).bind fun r1=>bif (bEq r1 (-1)) then (some p0) else (lp (yP (fun s=>F62_0_L1 p1 s.1 s.2.1 s.2.2) (p0,r1,wr .i64 (r1+1))) (fun e1=>need (slb e1.2 (e1.1.length:Nat) e1.1.length) <| need (slb 0 e1.2 e1.1.length) <| some (List.take e1.2.toNat e1.1)) some)
noncomputable def gJ:List AV->List ABlk->ED
 | [v0,.fn 67 [v1]],h=>.ed [slN v0] (oS 62 17 h v0/\lK xF 17 (roW h v0)/\rK 1 k_b (roD (zG h [slN v0]) v1)/\uY (zG h [slN v0]) v1/\(dQ (lA zV (roW h v0)) (g_b (rG (roD (zG h [slN v0]) v1)))).isSome=true) (.sl 1 17 0 ((gt (dQ (lA zV (roW h v0)) (g_b (rG (roD (zG h [slN v0]) v1))))).length) false) [.dead,.row 62 17 ((gt (dQ (lA zV (roW h v0)) (g_b (rG (roD (zG h [slN v0]) v1))))).length) (enR zH (gt (dQ (lA zV (roW h v0)) (g_b (rG (roD (zG h [slN v0]) v1))))))]
 | _,_=>.fail
theorem ok62_0:wS Try.prog 62 (edC gJ):=by
 refine qO gJ (rs:=[.tmp 4]) Try.func62 (by kernel_rfl) rfl rfl ?_
 intro l h bs ob q0 g0 hb hob
 unfold gJ at hb
 split at hb
 ·rename_i v0 v1
  injection hb with q1 q2 q3 q4;subst q1 q2 q3 q4
  obtain ⟨hk0_0,hk0_1,hk1_0,hk1_1,hob⟩:=hob
  obtain ⟨r,H⟩:=oE.1 hob
  rw [H,zU]
  obtain ⟨p0,hp0⟩:∃ p0,p0=lA zV (roW h v0):=⟨_,rfl⟩
  rw [← hp0] at H
  obtain ⟨ev0,eb0⟩:=own_row2 (f:=zH) (g:=zV) (bs:=[slN v0]) (i:=0) (fun hr=>vY hr) hk0_0 hk0_1 (L:=p0) (by rw [hp0]) rfl
  have hw1:=rK_wk (f:=c_b) (g:=g_b) (fun r h=>w_b h) hk1_0
  obtain ⟨p1,hp_p1⟩:∃ p1,p1=g_b (rG (roD (zG h [slN v0]) v1)):=⟨_,rfl⟩
  rw [← hp_p1] at H hw1
  refine ⟨[.sl 0 17 0 p0.length false,.fn 67 [.rptr 1 1 0 0 (enR c_b [p1])]],[.row 62 17 p0.length (enR zH p0)],rfl,⟨(EW_own ev0 (by simp only [noro])),⟨(EW_fn ⟨(vO hk1_1 hw1),trivial⟩),trivial⟩⟩,⟨eb0,trivial⟩,⟨wU,trivial⟩,⟨trivial,⟨(qI xC),trivial⟩⟩,⟨trivial,⟨wU,trivial⟩⟩,(by first|(simp only [noro];done)|(simp only [noro,xY];and_intros<;>first|trivial|exact gZ (by simp only [noro]) (by simp only [noro])|(simp only [noro,xY,and_self]))),?_⟩
  rw [Try.ntmps62]
  simp only [lC,lN,Nat.reduceAdd,Nat.reduceSub,rS,rZ,aC,aN]
  unfold dQ at H
  refine sq zB ?_
  simp only [go_sem]
  refine zW ?_
  obtain ⟨r1,e2,H⟩:=bsi H
  refine rg ct62_0t0_ok ?_
  simp only [go_sem,Nat.reduceLT,ct62_0t0_91,gM,e2]
  repeat ((with_reducible refine aI ?_ ?_);exact an0)
  refine zW ?_
  refine sq zB ?_
  simp only [go_sem]
  refine xJ rfl trivial (fun hc=>?_) (fun hc=>?_)
  ·replace H:=yJ hc H
   refine sq zB ?_
   simp only [go_sem]
   refine rg zB ?_
   simp only [go_sem]
   obtain rfl:=Option.some.inj H
   refine xO [] [some 0,some 0] ?_ ?_ ?_ ?_ (by rfl) (by rfl)
   ·simp only [go_sem]
    try exact at0
   ·simp only [go_sem]
    try exact at0
   ·simp only [go_sem]
    exact (by first|(simp [Cv,yE];done)|(simp [Cv,CvL,yE,zU];omega))
   ·simp only [go_sem,CvH]
    first|exact ⟨zD,zO xC cl (fun _ _ _ _=>rfl)⟩|trivial
  replace H:=yI hc H
  refine rg zB ?_
  simp only [go_sem]
  refine zW ?_
  refine sq zB ?_
  simp only [go_sem]
  refine vE ?_
  refine xQ (fun s:(List TTree) × Int × Int=>(.sl 1 17 0 s.1.length false::.fn 67 [.rptr 1 1 0 0 (enR c_b [p1])]::.top::.top::.top::.int .i64 s.2.1::.int .i64 s.2.2::tp 35 [])) (fun s=>[.dead,.row 62 17 s.1.length (enR zH s.1)]) (fun e:(List TTree) × Int=>(.sl 1 17 0 e.1.length false::tp 4 (.int .i64 e.2::tp 36 []))) (fun e=>[.dead,.row 62 17 e.1.length (enR zH e.1)]) H ?_ (fun s o H hn1_1 hn2_1=>?_) (fun e H=>?_)
  ·refine zN ⟨[some 0,some 0],?_,?_,by rfl,by rfl⟩
   ·simp [CvL,Cv,yE,tp]
   ·exact ⟨zD,zO xC cl (fun _ _ _ _=>rfl),trivial⟩
  ·obtain ⟨v1_1,v1_2,v1_3⟩:=s
   unfold F62_0_L1 at H
   try dsimp only at H ⊢
   try simp only [tp]
   refine zW ?_
   refine sq zB ?_
   simp only [go_sem]
   repeat ((with_reducible refine aI ?_ ?_);exact an0)
   refine condM' rfl trivial (fun hc=>?_) (fun hc=>?_)
   ·replace H:=yI hc H
    refine rg zB ?_
    simp only [go_sem]
    refine ⟨_,(Option.some.inj H).symm,?_⟩
    refine zN ⟨[some 0,some 1],?_,?_,by rfl,by rfl⟩
    ·simp [CvL,Cv,yE]
    ·exact ⟨zD,zO xC cl (fun _ _ _ _=>rfl),trivial⟩
   replace H:=yJ hc H
   refine rg zB ?_
   simp only [go_sem]
   refine zW ?_
   refine vE ?_
   refine zW ?_
   obtain ⟨f3,H⟩:=nI H
   refine rg zB ?_
   simp only [go_sem,Nat.reduceLT,Nat.reduceAdd,f3]
   repeat ((with_reducible refine aI ?_ ?_);exact an1)
   refine zW ?_
   obtain ⟨r4,e5,H⟩:=bsi H
   refine rg ct62_0t1_ok ?_
   simp only [go_sem,Nat.reduceLT,Nat.reduceAdd,ct62_0t1_67,tT,e5]
   refine condM' rfl trivial (fun hc=>?_) (fun hc=>?_)
   ·replace H:=yI hc H
    refine rg zB ?_
    simp only [go_sem]
    refine rg zB ?_
    simp only [go_sem]
    refine ⟨_,(Option.some.inj H).symm,?_⟩
    refine zN ⟨[some 0,some 1],?_,?_,by rfl,by rfl⟩
    ·simp [CvL,Cv,yE]
    ·exact ⟨zD,zO xC cl (fun _ _ _ _=>rfl),trivial⟩
   replace H:=yJ hc H
   refine zW ?_
   obtain ⟨f6,H⟩:=nI H
   refine rg zB ?_
   simp only [go_sem,Nat.reduceLT,Nat.reduceAdd,f6]
   repeat ((with_reducible refine aI ?_ ?_);exact an1)
   refine rg zB ?_
   simp only [go_sem]
   refine rg zB ?_
   simp only [go_sem]
   refine ⟨_,(Option.some.inj H).symm,?_⟩
   refine zN ⟨[some 0,some 1],?_,?_,by rfl,by rfl⟩
   ·simp [CvL,Cv,yE]
   ·exact ⟨zD,zO xC cl (uV (f:=zH) v1_1 v1_2.toNat 0 (TTree.mk (A6u8.mk (((gd v1_1 v1_3.toNat).Root).x0) (((gd v1_1 v1_3.toNat).Root).x1) (((gd v1_1 v1_3.toNat).Root).x2) (((gd v1_1 v1_3.toNat).Root).x3) (((gd v1_1 v1_3.toNat).Root).x4) (((gd v1_1 v1_3.toNat).Root).x5)) (A6u8.mk (((gd v1_1 v1_3.toNat).Parent).x0) (((gd v1_1 v1_3.toNat).Parent).x1) (((gd v1_1 v1_3.toNat).Parent).x2) (((gd v1_1 v1_3.toNat).Parent).x3) (((gd v1_1 v1_3.toNat).Parent).x4) (((gd v1_1 v1_3.toNat).Parent).x5)) ((gd v1_1 v1_3.toNat).Seq) ((gd v1_1 v1_3.toNat).Hops) ((gd v1_1 v1_3.toNat).Cost) ((gd v1_1 v1_3.toNat).Gate) ((gd v1_1 v1_3.toNat).Until)) (fun _ _ _ _=>rfl) (fun y hy=>match y,hy with|0,_=>rfl|1,_=>rfl|2,_=>rfl|3,_=>rfl|4,_=>rfl|5,_=>rfl|6,_=>rfl|7,_=>rfl|8,_=>rfl|9,_=>rfl|10,_=>rfl|11,_=>rfl|12,_=>rfl|13,_=>rfl|14,_=>rfl|15,_=>rfl|16,_=>rfl|(y+17),h=>absurd h nlt)),trivial⟩
  ·obtain ⟨w1_4,w1_5⟩:=e
   try dsimp only at H ⊢
   try simp only [tp]
   try simp only [xA]
   refine zW ?_
   obtain ⟨f7,H⟩:=nS H
   refine rg zB ?_
   simp only [go_sem,Nat.reduceLeDiff,Nat.reduceAdd,f7]
   repeat ((with_reducible refine aI ?_ ?_);exact an2)
   refine zW ?_
   obtain ⟨f8,H⟩:=nS H
   refine rg zB ?_
   simp only [go_sem,f8]
   repeat ((with_reducible refine aI ?_ ?_);exact an1)
   refine rg zB ?_
   simp only [go_sem]
   obtain rfl:=Option.some.inj H
   refine xO [] [some 0,some 1] ?_ ?_ ?_ ?_ (by rfl) (by rfl)
   ·simp only [go_sem]
    try exact at0
   ·simp only [go_sem]
    try exact at0
   ·simp only [go_sem]
    exact (by first|(simp [Cv,yE,(show (List.take w1_5.toNat w1_4).length=w1_5.toNat from take_len (n:=w1_4.length) cl (by omega))];done)|(simp [Cv,CvL,yE,zU,(show (List.take w1_5.toNat w1_4).length=w1_5.toNat from take_len (n:=w1_4.length) cl (by omega))];omega))
   ·simp only [go_sem,CvH]
    first|exact ⟨zD,(CvB_pre xC (by rw [show (List.take w1_5.toNat w1_4).length=w1_5.toNat from take_len (n:=w1_4.length) cl (by omega)];omega) (clr_row (fun _ _ _ _=>rfl)))⟩|trivial
 ·cases hb
noncomputable def F93 (p0:Int):Option (Bool) :=
 some (!bEq p0 p0)
noncomputable def cG:List AV->AR
 | [v0]=>.pure (iK .i64 v0/\(F93 (iA v0)).isSome=true) (.bool (gt (F93 (iA v0))))
 | _=>.fail
theorem ok93:wS Try.prog 93 (yD cG):=by
 refine xH cG (rs:=[.tmp 2]) Try.func93 (by kernel_rfl) rfl rfl ?_
 intro l ob v hb hob
 unfold cG at hb
 split at hb
 ·rename_i v0
  injection hb with q1 q2;subst q1 q2
  obtain ⟨hk0_0,hob⟩:=hob
  obtain ⟨r,H⟩:=oE.1 hob
  rw [H,zU]
  have hw0:=zK hk0_0
  generalize iA v0=p0 at H hw0
  refine ⟨[.int .i64 p0],_,(fun E vs F=>yU hw0.1 F (fun vs F=>F)),rfl,rfl,?_⟩
  rw [Try.ntmps93]
  simp only [lC,lN,Nat.reduceAdd,Nat.reduceSub,rS,rZ,aC,aN]
  unfold F93 at H
  refine sq zB ?_
  simp only [go_sem]
  refine sq zB ?_
  simp only [go_sem]
  refine rg zB ?_
  simp only [go_sem]
  obtain rfl:=Option.some.inj H
  first|rfl|simp only [Bool.and_false,Bool.false_and,Bool.and_true,Bool.true_and]
 ·cases hb
noncomputable def ct71t0:Ct:=tab [(93,yD cG)]
theorem ct71t0_ok:xK Try.prog ct71t0:=yG ok93 <| yM
theorem ct71t0_93 (l:List AV) (h:List ABlk):ct71t0 93 l h=yD cG l h:=rfl
noncomputable def F71 (p0:Int) (p1:Int):Option (Int) :=
 (F93 p0).bind fun r1=>(F93 p1).bind fun r3=>bif r1 then (bif r3 then (some 0) else (some (-1))) else (bif r3 then (some 1) else (bif (bLt p0 p1) then (some (-1)) else (bif (bLt p1 p0) then (some 1) else (some 0))))
noncomputable def body71:List AV->AR
 | [v0,v1]=>.pure (iK .i64 v0/\iK .i64 v1/\(F71 (iA v0) (iA v1)).isSome=true) (.int .i64 (gt (F71 (iA v0) (iA v1))))
 | _=>.fail
theorem ok71:wS Try.prog 71 (yD body71):=by
 refine xH body71 (rs:=[.tmp 4]) Try.func71 (by kernel_rfl) rfl rfl ?_
 intro l ob v hb hob
 unfold body71 at hb
 split at hb
 ·rename_i v0 v1
  injection hb with q1 q2;subst q1 q2
  obtain ⟨hk0_0,hk1_0,hob⟩:=hob
  obtain ⟨r,H⟩:=oE.1 hob
  rw [H,zU]
  have hw0:=zK hk0_0
  have hw1:=zK hk1_0
  generalize iA v0=p0 at H hw0
  generalize iA v1=p1 at H hw1
  refine ⟨[.int .i64 p0,.int .i64 p1],_,(fun E vs F=>yU hw0.1 F (fun vs F=>yU hw1.1 F (fun vs F=>F))),rfl,rfl,?_⟩
  rw [Try.ntmps71]
  simp only [lC,lN,Nat.reduceAdd,Nat.reduceSub,rS,rZ,aC,aN]
  unfold F71 at H
  refine sq zB ?_
  simp only [go_sem]
  refine zW ?_
  obtain ⟨r1,e2,H⟩:=bsi H
  refine rg ct71t0_ok ?_
  simp only [go_sem,ct71t0_93,cG,e2]
  refine zW ?_
  obtain ⟨r3,e4,H⟩:=bsi H
  refine rg ct71t0_ok ?_
  simp only [go_sem,ct71t0_93,cG,e4]
  refine zW ?_
  refine sq zB ?_
  simp only [go_sem]
  refine xJ rfl trivial (fun hc=>?_) (fun hc=>?_)
  ·replace H:=yJ hc H
   refine zW ?_
   refine sq zB ?_
   simp only [go_sem]
   refine xJ rfl trivial (fun hc=>?_) (fun hc=>?_)
   ·replace H:=yJ hc H
    refine sq zB ?_
    simp only [go_sem]
    refine rg zB ?_
    simp only [go_sem]
    obtain rfl:=Option.some.inj H
    first|rfl|simp only [Bool.and_false,Bool.false_and,Bool.and_true,Bool.true_and]
   replace H:=yI hc H
   refine rg zB ?_
   simp only [go_sem]
   refine sq zB ?_
   simp only [go_sem]
   refine rg zB ?_
   simp only [go_sem]
   obtain rfl:=Option.some.inj H
   first|rfl|simp only [Bool.and_false,Bool.false_and,Bool.and_true,Bool.true_and]
  replace H:=yI hc H
  refine rg zB ?_
  simp only [go_sem]
  refine zW ?_
  refine sq zB ?_
  simp only [go_sem]
  refine xJ rfl trivial (fun hc=>?_) (fun hc=>?_)
  ·replace H:=yJ hc H
   refine sq zB ?_
   simp only [go_sem]
   refine rg zB ?_
   simp only [go_sem]
   obtain rfl:=Option.some.inj H
   first|rfl|simp only [Bool.and_false,Bool.false_and,Bool.and_true,Bool.true_and]
  replace H:=yI hc H
  refine rg zB ?_
  simp only [go_sem]
  refine zW ?_
  refine sq zB ?_
  simp only [go_sem]
  refine xJ rfl trivial (fun hc=>?_) (fun hc=>?_)
  ·replace H:=yJ hc H
   refine sq zB ?_
   simp only [go_sem]
   refine rg zB ?_
   simp only [go_sem]
   obtain rfl:=Option.some.inj H
   first|rfl|simp only [Bool.and_false,Bool.false_and,Bool.and_true,Bool.true_and]
  replace H:=yI hc H
  refine rg zB ?_
  simp only [go_sem]
  refine zW ?_
  refine sq zB ?_
  simp only [go_sem]
  refine xJ rfl trivial (fun hc=>?_) (fun hc=>?_)
  ·replace H:=yJ hc H
   refine sq zB ?_
   simp only [go_sem]
   refine rg zB ?_
   simp only [go_sem]
   obtain rfl:=Option.some.inj H
   first|rfl|simp only [Bool.and_false,Bool.false_and,Bool.and_true,Bool.true_and]
  replace H:=yI hc H
  refine rg zB ?_
  simp only [go_sem]
  refine sq zB ?_
  simp only [go_sem]
  refine rg zB ?_
  simp only [go_sem]
  obtain rfl:=Option.some.inj H
  first|rfl|simp only [Bool.and_false,Bool.false_and,Bool.and_true,Bool.true_and]
 ·cases hb
noncomputable def F70_L1 (p0:List Int) (v1_1:Int):Option (Lp (Int) ((Unit) ⊕ (Int))) :=
 bif (bLt v1_1 (p0.length:Nat)) then (need (inb v1_1 p0.length) <| bif (!bEq (gd p0 v1_1.toNat) 0) then (some (.done (.inr (gd p0 v1_1.toNat)))) else (some (.next (wr .i64 (v1_1+1))))) else (some (.done (.inl ())))
noncomputable def F70 (p0:List Int):Option (Int) :=
 lp (yP (fun s=>F70_L1 p0 s) 0) (fun _=>some 0) some
noncomputable def body70:List AV->AR
 | [v0]=>.pure (lK dV 1 v0/\(F70 (lA g_i64 v0)).isSome=true) (.int .i64 (gt (F70 (lA g_i64 v0))))
 | _=>.fail
theorem ok70:wS Try.prog 70 (yD body70):=by
 refine xH body70 (rs:=[.tmp 2]) Try.func70 (by kernel_rfl) rfl rfl ?_
 intro l ob v hb hob
 unfold body70 at hb
 split at hb
 ·rename_i v0
  injection hb with q1 q2;subst q1 q2
  obtain ⟨hk0_0,hob⟩:=hob
  obtain ⟨r,H⟩:=oE.1 hob
  rw [H,zU]
  have hw0:=vN (fun r h=>w_i64 h) hk0_0
  generalize lA g_i64 v0=p0 at H hw0
  refine ⟨[.ro 1 p0.length false (enR c_i64 p0)],_,(fun E vs F=>yU hw0.1 F (fun vs F=>F)),rfl,rfl,?_⟩
  rw [Try.ntmps70]
  simp only [lC,lN,Nat.reduceAdd,Nat.reduceSub,rS,rZ,aC,aN]
  unfold F70 at H
  refine sq zB ?_
  simp only [go_sem]
  refine sq zB ?_
  simp only [go_sem]
  refine zW ?_
  refine sq zB ?_
  simp only [go_sem]
  refine vE ?_
  refine xQ (fun s:Int=>(.top::.top::.top::.int .i64 0::.top::.top::.ro 1 p0.length false (enR c_i64 p0)::.int .i64 (p0.length:Nat)::.int .i64 s::tp 9 [])) (fun s=>[]) (fun e:Unit=>(.top::.top::.top::.int .i64 0::tp 14 [])) (fun e=>[]) H ?_ (fun v1_1 o H hn1_1 hn2_1=>?_) (fun e H=>?_)
  ·refine zN ⟨[],?_,?_,by rfl,by rfl⟩
   ·simp [CvL,Cv,tp]
   ·trivial
  ·unfold F70_L1 at H
   try simp only [tp]
   refine sq zB ?_
   simp only [go_sem]
   refine zW ?_
   refine condM' rfl trivial (fun hc=>?_) (fun hc=>?_)
   ·replace H:=yI hc H
    refine rg zB ?_
    simp only [go_sem]
    refine ⟨_,(Option.some.inj H).symm,?_⟩
    refine zN ⟨[],?_,?_,by rfl,by rfl⟩
    ·simp [CvL,Cv]
    ·trivial
   replace H:=yJ hc H
   refine rg zB ?_
   simp only [go_sem]
   refine zW ?_
   refine vE ?_
   refine zW ?_
   obtain ⟨f1,H⟩:=nI H
   refine rg zB ?_
   simp only [go_sem,Nat.reduceLT,f1]
   refine sq zB ?_
   simp only [go_sem]
   refine xJ rfl trivial (fun hc=>?_) (fun hc=>?_)
   ·replace H:=yJ hc H
    refine sq zB ?_
    simp only [go_sem]
    refine rg zB ?_
    simp only [go_sem]
    have H:=hn2_1 _ (Option.some.inj H).symm
    obtain rfl:=Option.some.inj H
    first|rfl|simp only [Bool.and_false,Bool.false_and,Bool.and_true,Bool.true_and]
   replace H:=yI hc H
   refine rg zB ?_
   simp only [go_sem]
   refine rg zB ?_
   simp only [go_sem]
   refine ⟨_,(Option.some.inj H).symm,?_⟩
   refine zN ⟨[],?_,?_,by rfl,by rfl⟩
   ·simp [CvL,Cv]
   ·trivial
  ·try dsimp only at H ⊢
   try simp only [tp]
   try simp only [xA]
   refine sq zB ?_
   simp only [go_sem]
   refine rg zB ?_
   simp only [go_sem]
   obtain rfl:=Option.some.inj H
   first|rfl|simp only [Bool.and_false,Bool.false_and,Bool.and_true,Bool.true_and]
 ·cases hb
noncomputable def ct69t0:Ct:=tab [(70,yD body70),(71,yD body71),(72,yD tE)]
theorem ct69t0_ok:xK Try.prog ct69t0:=yG ok70 <| yG ok71 <| yG ok72 <| yM
theorem ct69t0_70 (l:List AV) (h:List ABlk):ct69t0 70 l h=yD body70 l h:=rfl
theorem ct69t0_71 (l:List AV) (h:List ABlk):ct69t0 71 l h=yD body71 l h:=rfl
theorem ct69t0_72 (l:List AV) (h:List ABlk):ct69t0 72 l h=yD tE l h:=rfl
noncomputable def F69 (p0:TTree) (p1:TTree):Option (Int) :=
 (F71 p0.Cost p1.Cost).bind fun r1=>(F71 p0.Hops p1.Hops).bind fun r3=>(F72 p0.Root p1.Root).bind fun r5=>(F70 [r1,r3,r5]).bind fun r7=>some r7
noncomputable def body69:List AV->AR
 | [v0,v1]=>.pure (aK 17 xF v0/\aK 17 xF v1/\(F69 (zV (aL v0)) (zV (aL v1))).isSome=true) (.int .i64 (gt (F69 (zV (aL v0)) (zV (aL v1)))))
 | _=>.fail
theorem ok69:wS Try.prog 69 (yD body69):=by
 refine xH body69 (rs:=[.tmp 4]) Try.func69 (by kernel_rfl) rfl rfl ?_
 intro l ob v hb hob
 unfold body69 at hb
 split at hb
 ·rename_i v0 v1
  injection hb with q1 q2;subst q1 q2
  obtain ⟨hk0_0,hk1_0,hob⟩:=hob
  obtain ⟨r,H⟩:=oE.1 hob
  rw [H,zU]
  have hw0:=fD hk0_0
  have hw1:=fD hk1_0
  generalize zV (aL v0)=p0 at H hw0
  generalize zV (aL v1)=p1 at H hw1
  refine ⟨[.agg [.int .u8 p0.Root.x0,.int .u8 p0.Root.x1,.int .u8 p0.Root.x2,.int .u8 p0.Root.x3,.int .u8 p0.Root.x4,.int .u8 p0.Root.x5,.int .u8 p0.Parent.x0,.int .u8 p0.Parent.x1,.int .u8 p0.Parent.x2,.int .u8 p0.Parent.x3,.int .u8 p0.Parent.x4,.int .u8 p0.Parent.x5,.int .i64 p0.Seq,.int .i64 p0.Hops,.int .i64 p0.Cost,.bool p0.Gate,.int .i64 p0.Until],.agg [.int .u8 p1.Root.x0,.int .u8 p1.Root.x1,.int .u8 p1.Root.x2,.int .u8 p1.Root.x3,.int .u8 p1.Root.x4,.int .u8 p1.Root.x5,.int .u8 p1.Parent.x0,.int .u8 p1.Parent.x1,.int .u8 p1.Parent.x2,.int .u8 p1.Parent.x3,.int .u8 p1.Parent.x4,.int .u8 p1.Parent.x5,.int .i64 p1.Seq,.int .i64 p1.Hops,.int .i64 p1.Cost,.bool p1.Gate,.int .i64 p1.Until]],_,(fun E vs F=>yU hw0.1 F (fun vs F=>yU hw1.1 F (fun vs F=>F))),rfl,rfl,?_⟩
  rw [Try.ntmps69]
  simp only [lC,lN,Nat.reduceAdd,Nat.reduceSub,rS,rZ,aC,aN]
  unfold F69 at H
  refine sq zB ?_
  simp only [go_sem]
  refine zW ?_
  obtain ⟨r1,e2,H⟩:=bsi H
  obtain ⟨r3,e4,H⟩:=bsi H
  obtain ⟨r5,e6,H⟩:=bsi H
  obtain ⟨r7,e8,H⟩:=bsi H
  refine vA zR ct69t0_ok 1 (by kernel_rfl) (by kernel_rfl) ?_
  intro an han
  simp only [fT,qY,cS,xrD,xoD,dP,qU,List.append_nil,wJ,refs,jN,mask,tK,place,vS,tL,uE,hit,inL,wO,ren,rnN,nrH,nrB,rZ,rS,Nat.sub_self,Nat.add_zero,Nat.zero_add,Nat.reduceSub,Nat.lt_add_one,go_sem,Nat.reduceLeDiff,Nat.reduceLT,Nat.reduceAdd,Nat.reduceSub,Nat.reduceBEq,reduceCtorEq,ct69t0_70,body70,ct69t0_71,body71,ct69t0_72,tE,e2,e4,e6,e8]
  repeat ((with_reducible refine And.intro ?_ ?_);focus (and_intros<;>first|(with_reducible trivial)|(show anB _ _ _=true;subst han;kernel_rfl)|(show (anB _ _ _ && _)=true;subst han;kernel_rfl)|omega|assumption|exact nrc|exact nfc|first|exact rfl|exact trivial|exact tP|exact .inr rfl|exact .inl rfl|exact fun x hx=>absurd hx (by omega)|(intro x hx;(repeat (first|(and_intros<;>(first|exact rfl|exact trivial|exact tP|exact .inr rfl|exact .inl rfl|exact fun x hx=>absurd hx (by omega)))|(exfalso;omega)|(rcases x with _|x)));done)))
  refine rg zB ?_
  simp only [go_sem]
  obtain rfl:=Option.some.inj H
  first|rfl|simp only [Bool.and_false,Bool.false_and,Bool.and_true,Bool.true_and]
 ·cases hb
noncomputable def ct68_0t0:Ct:=tab [(69,yD body69)]
theorem ct68_0t0_ok:xK Try.prog ct68_0t0:=yG ok69 <| yM
theorem ct68_0t0_69 (l:List AV) (h:List ABlk):ct68_0t0 69 l h=yD body69 l h:=rfl
noncomputable def cZ (p0:List TTree) (v1_1:Int) (v1_2:TTree):Option (Lp (Int × TTree) ((TTree) ⊕ (TTree))) :=
 bif (bLt v1_1 (p0.length:Nat)) then (need (inb v1_1 p0.length) <| (F69 (TTree.mk (A6u8.mk (((gd p0 v1_1.toNat).Root).x0) (((gd p0 v1_1.toNat).Root).x1) (((gd p0 v1_1.toNat).Root).x2) (((gd p0 v1_1.toNat).Root).x3) (((gd p0 v1_1.toNat).Root).x4) (((gd p0 v1_1.toNat).Root).x5)) (A6u8.mk (((gd p0 v1_1.toNat).Parent).x0) (((gd p0 v1_1.toNat).Parent).x1) (((gd p0 v1_1.toNat).Parent).x2) (((gd p0 v1_1.toNat).Parent).x3) (((gd p0 v1_1.toNat).Parent).x4) (((gd p0 v1_1.toNat).Parent).x5)) ((gd p0 v1_1.toNat).Seq) ((gd p0 v1_1.toNat).Hops) ((gd p0 v1_1.toNat).Cost) ((gd p0 v1_1.toNat).Gate) ((gd p0 v1_1.toNat).Until)) v1_2).bind fun r3=>bif (bLt r3 0) then (need (inb v1_1 p0.length) <| some (.next (wr .i64 (v1_1+1),(TTree.mk (A6u8.mk (((gd p0 v1_1.toNat).Root).x0) (((gd p0 v1_1.toNat).Root).x1) (((gd p0 v1_1.toNat).Root).x2) (((gd p0 v1_1.toNat).Root).x3) (((gd p0 v1_1.toNat).Root).x4) (((gd p0 v1_1.toNat).Root).x5)) (A6u8.mk (((gd p0 v1_1.toNat).Parent).x0) (((gd p0 v1_1.toNat).Parent).x1) (((gd p0 v1_1.toNat).Parent).x2) (((gd p0 v1_1.toNat).Parent).x3) (((gd p0 v1_1.toNat).Parent).x4) (((gd p0 v1_1.toNat).Parent).x5)) ((gd p0 v1_1.toNat).Seq) ((gd p0 v1_1.toNat).Hops) ((gd p0 v1_1.toNat).Cost) ((gd p0 v1_1.toNat).Gate) ((gd p0 v1_1.toNat).Until))))) else (some (.next (wr .i64 (v1_1+1),v1_2)))) else (some (.done (.inl v1_2)))
noncomputable def uW (p0:List TTree):Option (TTree) :=
 bif (bLt (p0.length:Nat) 1) then (none) else (need (inb 0 p0.length) <| lp (yP (fun s=>cZ p0 s.1 s.2) (1,(TTree.mk (A6u8.mk (((gd p0 0).Root).x0) (((gd p0 0).Root).x1) (((gd p0 0).Root).x2) (((gd p0 0).Root).x3) (((gd p0 0).Root).x4) (((gd p0 0).Root).x5)) (A6u8.mk (((gd p0 0).Parent).x0) (((gd p0 0).Parent).x1) (((gd p0 0).Parent).x2) (((gd p0 0).Parent).x3) (((gd p0 0).Parent).x4) (((gd p0 0).Parent).x5)) ((gd p0 0).Seq) ((gd p0 0).Hops) ((gd p0 0).Cost) ((gd p0 0).Gate) ((gd p0 0).Until)))) (fun w1_3=>some w1_3) some)
noncomputable def gK:List AV->AR
 | [v0,.fn 69 []]=>.pure (lK xF 17 v0/\(uW (lA zV v0)).isSome=true) (.agg [.int .u8 (((gt (uW (lA zV v0))).Root).x0),.int .u8 (((gt (uW (lA zV v0))).Root).x1),.int .u8 (((gt (uW (lA zV v0))).Root).x2),.int .u8 (((gt (uW (lA zV v0))).Root).x3),.int .u8 (((gt (uW (lA zV v0))).Root).x4),.int .u8 (((gt (uW (lA zV v0))).Root).x5),.int .u8 (((gt (uW (lA zV v0))).Parent).x0),.int .u8 (((gt (uW (lA zV v0))).Parent).x1),.int .u8 (((gt (uW (lA zV v0))).Parent).x2),.int .u8 (((gt (uW (lA zV v0))).Parent).x3),.int .u8 (((gt (uW (lA zV v0))).Parent).x4),.int .u8 (((gt (uW (lA zV v0))).Parent).x5),.int .i64 ((gt (uW (lA zV v0))).Seq),.int .i64 ((gt (uW (lA zV v0))).Hops),.int .i64 ((gt (uW (lA zV v0))).Cost),.bool ((gt (uW (lA zV v0))).Gate),.int .i64 ((gt (uW (lA zV v0))).Until)])
 | _=>.fail
theorem ok68_0:wS Try.prog 68 (yD gK):=by
 refine xH gK (rs:=[.cell 4 62]) Try.func68 (by kernel_rfl) rfl rfl ?_
 intro l ob v hb hob
 unfold gK at hb
 split at hb
 ·rename_i v0
  injection hb with q1 q2;subst q1 q2
  obtain ⟨hk0_0,hob⟩:=hob
  obtain ⟨r,H⟩:=oE.1 hob
  rw [H,zU]
  have hw0:=vN (fun r h=>vY h) hk0_0
  generalize lA zV v0=p0 at H hw0
  refine ⟨[.ro 17 p0.length false (enR zH p0),.fn 69 []],_,(fun E vs F=>yU hw0.1 F (fun vs F=>yU (fn_wk LW_nil) F (fun vs F=>F))),rfl,rfl,?_⟩
  rw [Try.ntmps68]
  simp only [lC,lN,Nat.reduceAdd,Nat.reduceSub,rS,rZ,aC,aN]
  unfold uW at H
  refine sq zB ?_
  simp only [go_sem]
  refine zW ?_
  refine sq zB ?_
  simp only [go_sem]
  refine xJ rfl trivial (fun hc=>?_) (fun hc=>?_)
  ·replace H:=yJ hc H
   cases H
  replace H:=yI hc H
  refine rg zB ?_
  simp only [go_sem]
  refine zW ?_
  obtain ⟨f1,H⟩:=nI H
  refine rg zB ?_
  simp only [go_sem,Nat.reduceLT,Nat.reduceAdd,f1]
  repeat ((with_reducible refine aI ?_ ?_);exact an1)
  refine zW ?_
  refine sq zB ?_
  simp only [go_sem]
  refine vE ?_
  refine xQ (fun s:Int × TTree=>(.ro 17 p0.length false (enR zH p0)::.fn 69 []::.top::.top::.ptr 0 0 0 0::.ptr 1 0 0 0::.int .i64 s.1::tp 26 [])) (fun s=>[.lit 62 [.int .u8 0,.int .u8 0,.int .u8 0,.int .u8 0,.int .u8 0,.int .u8 0,.int .u8 0,.int .u8 0,.int .u8 0,.int .u8 0,.int .u8 0,.int .u8 0,.int .i64 0,.int .i64 0,.int .i64 0,.bool false,.int .i64 0],.lit 62 [.int .u8 s.2.Root.x0,.int .u8 s.2.Root.x1,.int .u8 s.2.Root.x2,.int .u8 s.2.Root.x3,.int .u8 s.2.Root.x4,.int .u8 s.2.Root.x5,.int .u8 s.2.Parent.x0,.int .u8 s.2.Parent.x1,.int .u8 s.2.Parent.x2,.int .u8 s.2.Parent.x3,.int .u8 s.2.Parent.x4,.int .u8 s.2.Parent.x5,.int .i64 s.2.Seq,.int .i64 s.2.Hops,.int .i64 s.2.Cost,.bool s.2.Gate,.int .i64 s.2.Until]]) (fun e:TTree=>(tp 4 (.ptr 0 0 0 0::.ptr 1 0 0 0::tp 27 []))) (fun e=>[.lit 62 [.int .u8 0,.int .u8 0,.int .u8 0,.int .u8 0,.int .u8 0,.int .u8 0,.int .u8 0,.int .u8 0,.int .u8 0,.int .u8 0,.int .u8 0,.int .u8 0,.int .i64 0,.int .i64 0,.int .i64 0,.bool false,.int .i64 0],.lit 62 [.int .u8 e.Root.x0,.int .u8 e.Root.x1,.int .u8 e.Root.x2,.int .u8 e.Root.x3,.int .u8 e.Root.x4,.int .u8 e.Root.x5,.int .u8 e.Parent.x0,.int .u8 e.Parent.x1,.int .u8 e.Parent.x2,.int .u8 e.Parent.x3,.int .u8 e.Parent.x4,.int .u8 e.Parent.x5,.int .i64 e.Seq,.int .i64 e.Hops,.int .i64 e.Cost,.bool e.Gate,.int .i64 e.Until]]) H ?_ (fun s o H hn1_1 hn2_1=>?_) (fun w1_3 H=>?_)
  ·refine zN ⟨[some 0,some 1],?_,?_,by rfl,by rfl⟩
   ·simp [CvL,Cv,yE,tp]
   ·exact ⟨cv,cv,trivial⟩
  ·obtain ⟨v1_1,v1_2⟩:=s
   unfold cZ at H
   try simp only [tp]
   refine zW ?_
   refine sq zB ?_
   simp only [go_sem,Nat.reduceAdd]
   refine condM' rfl trivial (fun hc=>?_) (fun hc=>?_)
   ·replace H:=yI hc H
    refine rg zB ?_
    simp only [go_sem]
    refine ⟨_,(Option.some.inj H).symm,?_⟩
    refine zN ⟨[some 0,some 1],?_,?_,by rfl,by rfl⟩
    ·simp [CvL,Cv,yE]
    ·exact ⟨cv,cv,trivial⟩
   replace H:=yJ hc H
   refine rg zB ?_
   simp only [go_sem]
   refine zW ?_
   refine vE ?_
   refine zW ?_
   obtain ⟨f2,H⟩:=nI H
   obtain ⟨r3,e4,H⟩:=bsi H
   refine wT zR ct68_0t0_ok (by kernel_rfl) (by kernel_rfl) ?_
   simp only [go_sem,Nat.reduceLT,Nat.reduceAdd,ct68_0t0_69,body69,f2,e4]
   refine condM' rfl trivial (fun hc=>?_) (fun hc=>?_)
   ·replace H:=yI hc H
    refine rg zB ?_
    simp only [go_sem]
    refine rg zB ?_
    simp only [go_sem]
    refine ⟨_,(Option.some.inj H).symm,?_⟩
    refine zN ⟨[some 0,some 1],?_,?_,by rfl,by rfl⟩
    ·simp [CvL,Cv,yE]
    ·exact ⟨cv,cv,trivial⟩
   replace H:=yJ hc H
   obtain ⟨f5,H⟩:=nI H
   refine rg zB ?_
   simp only [go_sem,Nat.reduceLT,Nat.reduceAdd,f5]
   refine rg zB ?_
   simp only [go_sem]
   refine ⟨_,(Option.some.inj H).symm,?_⟩
   refine zN ⟨[some 0,some 1],?_,?_,by rfl,by rfl⟩
   ·simp [CvL,Cv,yE]
   ·exact ⟨cv,cv,trivial⟩
  ·try dsimp only at H ⊢
   try simp only [tp]
   try simp only [xA]
   refine sq zB ?_
   simp only [go_sem,Nat.reduceLT,Nat.reduceAdd]
   refine rg zB ?_
   simp only [go_sem,Nat.reduceLT,Nat.reduceAdd]
   obtain rfl:=Option.some.inj H
   first|rfl|simp only [Bool.and_false,Bool.false_and,Bool.and_true,Bool.true_and]
 ·cases hb
noncomputable def ct27t0:Ct:=tab [(34,yD qW)]
theorem ct27t0_ok:xK Try.prog ct27t0:=yG ok34 <| yM
theorem ct27t0_34 (l:List AV) (h:List ABlk):ct27t0 34 l h=yD qW l h:=rfl
noncomputable def ct27t1:Ct:=tab [(62,edC gJ),(66,edC fH)]
theorem ct27t1_ok:xK Try.prog ct27t1:=yG ok62_0 <| yG ok66 <| yM
theorem ct27t1_62 (l:List AV) (h:List ABlk):ct27t1 62 l h=edC gJ l h:=rfl
theorem ct27t1_66 (l:List AV) (h:List ABlk):ct27t1 66 l h=edC fH l h:=rfl
noncomputable def ct27t2:Ct:=tab [(68,yD gK)]
theorem ct27t2_ok:xK Try.prog ct27t2:=yG ok68_0 <| yM
theorem ct27t2_68 (l:List AV) (h:List ABlk):ct27t2 68 l h=yD gK l h:=rfl
noncomputable def F27 (p0:TRoots) (p1:Bool):Option (TTree × Bool) :=
 (F34 p0).bind fun r1=>bif (!bEq r1 0) then (some ((TTree.mk (A6u8.mk 0 0 0 0 0 0) (A6u8.mk 0 0 0 0 0 0) 0 0 0 false 0),false)) else ((F66 p0.Trees).bind fun r3=>(dQ r3 p1).bind fun r5=>bif (bEq (r5.length:Nat) 0) then (some ((TTree.mk (A6u8.mk 0 0 0 0 0 0) (A6u8.mk 0 0 0 0 0 0) 0 0 0 false 0),false)) else ((uW r5).bind fun r7=>some (r7,true)))
noncomputable def gB:List AV->AR
 | [v0,v1]=>.pure (aK 11 vF v0/\bK v1/\(F27 (zI (aL v0)) (bA v1)).isSome=true) (.tup [.agg [.int .u8 ((((gt (F27 (zI (aL v0)) (bA v1))).1).Root).x0),.int .u8 ((((gt (F27 (zI (aL v0)) (bA v1))).1).Root).x1),.int .u8 ((((gt (F27 (zI (aL v0)) (bA v1))).1).Root).x2),.int .u8 ((((gt (F27 (zI (aL v0)) (bA v1))).1).Root).x3),.int .u8 ((((gt (F27 (zI (aL v0)) (bA v1))).1).Root).x4),.int .u8 ((((gt (F27 (zI (aL v0)) (bA v1))).1).Root).x5),.int .u8 ((((gt (F27 (zI (aL v0)) (bA v1))).1).Parent).x0),.int .u8 ((((gt (F27 (zI (aL v0)) (bA v1))).1).Parent).x1),.int .u8 ((((gt (F27 (zI (aL v0)) (bA v1))).1).Parent).x2),.int .u8 ((((gt (F27 (zI (aL v0)) (bA v1))).1).Parent).x3),.int .u8 ((((gt (F27 (zI (aL v0)) (bA v1))).1).Parent).x4),.int .u8 ((((gt (F27 (zI (aL v0)) (bA v1))).1).Parent).x5),.int .i64 (((gt (F27 (zI (aL v0)) (bA v1))).1).Seq),.int .i64 (((gt (F27 (zI (aL v0)) (bA v1))).1).Hops),.int .i64 (((gt (F27 (zI (aL v0)) (bA v1))).1).Cost),.bool (((gt (F27 (zI (aL v0)) (bA v1))).1).Gate),.int .i64 (((gt (F27 (zI (aL v0)) (bA v1))).1).Until)],.bool ((gt (F27 (zI (aL v0)) (bA v1))).2)])
 | _=>.fail
theorem ok27:wS Try.prog 27 (yD gB):=by
 refine xH gB (rs:=[.cell 4 62,.tmp 5]) Try.func27 (by kernel_rfl) rfl rfl ?_
 intro l ob v hb hob
 unfold gB at hb
 split at hb
 ·rename_i v0 v1
  injection hb with q1 q2;subst q1 q2
  obtain ⟨hk0_0,hk1_0,hob⟩:=hob
  obtain ⟨r,H⟩:=oE.1 hob
  rw [H,zU]
  have hw0:=qK hk0_0
  have hw1:=vZ hk1_0
  generalize zI (aL v0)=p0 at H hw0
  generalize bA v1=p1 at H hw1
  refine ⟨[.agg [.int .u8 p0.Own.x0,.int .u8 p0.Own.x1,.int .u8 p0.Own.x2,.int .u8 p0.Own.x3,.int .u8 p0.Own.x4,.int .u8 p0.Own.x5,.bool p0.Root,.bool p0.Gate,.int .i64 p0.Seq,.ro 17 p0.Trees.length false (enR zH p0.Trees),.ro 13 p0.Proxies.length false (enR zC p0.Proxies)],.bool p1],_,(fun E vs F=>yU hw0.1 F (fun vs F=>yU hw1.1 F (fun vs F=>F))),rfl,rfl,?_⟩
  rw [Try.ntmps27]
  simp only [lC,lN,Nat.reduceAdd,Nat.reduceSub,rS,rZ,aC,aN]
  unfold F27 at H
  refine sq zB ?_
  simp only [go_sem,Nat.reduceAdd]
  refine zW ?_
  refine zW ?_
  obtain ⟨r1,e2,H⟩:=bsi H
  refine rg ct27t0_ok ?_
  simp only [go_sem,Nat.reduceLT,Nat.reduceAdd,ct27t0_34,qW,e2]
  refine xJ rfl trivial (fun hc=>?_) (fun hc=>?_)
  ·replace H:=yJ hc H
   refine sq zB ?_
   simp only [go_sem,Nat.reduceAdd]
   refine rg zB ?_
   simp only [go_sem,Nat.reduceLT,Nat.reduceAdd]
   obtain rfl:=Option.some.inj H
   first|rfl|simp only [Bool.and_false,Bool.false_and,Bool.and_true,Bool.true_and]
  replace H:=yI hc H
  refine rg zB ?_
  simp only [go_sem]
  refine zW ?_
  obtain ⟨r3,e4,H⟩:=bsi H
  obtain ⟨r5,e6,H⟩:=bsi H
  refine rg ct27t1_ok ?_
  simp only [go_sem,Nat.reduceLeDiff,Nat.reduceLT,Nat.reduceAdd,ct27t1_62,gJ,ct27t1_66,fH,e4,e6]
  refine zW ?_
  refine sq zB ?_
  simp only [go_sem]
  refine xJ rfl trivial (fun hc=>?_) (fun hc=>?_)
  ·replace H:=yJ hc H
   refine sq zB ?_
   simp only [go_sem,Nat.reduceAdd]
   refine rg zB ?_
   simp only [go_sem,Nat.reduceLT,Nat.reduceAdd]
   obtain rfl:=Option.some.inj H
   first|rfl|simp only [Bool.and_false,Bool.false_and,Bool.and_true,Bool.true_and]
  replace H:=yI hc H
  refine rg zB ?_
  simp only [go_sem]
  refine zW ?_
  obtain ⟨r7,e8,H⟩:=bsi H
  refine rg ct27t2_ok ?_
  simp only [go_sem,Nat.reduceAdd,ct27t2_68,gK,e8]
  repeat ((with_reducible refine aI ?_ ?_);exact an0)
  refine rg zB ?_
  simp only [go_sem,Nat.reduceLT,Nat.reduceAdd]
  obtain rfl:=Option.some.inj H
  first|rfl|simp only [Bool.and_false,Bool.false_and,Bool.and_true,Bool.true_and]
 ·cases hb
noncomputable def ct36t0:Ct:=tab [(33,edC fF)]
theorem ct36t0_ok:xK Try.prog ct36t0:=yG ok33 <| yM
theorem ct36t0_33 (l:List AV) (h:List ABlk):ct36t0 33 l h=edC fF l h:=rfl
noncomputable def ct36t1:Ct:=tab [(20,edC jA)]
theorem ct36t1_ok:xK Try.prog ct36t1:=yG ok20 <| yM
theorem ct36t1_20 (l:List AV) (h:List ABlk):ct36t1 20 l h=edC jA l h:=rfl
noncomputable def ct36t2:Ct:=tab [(27,yD gB)]
theorem ct36t2_ok:xK Try.prog ct36t2:=yG ok27 <| yM
theorem ct36t2_27 (l:List AV) (h:List ABlk):ct36t2 27 l h=yD gB l h:=rfl
noncomputable def F36:Option (Bool) :=
 (F33 (A6u8.mk 1 0 0 0 0 0) false false).bind fun r1=>(F20 (TRoots.mk (A6u8.mk r1.1.Own.x0 r1.1.Own.x1 r1.1.Own.x2 r1.1.Own.x3 r1.1.Own.x4 r1.1.Own.x5) r1.1.Root r1.1.Gate r1.1.Seq r1.1.Trees r1.1.Proxies) (TRootWord.mk (A6u8.mk 9 0 0 0 0 0) 1 0 0 false) (A6u8.mk 9 0 0 0 0 0) 30 0).bind fun r3=>need (bif (!((((!bEq r1.2 0) || (!bEq r3.2.2 0)) || (!bEq (r3.2.1.length:Nat) 1)) || (!bEq (r3.1.Trees.length:Nat) 1))) then inb 0 r3.1.Trees.length else true) <| need (bif (!(((((!bEq r1.2 0) || (!bEq r3.2.2 0)) || (!bEq (r3.2.1.length:Nat) 1)) || (!bEq (r3.1.Trees.length:Nat) 1)) || (!bEq ((gd r3.1.Trees 0).Hops) 1))) then inb 0 r3.1.Trees.length else true) <| bif ((((((!bEq r1.2 0) || (!bEq r3.2.2 0)) || (!bEq (r3.2.1.length:Nat) 1)) || (!bEq (r3.1.Trees.length:Nat) 1)) || (!bEq ((gd r3.1.Trees 0).Hops) 1)) || (!bEq ((gd r3.1.Trees 0).Cost) 30)) then (some false) else ((F20 (TRoots.mk (A6u8.mk r3.1.Own.x0 r3.1.Own.x1 r3.1.Own.x2 r3.1.Own.x3 r3.1.Own.x4 r3.1.Own.x5) r3.1.Root r3.1.Gate r3.1.Seq r3.1.Trees r3.1.Proxies) (TRootWord.mk (A6u8.mk 9 0 0 0 0 0) 1 1 10 false) (A6u8.mk 5 0 0 0 0 0) 15 1).bind fun r7=>(F20 (TRoots.mk (A6u8.mk r7.1.Own.x0 r7.1.Own.x1 r7.1.Own.x2 r7.1.Own.x3 r7.1.Own.x4 r7.1.Own.x5) r7.1.Root r7.1.Gate r7.1.Seq r7.1.Trees r7.1.Proxies) (TRootWord.mk (A6u8.mk 9 0 0 0 0 0) 1 0 0 false) (A6u8.mk 9 0 0 0 0 0) 30 2).bind fun r9=>(F27 (TRoots.mk (A6u8.mk r7.1.Own.x0 r7.1.Own.x1 r7.1.Own.x2 r7.1.Own.x3 r7.1.Own.x4 r7.1.Own.x5) r7.1.Root r7.1.Gate r7.1.Seq r7.1.Trees r7.1.Proxies) false).bind fun r11=>some (((((bEq r7.2.2 0) && r11.2) && (bEq r11.1.Cost 25)) && (bEq r11.1.Parent.x0 5 && (bEq r11.1.Parent.x1 0 && (bEq r11.1.Parent.x2 0 && (bEq r11.1.Parent.x3 0 && (bEq r11.1.Parent.x4 0 && (bEq r11.1.Parent.x5 0))))))) && (bEq r9.2.2 21)))
noncomputable def body36:List AV->AR
 | []=>.pure ((F36).isSome=true) (.bool (gt F36))
 | _=>.fail
theorem ok36:wS Try.prog 36 (yD body36):=by
 refine xH body36 (rs:=[.tmp 0]) Try.func36 (by kernel_rfl) rfl rfl ?_
 intro l ob v hb hob
 unfold body36 at hb
 split at hb
 ·injection hb with q1 q2;subst q1 q2
  obtain ⟨r,H⟩:=oE.1 hob
  rw [H,zU]
  refine ⟨[],_,(fun E vs F=>F),rfl,rfl,?_⟩
  rw [Try.ntmps36]
  simp only [lN,Nat.reduceSub,rS,rZ,aN]
  unfold F36 at H
  try dsimp only at H
  refine sq zB ?_
  simp only [go_sem]
  refine zW ?_
  obtain ⟨r1,e2,H⟩:=bsi H
  refine rg ct36t0_ok ?_
  simp only [go_sem,Nat.reduceLeDiff,Nat.reduceLT,Nat.reduceAdd,ct36t0_33,fF,e2]
  repeat ((with_reducible refine aI ?_ ?_);exact an0)
  refine sq zB ?_
  simp only [go_sem,Nat.reduceLeDiff,Nat.reduceAdd]
  repeat ((with_reducible refine aI ?_ ?_);exact an1)
  refine zW ?_
  obtain ⟨r3,e4,H⟩:=bsi H
  refine rg ct36t1_ok ?_
  simp only [go_sem,Nat.reduceLeDiff,Nat.reduceLT,Nat.reduceAdd,ct36t1_20,jA,e4]
  repeat ((with_reducible refine aI ?_ ?_);exact an0)
  refine zW ?_
  refine zW ?_
  obtain ⟨f5,H⟩:=zM.1 H
  replace f5:=xX.1 f5
  replace f5:=fun g=>yX.1 (f5 g)
  obtain ⟨f6,H⟩:=zM.1 H
  replace f6:=xX.1 f6
  replace f6:=fun g=>yX.1 (f6 g)
  refine rg zB ?_
  simp only [go_sem,Nat.reduceLeDiff,Nat.reduceLT,Nat.reduceAdd]
  repeat ((with_reducible refine And.intro ?_ ?_);focus (first|(with_reducible trivial)|omega|exact f5|exact f6|(intro g;have q:=f5 (by first|exact g|(rw [g];rfl)|simpa using g);first|exact q|exact ⟨q.1,q.2.1⟩|exact q.2.2|omega|exact ⟨g,q⟩|exact ⟨trivial,q⟩|exact ⟨g,q.1,q.2.1⟩|exact ⟨g,q.2.2⟩)|(intro g;have q:=f6 (by first|exact g|(rw [g];rfl)|simpa using g);first|exact q|exact ⟨q.1,q.2.1⟩|exact q.2.2|omega|exact ⟨g,q⟩|exact ⟨trivial,q⟩|exact ⟨g,q.1,q.2.1⟩|exact ⟨g,q.2.2⟩)|(intro g;(try have q0:=f5 (by first|exact g|(rw [g];rfl)|simpa using g));(try have q1:=f6 (by first|exact g|(rw [g];rfl)|simpa using g));and_intros<;>first|(with_reducible trivial)|assumption|exact nfc|(intro g2;rw [g,g2];rfl)|(intro g2;assumption)|(simp only [g,Bool.true_and,Bool.and_true,Bool.not_false,Bool.not_true];assumption)|grind)|(and_intros<;>first|(with_reducible trivial)|omega|assumption|exact nfc|first|exact rfl|exact trivial|exact tP|exact .inr rfl|exact .inl rfl|exact fun x hx=>absurd hx (by omega))|grind))
  refine xJ rfl trivial (fun hc=>?_) (fun hc=>?_)
  ·replace H:=yJ hc H
   refine sq zB ?_
   simp only [go_sem]
   refine rg zB ?_
   simp only [go_sem]
   obtain rfl:=Option.some.inj H
   first|rfl|simp only [Bool.and_false,Bool.false_and,Bool.and_true,Bool.true_and]
  replace H:=yI hc H
  refine rg zB ?_
  simp only [go_sem]
  refine zW ?_
  obtain ⟨r7,e8,H⟩:=bsi H
  refine rg ct36t1_ok ?_
  simp only [go_sem,Nat.reduceLeDiff,Nat.reduceLT,Nat.reduceAdd,ct36t1_20,jA,e8]
  repeat ((with_reducible refine aI ?_ ?_);exact an0)
  refine zW ?_
  obtain ⟨r9,e10,H⟩:=bsi H
  refine rg ct36t1_ok ?_
  simp only [go_sem,Nat.reduceLeDiff,Nat.reduceLT,Nat.reduceAdd,ct36t1_20,jA,e10]
  repeat ((with_reducible refine aI ?_ ?_);exact an0)
  refine zW ?_
  obtain ⟨r11,e12,H⟩:=bsi H
  refine rg ct36t2_ok ?_
  simp only [go_sem,Nat.reduceLT,Nat.reduceAdd,ct36t2_27,gB,e12]
  repeat ((with_reducible refine aI ?_ ?_);exact an0)
  refine sq zB ?_
  simp only [go_sem,Nat.reduceLeDiff,Nat.reduceLT,Nat.reduceAdd,reduceCtorEq]
  repeat ((with_reducible refine aI ?_ ?_);exact an1)
  refine rg zB ?_
  simp only [go_sem]
  obtain rfl:=Option.some.inj H
  first|rfl|simp only [Bool.and_false,Bool.false_and,Bool.and_true,Bool.true_and]
 ·cases hb
end Go.Proofs.Ytdcepineppafpaa
