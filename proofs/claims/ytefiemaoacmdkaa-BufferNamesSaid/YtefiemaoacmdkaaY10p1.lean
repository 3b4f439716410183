/-
  What BufferNames reaches.
-/
import Derived.Test.YtefiemaoacmdkaaB
namespace Go.Proofs.Ytefiemaoacmdkaa
open Go.Am
set_option maxHeartbeats 4000000
set_option maxRecDepth 20000
set_option linter.unusedVariables false
set_option linter.unusedSimpArgs false
attribute [go_sem] w_skip w_label w_goto w_scope k_goto b_goto l_goto s_normal s_exit s_ret s_goto w_region w_draw w_seq w_cond w_block w_exit w_ret w_loop k_normal k_exit k_ret b_normal b_exit b_ret l_normal l_exit l_ret m_normal m_exit m_ret m_goto kL_normal kL_exit kL_ret kS_normal kS_exit kS_ret kS_goto r_normal r_ret o_nil o_cons q_nil q_cons nxt gval gvd gvl gvw dstOf evO ogOp ogC og ogL ogP ogO rho rhoO strip optOk getL setL setT absC absV absL pO hO evLoad ldB geth seth evStore stRes stB evBox evAlloc evFieldAddr evField evIndexAddr evBin2 binI binB binNR binU nilR_isEmpty nilR_t nilR_0 nilR_s evInt evStr evUn evConv cvO evPick mrg evExtract evNil evCall mapR evBuiltin evLen2 vcells vcOk atom tabF cnd retK resFin resL resA resC resCons evBuild evBuildP placeS placeA fillA fillOk putL getP nxtQ pureC_eq pureR genC_eq genR roV roL roOb roObL roW roWL roWOb roWObL nref nrefL binA binN eqSh eqRes evIndex evIndex2 evIndexS evSlice evSlice2 evSliceS evBound evConv2 cvS evAppend appRes srcOf evMake evBuildSlice repL evFn evMin evMax freshC freshR sub_enR0 evClear evClearR evCopy evCopyR lenS cutS Bool.or_false Bool.false_or Bool.or_true Bool.true_or Bool.and_false Bool.false_and Option.map_some Option.map_none Option.getD_some Option.getD_none Option.bind_some Option.bind_none Option.or_some Option.or_none Option.none_or Option.isSome_none Option.isNone_none Option.isNone_some List.nil_append List.cons_append List.append_nil cond_true cond_false List.length_cons List.length_nil beq_self_eq_true Bool.and_true Bool.true_and Bool.not_true Bool.not_false true_and and_true and_self true_implies implies_true ne_eq not_false_eq_true Bool.false_eq_true Bool.true_eq_false false_implies Nat.lt_irrefl Nat.le_refl Nat.succ_ne_self imp_self Bool.cond_false_right Bool.cond_true_left decide_true decide_false Bool.not_eq_true' Bool.not_eq_false' Bool.not_not Nat.zero_mul Nat.zero_add Nat.add_zero Nat.mul_one Nat.one_mul Bool.cond_self tsz3 tby3 tagg3 tslice3 tarr3 tzero3 tzn3 tplaces3 tint3 tstr3 tnoint3 tbool3 tany3 tintk3 tbytes3 tsz4 tby4 tagg4 tslice4 tarr4 tzero4 tzn4 tplaces4 tint4 tstr4 tnoint4 tbool4 tany4 tintk4 tbytes4 tsz5 tby5 tagg5 tslice5 tarr5 tzero5 tzn5 tplaces5 tint5 tstr5 tnoint5 tbool5 tany5 tintk5 tbytes5 tsz9 tby9 tagg9 tslice9 tarr9 tzero9 tzn9 tplaces9 tint9 tstr9 tnoint9 tbool9 tany9 tintk9 tbytes9 tsz22 tby22 tagg22 tslice22 tarr22 tzero22 tzn22 tplaces22 tint22 tstr22 tnoint22 tbool22 tany22 tintk22 tbytes22 tsz23 tby23 tagg23 tslice23 tarr23 tzero23 tzn23 tplaces23 tint23 tstr23 tnoint23 tbool23 tany23 tintk23 tbytes23 tsz25 tby25 tagg25 tslice25 tarr25 tzero25 tzn25 tplaces25 tint25 tstr25 tnoint25 tbool25 tany25 tintk25 tbytes25 tfld25_0 tfld25_1 tfld25_2 tfld25_3 tsz28 tby28 tagg28 tslice28 tarr28 tzero28 tzn28 tplaces28 tint28 tstr28 tnoint28 tbool28 tany28 tintk28 tbytes28 tsz30 tby30 tagg30 tslice30 tarr30 tzero30 tzn30 tplaces30 tint30 tstr30 tnoint30 tbool30 tany30 tintk30 tbytes30 tfld30_0 tfld30_1 tfld30_2 tfld30_3 tfld30_4 tfld30_5 tfld30_6 tfld30_7 tfld30_8 tfld30_9 tfld30_10 tfld30_11 tfld30_12 tfld30_13 tfld30_14 tfld30_15 tfld30_16 tfld30_17 tfld30_18 tfld30_19 tsz31 tby31 tagg31 tslice31 tarr31 tzero31 tzn31 tplaces31 tint31 tstr31 tnoint31 tbool31 tany31 tintk31 tbytes31 tsz33 tby33 tagg33 tslice33 tarr33 tzero33 tzn33 tplaces33 tint33 tstr33 tnoint33 tbool33 tany33 tintk33 tbytes33 tfld33_0 tfld33_1 tsz34 tby34 tagg34 tslice34 tarr34 tzero34 tzn34 tplaces34 tint34 tstr34 tnoint34 tbool34 tany34 tintk34 tbytes34 tsz39 tby39 tagg39 tslice39 tarr39 tzero39 tzn39 tplaces39 tint39 tstr39 tnoint39 tbool39 tany39 tintk39 tbytes39 tsz41 tby41 tagg41 tslice41 tarr41 tzero41 tzn41 tplaces41 tint41 tstr41 tnoint41 tbool41 tany41 tintk41 tbytes41 tfld41_0 tfld41_1 tsz52 tby52 tagg52 tslice52 tarr52 tzero52 tzn52 tplaces52 tint52 tstr52 tnoint52 tbool52 tany52 tintk52 tbytes52 tsz57 tby57 tagg57 tslice57 tarr57 tzero57 tzn57 tplaces57 tint57 tstr57 tnoint57 tbool57 tany57 tintk57 tbytes57 tfld57_0 tfld57_1 tfld57_2 tsz61 tby61 tagg61 tslice61 tarr61 tzero61 tzn61 tplaces61 tint61 tstr61 tnoint61 tbool61 tany61 tintk61 tbytes61 tfld61_0 tfld61_1 tfld61_2 tsz70 tby70 tagg70 tslice70 tarr70 tzero70 tzn70 tplaces70 tint70 tstr70 tnoint70 tbool70 tany70 tintk70 tbytes70 tfld70_0 tfld70_1 tfld70_2 tfld70_3 tfld70_4 tsz81 tby81 tagg81 tslice81 tarr81 tzero81 tzn81 tplaces81 tint81 tstr81 tnoint81 tbool81 tany81 tintk81 tbytes81 tsz82 tby82 tagg82 tslice82 tarr82 tzn82 tplaces82 tint82 tstr82 tnoint82 tbool82 tany82 tintk82 tbytes82 tsz95 tby95 tagg95 tslice95 tarr95 tzero95 tzn95 tplaces95 tint95 tstr95 tnoint95 tbool95 tany95 tintk95 tbytes95 tsz96 tby96 tagg96 tslice96 tarr96 tzero96 tzn96 tplaces96 tint96 tstr96 tnoint96 tbool96 tany96 tintk96 tbytes96 tsz103 tby103 tagg103 tslice103 tarr103 tzero103 tzn103 tplaces103 tint103 tstr103 tnoint103 tbool103 tany103 tintk103 tbytes103 tsz105 tby105 tagg105 tslice105 tarr105 tzero105 tzn105 tplaces105 tint105 tstr105 tnoint105 tbool105 tany105 tintk105 tbytes105 tsz110 tby110 tagg110 tslice110 tarr110 tzero110 tzn110 tplaces110 tint110 tstr110 tnoint110 tbool110 tany110 tintk110 tbytes110 tsz112 tby112 tagg112 tslice112 tarr112 tzero112 tzn112 tplaces112 tint112 tstr112 tnoint112 tbool112 tany112 tintk112 tbytes112 tsz124 tby124 tagg124 tslice124 tarr124 tzero124 tzn124 tplaces124 tint124 tstr124 tnoint124 tbool124 tany124 tintk124 tbytes124 tsz129 tby129 tagg129 tslice129 tarr129 tzero129 tzn129 tplaces129 tint129 tstr129 tnoint129 tbool129 tany129 tintk129 tbytes129 tsz142 tby142 tagg142 tslice142 tarr142 tzero142 tzn142 tplaces142 tint142 tstr142 tnoint142 tbool142 tany142 tintk142 tbytes142 e_u8_0 fit_u8 de_u8 g_u8 k_u8 e_i64_0 fit_i64 de_i64 g_i64 k_i64 e_b_0 fit_b de_b g_b k_b e_s_0 fit_s de_s g_s k_s e_A6u8_0 e_A6u8_1 e_A6u8_2 e_A6u8_3 e_A6u8_4 e_A6u8_5 fit_A6u8 de_A6u8 g_A6u8 k_A6u8 eta_A6u8 e_THeader_0 e_THeader_1 e_THeader_2 e_THeader_3 e_THeader_4 e_THeader_5 e_THeader_6 e_THeader_7 e_THeader_8 e_THeader_9 e_THeader_10 e_THeader_11 e_THeader_12 e_THeader_13 e_THeader_14 e_THeader_15 e_THeader_16 e_THeader_17 e_THeader_18 e_THeader_19 e_THeader_20 e_THeader_21 e_THeader_22 e_THeader_23 e_THeader_24 e_THeader_25 e_THeader_26 e_THeader_27 e_THeader_28 e_THeader_29 e_THeader_30 e_THeader_31 e_THeader_32 e_THeader_33 e_THeader_34 e_THeader_35 e_THeader_36 e_THeader_37 e_THeader_38 e_THeader_39 fit_THeader de_THeader g_THeader k_THeader eta_THeader e_lu8_0 fit_lu8 de_lu8 g_lu8 k_lu8 e_TFrame_0 e_TFrame_1 e_TFrame_2 e_TFrame_3 e_TFrame_4 e_TFrame_5 e_TFrame_6 e_TFrame_7 e_TFrame_8 e_TFrame_9 e_TFrame_10 e_TFrame_11 e_TFrame_12 e_TFrame_13 e_TFrame_14 e_TFrame_15 e_TFrame_16 e_TFrame_17 e_TFrame_18 e_TFrame_19 e_TFrame_20 e_TFrame_21 e_TFrame_22 e_TFrame_23 e_TFrame_24 e_TFrame_25 e_TFrame_26 e_TFrame_27 e_TFrame_28 e_TFrame_29 e_TFrame_30 e_TFrame_31 e_TFrame_32 e_TFrame_33 e_TFrame_34 e_TFrame_35 e_TFrame_36 e_TFrame_37 e_TFrame_38 e_TFrame_39 e_TFrame_40 fit_TFrame de_TFrame g_TFrame k_TFrame eta_TFrame e_TStored_0 e_TStored_1 e_TStored_2 e_TStored_3 e_TStored_4 e_TStored_5 e_TStored_6 e_TStored_7 e_TStored_8 e_TStored_9 e_TStored_10 e_TStored_11 e_TStored_12 e_TStored_13 e_TStored_14 e_TStored_15 e_TStored_16 e_TStored_17 e_TStored_18 e_TStored_19 e_TStored_20 e_TStored_21 e_TStored_22 e_TStored_23 e_TStored_24 e_TStored_25 e_TStored_26 e_TStored_27 e_TStored_28 e_TStored_29 e_TStored_30 e_TStored_31 e_TStored_32 e_TStored_33 e_TStored_34 e_TStored_35 e_TStored_36 e_TStored_37 e_TStored_38 e_TStored_39 e_TStored_40 e_TStored_41 e_TStored_42 fit_TStored de_TStored g_TStored k_TStored eta_TStored e_lTStored_0 fit_lTStored de_lTStored g_lTStored k_lTStored e_TSleeper_0 e_TSleeper_1 e_TSleeper_2 fit_TSleeper de_TSleeper g_TSleeper k_TSleeper eta_TSleeper e_lTSleeper_0 fit_lTSleeper de_lTSleeper g_lTSleeper k_lTSleeper e_TBuffer_0 e_TBuffer_1 e_TBuffer_2 e_TBuffer_3 fit_TBuffer de_TBuffer g_TBuffer k_TBuffer eta_TBuffer e_li64_0 fit_li64 de_li64 g_li64 k_li64 e_TTraffic_0 e_TTraffic_1 fit_TTraffic de_TTraffic g_TTraffic k_TTraffic eta_TTraffic e_lTFrame_0 fit_lTFrame de_lTFrame g_lTFrame k_lTFrame e_TStep_0 e_TStep_1 e_TStep_2 e_TStep_3 e_TStep_4 e_TStep_5 e_TStep_6 e_TStep_7 e_TStep_8 e_TStep_9 e_TStep_10 e_TStep_11 e_TStep_12 e_TStep_13 e_TStep_14 e_TStep_15 e_TStep_16 e_TStep_17 e_TStep_18 e_TStep_19 e_TStep_20 e_TStep_21 e_TStep_22 e_TStep_23 e_TStep_24 e_TStep_25 e_TStep_26 e_TStep_27 e_TStep_28 e_TStep_29 e_TStep_30 e_TStep_31 e_TStep_32 e_TStep_33 e_TStep_34 e_TStep_35 e_TStep_36 e_TStep_37 e_TStep_38 e_TStep_39 e_TStep_40 e_TStep_41 e_TStep_42 e_TStep_43 e_TStep_44 fit_TStep de_TStep g_TStep k_TStep eta_TStep e_lTStep_0 fit_lTStep de_lTStep g_lTStep k_lTStep e_u64_0 fit_u64 de_u64 g_u64 k_u64 deR_0 deR_1 deR_2 deR_3 deR_4 deR_5 deR_6 deR_7 deR_8 deR_9 deR_10 deR_11 deR_12 litC_x0 litC_x1 litC_x2 litC_x3 litC_x4 litC_x5 litC_x6 litC_x7 litC_x8 litC_x9 litC_x10 litC_x11 strE_u8 Fit_0 Option.isSome_some gt_some gd_one evCopyL evLookup mapC_nil tabR sub_enR List.drop_zero xrD xoD roEq minL rK rM rG aL aK iK bK sK lK iA bA sA lA or_true true_or Int.toNat_natCast shT_28 shT_30 Int.toNat_zero Int.cast_ofNat_Int kSP_normal kOP_normal kLP_exit pcC_lt upc_ii aLs roD roDOb deadL edC edR nodupB rnm rnmL rnmB rnmH rnm_bif rnmB_bif putH dropH rhoN ptB slN litL celL pK isLit oS isRow inL fzV fzL fzOb fzObL fzH fzHF fzB fzObB fzObH rowOb getL_tpg setL_tpg ite_true ite_false fzL_tpg fzObL_tpg renL_tpg refsL_tpg nrL_tpg
abbrev eF (x : TFrame) : TFrame := TFrame.mk (THeader.mk x.Head.Kind x.Head.Sub x.Head.ToDs x.Head.FromDs x.Head.More x.Head.Retry x.Head.Sleep x.Head.MoreData x.Head.Protected x.Head.Duration (A6u8.mk x.Head.A1.x0 x.Head.A1.x1 x.Head.A1.x2 x.Head.A1.x3 x.Head.A1.x4 x.Head.A1.x5) (A6u8.mk x.Head.A2.x0 x.Head.A2.x1 x.Head.A2.x2 x.Head.A2.x3 x.Head.A2.x4 x.Head.A2.x5) (A6u8.mk x.Head.A3.x0 x.Head.A3.x1 x.Head.A3.x2 x.Head.A3.x3 x.Head.A3.x4 x.Head.A3.x5) (A6u8.mk x.Head.A4.x0 x.Head.A4.x1 x.Head.A4.x2 x.Head.A4.x3 x.Head.A4.x4 x.Head.A4.x5) x.Head.Seq x.Head.Frag x.Head.Tid x.Head.Ack x.Head.Amsdu x.Head.Eosp) x.Body
theorem an0 {A:Prop} (a:A:=by first|(and_intros<;>first|(with_reducible trivial)|omega|assumption|exact nfc|first|exact rfl|exact trivial|exact fitI|exact .inr rfl|exact .inl rfl|exact fun x hx=>absurd hx (by omega))|grind):A:=a
theorem an1 {A:Prop} (a:A:=by first|(and_intros<;>first|(with_reducible trivial)|omega|assumption|exact nfc|first|exact rfl|exact trivial|exact fitI|exact .inr rfl|exact .inl rfl|exact fun x hx=>absurd hx (by omega)|(intro x hx;(repeat (first|(and_intros<;>(first|exact rfl|exact trivial|exact fitI|exact .inr rfl|exact .inl rfl|exact fun x hx=>absurd hx (by omega)))|(exfalso;omega)|(rcases x with _|x)));done)|(refine Fit_app ?_ ?_<;>first|exact fitI|(intro x hx;(repeat (first|(and_intros<;>(first|exact rfl|exact trivial|exact fitI|exact .inr rfl|exact .inl rfl|exact fun x hx=>absurd hx (by omega)))|(exfalso;omega)|(rcases x with _|x)));done)|(refine Fit_app ?_ ?_<;>first|exact fitI|(intro x hx;(repeat (first|(and_intros<;>(first|exact rfl|exact trivial|exact fitI|exact .inr rfl|exact .inl rfl|exact fun x hx=>absurd hx (by omega)))|(exfalso;omega)|(rcases x with _|x)));done))))|grind):A:=a
theorem an2 {A:Prop} (a:A:=by and_intros<;>first|(with_reducible trivial)|(show anB _ _ _=true;subst han;kernel_rfl)|(show (anB _ _ _ && _)=true;subst han;kernel_rfl)|omega|assumption|exact nrc|exact nfc|first|exact rfl|exact trivial|exact fitI|exact .inr rfl|exact .inl rfl|exact fun x hx=>absurd hx (by omega)|(intro x hx;(repeat (first|(and_intros<;>(first|exact rfl|exact trivial|exact fitI|exact .inr rfl|exact .inl rfl|exact fun x hx=>absurd hx (by omega)))|(exfalso;omega)|(rcases x with _|x)));done)|(refine Fit_app ?_ ?_<;>first|exact fitI|(intro x hx;(repeat (first|(and_intros<;>(first|exact rfl|exact trivial|exact fitI|exact .inr rfl|exact .inl rfl|exact fun x hx=>absurd hx (by omega)))|(exfalso;omega)|(rcases x with _|x)));done)|(refine Fit_app ?_ ?_<;>first|exact fitI|(intro x hx;(repeat (first|(and_intros<;>(first|exact rfl|exact trivial|exact fitI|exact .inr rfl|exact .inl rfl|exact fun x hx=>absurd hx (by omega)))|(exfalso;omega)|(rcases x with _|x)));done)))):A:=a
theorem an3 {A:Prop} (a:A:=by first|(and_intros<;>first|(with_reducible trivial)|omega|assumption|exact nfc|first|exact rfl|exact trivial|exact fitI|exact .inr rfl|exact .inl rfl|exact fun x hx=>absurd hx (by omega)|(intro x hx;(repeat (first|(and_intros<;>(first|exact rfl|exact trivial|exact fitI|exact .inr rfl|exact .inl rfl|exact fun x hx=>absurd hx (by omega)))|(exfalso;omega)|(rcases x with _|x)));done))|grind):A:=a
theorem an4 {A:Prop} (a:A:=by first|(with_reducible trivial)|omega|(intro g;and_intros<;>first|(with_reducible trivial)|assumption|exact nfc|(intro g2;rw [g,g2];rfl)|(intro g2;assumption)|(simp only [g,Bool.true_and,Bool.and_true,Bool.not_false,Bool.not_true];assumption)|grind)|(and_intros<;>first|(with_reducible trivial)|omega|assumption|exact nfc|first|exact rfl|exact trivial|exact fitI|exact .inr rfl|exact .inl rfl|exact fun x hx=>absurd hx (by omega)|(intro x hx;(repeat (first|(and_intros<;>(first|exact rfl|exact trivial|exact fitI|exact .inr rfl|exact .inl rfl|exact fun x hx=>absurd hx (by omega)))|(exfalso;omega)|(rcases x with _|x)));done))|grind):A:=a
theorem an5 {A:Prop} (a:A:=by and_intros<;>first|(with_reducible trivial)|(show anB _ _ _=true;subst han;kernel_rfl)|(show (anB _ _ _ && _)=true;subst han;kernel_rfl)|omega|assumption|exact nrc|exact nfc|first|exact rfl|exact trivial|exact fitI|exact .inr rfl|exact .inl rfl|exact fun x hx=>absurd hx (by omega)):A:=a
theorem an6 {A:Prop} (a:A:=by first|(with_reducible trivial)|omega|grind):A:=a
theorem an7 {A:Prop} (a:A:=by and_intros<;>first|(with_reducible trivial)|(show anB _ _ _=true;subst han;kernel_rfl)|(show (anB _ _ _ && _)=true;subst han;kernel_rfl)|omega|assumption|exact nrc|exact nfc|first|exact rfl|exact trivial|exact fitI|exact .inr rfl|exact .inl rfl|exact fun x hx=>absurd hx (by omega)|(intro x hx;(repeat (first|(and_intros<;>(first|exact rfl|exact trivial|exact fitI|exact .inr rfl|exact .inl rfl|exact fun x hx=>absurd hx (by omega)))|(exfalso;omega)|(rcases x with _|x)));done)):A:=a
theorem an8 {A:Prop} (a:A:=by first|(with_reducible trivial)|omega|(intro g;and_intros<;>first|(with_reducible trivial)|assumption|exact nfc|(intro g2;rw [g,g2];rfl)|(intro g2;assumption)|(simp only [g,Bool.true_and,Bool.and_true,Bool.not_false,Bool.not_true];assumption)|grind)|(and_intros<;>first|(with_reducible trivial)|omega|assumption|exact nfc|first|exact rfl|exact trivial|exact fitI|exact .inr rfl|exact .inl rfl|exact fun x hx=>absurd hx (by omega))|grind):A:=a
theorem at0 {A:Prop} (a:A:=by and_intros<;>first|(with_reducible trivial)|omega|exact nfc|trivial):A:=a
theorem cv {A:Prop} (a:A:=by simp [CvB,CvL,Cv,blkAt,geth,getM]):A:=a
theorem cl {A:Prop} (a:A:=by first|rfl|(simp;done)|(simp;omega)):A:=a
noncomputable def F61 (p0:Int):Option (Bool) :=
 some ((bLe 0 p0) && (bLe p0 1099511627776))
noncomputable def body61:List AV->AR
 | [v0]=>.pure (iK .i64 v0/\(F61 (iA v0)).isSome=true) (.bool (gt (F61 (iA v0))))
 | _=>.fail
theorem ok61:FnOk Try.prog 61 (pureC body61):=by
 refine pure_fnM body61 (rs:=[.tmp 2]) Try.func61 (by kernel_rfl) rfl rfl ?_
 intro l ob v hb hob
 unfold body61 at hb
 split at hb
 ·rename_i v0
  injection hb with q1 q2;subst q1 q2
  obtain ⟨hk0_0,hob⟩:=hob
  obtain ⟨r,H⟩:=Option.isSome_iff_exists.1 hob
  rw [H,gt_some]
  have hw0:=iK_wk hk0_0
  generalize iA v0=p0 at H hw0
  refine ⟨[.int .i64 p0],_,(fun E vs F=>FR_wk1 hw0.1 F (fun vs F=>F)),rfl,rfl,?_⟩
  rw [Try.ntmps61]
  simp only [List.length_cons,List.length_nil,Nat.reduceAdd,Nat.reduceSub,List.replicate_succ,List.replicate_zero,List.cons_append,List.nil_append]
  unfold F61 at H
  try dsimp only at H
  refine sq ctNo_ok ?_
  simp only [go_sem]
  refine sq ctNo_ok ?_
  simp only [go_sem]
  repeat ((with_reducible refine And.intro ?_ ?_);focus exact an6)
  refine rg ctNo_ok ?_
  simp only [go_sem]
  obtain rfl:=Option.some.inj H
  first|rfl|simp only [Bool.and_false,Bool.false_and,Bool.and_true,Bool.true_and]
 ·cases hb
noncomputable def ct46t0:Ct:=tab [(61,pureC body61)]
theorem ct46t0_ok:CtOk Try.prog ct46t0:=tab_cons ok61 <| tab_nil
theorem ct46t0_61 (l:List AV) (h:List ABlk):ct46t0 61 l h=pureC body61 l h:=rfl
noncomputable def F46_L1 (p0:List TStored) (p2:Int) (v1_1:Int):Option (Lp (Int) ((Unit) ⊕ (Bool))) :=
 bif (bLt v1_1 (p0.length:Nat)) then (need (inb v1_1 p0.length) <| need (bif (!(bLt p2 ((gd p0 v1_1.toNat).Cat))) then ((F61 ((gd p0 v1_1.toNat).At)).isSome) else true) <| need (bif ((!((bLt p2 ((gd p0 v1_1.toNat).Cat)) || (!(gt (F61 ((gd p0 v1_1.toNat).At)))))) && (bLt 0 v1_1)) then inb (wr .i64 (v1_1 - 1)) p0.length else true) <| bif (((bLt p2 ((gd p0 v1_1.toNat).Cat)) || (!(gt (F61 ((gd p0 v1_1.toNat).At))))) || ((bLt 0 v1_1) && (bLt ((gd p0 v1_1.toNat).At) ((gd p0 ((wr .i64 (v1_1 - 1)).toNat)).At)))) then (some (.done (.inr false))) else (some (.next (wr .i64 (v1_1+1))))) else (some (.done (.inl ())))
noncomputable def F46 (p0:List TStored) (p1:Int) (p2:Int):Option (Bool) :=
 bif (bLt p1 (p0.length:Nat)) then (some false) else (lp (loopD (fun s=>F46_L1 p0 p2 s) 0) (fun _=>some true) some)
noncomputable def body46:List AV->AR
 | [v0,v1,v2]=>.pure (lK k_TStored 43 v0/\iK .i64 v1/\iK .u8 v2/\(F46 (lA g_TStored v0) (iA v1) (iA v2)).isSome=true) (.bool (gt (F46 (lA g_TStored v0) (iA v1) (iA v2))))
 | _=>.fail
theorem ok46:FnOk Try.prog 46 (pureC body46):=by
 refine pure_fnM body46 (rs:=[.tmp 6]) Try.func46 (by kernel_rfl) rfl rfl ?_
 intro l ob v hb hob
 unfold body46 at hb
 split at hb
 ·rename_i v0 v1 v2
  injection hb with q1 q2;subst q1 q2
  obtain ⟨hk0_0,hk1_0,hk2_0,hob⟩:=hob
  obtain ⟨r,H⟩:=Option.isSome_iff_exists.1 hob
  rw [H,gt_some]
  have hw0:=lK_wk (fun r h=>w_TStored h) hk0_0
  have hw1:=iK_wk hk1_0
  have hw2:=iK_wk hk2_0
  generalize lA g_TStored v0=p0 at H hw0
  generalize iA v1=p1 at H hw1
  generalize iA v2=p2 at H hw2
  refine ⟨[.ro 43 p0.length false (enR c_TStored p0),.int .i64 p1,.int .u8 p2],_,(fun E vs F=>FR_wk1 hw0.1 F (fun vs F=>FR_wk1 hw1.1 F (fun vs F=>FR_wk1 hw2.1 F (fun vs F=>F)))),rfl,rfl,?_⟩
  rw [Try.ntmps46]
  simp only [List.length_cons,List.length_nil,Nat.reduceAdd,Nat.reduceSub,List.replicate_succ,List.replicate_zero,List.cons_append,List.nil_append]
  unfold F46 at H
  try dsimp only at H
  refine sq ctNo_ok ?_
  simp only [go_sem]
  refine seqM ?_
  refine sq ctNo_ok ?_
  simp only [go_sem]
  repeat ((with_reducible refine And.intro ?_ ?_);focus exact an0)
  refine condM rfl trivial (fun hc=>?_) (fun hc=>?_)
  ·have hk1:(bLt p1 (p0.length:Nat))=true:=by simpa using hc
   replace H:=cond_t hc H
   refine sq ctNo_ok ?_
   simp only [go_sem]
   refine rg ctNo_ok ?_
   simp only [go_sem]
   obtain rfl:=Option.some.inj H
   first|rfl|simp only [Bool.and_false,Bool.false_and,Bool.and_true,Bool.true_and]
  have hk1:(bLt p1 (p0.length:Nat))=false:=by simpa using hc
  replace H:=cond_f hc H
  refine rg ctNo_ok ?_
  simp only [go_sem]
  refine seqM ?_
  refine sq ctNo_ok ?_
  simp only [go_sem]
  repeat ((with_reducible refine And.intro ?_ ?_);focus exact an0)
  refine blkM ?_
  refine loop_den (fun s:Int=>(.ro 43 p0.length false (enR c_TStored p0)::.top::.int .u8 p2::tp 10 (.ro 43 p0.length false (enR c_TStored p0)::.int .i64 (p0.length:Nat)::.int .i64 s::tp 30 []))) (fun s=>[]) (fun e:Unit=>(tp 46 [])) (fun e=>[]) H ?_ (fun v1_1 o H hn1_1 hn2_1=>?_) (fun e H=>?_)
  ·refine SubF_of ⟨[],?_,?_,by rfl,by rfl⟩
   ·simp [CvL,Cv,tp,tp]
   ·trivial
  ·unfold F46_L1 at H
   try dsimp only at H ⊢
   try simp only [tp]
   refine sq ctNo_ok ?_
   simp only [go_sem]
   refine seqM ?_
   refine condM' rfl trivial (fun hc=>?_) (fun hc=>?_)
   ·have hk2:(bLt v1_1 (p0.length:Nat))=false:=by simpa using hc
    replace H:=cond_f hc H
    refine rg ctNo_ok ?_
    simp only [go_sem]
    refine ⟨_,(Option.some.inj H).symm,?_⟩
    refine SubF_of ⟨[],?_,?_,by rfl,by rfl⟩
    ·simp [CvL,Cv]
    ·trivial
   have hk2:(bLt v1_1 (p0.length:Nat))=true:=by simpa using hc
   replace H:=cond_t hc H
   refine rg ctNo_ok ?_
   simp only [go_sem]
   refine seqM ?_
   refine blkM ?_
   refine seqM ?_
   obtain ⟨f3,H⟩:=need_some.1 H
   replace f3:=inb_iff.1 f3
   refine rg ctNo_ok ?_
   simp only [go_sem,Nat.reduceLT,Nat.reduceAdd,f3]
   repeat ((with_reducible refine And.intro ?_ ?_);focus exact an6)
   refine seqM ?_
   obtain ⟨f4,H⟩:=need_some.1 H
   replace f4:=g_iff.1 f4
   obtain ⟨f5,H⟩:=need_some.1 H
   replace f5:=g_iff.1 f5
   replace f5:=fun g=>inb_iff.1 (f5 g)
   refine draw_quiet shT_ok ct46t0_ok (by kernel_rfl) (by kernel_rfl) ?_
   simp only [go_sem,Nat.reduceLeDiff,Nat.reduceLT,Nat.reduceAdd,ct46t0_61,body61]
   repeat ((with_reducible refine And.intro ?_ ?_);focus (first|(with_reducible trivial)|omega|exact f4|exact f5|(intro g;have q:=f4 (by first|exact g|(rw [g];rfl)|simpa using g);first|exact q|exact ⟨q.1,q.2.1⟩|exact q.2.2|omega|exact ⟨g,q⟩|exact ⟨trivial,q⟩|exact ⟨g,q.1,q.2.1⟩|exact ⟨g,q.2.2⟩)|(intro g;have q:=f5 (by first|exact g|(rw [g];rfl)|simpa using g);first|exact q|exact ⟨q.1,q.2.1⟩|exact q.2.2|omega|exact ⟨g,q⟩|exact ⟨trivial,q⟩|exact ⟨g,q.1,q.2.1⟩|exact ⟨g,q.2.2⟩)|(intro g;(try have q0:=f4 (by first|exact g|(rw [g];rfl)|simpa using g));(try have q1:=f5 (by first|exact g|(rw [g];rfl)|simpa using g));and_intros<;>first|(with_reducible trivial)|assumption|exact nfc|(intro g2;rw [g,g2];rfl)|(intro g2;assumption)|(simp only [g,Bool.true_and,Bool.and_true,Bool.not_false,Bool.not_true];assumption)|grind)|(and_intros<;>first|(with_reducible trivial)|omega|assumption|exact nfc|first|exact rfl|exact trivial|exact fitI|exact .inr rfl|exact .inl rfl|exact fun x hx=>absurd hx (by omega))|grind))
   refine condM rfl trivial (fun hc=>?_) (fun hc=>?_)
   ·have hk6:(((bLt p2 ((gd p0 v1_1.toNat).Cat)) || (!(gt (F61 ((gd p0 v1_1.toNat).At))))) || ((bLt 0 v1_1) && (bLt ((gd p0 v1_1.toNat).At) ((gd p0 ((wr .i64 (v1_1 - 1)).toNat)).At))))=true:=by simpa using hc
    replace H:=cond_t hc H
    refine sq ctNo_ok ?_
    simp only [go_sem]
    refine rg ctNo_ok ?_
    simp only [go_sem]
    have H:=hn2_1 _ (Option.some.inj H).symm
    obtain rfl:=Option.some.inj H
    first|rfl|simp only [Bool.and_false,Bool.false_and,Bool.and_true,Bool.true_and]
   have hk6:(((bLt p2 ((gd p0 v1_1.toNat).Cat)) || (!(gt (F61 ((gd p0 v1_1.toNat).At))))) || ((bLt 0 v1_1) && (bLt ((gd p0 v1_1.toNat).At) ((gd p0 ((wr .i64 (v1_1 - 1)).toNat)).At))))=false:=by simpa using hc
   replace H:=cond_f hc H
   refine rg ctNo_ok ?_
   simp only [go_sem]
   refine rg ctNo_ok ?_
   simp only [go_sem]
   refine ⟨_,(Option.some.inj H).symm,?_⟩
   refine SubF_of ⟨[],?_,?_,by rfl,by rfl⟩
   ·simp [CvL,Cv]
   ·trivial
  ·try dsimp only at H ⊢
   try simp only [tp]
   try simp only [m_normal]
   refine sq ctNo_ok ?_
   simp only [go_sem]
   refine rg ctNo_ok ?_
   simp only [go_sem]
   obtain rfl:=Option.some.inj H
   first|rfl|simp only [Bool.and_false,Bool.false_and,Bool.and_true,Bool.true_and]
 ·cases hb
noncomputable def F86 (p0:TSleeper):Option (Bool) :=
 some p0.Asleep
noncomputable def body86:List AV->AR
 | [v0]=>.pure (aK 3 k_TSleeper v0/\(F86 (g_TSleeper (aL v0))).isSome=true) (.bool (gt (F86 (g_TSleeper (aL v0)))))
 | _=>.fail
theorem ok86:FnOk Try.prog 86 (pureC body86):=by
 refine pure_fnM body86 (rs:=[.tmp 2]) Try.func86 (by kernel_rfl) rfl rfl ?_
 intro l ob v hb hob
 unfold body86 at hb
 split at hb
 ·rename_i v0
  injection hb with q1 q2;subst q1 q2
  obtain ⟨hk0_0,hob⟩:=hob
  obtain ⟨r,H⟩:=Option.isSome_iff_exists.1 hob
  rw [H,gt_some]
  have hw0:=wA_TSleeper hk0_0
  generalize g_TSleeper (aL v0)=p0 at H hw0
  refine ⟨[.agg [.int .i64 p0.Aid,.bool p0.Asleep,.ro 43 p0.Held.length false (enR c_TStored p0.Held)]],_,(fun E vs F=>FR_wk1 hw0.1 F (fun vs F=>F)),rfl,rfl,?_⟩
  rw [Try.ntmps86]
  simp only [List.length_cons,List.length_nil,Nat.reduceAdd,Nat.reduceSub,List.replicate_succ,List.replicate_zero,List.cons_append,List.nil_append]
  unfold F86 at H
  try dsimp only at H
  refine sq ctNo_ok ?_
  simp only [go_sem]
  refine sq ctNo_ok ?_
  simp only [go_sem,Nat.reduceLeDiff,Nat.reduceLT,Nat.reduceAdd]
  repeat ((with_reducible refine And.intro ?_ ?_);focus exact an6)
  refine rg ctNo_ok ?_
  simp only [go_sem]
  obtain rfl:=Option.some.inj H
  first|rfl|simp only [Bool.and_false,Bool.false_and,Bool.and_true,Bool.true_and]
 ·cases hb
noncomputable def ct106_0t0:Ct:=tab [(86,pureC body86)]
theorem ct106_0t0_ok:CtOk Try.prog ct106_0t0:=tab_cons ok86 <| tab_nil
theorem ct106_0t0_86 (l:List AV) (h:List ABlk):ct106_0t0 86 l h=pureC body86 l h:=rfl
noncomputable def F106_0_L1 (p0:List TSleeper) (v1_1:Int):Option (Lp (Int) ((Unit) ⊕ (Int))) :=
 bif (bLt v1_1 (p0.length:Nat)) then (need (inb v1_1 p0.length) <| (F86 (gd p0 v1_1.toNat)).bind fun r3=>bif r3 then (some (.done (.inr v1_1))) else (some (.next (wr .i64 (v1_1+1))))) else (some (.done (.inl ())))
noncomputable def F106_0 (p0:List TSleeper):Option (Int) :=
 lp (loopD (fun s=>F106_0_L1 p0 s) 0) (fun _=>some (-1)) some
noncomputable def body106_0:List AV->AR
 | [v0,.fn 86 []]=>.pure (lK k_TSleeper 3 v0/\(F106_0 (lA g_TSleeper v0)).isSome=true) (.int .i64 (gt (F106_0 (lA g_TSleeper v0))))
 | _=>.fail
theorem ok106_0:FnOk Try.prog 106 (pureC body106_0):=by
 refine pure_fnM body106_0 (rs:=[.tmp 4]) Try.func106 (by kernel_rfl) rfl rfl ?_
 intro l ob v hb hob
 unfold body106_0 at hb
 split at hb
 ·rename_i v0
  injection hb with q1 q2;subst q1 q2
  obtain ⟨hk0_0,hob⟩:=hob
  obtain ⟨r,H⟩:=Option.isSome_iff_exists.1 hob
  rw [H,gt_some]
  have hw0:=lK_wk (fun r h=>w_TSleeper h) hk0_0
  generalize lA g_TSleeper v0=p0 at H hw0
  refine ⟨[.ro 3 p0.length false (enR c_TSleeper p0),.fn 86 []],_,(fun E vs F=>FR_wk1 hw0.1 F (fun vs F=>FR_wk1 (fn_wk LW_nil) F (fun vs F=>F))),rfl,rfl,?_⟩
  rw [Try.ntmps106]
  simp only [List.length_cons,List.length_nil,Nat.reduceAdd,Nat.reduceSub,List.replicate_succ,List.replicate_zero,List.cons_append,List.nil_append]
  unfold F106_0 at H
  try dsimp only at H
  refine sq ctNo_ok ?_
  simp only [go_sem]
  refine seqM ?_
  refine sq ctNo_ok ?_
  simp only [go_sem]
  repeat ((with_reducible refine And.intro ?_ ?_);focus exact an0)
  refine blkM ?_
  refine loop_den (fun s:Int=>(.ro 3 p0.length false (enR c_TSleeper p0)::.fn 86 []::tp 5 (.int .i64 (p0.length:Nat)::.int .i64 s::tp 10 []))) (fun s=>[]) (fun e:Unit=>(tp 19 [])) (fun e=>[]) H ?_ (fun v1_1 o H hn1_1 hn2_1=>?_) (fun e H=>?_)
  ·refine SubF_of ⟨[],?_,?_,by rfl,by rfl⟩
   ·simp [CvL,Cv,tp,tp]
   ·trivial
  ·unfold F106_0_L1 at H
   try dsimp only at H ⊢
   try simp only [tp]
   refine sq ctNo_ok ?_
   simp only [go_sem]
   refine seqM ?_
   refine condM' rfl trivial (fun hc=>?_) (fun hc=>?_)
   ·have hk1:(bLt v1_1 (p0.length:Nat))=false:=by simpa using hc
    replace H:=cond_f hc H
    refine rg ctNo_ok ?_
    simp only [go_sem]
    refine ⟨_,(Option.some.inj H).symm,?_⟩
    refine SubF_of ⟨[],?_,?_,by rfl,by rfl⟩
    ·simp [CvL,Cv]
    ·trivial
   have hk1:(bLt v1_1 (p0.length:Nat))=true:=by simpa using hc
   replace H:=cond_t hc H
   refine rg ctNo_ok ?_
   simp only [go_sem]
   refine seqM ?_
   refine blkM ?_
   refine sq ctNo_ok ?_
   simp only [go_sem]
   refine seqM ?_
   obtain ⟨f2,H⟩:=need_some.1 H
   replace f2:=inb_iff.1 f2
   obtain ⟨r3,e4,H⟩:=bsi H
   refine rg ct106_0t0_ok ?_
   simp only [go_sem,Nat.reduceLT,Nat.reduceAdd,ct106_0t0_86,body86,f2,e4]
   repeat ((with_reducible refine And.intro ?_ ?_);focus exact an0)
   refine condM rfl trivial (fun hc=>?_) (fun hc=>?_)
   ·have hk5:(r3)=true:=by simpa using hc
    replace H:=cond_t hc H
    refine sq ctNo_ok ?_
    simp only [go_sem]
    refine rg ctNo_ok ?_
    simp only [go_sem]
    have H:=hn2_1 _ (Option.some.inj H).symm
    obtain rfl:=Option.some.inj H
    first|rfl|simp only [Bool.and_false,Bool.false_and,Bool.and_true,Bool.true_and]
   have hk5:(r3)=false:=by simpa using hc
   replace H:=cond_f hc H
   refine rg ctNo_ok ?_
   simp only [go_sem]
   refine rg ctNo_ok ?_
   simp only [go_sem]
   refine ⟨_,(Option.some.inj H).symm,?_⟩
   refine SubF_of ⟨[],?_,?_,by rfl,by rfl⟩
   ·simp [CvL,Cv]
   ·trivial
  ·try dsimp only at H ⊢
   try simp only [tp]
   try simp only [m_normal]
   refine sq ctNo_ok ?_
   simp only [go_sem]
   refine rg ctNo_ok ?_
   simp only [go_sem]
   obtain rfl:=Option.some.inj H
   first|rfl|simp only [Bool.and_false,Bool.false_and,Bool.and_true,Bool.true_and]
 ·cases hb
noncomputable def ct85_0t0:Ct:=tab [(106,pureC body106_0)]
theorem ct85_0t0_ok:CtOk Try.prog ct85_0t0:=tab_cons ok106_0 <| tab_nil
theorem ct85_0t0_106 (l:List AV) (h:List ABlk):ct85_0t0 106 l h=pureC body106_0 l h:=rfl
noncomputable def F85_0 (p0:List TSleeper):Option (Bool) :=
 (F106_0 p0).bind fun r1=>some (bLe 0 r1)
noncomputable def body85_0:List AV->AR
 | [v0,.fn 86 []]=>.pure (lK k_TSleeper 3 v0/\(F85_0 (lA g_TSleeper v0)).isSome=true) (.bool (gt (F85_0 (lA g_TSleeper v0))))
 | _=>.fail
theorem ok85_0:FnOk Try.prog 85 (pureC body85_0):=by
 refine pure_fnM body85_0 (rs:=[.tmp 4]) Try.func85 (by kernel_rfl) rfl rfl ?_
 intro l ob v hb hob
 unfold body85_0 at hb
 split at hb
 ·rename_i v0
  injection hb with q1 q2;subst q1 q2
  obtain ⟨hk0_0,hob⟩:=hob
  obtain ⟨r,H⟩:=Option.isSome_iff_exists.1 hob
  rw [H,gt_some]
  have hw0:=lK_wk (fun r h=>w_TSleeper h) hk0_0
  generalize lA g_TSleeper v0=p0 at H hw0
  refine ⟨[.ro 3 p0.length false (enR c_TSleeper p0),.fn 86 []],_,(fun E vs F=>FR_wk1 hw0.1 F (fun vs F=>FR_wk1 (fn_wk LW_nil) F (fun vs F=>F))),rfl,rfl,?_⟩
  rw [Try.ntmps85]
  simp only [List.length_cons,List.length_nil,Nat.reduceAdd,Nat.reduceSub,List.replicate_succ,List.replicate_zero,List.cons_append,List.nil_append]
  unfold F85_0 at H
  try dsimp only at H
  refine sq ctNo_ok ?_
  simp only [go_sem]
  refine seqM ?_
  obtain ⟨r1,e2,H⟩:=bsi H
  refine rg ct85_0t0_ok ?_
  simp only [go_sem,ct85_0t0_106,body106_0,e2]
  repeat ((with_reducible refine And.intro ?_ ?_);focus exact an0)
  refine rg ctNo_ok ?_
  simp only [go_sem]
  obtain rfl:=Option.some.inj H
  first|rfl|simp only [Bool.and_false,Bool.false_and,Bool.and_true,Bool.true_and]
 ·cases hb
noncomputable def ct47t0:Ct:=tab [(85,pureC body85_0)]
theorem ct47t0_ok:CtOk Try.prog ct47t0:=tab_cons ok85_0 <| tab_nil
theorem ct47t0_85 (l:List AV) (h:List ABlk):ct47t0 85 l h=pureC body85_0 l h:=rfl
noncomputable def F47 (p0:TBuffer):Option (Bool) :=
 (F85_0 p0.List).bind fun r1=>some r1
noncomputable def body47:List AV->AR
 | [v0]=>.pure (aK 4 k_TBuffer v0/\(F47 (g_TBuffer (aL v0))).isSome=true) (.bool (gt (F47 (g_TBuffer (aL v0)))))
 | _=>.fail
theorem ok47:FnOk Try.prog 47 (pureC body47):=by
 refine pure_fnM body47 (rs:=[.tmp 2]) Try.func47 (by kernel_rfl) rfl rfl ?_
 intro l ob v hb hob
 unfold body47 at hb
 split at hb
 ·rename_i v0
  injection hb with q1 q2;subst q1 q2
  obtain ⟨hk0_0,hob⟩:=hob
  obtain ⟨r,H⟩:=Option.isSome_iff_exists.1 hob
  rw [H,gt_some]
  have hw0:=wA_TBuffer hk0_0
  generalize g_TBuffer (aL v0)=p0 at H hw0
  refine ⟨[.agg [.int .i64 p0.Limit,.int .i64 p0.Stay,.ro 3 p0.List.length false (enR c_TSleeper p0.List),.ro 43 p0.Group.length false (enR c_TStored p0.Group)]],_,(fun E vs F=>FR_wk1 hw0.1 F (fun vs F=>F)),rfl,rfl,?_⟩
  rw [Try.ntmps47]
  simp only [List.length_cons,List.length_nil,Nat.reduceAdd,Nat.reduceSub,List.replicate_succ,List.replicate_zero,List.cons_append,List.nil_append]
  unfold F47 at H
  try dsimp only at H
  refine sq ctNo_ok ?_
  simp only [go_sem]
  refine seqM ?_
  obtain ⟨r1,e2,H⟩:=bsi H
  refine rg ct47t0_ok ?_
  simp only [go_sem,Nat.reduceLeDiff,Nat.reduceLT,Nat.reduceAdd,ct47t0_85,body85_0,e2]
  repeat ((with_reducible refine And.intro ?_ ?_);focus exact an0)
  refine rg ctNo_ok ?_
  simp only [go_sem]
  obtain rfl:=Option.some.inj H
  first|rfl|simp only [Bool.and_false,Bool.false_and,Bool.and_true,Bool.true_and]
 ·cases hb
noncomputable def ct18t0:Ct:=tab [(46,pureC body46)]
theorem ct18t0_ok:CtOk Try.prog ct18t0:=tab_cons ok46 <| tab_nil
theorem ct18t0_46 (l:List AV) (h:List ABlk):ct18t0 46 l h=pureC body46 l h:=rfl
noncomputable def ct18t1:Ct:=tab [(46,pureC body46),(47,pureC body47)]
theorem ct18t1_ok:CtOk Try.prog ct18t1:=tab_cons ok46 <| tab_cons ok47 <| tab_nil
theorem ct18t1_46 (l:List AV) (h:List ABlk):ct18t1 46 l h=pureC body46 l h:=rfl
theorem ct18t1_47 (l:List AV) (h:List ABlk):ct18t1 47 l h=pureC body47 l h:=rfl
noncomputable def F18_L1 (p0:TBuffer) (v1_1:Bool) (v1_2:Int) (v1_3:Int):Option (Lp (Bool × Int × Int) ((Bool) ⊕ (Int))) :=
 bif (bLt v1_3 (p0.List.length:Nat)) then (need (inb v1_3 p0.List.length) <| need (bif ((v1_1 && (bLt v1_2 ((gd p0.List v1_3.toNat).Aid))) && (bLe ((gd p0.List v1_3.toNat).Aid) 255)) then ((F46 ((gd p0.List v1_3.toNat).Held) p0.Limit 3).isSome) else true) <| some (.next (((((v1_1 && (bLt v1_2 ((gd p0.List v1_3.toNat).Aid))) && (bLe ((gd p0.List v1_3.toNat).Aid) 255)) && (gt (F46 ((gd p0.List v1_3.toNat).Held) p0.Limit 3))) && ((gd p0.List v1_3.toNat).Asleep || (bEq (((gd p0.List v1_3.toNat).Held).length:Nat) 0))),(gd p0.List v1_3.toNat).Aid,wr .i64 (v1_3+1)))) else (some (.done (.inl v1_1)))
noncomputable def F18 (p0:TBuffer):Option (Int) :=
 lp (loopD (fun s=>F18_L1 p0 s.1 s.2.1 s.2.2) ((((((bLe 1 p0.Limit) && (bLe p0.Limit 64)) && (bLe 1 p0.Stay)) && (bLe p0.Stay 1073741824)) && (bLe (p0.List.length:Nat) 32)),0,0)) (fun w1_4=>need (bif (!(!w1_4)) then ((F46 p0.Group p0.Limit 0).isSome) else true) <| need (bif ((!((!w1_4) || (!(gt (F46 p0.Group p0.Limit 0))))) && (bLt 0 (p0.Group.length:Nat))) then ((F47 p0).isSome) else true) <| bif (((!w1_4) || (!(gt (F46 p0.Group p0.Limit 0)))) || ((bLt 0 (p0.Group.length:Nat)) && (!(gt (F47 p0))))) then (some 8) else (some 0)) some
noncomputable def body18:List AV->AR
 | [v0]=>.pure (aK 4 k_TBuffer v0/\(F18 (g_TBuffer (aL v0))).isSome=true) (.int .i64 (gt (F18 (g_TBuffer (aL v0)))))
 | _=>.fail
theorem ok18:FnOk Try.prog 18 (pureC body18):=by
 refine pure_fnM body18 (rs:=[.tmp 2]) Try.func18 (by kernel_rfl) rfl rfl ?_
 intro l ob v hb hob
 unfold body18 at hb
 split at hb
 ·rename_i v0
  injection hb with q1 q2;subst q1 q2
  obtain ⟨hk0_0,hob⟩:=hob
  obtain ⟨r,H⟩:=Option.isSome_iff_exists.1 hob
  rw [H,gt_some]
  have hw0:=wA_TBuffer hk0_0
  generalize g_TBuffer (aL v0)=p0 at H hw0
  refine ⟨[.agg [.int .i64 p0.Limit,.int .i64 p0.Stay,.ro 3 p0.List.length false (enR c_TSleeper p0.List),.ro 43 p0.Group.length false (enR c_TStored p0.Group)]],_,(fun E vs F=>FR_wk1 hw0.1 F (fun vs F=>F)),rfl,rfl,?_⟩
  rw [Try.ntmps18]
  simp only [List.length_cons,List.length_nil,Nat.reduceAdd,Nat.reduceSub,List.replicate_succ,List.replicate_zero,List.cons_append,List.nil_append]
  unfold F18 at H
  try dsimp only at H
  refine sq ctNo_ok ?_
  simp only [go_sem]
  refine sq ctNo_ok ?_
  simp only [go_sem,Nat.reduceLeDiff,Nat.reduceLT,Nat.reduceAdd]
  repeat ((with_reducible refine And.intro ?_ ?_);focus exact an8)
  refine sq ctNo_ok ?_
  simp only [go_sem]
  refine seqM ?_
  refine sq ctNo_ok ?_
  simp only [go_sem,Nat.reduceLeDiff,Nat.reduceLT,Nat.reduceAdd]
  repeat ((with_reducible refine And.intro ?_ ?_);focus exact an0)
  refine blkM ?_
  refine loop_den (fun s:Bool × Int × Int=>(.top::.ptr 0 0 0 0::.top::.bool s.1::.int .i64 s.2.1::tp 27 (.ro 3 p0.List.length false (enR c_TSleeper p0.List)::.int .i64 (p0.List.length:Nat)::.int .i64 s.2.2::tp 56 []))) (fun s=>[.lit 25 [.int .i64 p0.Limit,.int .i64 p0.Stay,.ro 3 p0.List.length false (enR c_TSleeper p0.List),.ro 43 p0.Group.length false (enR c_TStored p0.Group)]]) (fun e:Bool=>(.top::.ptr 0 0 0 0::.top::.bool e::tp 87 [])) (fun e=>[.lit 25 [.int .i64 p0.Limit,.int .i64 p0.Stay,.ro 3 p0.List.length false (enR c_TSleeper p0.List),.ro 43 p0.Group.length false (enR c_TStored p0.Group)]]) H ?_ (fun s o H hn1_1 hn2_1=>?_) (fun w1_4 H=>?_)
  ·refine SubF_of ⟨[some 0],?_,?_,by rfl,by rfl⟩
   ·simp [CvL,Cv,getM,tp,tp]
   ·exact ⟨cv,trivial⟩
  ·obtain ⟨v1_1,v1_2,v1_3⟩:=s
   unfold F18_L1 at H
   try dsimp only at H ⊢
   try simp only [tp]
   refine sq ctNo_ok ?_
   simp only [go_sem]
   refine seqM ?_
   refine condM' rfl trivial (fun hc=>?_) (fun hc=>?_)
   ·have hk1:(bLt v1_3 (p0.List.length:Nat))=false:=by simpa using hc
    replace H:=cond_f hc H
    refine rg ctNo_ok ?_
    simp only [go_sem]
    refine ⟨_,(Option.some.inj H).symm,?_⟩
    refine SubF_of ⟨[some 0],?_,?_,by rfl,by rfl⟩
    ·simp [CvL,Cv,getM]
    ·exact ⟨cv,trivial⟩
   have hk1:(bLt v1_3 (p0.List.length:Nat))=true:=by simpa using hc
   replace H:=cond_t hc H
   refine rg ctNo_ok ?_
   simp only [go_sem]
   refine seqM ?_
   refine blkM ?_
   refine seqM ?_
   obtain ⟨f2,H⟩:=need_some.1 H
   replace f2:=inb_iff.1 f2
   refine rg ctNo_ok ?_
   simp only [go_sem,Nat.reduceLT,Nat.reduceAdd,f2]
   repeat ((with_reducible refine And.intro ?_ ?_);focus exact an6)
   refine seqM ?_
   obtain ⟨f3,H⟩:=need_some.1 H
   replace f3:=g_iff.1 f3
   refine rg ct18t0_ok ?_
   simp only [go_sem,Nat.reduceLeDiff,Nat.reduceLT,Nat.reduceAdd,ct18t0_46,body46]
   repeat ((with_reducible refine And.intro ?_ ?_);focus (first|(with_reducible trivial)|omega|exact f3|(intro g;have q:=f3 (by first|exact g|(rw [g];rfl)|simpa using g);first|exact q|exact ⟨q.1,q.2.1⟩|exact q.2.2|omega|exact ⟨g,q⟩|exact ⟨trivial,q⟩|exact ⟨g,q.1,q.2.1⟩|exact ⟨g,q.2.2⟩)|(intro g;(try have q0:=f3 (by first|exact g|(rw [g];rfl)|simpa using g));and_intros<;>first|(with_reducible trivial)|assumption|exact nfc|(intro g2;rw [g,g2];rfl)|(intro g2;assumption)|(simp only [g,Bool.true_and,Bool.and_true,Bool.not_false,Bool.not_true];assumption)|grind)|(and_intros<;>first|(with_reducible trivial)|omega|assumption|exact nfc|first|exact rfl|exact trivial|exact fitI|exact .inr rfl|exact .inl rfl|exact fun x hx=>absurd hx (by omega))|grind))
   refine rg ctNo_ok ?_
   simp only [go_sem,Nat.reduceLeDiff,Nat.reduceLT,Nat.reduceAdd]
   repeat ((with_reducible refine And.intro ?_ ?_);focus exact an6)
   refine rg ctNo_ok ?_
   simp only [go_sem]
   refine ⟨_,(Option.some.inj H).symm,?_⟩
   refine SubF_of ⟨[some 0],?_,?_,by rfl,by rfl⟩
   ·simp [CvL,Cv,getM]
   ·exact ⟨cv,trivial⟩
  ·try dsimp only at H ⊢
   try simp only [tp]
   try simp only [m_normal]
   refine seqM ?_
   refine seqM ?_
   obtain ⟨f4,H⟩:=need_some.1 H
   replace f4:=g_iff.1 f4
   obtain ⟨f5,H⟩:=need_some.1 H
   replace f5:=g_iff.1 f5
   refine rg ct18t1_ok ?_
   simp only [go_sem,Nat.reduceLeDiff,Nat.reduceLT,Nat.reduceAdd,ct18t1_46,body46,ct18t1_47,body47]
   repeat ((with_reducible refine And.intro ?_ ?_);focus (first|(with_reducible trivial)|omega|exact f4|exact f5|(intro g;have q:=f4 (by first|exact g|(rw [g];rfl)|simpa using g);first|exact q|exact ⟨q.1,q.2.1⟩|exact q.2.2|omega|exact ⟨g,q⟩|exact ⟨trivial,q⟩|exact ⟨g,q.1,q.2.1⟩|exact ⟨g,q.2.2⟩)|(intro g;have q:=f5 (by first|exact g|(rw [g];rfl)|simpa using g);first|exact q|exact ⟨q.1,q.2.1⟩|exact q.2.2|omega|exact ⟨g,q⟩|exact ⟨trivial,q⟩|exact ⟨g,q.1,q.2.1⟩|exact ⟨g,q.2.2⟩)|(intro g;(try have q0:=f4 (by first|exact g|(rw [g];rfl)|simpa using g));(try have q1:=f5 (by first|exact g|(rw [g];rfl)|simpa using g));and_intros<;>first|(with_reducible trivial)|assumption|exact nfc|(intro g2;rw [g,g2];rfl)|(intro g2;assumption)|(simp only [g,Bool.true_and,Bool.and_true,Bool.not_false,Bool.not_true];assumption)|grind)|(and_intros<;>first|(with_reducible trivial)|omega|assumption|exact nfc|first|exact rfl|exact trivial|exact fitI|exact .inr rfl|exact .inl rfl|exact fun x hx=>absurd hx (by omega))|grind))
   refine condM rfl trivial (fun hc=>?_) (fun hc=>?_)
   ·have hk6:(((!w1_4) || (!(gt (F46 p0.Group p0.Limit 0)))) || ((bLt 0 (p0.Group.length:Nat)) && (!(gt (F47 p0)))))=true:=by simpa using hc
    replace H:=cond_t hc H
    refine sq ctNo_ok ?_
    simp only [go_sem]
    refine rg ctNo_ok ?_
    simp only [go_sem]
    obtain rfl:=Option.some.inj H
    first|rfl|simp only [Bool.and_false,Bool.false_and,Bool.and_true,Bool.true_and]
   have hk6:(((!w1_4) || (!(gt (F46 p0.Group p0.Limit 0)))) || ((bLt 0 (p0.Group.length:Nat)) && (!(gt (F47 p0)))))=false:=by simpa using hc
   replace H:=cond_f hc H
   refine rg ctNo_ok ?_
   simp only [go_sem]
   refine sq ctNo_ok ?_
   simp only [go_sem]
   refine rg ctNo_ok ?_
   simp only [go_sem]
   obtain rfl:=Option.some.inj H
   first|rfl|simp only [Bool.and_false,Bool.false_and,Bool.and_true,Bool.true_and]
 ·cases hb
noncomputable def ct12t0:Ct:=tab [(18,pureC body18)]
theorem ct12t0_ok:CtOk Try.prog ct12t0:=tab_cons ok18 <| tab_nil
theorem ct12t0_18 (l:List AV) (h:List ABlk):ct12t0 18 l h=pureC body18 l h:=rfl
noncomputable def F12 (p0:Int) (p1:Int):Option (TBuffer × Int) :=
 (F18 (TBuffer.mk p0 p1 [] [])).bind fun r1=>bif (!bEq r1 0) then (some ((TBuffer.mk 0 0 [] []),2)) else (some ((TBuffer.mk p0 p1 [] []),0))
noncomputable def body12:List AV->Nat->AR
 | [v0,v1],_=>.pure (iK .i64 v0/\iK .i64 v1/\(F12 (iA v0) (iA v1)).isSome=true) (.tup [.agg [.int .i64 (((gt (F12 (iA v0) (iA v1))).1).Limit),.int .i64 (((gt (F12 (iA v0) (iA v1))).1).Stay),.ro 3 ((((gt (F12 (iA v0) (iA v1))).1).List).length) false (enR c_TSleeper (((gt (F12 (iA v0) (iA v1))).1).List)),.ro 43 ((((gt (F12 (iA v0) (iA v1))).1).Group).length) false (enR c_TStored (((gt (F12 (iA v0) (iA v1))).1).Group))],.int .i64 ((gt (F12 (iA v0) (iA v1))).2)])
 | _,_=>.fail
theorem ok12:FnOk Try.prog 12 (genC body12):=by
 refine gen_fn body12 (rs:=[.cell 4 25,.tmp 5]) Try.func12 (by kernel_rfl) rfl rfl ?_
 intro l s ob v ns hb hob
 rcases hb with ⟨hb,rfl⟩|hb
 ·unfold body12 at hb
  split at hb
  ·rename_i v0 v1
   injection hb with q1 q2;subst q1 q2
   obtain ⟨hk0_0,hk1_0,hob⟩:=hob
   obtain ⟨r,H⟩:=Option.isSome_iff_exists.1 hob
   rw [H,gt_some]
   have hw0:=iK_wk hk0_0
   have hw1:=iK_wk hk1_0
   generalize iA v0=p0 at H hw0
   generalize iA v1=p1 at H hw1
   refine ⟨[.int .i64 p0,.int .i64 p1],.tup [.agg [.int .i64 r.1.Limit,.int .i64 r.1.Stay,.ro 3 r.1.List.length false (enR c_TSleeper r.1.List),.ro 43 r.1.Group.length false (enR c_TStored r.1.Group)],.int .i64 r.2],[],(fun E vs F=>FR_wk1 hw0.1 F (fun vs F=>FR_wk1 hw1.1 F (fun vs F=>F))),by simp only [ren,renL],trivial,?_⟩
   rw [Try.ntmps12]
   simp only [List.length_cons,List.length_nil,Nat.reduceAdd,Nat.reduceSub,List.replicate_succ,List.replicate_zero,List.cons_append,List.nil_append]
   unfold F12 at H
   try dsimp only at H
   refine sq ctNo_ok ?_
   simp only [go_sem]
   refine sq ctNo_ok ?_
   simp only [go_sem,Nat.reduceLeDiff,Nat.reduceAdd]
   repeat ((with_reducible refine And.intro ?_ ?_);focus exact an6)
   refine seqM ?_
   refine seqM ?_
   obtain ⟨r1,e2,H⟩:=bsi H
   refine rg ct12t0_ok ?_
   simp only [go_sem,Nat.reduceLT,Nat.reduceAdd,reduceCtorEq,ct12t0_18,body18,e2]
   repeat ((with_reducible refine And.intro ?_ ?_);focus exact an0)
   refine condM rfl trivial (fun hc=>?_) (fun hc=>?_)
   ·have hk3:(bEq r1 0)=false:=by simpa using hc
    replace H:=cond_t hc H
    refine sq ctNo_ok ?_
    simp only [go_sem,Nat.reduceAdd]
    repeat ((with_reducible refine And.intro ?_ ?_);focus exact an6)
    refine rg ctNo_ok ?_
    simp only [go_sem,Nat.reduceLT,Nat.reduceAdd]
    obtain rfl:=Option.some.inj H
    refine ⟨[0,1],?_,?_,[],?_,?_,rfl⟩
    ·simp only [go_sem]
     try exact at0
    ·simp only [go_sem]
     try exact at0
    ·simp only [go_sem]
     exact Cv_tup (CvL_cons (Cv_agg (CvL_cons Cv_int (CvL_cons Cv_int (CvL_cons (Cv_ronil (α:=TSleeper)) (CvL_cons (Cv_ronil (α:=TStored)) CvL_nil))))) (CvL_cons Cv_int CvL_nil))
    ·simp only [go_sem,CvH]
   have hk3:(bEq r1 0)=true:=by simpa using hc
   replace H:=cond_f hc H
   refine rg ctNo_ok ?_
   simp only [go_sem]
   refine sq ctNo_ok ?_
   simp only [go_sem,Nat.reduceLT,Nat.reduceAdd]
   repeat ((with_reducible refine And.intro ?_ ?_);focus exact an6)
   refine rg ctNo_ok ?_
   simp only [go_sem,Nat.reduceLT,Nat.reduceAdd]
   obtain rfl:=Option.some.inj H
   refine ⟨[0,1],?_,?_,[],?_,?_,rfl⟩
   ·simp only [go_sem]
    try exact at0
   ·simp only [go_sem]
    try exact at0
   ·simp only [go_sem]
    exact Cv_tup (CvL_cons (Cv_agg (CvL_cons Cv_int (CvL_cons Cv_int (CvL_cons (Cv_ronil (α:=TSleeper)) (CvL_cons (Cv_ronil (α:=TStored)) CvL_nil))))) (CvL_cons Cv_int CvL_nil))
   ·simp only [go_sem,CvH]
  ·cases hb
 ·unfold body12 at hb
  split at hb<;>cases hb
noncomputable def F103 (p0:TSleeper) (p1:Int):Option (Int) :=
 some (wr .i64 (p0.Aid - p1))
noncomputable def body103:List AV->AR
 | [v0,v1]=>.pure (aK 3 k_TSleeper v0/\iK .i64 v1/\(F103 (g_TSleeper (aL v0)) (iA v1)).isSome=true) (.int .i64 (gt (F103 (g_TSleeper (aL v0)) (iA v1))))
 | _=>.fail
theorem ok103:FnOk Try.prog 103 (pureC body103):=by
 refine pure_fnM body103 (rs:=[.tmp 4]) Try.func103 (by kernel_rfl) rfl rfl ?_
 intro l ob v hb hob
 unfold body103 at hb
 split at hb
 ·rename_i v0 v1
  injection hb with q1 q2;subst q1 q2
  obtain ⟨hk0_0,hk1_0,hob⟩:=hob
  obtain ⟨r,H⟩:=Option.isSome_iff_exists.1 hob
  rw [H,gt_some]
  have hw0:=wA_TSleeper hk0_0
  have hw1:=iK_wk hk1_0
  generalize g_TSleeper (aL v0)=p0 at H hw0
  generalize iA v1=p1 at H hw1
  refine ⟨[.agg [.int .i64 p0.Aid,.bool p0.Asleep,.ro 43 p0.Held.length false (enR c_TStored p0.Held)],.int .i64 p1],_,(fun E vs F=>FR_wk1 hw0.1 F (fun vs F=>FR_wk1 hw1.1 F (fun vs F=>F))),rfl,rfl,?_⟩
  rw [Try.ntmps103]
  simp only [List.length_cons,List.length_nil,Nat.reduceAdd,Nat.reduceSub,List.replicate_succ,List.replicate_zero,List.cons_append,List.nil_append]
  unfold F103 at H
  try dsimp only at H
  refine sq ctNo_ok ?_
  simp only [go_sem]
  refine sq ctNo_ok ?_
  simp only [go_sem,Nat.reduceLeDiff,Nat.reduceLT,Nat.reduceAdd]
  repeat ((with_reducible refine And.intro ?_ ?_);focus exact an6)
  refine rg ctNo_ok ?_
  simp only [go_sem]
  obtain rfl:=Option.some.inj H
  first|rfl|simp only [Bool.and_false,Bool.false_and,Bool.and_true,Bool.true_and]
 ·cases hb
noncomputable def ct102_0t0:Ct:=tab [(103,pureC body103)]
theorem ct102_0t0_ok:CtOk Try.prog ct102_0t0:=tab_cons ok103 <| tab_nil
theorem ct102_0t0_103 (l:List AV) (h:List ABlk):ct102_0t0 103 l h=pureC body103 l h:=rfl
noncomputable def F102_0_L1 (p0:List TSleeper) (p1:Int) (v1_1:Int) (v1_2:Int):Option (Lp (Int × Int) ((Int) ⊕ (Int × Bool))) :=
 bif (bLt v1_1 v1_2) then (need (inb (wr .i64 (shrI .u64 (wr .u64 (wr .i64 (v1_1+v1_2))) 1)) p0.length) <| (F103 (gd p0 ((wr .i64 (shrI .u64 (wr .u64 (wr .i64 (v1_1+v1_2))) 1)).toNat)) p1).bind fun r3=>bif (bLt r3 0) then (some (.next (wr .i64 ((wr .i64 (shrI .u64 (wr .u64 (wr .i64 (v1_1+v1_2))) 1))+1),v1_2))) else (some (.next (v1_1,wr .i64 (shrI .u64 (wr .u64 (wr .i64 (v1_1+v1_2))) 1))))) else (some (.done (.inl v1_1)))
noncomputable def F102_0 (p0:List TSleeper) (p1:Int):Option (Int × Bool) :=
 lp (loopD (fun s=>F102_0_L1 p0 p1 s.1 s.2) (0,(p0.length:Nat))) (fun w1_3=>need (bif (bLt w1_3 (p0.length:Nat)) then inb w1_3 p0.length else true) <| need (bif (bLt w1_3 (p0.length:Nat)) then ((F103 (gd p0 w1_3.toNat) p1).isSome) else true) <| some (w1_3,((bLt w1_3 (p0.length:Nat)) && (bEq (gt (F103 (gd p0 w1_3.toNat) p1)) 0)))) some
noncomputable def body102_0:List AV->AR
 | [v0,v1,.fn 103 []]=>.pure (lK k_TSleeper 3 v0/\iK .i64 v1/\(F102_0 (lA g_TSleeper v0) (iA v1)).isSome=true) (.tup [.int .i64 ((gt (F102_0 (lA g_TSleeper v0) (iA v1))).1),.bool ((gt (F102_0 (lA g_TSleeper v0) (iA v1))).2)])
 | _=>.fail
theorem ok102_0:FnOk Try.prog 102 (pureC body102_0):=by
 refine pure_fnM body102_0 (rs:=[.tmp 6,.tmp 7]) Try.func102 (by kernel_rfl) rfl rfl ?_
 intro l ob v hb hob
 unfold body102_0 at hb
 split at hb
 ·rename_i v0 v1
  injection hb with q1 q2;subst q1 q2
  obtain ⟨hk0_0,hk1_0,hob⟩:=hob
  obtain ⟨r,H⟩:=Option.isSome_iff_exists.1 hob
  rw [H,gt_some]
  have hw0:=lK_wk (fun r h=>w_TSleeper h) hk0_0
  have hw1:=iK_wk hk1_0
  generalize lA g_TSleeper v0=p0 at H hw0
  generalize iA v1=p1 at H hw1
  refine ⟨[.ro 3 p0.length false (enR c_TSleeper p0),.int .i64 p1,.fn 103 []],_,(fun E vs F=>FR_wk1 hw0.1 F (fun vs F=>FR_wk1 hw1.1 F (fun vs F=>FR_wk1 (fn_wk LW_nil) F (fun vs F=>F)))),rfl,rfl,?_⟩
  rw [Try.ntmps102]
  simp only [List.length_cons,List.length_nil,Nat.reduceAdd,Nat.reduceSub,List.replicate_succ,List.replicate_zero,List.cons_append,List.nil_append]
  unfold F102_0 at H
  try dsimp only at H
  refine sq ctNo_ok ?_
  simp only [go_sem]
  refine sq ctNo_ok ?_
  simp only [go_sem]
  repeat ((with_reducible refine And.intro ?_ ?_);focus exact an0)
  refine sq ctNo_ok ?_
  simp only [go_sem]
  refine seqM ?_
  refine blkM ?_
  refine loop_den (fun s:Int × Int=>(.ro 3 p0.length false (enR c_TSleeper p0)::.int .i64 p1::.fn 103 []::tp 5 (.int .i64 (p0.length:Nat)::.int .i64 s.1::.int .i64 s.2::tp 38 []))) (fun s=>[]) (fun e:Int=>(.ro 3 p0.length false (enR c_TSleeper p0)::.int .i64 p1::.fn 103 []::tp 5 (.int .i64 (p0.length:Nat)::.int .i64 e::tp 39 []))) (fun e=>[]) H ?_ (fun s o H hn1_1 hn2_1=>?_) (fun w1_3 H=>?_)
  ·refine SubF_of ⟨[],?_,?_,by rfl,by rfl⟩
   ·simp [CvL,Cv,tp,tp]
   ·trivial
  ·obtain ⟨v1_1,v1_2⟩:=s
   unfold F102_0_L1 at H
   try dsimp only at H ⊢
   try simp only [tp]
   refine seqM ?_
   refine sq ctNo_ok ?_
   simp only [go_sem]
   refine condM' rfl trivial (fun hc=>?_) (fun hc=>?_)
   ·have hk1:(bLt v1_1 v1_2)=false:=by simpa using hc
    replace H:=cond_f hc H
    refine rg ctNo_ok ?_
    simp only [go_sem]
    refine ⟨_,(Option.some.inj H).symm,?_⟩
    refine SubF_of ⟨[],?_,?_,by rfl,by rfl⟩
    ·simp [CvL,Cv]
    ·trivial
   have hk1:(bLt v1_1 v1_2)=true:=by simpa using hc
   replace H:=cond_t hc H
   refine rg ctNo_ok ?_
   simp only [go_sem]
   refine blkM ?_
   refine sq ctNo_ok ?_
   simp only [go_sem]
   repeat ((with_reducible refine And.intro ?_ ?_);focus exact an6)
   refine seqM ?_
   obtain ⟨f2,H⟩:=need_some.1 H
   replace f2:=inb_iff.1 f2
   obtain ⟨r3,e4,H⟩:=bsi H
   refine rg ct102_0t0_ok ?_
   simp only [go_sem,Nat.reduceLT,Nat.reduceAdd,ct102_0t0_103,body103,f2,e4]
   repeat ((with_reducible refine And.intro ?_ ?_);focus exact an0)
   refine condM rfl trivial (fun hc=>?_) (fun hc=>?_)
   ·have hk5:(bLt r3 0)=true:=by simpa using hc
    replace H:=cond_t hc H
    refine rg ctNo_ok ?_
    simp only [go_sem]
    refine ⟨_,(Option.some.inj H).symm,?_⟩
    refine SubF_of ⟨[],?_,?_,by rfl,by rfl⟩
    ·simp [CvL,Cv]
    ·trivial
   have hk5:(bLt r3 0)=false:=by simpa using hc
   replace H:=cond_f hc H
   refine rg ctNo_ok ?_
   simp only [go_sem]
   refine ⟨_,(Option.some.inj H).symm,?_⟩
   refine SubF_of ⟨[],?_,?_,by rfl,by rfl⟩
   ·simp [CvL,Cv]
   ·trivial
  ·try dsimp only at H ⊢
   try simp only [tp]
   try simp only [m_normal]
   refine seqM ?_
   obtain ⟨f6,H⟩:=need_some.1 H
   replace f6:=g_iff.1 f6
   replace f6:=fun g=>inb_iff.1 (f6 g)
   obtain ⟨f7,H⟩:=need_some.1 H
   replace f7:=g_iff.1 f7
   refine rg ct102_0t0_ok ?_
   simp only [go_sem,Nat.reduceLT,Nat.reduceAdd,ct102_0t0_103,body103]
   repeat ((with_reducible refine And.intro ?_ ?_);focus (first|(with_reducible trivial)|omega|exact f6|exact f7|(intro g;have q:=f6 (by first|exact g|(rw [g];rfl)|simpa using g);first|exact q|exact ⟨q.1,q.2.1⟩|exact q.2.2|omega|exact ⟨g,q⟩|exact ⟨trivial,q⟩|exact ⟨g,q.1,q.2.1⟩|exact ⟨g,q.2.2⟩)|(intro g;have q:=f7 (by first|exact g|(rw [g];rfl)|simpa using g);first|exact q|exact ⟨q.1,q.2.1⟩|exact q.2.2|omega|exact ⟨g,q⟩|exact ⟨trivial,q⟩|exact ⟨g,q.1,q.2.1⟩|exact ⟨g,q.2.2⟩)|(intro g;(try have q0:=f6 (by first|exact g|(rw [g];rfl)|simpa using g));(try have q1:=f7 (by first|exact g|(rw [g];rfl)|simpa using g));and_intros<;>first|(with_reducible trivial)|assumption|exact nfc|(intro g2;rw [g,g2];rfl)|(intro g2;assumption)|(simp only [g,Bool.true_and,Bool.and_true,Bool.not_false,Bool.not_true];assumption)|grind)|(and_intros<;>first|(with_reducible trivial)|omega|assumption|exact nfc|first|exact rfl|exact trivial|exact fitI|exact .inr rfl|exact .inl rfl|exact fun x hx=>absurd hx (by omega))|grind))
   refine rg ctNo_ok ?_
   simp only [go_sem]
   obtain rfl:=Option.some.inj H
   first|rfl|simp only [Bool.and_false,Bool.false_and,Bool.and_true,Bool.true_and]
 ·cases hb
noncomputable def ct81t0:Ct:=tab [(102,pureC body102_0)]
theorem ct81t0_ok:CtOk Try.prog ct81t0:=tab_cons ok102_0 <| tab_nil
theorem ct81t0_102 (l:List AV) (h:List ABlk):ct81t0 102 l h=pureC body102_0 l h:=rfl
noncomputable def F81 (p0:TBuffer) (p1:Int):Option (Int × Bool) :=
 (F102_0 p0.List p1).bind fun r1=>some (r1.1,r1.2)
noncomputable def body81:List AV->AR
 | [v0,v1]=>.pure (aK 4 k_TBuffer v0/\iK .i64 v1/\(F81 (g_TBuffer (aL v0)) (iA v1)).isSome=true) (.tup [.int .i64 ((gt (F81 (g_TBuffer (aL v0)) (iA v1))).1),.bool ((gt (F81 (g_TBuffer (aL v0)) (iA v1))).2)])
 | _=>.fail
theorem ok81:FnOk Try.prog 81 (pureC body81):=by
 refine pure_fnM body81 (rs:=[.tmp 4,.tmp 5]) Try.func81 (by kernel_rfl) rfl rfl ?_
 intro l ob v hb hob
 unfold body81 at hb
 split at hb
 ·rename_i v0 v1
  injection hb with q1 q2;subst q1 q2
  obtain ⟨hk0_0,hk1_0,hob⟩:=hob
  obtain ⟨r,H⟩:=Option.isSome_iff_exists.1 hob
  rw [H,gt_some]
  have hw0:=wA_TBuffer hk0_0
  have hw1:=iK_wk hk1_0
  generalize g_TBuffer (aL v0)=p0 at H hw0
  generalize iA v1=p1 at H hw1
  refine ⟨[.agg [.int .i64 p0.Limit,.int .i64 p0.Stay,.ro 3 p0.List.length false (enR c_TSleeper p0.List),.ro 43 p0.Group.length false (enR c_TStored p0.Group)],.int .i64 p1],_,(fun E vs F=>FR_wk1 hw0.1 F (fun vs F=>FR_wk1 hw1.1 F (fun vs F=>F))),rfl,rfl,?_⟩
  rw [Try.ntmps81]
  simp only [List.length_cons,List.length_nil,Nat.reduceAdd,Nat.reduceSub,List.replicate_succ,List.replicate_zero,List.cons_append,List.nil_append]
  unfold F81 at H
  try dsimp only at H
  refine sq ctNo_ok ?_
  simp only [go_sem]
  refine seqM ?_
  obtain ⟨r1,e2,H⟩:=bsi H
  refine rg ct81t0_ok ?_
  simp only [go_sem,Nat.reduceLeDiff,Nat.reduceLT,Nat.reduceAdd,ct81t0_102,body102_0,e2]
  repeat ((with_reducible refine And.intro ?_ ?_);focus exact an0)
  refine rg ctNo_ok ?_
  simp only [go_sem]
  obtain rfl:=Option.some.inj H
  first|rfl|simp only [Bool.and_false,Bool.false_and,Bool.and_true,Bool.true_and]
 ·cases hb
noncomputable def F92 (p0:List TSleeper):Option (List TSleeper) :=
 need (capb 40 p0.length) <| some p0
noncomputable def body92:List AV->Nat->AR
 | [v0],s=>.heap (lK k_TSleeper 3 v0/\(F92 (lA g_TSleeper v0)).isSome=true) (.sl s 3 0 (gt (F92 (lA g_TSleeper v0))).length false) [.row 57 3 (gt (F92 (lA g_TSleeper v0))).length (enR c_TSleeper (gt (F92 (lA g_TSleeper v0))))]
 | _,_=>.fail
theorem ok92:FnOk Try.prog 92 (genC body92):=by
 refine gen_fn body92 (rs:=[.tmp 2]) Try.func92 (by kernel_rfl) rfl rfl ?_
 intro l s ob v ns hb hob
 rcases hb with ⟨hb,rfl⟩|hb
 ·unfold body92 at hb
  split at hb<;>cases hb
 ·unfold body92 at hb
  split at hb
  ·rename_i v0
   injection hb with q1 q2 q3;subst q1 q2 q3
   obtain ⟨hk0,hob⟩:=hob
   obtain ⟨r,H⟩:=Option.isSome_iff_exists.1 hob
   rw [H,gt_some]
   have hw0:=lK_wk (fun r h=>w_TSleeper h) hk0
   generalize lA g_TSleeper v0=p0 at H hw0
   unfold F92 at H
   obtain ⟨f1,H⟩:=need_some.1 H
   replace f1:=capb_iff.1 f1
   obtain rfl:=Option.some.inj H
   refine ⟨[.ro 3 p0.length false (enR c_TSleeper p0)],.sl 0 3 0 p0.length false,[.row 57 3 p0.length (enR c_TSleeper p0)],(fun E vs F=>FR_wk1 hw0.1 F (fun vs F=>F)),by simp only [ren,rnN_0],⟨⟨rfl,rfl,rfl,fun x y _ _=>ren_nref _ (nfR_en nr_TSleeper)⟩,trivial⟩,?_⟩
   rw [Try.ntmps92]
   simp only [List.length_cons,List.length_nil,Nat.reduceAdd,Nat.reduceSub,List.replicate_succ,List.replicate_zero,List.cons_append,List.nil_append]
   refine rg ctNo_ok ?_
   have nfs:∀ x y,nref (enR c_TSleeper p0 x y):=fun x y=>nfR_en nr_TSleeper
   generalize hc:enR c_TSleeper p0=c at nfs hw0
   cases hn:p0.length with
   | zero =>
    simp only [go_sem,Nat.reduceLeDiff,Nat.reduceAdd]
    have hp:p0=[]:=List.eq_nil_of_length_eq_zero hn
    subst hp;subst hc
    refine ⟨?_,?_⟩
    ·refine ⟨[],?_,?_,[none],?_,?_,rfl⟩
     ·simp only [fzOb]
     ·simp only [fzObH]
     ·simp [fzV,Cv]
     ·simp only [fzH,fzHF,and_true,CvH,and_true];exact CvB_none
    ·refine ⟨by omega,[],?_,?_,[some 1],?_,?_,rfl⟩
     ·simp only [Nat.add_zero,fzOb,inL,rowOb,geth,cond_false,true_and,Nat.zero_add,Nat.le_refl]
     ·simp only [fzObB,fzObH,and_self]
     ·simp [fzV,inL,Cv,getM]
     ·simp only [fzH,fzHF,fzB,inL,cond_false,and_true,CvH,and_true];exact CvB_row0 nr_TSleeper
   | succ m =>
    simp only [go_sem,Nat.reduceLeDiff,Nat.reduceAdd,reduceCtorEq]
    refine ⟨by omega,[],?_,?_,[some 1],?_,?_,rfl⟩
    ·simp only [fzOb,inL,rowOb,geth,cond_false,true_and,Nat.zero_add,Nat.le_refl]
    ·simp only [fzObB,fzObH,and_self]
    ·simp [fzV,inL,Cv,getM]
    ·simp only [fzH,fzHF,fzB,inL,cond_false,and_true,CvH,and_true];rw [← hn,← hc];exact CvB_row nr_TSleeper rfl (fun x y hx hy=>by simp only [appC,Nat.not_lt_zero,if_false,Nat.sub_zero])
  ·cases hb
noncomputable def F63 (p0:TFrame):Option (TFrame) :=
 need (capb 1 p0.Body.length) <| some (TFrame.mk (THeader.mk p0.Head.Kind p0.Head.Sub p0.Head.ToDs p0.Head.FromDs p0.Head.More p0.Head.Retry p0.Head.Sleep p0.Head.MoreData p0.Head.Protected p0.Head.Duration (A6u8.mk p0.Head.A1.x0 p0.Head.A1.x1 p0.Head.A1.x2 p0.Head.A1.x3 p0.Head.A1.x4 p0.Head.A1.x5) (A6u8.mk p0.Head.A2.x0 p0.Head.A2.x1 p0.Head.A2.x2 p0.Head.A2.x3 p0.Head.A2.x4 p0.Head.A2.x5) (A6u8.mk p0.Head.A3.x0 p0.Head.A3.x1 p0.Head.A3.x2 p0.Head.A3.x3 p0.Head.A3.x4 p0.Head.A3.x5) (A6u8.mk p0.Head.A4.x0 p0.Head.A4.x1 p0.Head.A4.x2 p0.Head.A4.x3 p0.Head.A4.x4 p0.Head.A4.x5) p0.Head.Seq p0.Head.Frag p0.Head.Tid p0.Head.Ack p0.Head.Amsdu p0.Head.Eosp) ([] ++ p0.Body))
noncomputable def body63:List AV->List ABlk->ED
 | [v0],h=>.ed [] (aK 41 k_TFrame (roD (deadL h []) v0)/\roDOb (deadL h []) v0/\(F63 (g_TFrame (aL (roD (deadL h []) v0)))).isSome=true) (.agg (.int .u8 (((gt (F63 (g_TFrame (aL (roD (deadL h []) v0))))).Head).Kind)::.int .u8 (((gt (F63 (g_TFrame (aL (roD (deadL h []) v0))))).Head).Sub)::.bool (((gt (F63 (g_TFrame (aL (roD (deadL h []) v0))))).Head).ToDs)::.bool (((gt (F63 (g_TFrame (aL (roD (deadL h []) v0))))).Head).FromDs)::.bool (((gt (F63 (g_TFrame (aL (roD (deadL h []) v0))))).Head).More)::.bool (((gt (F63 (g_TFrame (aL (roD (deadL h []) v0))))).Head).Retry)::.bool (((gt (F63 (g_TFrame (aL (roD (deadL h []) v0))))).Head).Sleep)::.bool (((gt (F63 (g_TFrame (aL (roD (deadL h []) v0))))).Head).MoreData)::.bool (((gt (F63 (g_TFrame (aL (roD (deadL h []) v0))))).Head).Protected)::.int .i64 (((gt (F63 (g_TFrame (aL (roD (deadL h []) v0))))).Head).Duration)::.int .u8 ((((gt (F63 (g_TFrame (aL (roD (deadL h []) v0))))).Head).A1).x0)::.int .u8 ((((gt (F63 (g_TFrame (aL (roD (deadL h []) v0))))).Head).A1).x1)::.int .u8 ((((gt (F63 (g_TFrame (aL (roD (deadL h []) v0))))).Head).A1).x2)::.int .u8 ((((gt (F63 (g_TFrame (aL (roD (deadL h []) v0))))).Head).A1).x3)::.int .u8 ((((gt (F63 (g_TFrame (aL (roD (deadL h []) v0))))).Head).A1).x4)::.int .u8 ((((gt (F63 (g_TFrame (aL (roD (deadL h []) v0))))).Head).A1).x5)::.int .u8 ((((gt (F63 (g_TFrame (aL (roD (deadL h []) v0))))).Head).A2).x0)::.int .u8 ((((gt (F63 (g_TFrame (aL (roD (deadL h []) v0))))).Head).A2).x1)::.int .u8 ((((gt (F63 (g_TFrame (aL (roD (deadL h []) v0))))).Head).A2).x2)::.int .u8 ((((gt (F63 (g_TFrame (aL (roD (deadL h []) v0))))).Head).A2).x3)::.int .u8 ((((gt (F63 (g_TFrame (aL (roD (deadL h []) v0))))).Head).A2).x4)::.int .u8 ((((gt (F63 (g_TFrame (aL (roD (deadL h []) v0))))).Head).A2).x5)::.int .u8 ((((gt (F63 (g_TFrame (aL (roD (deadL h []) v0))))).Head).A3).x0)::.int .u8 ((((gt (F63 (g_TFrame (aL (roD (deadL h []) v0))))).Head).A3).x1)::.int .u8 ((((gt (F63 (g_TFrame (aL (roD (deadL h []) v0))))).Head).A3).x2)::.int .u8 ((((gt (F63 (g_TFrame (aL (roD (deadL h []) v0))))).Head).A3).x3)::.int .u8 ((((gt (F63 (g_TFrame (aL (roD (deadL h []) v0))))).Head).A3).x4)::.int .u8 ((((gt (F63 (g_TFrame (aL (roD (deadL h []) v0))))).Head).A3).x5)::.int .u8 ((((gt (F63 (g_TFrame (aL (roD (deadL h []) v0))))).Head).A4).x0)::.int .u8 ((((gt (F63 (g_TFrame (aL (roD (deadL h []) v0))))).Head).A4).x1)::.int .u8 ((((gt (F63 (g_TFrame (aL (roD (deadL h []) v0))))).Head).A4).x2)::.int .u8 ((((gt (F63 (g_TFrame (aL (roD (deadL h []) v0))))).Head).A4).x3)::.int .u8 ((((gt (F63 (g_TFrame (aL (roD (deadL h []) v0))))).Head).A4).x4)::.int .u8 ((((gt (F63 (g_TFrame (aL (roD (deadL h []) v0))))).Head).A4).x5)::.int .i64 (((gt (F63 (g_TFrame (aL (roD (deadL h []) v0))))).Head).Seq)::.int .i64 (((gt (F63 (g_TFrame (aL (roD (deadL h []) v0))))).Head).Frag)::.int .i64 (((gt (F63 (g_TFrame (aL (roD (deadL h []) v0))))).Head).Tid)::.int .u8 (((gt (F63 (g_TFrame (aL (roD (deadL h []) v0))))).Head).Ack)::.bool (((gt (F63 (g_TFrame (aL (roD (deadL h []) v0))))).Head).Amsdu)::.bool (((gt (F63 (g_TFrame (aL (roD (deadL h []) v0))))).Head).Eosp)::.sl 0 1 0 (((gt (F63 (g_TFrame (aL (roD (deadL h []) v0))))).Body).length) false::[])) [.row 5 1 (((gt (F63 (g_TFrame (aL (roD (deadL h []) v0))))).Body).length) (enR c_u8 ((gt (F63 (g_TFrame (aL (roD (deadL h []) v0))))).Body))]
 | _,_=>.fail
theorem ok63:FnOk Try.prog 63 (edC body63):=by
 refine edit_fnV body63 (rs:=[.cell 2 33]) Try.func63 (by kernel_rfl) rfl rfl ?_
 intro l h bs ob q0 g0 hb hob
 unfold body63 at hb
 split at hb
 ·rename_i v0
  injection hb with q1 q2 q3 q4;subst q1 q2 q3 q4
  obtain ⟨hk0_0,hk0_1,hob⟩:=hob
  obtain ⟨r,H⟩:=Option.isSome_iff_exists.1 hob
  rw [H,gt_some]
  have hw0:=wA_TFrame hk0_0
  obtain ⟨p0,hp_p0⟩:∃ p0,p0=g_TFrame (aL (roD (deadL h []) v0)):=⟨_,rfl⟩
  rw [← hp_p0] at H hw0
  refine ⟨[.agg (.int .u8 p0.Head.Kind::.int .u8 p0.Head.Sub::.bool p0.Head.ToDs::.bool p0.Head.FromDs::.bool p0.Head.More::.bool p0.Head.Retry::.bool p0.Head.Sleep::.bool p0.Head.MoreData::.bool p0.Head.Protected::.int .i64 p0.Head.Duration::.int .u8 p0.Head.A1.x0::.int .u8 p0.Head.A1.x1::.int .u8 p0.Head.A1.x2::.int .u8 p0.Head.A1.x3::.int .u8 p0.Head.A1.x4::.int .u8 p0.Head.A1.x5::.int .u8 p0.Head.A2.x0::.int .u8 p0.Head.A2.x1::.int .u8 p0.Head.A2.x2::.int .u8 p0.Head.A2.x3::.int .u8 p0.Head.A2.x4::.int .u8 p0.Head.A2.x5::.int .u8 p0.Head.A3.x0::.int .u8 p0.Head.A3.x1::.int .u8 p0.Head.A3.x2::.int .u8 p0.Head.A3.x3::.int .u8 p0.Head.A3.x4::.int .u8 p0.Head.A3.x5::.int .u8 p0.Head.A4.x0::.int .u8 p0.Head.A4.x1::.int .u8 p0.Head.A4.x2::.int .u8 p0.Head.A4.x3::.int .u8 p0.Head.A4.x4::.int .u8 p0.Head.A4.x5::.int .i64 p0.Head.Seq::.int .i64 p0.Head.Frag::.int .i64 p0.Head.Tid::.int .u8 p0.Head.Ack::.bool p0.Head.Amsdu::.bool p0.Head.Eosp::.ro 1 p0.Body.length false (enR c_u8 p0.Body)::[])],[],rfl,⟨(EW_view hk0_1 hw0),trivial⟩,trivial,trivial,⟨(nfB_en nr_u8),trivial⟩,⟨noroB_en,trivial⟩,(by first|(simp only [noro,noroL,and_self];done)|(simp only [noro,noroL];and_intros<;>first|trivial|exact noro_bif (by simp only [noro]) (by simp only [noro])|(simp only [noro,noroL,and_self]))),?_⟩
  rw [Try.ntmps63]
  simp only [List.length_cons,List.length_nil,Nat.reduceAdd,Nat.reduceSub,List.replicate_succ,List.replicate_zero,List.cons_append,List.nil_append]
  unfold F63 at H
  try dsimp only at H
  refine sq ctNo_ok ?_
  simp only [go_sem]
  refine seqM ?_
  obtain ⟨f1,H⟩:=need_some.1 H
  replace f1:=capb_iff.1 f1
  refine rg ctNo_ok ?_
  simp only [go_sem,Nat.reduceLeDiff,Nat.reduceLT,Nat.reduceAdd,f1]
  repeat ((with_reducible refine And.intro ?_ ?_);focus exact an1)
  refine sq ctNo_ok ?_
  simp only [go_sem,Nat.reduceLT,Nat.reduceAdd]
  repeat ((with_reducible refine And.intro ?_ ?_);focus exact an6)
  refine rg ctNo_ok ?_
  simp only [go_sem,Nat.reduceLT,Nat.reduceAdd]
  obtain rfl:=Option.some.inj H
  refine RetE_mk [] [some 3] ?_ ?_ ?_ ?_ (by rfl) (by rfl)
  ·simp only [go_sem]
   try exact at0
  ·simp only [go_sem]
   try exact at0
  ·simp only [go_sem]
   exact (by first|(simp [Cv,CvL,getM];done)|(simp [Cv,CvL,getM,gt_some];omega))
  ·simp only [go_sem,CvH]
   exact CvB_row nr_u8 cl (app_row (f:=c_u8) [] p0.Body (lit_row (f:=c_u8) [] (fun _ _=>rfl) rfl) (fun _ _ _ _=>rfl))
 ·cases hb
noncomputable def ct93t0:Ct:=tab [(63,edC body63)]
theorem ct93t0_ok:CtOk Try.prog ct93t0:=tab_cons ok63 <| tab_nil
theorem ct93t0_63 (l:List AV) (h:List ABlk):ct93t0 63 l h=edC body63 l h:=rfl
noncomputable def F93_L1 (p0:List TStored) (v1_1:List TStored) (v1_2:Int):Option (Lp ((List TStored) × Int) ((List TStored) ⊕ (List TStored))) :=
 bif (bLt v1_2 (p0.length:Nat)) then (need (inb v1_2 p0.length) <| (F63 (eF ((gd p0 v1_2.toNat).Frame))).bind fun r3=>need (capb 120 (v1_1.length+1)) <| some (.next ((v1_1 ++ [(TStored.mk ((gd p0 v1_2.toNat).Cat) ((gd p0 v1_2.toNat).At) (eF r3))]),wr .i64 (v1_2+1)))) else (some (.done (.inl v1_1)))
noncomputable def F93 (p0:List TStored):Option (List TStored) :=
 lp (loopD (fun s=>F93_L1 p0 s.1 s.2) ([],0)) (fun w1_3=>some w1_3) some
noncomputable def body93:List AV->Nat->AR
 | [v0],s=>.heap (lK k_TStored 43 v0/\(F93 (lA g_TStored v0)).isSome=true) (.sl s 43 0 ((gt (F93 (lA g_TStored v0))).length) false) [.row 61 43 ((gt (F93 (lA g_TStored v0))).length) (enR c_TStored (gt (F93 (lA g_TStored v0))))]
 | _,_=>.fail
theorem ok93:FnOk Try.prog 93 (genC body93):=by
 refine gen_fn body93 (rs:=[.tmp 2]) Try.func93 (by kernel_rfl) rfl rfl ?_
 intro l s ob v ns hb hob
 rcases hb with ⟨hb,rfl⟩|hb
 ·unfold body93 at hb
  split at hb<;>cases hb
 ·unfold body93 at hb
  split at hb
  ·rename_i v0
   injection hb with q1 q2 q3;subst q1 q2 q3
   obtain ⟨hk0_0,hob⟩:=hob
   obtain ⟨r,H⟩:=Option.isSome_iff_exists.1 hob
   rw [H,gt_some]
   have hw0:=lK_wk (fun r h=>w_TStored h) hk0_0
   generalize lA g_TStored v0=p0 at H hw0
   refine ⟨[.ro 43 p0.length false (enR c_TStored p0)],.sl 0 43 0 r.length false,[.row 61 43 r.length (enR c_TStored r)],(fun E vs F=>FR_wk1 hw0.1 F (fun vs F=>F)),by simp only [ren,rnN_0],⟨RenB_row nr_TStored,trivial⟩,?_⟩
   rw [Try.ntmps93]
   simp only [List.length_cons,List.length_nil,Nat.reduceAdd,Nat.reduceSub,List.replicate_succ,List.replicate_zero,List.cons_append,List.nil_append]
   unfold F93 at H
   try dsimp only at H
   refine sq ctNo_ok ?_
   simp only [go_sem]
   refine seqM ?_
   refine sq ctNo_ok ?_
   simp only [go_sem]
   repeat ((with_reducible refine And.intro ?_ ?_);focus exact an0)
   refine blkM ?_
   refine loop_den (fun s:(List TStored) × Int=>(.top::.top::.sl 0 43 0 s.1.length false::.top::.top::.ro 43 p0.length false (enR c_TStored p0)::.int .i64 (p0.length:Nat)::.int .i64 s.2::tp 13 [])) (fun s=>[.row 61 43 s.1.length (enR c_TStored s.1)]) (fun e:List TStored=>(.top::.top::.sl 0 43 0 e.length false::tp 18 [])) (fun e=>[.row 61 43 e.length (enR c_TStored e)]) H ?_ (fun s o H hn1_1 hn2_1=>?_) (fun w1_3 H=>?_)
   ·refine SubF_of ⟨[none],?_,?_,by rfl,by rfl⟩
    ·simp [CvL,Cv,tp,tp]
    ·exact ⟨CvB_none,trivial⟩
   ·obtain ⟨v1_1,v1_2⟩:=s
    unfold F93_L1 at H
    delta eF at H
    try dsimp only at H ⊢
    try simp only [tp]
    refine sq ctNo_ok ?_
    simp only [go_sem]
    refine seqM ?_
    refine condM' rfl trivial (fun hc=>?_) (fun hc=>?_)
    ·have hk1:(bLt v1_2 (p0.length:Nat))=false:=by simpa using hc
     replace H:=cond_f hc H
     refine rg ctNo_ok ?_
     simp only [go_sem]
     refine ⟨_,(Option.some.inj H).symm,?_⟩
     refine SubF_of ⟨[some 0],?_,?_,by rfl,by rfl⟩
     ·simp [CvL,Cv,getM]
     ·exact ⟨CvB_row nr_TStored cl (fun _ _ _ _=>rfl),trivial⟩
    have hk1:(bLt v1_2 (p0.length:Nat))=true:=by simpa using hc
    replace H:=cond_t hc H
    refine rg ctNo_ok ?_
    simp only [go_sem]
    refine seqM ?_
    refine blkM ?_
    refine seqM ?_
    obtain ⟨f2,H⟩:=need_some.1 H
    replace f2:=inb_iff.1 f2
    refine rg ctNo_ok ?_
    simp only [go_sem,Nat.reduceLT,Nat.reduceAdd,f2]
    repeat ((with_reducible refine And.intro ?_ ?_);focus exact an6)
    refine seqM ?_
    obtain ⟨r3,e4,H⟩:=bsi H
    refine rg ct93t0_ok ?_
    simp only [go_sem,Nat.reduceLT,Nat.reduceAdd,reduceCtorEq,ct93t0_63,body63,e4]
    repeat ((with_reducible refine And.intro ?_ ?_);focus exact an0)
    refine regO ?_
    refine cutO shT_ok ctNo_ok 2 ?_
    simp only [kO_normal,List.take_succ_cons,List.take_zero,List.drop_succ_cons,List.drop_zero,go_sem,Nat.reduceLT,Nat.reduceAdd]
    repeat ((with_reducible refine And.intro ?_ ?_);focus exact an3)
    refine fzO [2] ?_ ?_
    ·simp only [go_sem,Nat.reduceBEq]
     try exact at0
    simp only [go_sem,Nat.reduceBEq,Nat.reduceAdd]
    obtain ⟨f5,H⟩:=need_some.1 H
    replace f5:=capb_iff.1 f5
    refine cutO shT_ok ctNo_ok 3 ?_
    simp only [kO_normal,List.take_succ_cons,List.take_zero,List.drop_succ_cons,List.drop_zero,go_sem,Nat.reduceLeDiff,Nat.reduceAdd,Nat.reduceBEq,f5]
    repeat ((with_reducible refine And.intro ?_ ?_);focus exact an1)
    refine endO ?_
    refine rg ctNo_ok ?_
    simp only [go_sem]
    refine ⟨_,(Option.some.inj H).symm,?_⟩
    refine SubF_of ⟨[some 4],?_,?_,by rfl,by rfl⟩
    ·simp [CvL,Cv,getM]
    ·exact ⟨CvB_row nr_TStored cl (app_row (f:=c_TStored) v1_1 [(TStored.mk ((gd p0 v1_2.toNat).Cat) ((gd p0 v1_2.toNat).At) (eF r3))] (fun _ _ _ _=>rfl) (lit_row (f:=c_TStored) [(TStored.mk ((gd p0 v1_2.toNat).Cat) ((gd p0 v1_2.toNat).At) (eF r3))] (fun _ _=>rfl) rfl)),trivial⟩
   ·try dsimp only at H ⊢
    try simp only [tp]
    try simp only [m_normal]
    refine sq ctNo_ok ?_
    simp only [go_sem]
    refine rg ctNo_ok ?_
    simp only [go_sem]
    obtain rfl:=Option.some.inj H
    refine ⟨[],?_,?_,[some 0],?_,?_,by rfl⟩
    ·simp only [go_sem]
    ·simp only [go_sem]
    ·simp [fzV,inL,Cv,getM]
     all_goals first|exact cl
    ·simp only [go_sem,CvH]
     exact CvB_row nr_TStored cl (fun _ _ _ _=>rfl)
  ·cases hb
noncomputable def ct93_0t0:Ct:=tab [(63,edC body63)]
theorem ct93_0t0_ok:CtOk Try.prog ct93_0t0:=tab_cons ok63 <| tab_nil
theorem ct93_0t0_63 (l:List AV) (h:List ABlk):ct93_0t0 63 l h=edC body63 l h:=rfl
noncomputable def F93_0_L1 (p0:List TStored) (v1_1:List TStored) (v1_2:Int):Option (Lp ((List TStored) × Int) ((List TStored) ⊕ (List TStored))) :=
 bif (bLt v1_2 (p0.length:Nat)) then (need (inb v1_2 p0.length) <| (F63 (eF ((gd p0 v1_2.toNat).Frame))).bind fun r3=>need (capb 120 (v1_1.length+1)) <| some (.next ((v1_1 ++ [(TStored.mk ((gd p0 v1_2.toNat).Cat) ((gd p0 v1_2.toNat).At) (eF r3))]),wr .i64 (v1_2+1)))) else (some (.done (.inl v1_1)))
noncomputable def F93_0 (p0:List TStored):Option (List TStored) :=
 lp (loopD (fun s=>F93_0_L1 p0 s.1 s.2) ([],0)) (fun w1_3=>some w1_3) some
noncomputable def body93_0:List AV->Nat->AR
 | [v0],_=>.pure (lK k_TStored 43 v0/\(F93_0 (lA g_TStored v0)).isSome=true) (.ro 43 ((gt (F93_0 (lA g_TStored v0))).length) false (enR c_TStored (gt (F93_0 (lA g_TStored v0)))))
 | _,_=>.fail
theorem ok93_0:FnOk Try.prog 93 (genC body93_0):=by
 refine gen_fn body93_0 (rs:=[.tmp 2]) Try.func93 (by kernel_rfl) rfl rfl ?_
 intro l s ob v ns hb hob
 rcases hb with ⟨hb,rfl⟩|hb
 ·unfold body93_0 at hb
  split at hb
  ·rename_i v0
   injection hb with q1 q2;subst q1 q2
   obtain ⟨hk0_0,hob⟩:=hob
   obtain ⟨r,H⟩:=Option.isSome_iff_exists.1 hob
   rw [H,gt_some]
   have hw0:=lK_wk (fun r h=>w_TStored h) hk0_0
   generalize lA g_TStored v0=p0 at H hw0
   refine ⟨[.ro 43 p0.length false (enR c_TStored p0)],.ro 43 r.length false (enR c_TStored r),[],(fun E vs F=>FR_wk1 hw0.1 F (fun vs F=>F)),by simp only [ren],trivial,?_⟩
   rw [Try.ntmps93]
   simp only [List.length_cons,List.length_nil,Nat.reduceAdd,Nat.reduceSub,List.replicate_succ,List.replicate_zero,List.cons_append,List.nil_append]
   unfold F93_0 at H
   try dsimp only at H
   refine sq ctNo_ok ?_
   simp only [go_sem]
   refine seqM ?_
   refine sq ctNo_ok ?_
   simp only [go_sem]
   repeat ((with_reducible refine And.intro ?_ ?_);focus exact an0)
   refine blkM ?_
   refine loop_den (fun s:(List TStored) × Int=>(.top::.top::.sl 0 43 0 s.1.length false::.top::.top::.ro 43 p0.length false (enR c_TStored p0)::.int .i64 (p0.length:Nat)::.int .i64 s.2::tp 13 [])) (fun s=>[.row 61 43 s.1.length (enR c_TStored s.1)]) (fun e:List TStored=>(.top::.top::.sl 0 43 0 e.length false::tp 18 [])) (fun e=>[.row 61 43 e.length (enR c_TStored e)]) H ?_ (fun s o H hn1_1 hn2_1=>?_) (fun w1_3 H=>?_)
   ·refine SubF_of ⟨[none],?_,?_,by rfl,by rfl⟩
    ·simp [CvL,Cv,tp,tp]
    ·exact ⟨CvB_none,trivial⟩
   ·obtain ⟨v1_1,v1_2⟩:=s
    unfold F93_0_L1 at H
    delta eF at H
    try dsimp only at H ⊢
    try simp only [tp]
    refine sq ctNo_ok ?_
    simp only [go_sem]
    refine seqM ?_
    refine condM' rfl trivial (fun hc=>?_) (fun hc=>?_)
    ·have hk1:(bLt v1_2 (p0.length:Nat))=false:=by simpa using hc
     replace H:=cond_f hc H
     refine rg ctNo_ok ?_
     simp only [go_sem]
     refine ⟨_,(Option.some.inj H).symm,?_⟩
     refine SubF_of ⟨[some 0],?_,?_,by rfl,by rfl⟩
     ·simp [CvL,Cv,getM]
     ·exact ⟨CvB_row nr_TStored cl (fun _ _ _ _=>rfl),trivial⟩
    have hk1:(bLt v1_2 (p0.length:Nat))=true:=by simpa using hc
    replace H:=cond_t hc H
    refine rg ctNo_ok ?_
    simp only [go_sem]
    refine seqM ?_
    refine blkM ?_
    refine seqM ?_
    obtain ⟨f2,H⟩:=need_some.1 H
    replace f2:=inb_iff.1 f2
    refine rg ctNo_ok ?_
    simp only [go_sem,Nat.reduceLT,Nat.reduceAdd,f2]
    repeat ((with_reducible refine And.intro ?_ ?_);focus exact an6)
    refine seqM ?_
    obtain ⟨r3,e4,H⟩:=bsi H
    refine rg ct93_0t0_ok ?_
    simp only [go_sem,Nat.reduceLT,Nat.reduceAdd,reduceCtorEq,ct93_0t0_63,body63,e4]
    repeat ((with_reducible refine And.intro ?_ ?_);focus exact an0)
    refine regO ?_
    refine cutO shT_ok ctNo_ok 2 ?_
    simp only [kO_normal,List.take_succ_cons,List.take_zero,List.drop_succ_cons,List.drop_zero,go_sem,Nat.reduceLT,Nat.reduceAdd]
    repeat ((with_reducible refine And.intro ?_ ?_);focus exact an3)
    refine fzO [2] ?_ ?_
    ·simp only [go_sem,Nat.reduceBEq]
     try exact at0
    simp only [go_sem,Nat.reduceBEq,Nat.reduceAdd]
    obtain ⟨f5,H⟩:=need_some.1 H
    replace f5:=capb_iff.1 f5
    refine cutO shT_ok ctNo_ok 3 ?_
    simp only [kO_normal,List.take_succ_cons,List.take_zero,List.drop_succ_cons,List.drop_zero,go_sem,Nat.reduceLeDiff,Nat.reduceAdd,Nat.reduceBEq,f5]
    repeat ((with_reducible refine And.intro ?_ ?_);focus exact an1)
    refine endO ?_
    refine rg ctNo_ok ?_
    simp only [go_sem]
    refine ⟨_,(Option.some.inj H).symm,?_⟩
    refine SubF_of ⟨[some 4],?_,?_,by rfl,by rfl⟩
    ·simp [CvL,Cv,getM]
    ·exact ⟨CvB_row nr_TStored cl (app_row (f:=c_TStored) v1_1 [(TStored.mk ((gd p0 v1_2.toNat).Cat) ((gd p0 v1_2.toNat).At) (eF r3))] (fun _ _ _ _=>rfl) (lit_row (f:=c_TStored) [(TStored.mk ((gd p0 v1_2.toNat).Cat) ((gd p0 v1_2.toNat).At) (eF r3))] (fun _ _=>rfl) rfl)),trivial⟩
   ·try dsimp only at H ⊢
    try simp only [tp]
    try simp only [m_normal]
    refine sq ctNo_ok ?_
    simp only [go_sem]
    refine rg ctNo_ok ?_
    simp only [go_sem]
    obtain rfl:=Option.some.inj H
    refine ⟨[0],?_,?_,[],?_,?_,rfl⟩
    ·simp only [go_sem]
     try exact at0
    ·simp only [go_sem]
     try exact at0
    ·simp only [go_sem]
     exact (ro_row (by first|rfl|simp) (fun _ _ _ _=>rfl))
    ·simp only [go_sem,CvH]
  ·cases hb
 ·unfold body93_0 at hb
  split at hb<;>cases hb
noncomputable def ct65t0:Ct:=tab [(92,genC body92)]
theorem ct65t0_ok:CtOk Try.prog ct65t0:=tab_cons ok92 <| tab_nil
theorem ct65t0_92 (l:List AV) (h:List ABlk):ct65t0 92 l h=genC body92 l h:=rfl
noncomputable def ct65t1:Ct:=tab [(93,genC body93_0)]
theorem ct65t1_ok:CtOk Try.prog ct65t1:=tab_cons ok93_0 <| tab_nil
theorem ct65t1_93 (l:List AV) (h:List ABlk):ct65t1 93 l h=genC body93_0 l h:=rfl
noncomputable def ct65t2:Ct:=tab [(93,genC body93)]
theorem ct65t2_ok:CtOk Try.prog ct65t2:=tab_cons ok93 <| tab_nil
theorem ct65t2_93 (l:List AV) (h:List ABlk):ct65t2 93 l h=genC body93 l h:=rfl
noncomputable def F65_L1 (r1:List TSleeper) (v1_1:Int) (v1_2:List TSleeper):Option (Lp (Int × (List TSleeper)) ((List TSleeper) ⊕ (TBuffer))) :=
 bif (bLt v1_1 (r1.length:Nat)) then (need (inb v1_1 v1_2.length) <| (F93_0 ((gd v1_2 v1_1.toNat).Held)).bind fun r5=>need (inb v1_1 v1_2.length) <| some (.next (wr .i64 (v1_1+1),(v1_2.set v1_1.toNat (TSleeper.mk ((gd v1_2 v1_1.toNat).Aid) ((gd v1_2 v1_1.toNat).Asleep) r5))))) else (some (.done (.inl v1_2)))
noncomputable def F65 (p0:TBuffer):Option (TBuffer) :=
 (F92 p0.List).bind fun r1=>lp (loopD (fun s=>F65_L1 r1 s.1 s.2) (0,r1)) (fun w1_3=>(F93 p0.Group).bind fun r8=>some (TBuffer.mk p0.Limit p0.Stay w1_3 r8)) some
noncomputable def body65:List AV->Nat->AR
 | [v0],s=>.heap (aK 4 k_TBuffer v0/\(F65 (g_TBuffer (aL v0))).isSome=true) (.agg [.int .i64 ((gt (F65 (g_TBuffer (aL v0)))).Limit),.int .i64 ((gt (F65 (g_TBuffer (aL v0)))).Stay),.sl s 3 0 (((gt (F65 (g_TBuffer (aL v0)))).List).length) false,.sl (s+1) 43 0 (((gt (F65 (g_TBuffer (aL v0)))).Group).length) false]) [.row 57 3 (((gt (F65 (g_TBuffer (aL v0)))).List).length) (enR c_TSleeper ((gt (F65 (g_TBuffer (aL v0)))).List)),.row 61 43 (((gt (F65 (g_TBuffer (aL v0)))).Group).length) (enR c_TStored ((gt (F65 (g_TBuffer (aL v0)))).Group))]
 | _,_=>.fail
theorem ok65:FnOk Try.prog 65 (genC body65):=by
 refine gen_fn body65 (rs:=[.cell 2 25]) Try.func65 (by kernel_rfl) rfl rfl ?_
 intro l s ob v ns hb hob
 rcases hb with ⟨hb,rfl⟩|hb
 ·unfold body65 at hb
  split at hb<;>cases hb
 ·unfold body65 at hb
  split at hb
  ·rename_i v0
   injection hb with q1 q2 q3;subst q1 q2 q3
   obtain ⟨hk0_0,hob⟩:=hob
   obtain ⟨r,H⟩:=Option.isSome_iff_exists.1 hob
   rw [H,gt_some]
   have hw0:=wA_TBuffer hk0_0
   generalize g_TBuffer (aL v0)=p0 at H hw0
   refine ⟨[.agg [.int .i64 p0.Limit,.int .i64 p0.Stay,.ro 3 p0.List.length false (enR c_TSleeper p0.List),.ro 43 p0.Group.length false (enR c_TStored p0.Group)]],.agg [.int .i64 r.Limit,.int .i64 r.Stay,.sl 0 3 0 r.List.length false,.sl 1 43 0 r.Group.length false],[.row 57 3 r.List.length (enR c_TSleeper r.List),.row 61 43 r.Group.length (enR c_TStored r.Group)],(fun E vs F=>FR_wk1 hw0.1 F (fun vs F=>F)),by simp only [ren,renL,rnN_0,rnN_s,Nat.zero_add],⟨RenB_row nr_TSleeper,RenB_row nr_TStored,trivial⟩,?_⟩
   rw [Try.ntmps65]
   simp only [List.length_cons,List.length_nil,Nat.reduceAdd,Nat.reduceSub,List.replicate_succ,List.replicate_zero,List.cons_append,List.nil_append]
   unfold F65 at H
   try dsimp only at H
   refine sq ctNo_ok ?_
   simp only [go_sem]
   refine seqM ?_
   obtain ⟨r1,e2,H⟩:=bsi H
   refine rg ct65t0_ok ?_
   simp only [go_sem,Nat.reduceLeDiff,Nat.reduceLT,Nat.reduceAdd,ct65t0_92,body92,e2]
   repeat ((with_reducible refine And.intro ?_ ?_);focus exact an0)
   refine seqM ?_
   refine sq ctNo_ok ?_
   simp only [go_sem,Nat.reduceLeDiff,Nat.reduceLT,Nat.reduceAdd]
   repeat ((with_reducible refine And.intro ?_ ?_);focus exact an0)
   refine blkM ?_
   refine loop_den (fun s:Int × (List TSleeper)=>(.top::.ptr 0 0 0 0::.ptr 1 0 0 0::tp 7 (.int .i64 (r1.length:Nat)::.int .i64 s.1::tp 20 []))) (fun s=>[.lit 25 [.int .i64 p0.Limit,.int .i64 p0.Stay,.sl 3 3 0 s.2.length false,.ro 43 p0.Group.length false (enR c_TStored p0.Group)],.lit 25 [.int .i64 0,.int .i64 0,.ro 0 0 true (fun _ _=>.top),.ro 0 0 true (fun _ _=>.top)],.dead,.row 57 3 s.2.length (enR c_TSleeper s.2)]) (fun e:List TSleeper=>(.top::.ptr 0 0 0 0::.ptr 1 0 0 0::tp 29 [])) (fun e=>[.lit 25 [.int .i64 p0.Limit,.int .i64 p0.Stay,.sl 3 3 0 e.length false,.ro 43 p0.Group.length false (enR c_TStored p0.Group)],.lit 25 [.int .i64 0,.int .i64 0,.ro 0 0 true (fun _ _=>.top),.ro 0 0 true (fun _ _=>.top)],.dead,.row 57 3 e.length (enR c_TSleeper e)]) H ?_ (fun s o H hn1_1 hn2_1=>?_) (fun w1_3 H=>?_)
   ·refine SubF_of ⟨[some 0,some 1,some 2,some 2],?_,?_,by rfl,by rfl⟩
    ·simp [CvL,Cv,getM,tp,tp]
    ·exact ⟨cv,cv,CvB_dead,CvB_row nr_TSleeper cl (fun _ _ _ _=>rfl),trivial⟩
   ·obtain ⟨v1_1,v1_2⟩:=s
    unfold F65_L1 at H
    try dsimp only at H ⊢
    try simp only [tp]
    refine sq ctNo_ok ?_
    simp only [go_sem,Nat.reduceAdd]
    refine seqM ?_
    refine condM' rfl trivial (fun hc=>?_) (fun hc=>?_)
    ·have hk3:(bLt v1_1 (r1.length:Nat))=false:=by simpa using hc
     replace H:=cond_f hc H
     refine rg ctNo_ok ?_
     simp only [go_sem]
     refine ⟨_,(Option.some.inj H).symm,?_⟩
     refine SubF_of ⟨[some 0,some 1,some 2,some 3],?_,?_,by rfl,by rfl⟩
     ·simp [CvL,Cv,getM]
     ·exact ⟨cv,cv,CvB_dead,CvB_row nr_TSleeper cl (fun _ _ _ _=>rfl),trivial⟩
    have hk3:(bLt v1_1 (r1.length:Nat))=true:=by simpa using hc
    replace H:=cond_t hc H
    refine rg ctNo_ok ?_
    simp only [go_sem]
    refine seqM ?_
    refine blkM ?_
    refine sq ctNo_ok ?_
    simp only [go_sem]
    obtain ⟨f4,H⟩:=need_some.1 H
    replace f4:=inb_iff.1 f4
    obtain ⟨r5,e6,H⟩:=bsi H
    obtain ⟨f7,H⟩:=need_some.1 H
    replace f7:=inb_iff.1 f7
    refine draw_rule shT_ok ct65t1_ok 0 (by kernel_rfl) (by kernel_rfl) ?_
    intro an han
    simp only [d_nil,d_cons,nxtD,xrD,xoD,roEq,minL,List.append_nil,refsOp,refs,refsL,mask,maskF,place,placeF,okLog,pairOk,hit,inL,slotsF,ren,nrH,nrB,List.replicate_zero,Nat.sub_self,Nat.add_zero,Nat.zero_add,Nat.reduceSub,Nat.lt_add_one,go_sem,Nat.reduceLeDiff,Nat.reduceLT,Nat.reduceAdd,Nat.reduceSub,Nat.reduceBEq,ct65t1_93,body93_0,f4,e6]
    repeat ((with_reducible refine And.intro ?_ ?_);focus exact an5)
    refine rg ctNo_ok ?_
    simp only [go_sem]
    refine ⟨_,(Option.some.inj H).symm,?_⟩
    refine SubF_of ⟨[some 0,some 1,some 2,some 3],?_,?_,by rfl,by rfl⟩
    ·simp [CvL,Cv,getM]
    ·exact ⟨cv,cv,CvB_dead,CvB_row nr_TSleeper cl (upc_row (f:=c_TSleeper) v1_2 v1_1.toNat 2 (TSleeper.mk ((gd v1_2 v1_1.toNat).Aid) ((gd v1_2 v1_1.toNat).Asleep) r5) (fun _ _ _ _=>rfl) (fun y hy=>match y,hy with|0,_=>rfl|1,_=>rfl|2,_=>rfl|(y+3),h=>absurd h (by omega))),trivial⟩
   ·try dsimp only at H ⊢
    try simp only [tp]
    try simp only [m_normal]
    refine seqM ?_
    obtain ⟨r8,e9,H⟩:=bsi H
    refine rg ct65t2_ok ?_
    simp only [go_sem,Nat.reduceLT,Nat.reduceAdd,ct65t2_93,body93,e9]
    repeat ((with_reducible refine And.intro ?_ ?_);focus exact an0)
    refine sq ctNo_ok ?_
    simp only [go_sem,Nat.reduceLT,Nat.reduceAdd]
    repeat ((with_reducible refine And.intro ?_ ?_);focus exact an6)
    refine rg ctNo_ok ?_
    simp only [go_sem,Nat.reduceLT,Nat.reduceAdd]
    obtain rfl:=Option.some.inj H
    refine ⟨[],?_,?_,[some 3,some 4],?_,?_,by rfl⟩
    ·simp only [go_sem]
    ·simp only [go_sem]
    ·simp [fzV,fzL,inL,Cv,CvL,getM]
     all_goals first|exact cl|exact cl
    ·simp only [go_sem,CvH]
     exact ⟨CvB_row nr_TSleeper cl (fun _ _ _ _=>rfl),CvB_row nr_TStored cl (fun _ _ _ _=>rfl)⟩
  ·cases hb
theorem ext82:ExtOk Try.prog 104 ovC2:=ov_ext2 (t:=22) (tr:=4) (e:=57) (z:=3) Try.func104 (by kernel_rfl) (by kernel_rfl) (by kernel_rfl) (by kernel_rfl) (by kernel_rfl) (by kernel_rfl)
def ctI82:Ct:=tab [(104,ovC2)]
theorem ctI82_ok:CtOk Try.prog ctI82:=tab_ext ext82 tab_nil
theorem ctI82_eq (l:List AV) (h:List ABlk):ctI82 104 l h=ovC2 l h:=rfl
theorem tik82_0:tintk Try.prog 2=true:=by kernel_rfl
theorem tik82_1:tintk Try.prog 22=false:=by kernel_rfl
set_option maxHeartbeats 8000000 in
theorem okF82:FnOk Try.prog 82 (insF 57 3):=by
 refine edit1_fn (sh:=fun _=>none) (fun _ _ h=>by cases h) ctI82_ok (insF 57 3) (rs:=[.tmp 6]) Try.func82 (by kernel_rfl) rfl rfl insF_np ?_
 intro E h l vs ob v h' H F hc hob
 unfold insF at hc
 split at hc
 ·rename_i b es' i n nl p b2 es3 i2 m nl2
  split at hc
  ·rename_i e' es2 NN c hb
   split at hc
   ·rename_i e4 es4 N2 d hb2
    injection hc with q1 q2 q3
    subst q1 q2 q3
    obtain ⟨rfl,rfl,rfl,rfl,rfl,hbb,hN,hN2,hpn,hmm,hbig,hfl,hfl2⟩:=hob
    obtain ⟨vs⟩:=vs
    match vs,F.1 with
    | [u1,u2,u3],_ =>
     have hne:geth h b ≠ .dead:=by rw [hb];exact fun e=>by cases e
     obtain ⟨cap,hcap,hV⟩:=csl_of_sl (only_sl (F.2 0 _ u1 rfl rfl))
     have g2:=F.2 1 _ u2 rfl rfl
     have g3:=only_ro (b:=b) H (F.2 2 _ u3 rfl rfl) hb2 hne hbb hN2 fun x y hx hy=>(hfl2 x y hx hy).1
     obtain rfl:=VR_int g2
     refine ⟨b,57,3,NN,c,n+m,insA i p m c (subC i2 d),[.csl 0 3 i n cap,.int .i64 p,.ro 3 m nl2 (subC i2 d)],hb,fun x y hx hy=>(hfl x y hx hy).1,fun x y hx hy=>?_,rfl,rfl,?_,?_⟩
     ·unfold insA subC
      split
      ·exact hfl _ _ (by omega) hy
      ·split
       ·exact hfl2 _ _ (by omega) hy
       ·exact hfl _ _ (by omega) hy
     ·refine ⟨rfl,fun j a w ha hw=>?_⟩
      match j with
      | 0=>simp at ha hw;subst ha hw;exact hV
      | 1=>simp at ha hw;subst ha hw;exact .int _ _
      | 2=>simp at ha hw;subst ha hw;exact g3
      | j+3=>simp at ha
     ·rw [Try.ntmps82]
      show wpC _ _ _ _ _ (.csl 0 3 i n cap::.int .i64 p::.ro 3 m nl2 (subC i2 d)::.top::.top::.top::.top::.top::.top::.top::.top::.top::.top::.top::.top::.top::.top::.top::.top::.top::.top::.top::.top::.top::.top::.top::.top::.top::.top::.top::.top::.top::.top::.top::.top::.top::.top::.top::.top::.top::.top::.top::.top::.top::.top::.top::.top::.top::.top::.top::.top::.top::.top::.top::.top::.top::.top::.top::.top::.top::.top::.top::.top::.top::.top::.top::.top::.top::.top::.top::.top::.top::.top::.top::.top::.top::.top::.top::.top::.top::.top::.top::.top::.top::.top::.top::.top::.top::.top::.top::.top::.top::.top::.top::.top::[]) _
      have hm0:0 < m:=by omega
      have hm1:((m:Int) == 0)=false:=by simp;omega
      rcases Nat.lt_or_ge p n with hp|hp
      ·have hpq:((p:Int) == (n:Int))=false:=by simp;omega
       have w1:wr .i64 ((n:Int)+(m:Int))=((n+m:Nat):Int):=by unfold wr;rw [IntWalk.i64_in _ (by omega)];omega
       have w2:wr .i64 (((n+m:Nat):Int) - (p:Int))=((n+m - p:Nat):Int):=by unfold wr;rw [IntWalk.i64_in _ (by omega)];omega
       have w3:wr .i64 ((p:Int)+(m:Int))=((p+m:Nat):Int):=by unfold wr;rw [IntWalk.i64_in _ (by omega)];omega
       have hpm:p+(n+m - p)=n+m:=by omega
       have mn1:min m (n+m - p)=m:=by omega
       have mn2:min (n - p) (n+m - (p+m))=n - p:=by omega
       have mn3:min (n+m - p) (n+m - (p+m))=n - p:=by omega
       have fin:∀ x y,x < n+m->insA i p m c (subC i2 d) x y=insA i p m c (subC i2 d) x y:=fun _ _ _=>rfl
       by_cases hroom:n+m <= cap
       ·have hg:decide ((cap:Int) < ((n+m:Nat):Int))=false:=by simp;omega
        simp only [go_sem,Nat.reduceLeDiff,Nat.reduceAdd,reduceCtorEq,evCopy,evCopyR,lenS,cutS,evCap,evAppZ,tik82_1,bEq,Option.isNone_some,Option.isSome_none,Option.isNone_none,Int.toNat_natCast,hm1,hpq,hg,Nat.sub_zero,bLt,w1,w2,w3,hpm,ctI82_eq,ovC2,slB,Nat.add_zero,Nat.zero_add]
        refine ⟨by omega,by omega,by omega,by omega,?_⟩
        refine draw_rule (sh:=fun _=>none) (fun _ _ h=>by cases h) ctI82_ok 0 (by kernel_rfl) (by kernel_rfl) ?_
        intro an han
        simp only [go_sem,Nat.reduceLeDiff,Nat.reduceAdd,Nat.reduceSub,evCopy,evCopyR,lenS,cutS,Option.isSome_none,Option.isNone_none,Int.toNat_natCast,w3,mn1,mn3,Nat.add_zero,Nat.zero_add,d_nil,d_cons,nxtD,refsOp,refs,refsL,mask,maskF,place,placeF,okLog,pairOk,hit,inL,slotsF,ren,nrH,nrB,List.replicate_zero,Bool.or_false,Bool.or_true,Bool.true_or,Bool.false_and,Nat.sub_self,Nat.add_zero,Nat.zero_add,Nat.reduceSub,Nat.lt_add_one]
        refine ⟨by omega,by omega,by omega,by omega,by omega,?_⟩
        refine conv_move (b:=0) rfl (by omega) (by omega) fun x y hx hy=>?_
        unfold ovwC insA subC
        by_cases hxp:x < p
        ·rw [if_neg (by omega),if_neg (by omega),if_pos hxp]
        ·rw [if_neg hxp]
         by_cases hxm:x < p+m
         ·rw [if_pos (by omega),if_pos hxm]
          congr 1
          omega
         ·rw [if_neg (by omega),if_pos (by omega),if_neg hxm]
          congr 1
          omega
       ·have hg:decide ((cap:Int) < ((n+m:Nat):Int))=true:=by simp;omega
        have hd:decide (cap < n+m)=true:=by simp;omega
        simp only [go_sem,Nat.reduceLeDiff,Nat.reduceAdd,reduceCtorEq,evCopy,evCopyR,lenS,cutS,evCap,evAppZ,tik82_1,bEq,Option.isNone_some,Option.isSome_none,Option.isNone_none,Int.toNat_natCast,hm1,hpq,hg,hd,Nat.sub_zero,bLt,w1,w2,w3,hpm,mn1,ctI82_eq,ovC2,slB,Nat.add_zero,Nat.zero_add]
        refine ⟨by omega,by omega,by omega,by omega,by omega,?_⟩
        refine draw_rule (sh:=fun _=>none) (fun _ _ h=>by cases h) ctI82_ok 0 (by kernel_rfl) (by kernel_rfl) ?_
        intro an han
        simp only [go_sem,Nat.reduceLeDiff,Nat.reduceAdd,Nat.reduceSub,Nat.reduceBEq,evCopy,evCopyR,lenS,cutS,Option.isSome_none,Option.isNone_none,Int.toNat_natCast,w3,mn2,Nat.add_zero,Nat.zero_add,d_nil,d_cons,nxtD,refsOp,refs,refsL,mask,maskF,place,placeF,okLog,pairOk,hit,inL,slotsF,ren,nrH,nrB,List.replicate_zero,Bool.or_false,Bool.or_true,Bool.true_or,Bool.false_and,Nat.sub_self,Nat.add_zero,Nat.zero_add,Nat.reduceSub,Nat.lt_add_one]
        refine ⟨by omega,by omega,by omega,?_⟩
        refine conv_two (by omega) fun x y hx hy=>?_
        unfold ovwC appC insA subC
        by_cases hxp:x < p
        ·rw [if_neg (by omega),if_neg (by omega),if_pos hxp,if_pos hxp]
        ·by_cases hxm:x < p+m
         ·rw [if_neg (by omega),if_pos (by omega),if_neg hxp,if_pos hxm]
         ·rw [if_pos (by omega),if_neg hxp,if_neg hxm]
          congr 1
          omega
      ·obtain rfl:p=n:=by omega
       have hpq:((p:Int) == (p:Int))=true:=by simp
       by_cases hroom:p+m <= cap
       ·have hd1:decide (p+m <= cap)=true:=by simpa using hroom
        simp only [go_sem,Nat.reduceLeDiff,Nat.reduceAdd,evCopy,evCopyR,lenS,cutS,evCap,evAppZ,tik82_1,bEq,Option.isNone_some,Option.isSome_none,Option.isNone_none,Int.toNat_natCast,hm1,hpq,hd1,Nat.sub_zero]
        refine ⟨by omega,by omega,?_⟩
        refine conv_move (b:=0) rfl (by omega) (by omega) fun x y hx hy=>?_
        unfold ovwC insA
        by_cases hxp:x < p
        ·rw [if_neg (by omega),if_pos hxp]
        ·rw [if_pos (by omega),if_neg hxp,if_pos (by omega)]
         congr 1
         omega
       ·have hd1:decide (p+m <= cap)=false:=by simpa using hroom
        simp only [go_sem,Nat.reduceLeDiff,Nat.reduceAdd,evCopy,evCopyR,lenS,cutS,evCap,evAppZ,tik82_1,bEq,Option.isNone_some,Option.isSome_none,Option.isNone_none,Int.toNat_natCast,hm1,hpq,hd1,Nat.sub_zero]
        refine ⟨by omega,by omega,?_⟩
        refine conv_two (Nat.le_refl _) fun x y hx hy=>?_
        unfold appC insA subC
        by_cases hxp:x < p
        ·rw [if_pos hxp,if_pos hxp]
        ·rw [if_neg hxp,if_neg hxp,if_pos (by omega)]
   ·cases hc
  ·cases hc
 ·cases hc
theorem ok82:FnOk Try.prog 82 (insN 57 3):=insN_ok okF82
noncomputable def ct40t0:Ct:=tab [(18,pureC body18)]
theorem ct40t0_ok:CtOk Try.prog ct40t0:=tab_cons ok18 <| tab_nil
theorem ct40t0_18 (l:List AV) (h:List ABlk):ct40t0 18 l h=pureC body18 l h:=rfl
noncomputable def ct40t1:Ct:=tab [(81,pureC body81)]
theorem ct40t1_ok:CtOk Try.prog ct40t1:=tab_cons ok81 <| tab_nil
theorem ct40t1_81 (l:List AV) (h:List ABlk):ct40t1 81 l h=pureC body81 l h:=rfl
noncomputable def ct40t2:Ct:=tab [(65,genC body65)]
theorem ct40t2_ok:CtOk Try.prog ct40t2:=tab_cons ok65 <| tab_nil
theorem ct40t2_65 (l:List AV) (h:List ABlk):ct40t2 65 l h=genC body65 l h:=rfl
noncomputable def ct40t3:Ct:=tab [(82,insN 57 3)]
theorem ct40t3_ok:CtOk Try.prog ct40t3:=tab_cons ok82 <| tab_nil
theorem ct40t3_82 (l:List AV) (h:List ABlk):ct40t3 82 l h=insN 57 3 l h:=rfl
noncomputable def F40 (p0:TBuffer) (p1:Int):Option (TBuffer × Int) :=
 (F18 p0).bind fun r1=>bif (!bEq r1 0) then (some ((TBuffer.mk 0 0 [] []),r1)) else (bif ((bLt p1 1) || (bLt 255 p1)) then (some ((TBuffer.mk 0 0 [] []),2)) else ((F81 p0 p1).bind fun r5=>bif r5.2 then (some ((TBuffer.mk 0 0 [] []),20)) else (bif (bEq (p0.List.length:Nat) 32) then (some ((TBuffer.mk 0 0 [] []),22)) else ((F65 p0).bind fun r9=>need (insb r5.1 r9.List.length) <| (some ([(TSleeper.mk p1 false ([]:List TStored))])).bind fun w12=>(some (insL r9.List r5.1 ([(TSleeper.mk p1 false ([]:List TStored))]))).bind fun w14=>some ((TBuffer.mk r9.Limit r9.Stay w14 r9.Group),0)))))
noncomputable def body40:List AV->Nat->AR
 | [v0,v1],_=>.pure (aK 4 k_TBuffer v0/\iK .i64 v1/\(F40 (g_TBuffer (aL v0)) (iA v1)).isSome=true) (.tup [.agg [.int .i64 (((gt (F40 (g_TBuffer (aL v0)) (iA v1))).1).Limit),.int .i64 (((gt (F40 (g_TBuffer (aL v0)) (iA v1))).1).Stay),.ro 3 ((((gt (F40 (g_TBuffer (aL v0)) (iA v1))).1).List).length) false (enR c_TSleeper (((gt (F40 (g_TBuffer (aL v0)) (iA v1))).1).List)),.ro 43 ((((gt (F40 (g_TBuffer (aL v0)) (iA v1))).1).Group).length) false (enR c_TStored (((gt (F40 (g_TBuffer (aL v0)) (iA v1))).1).Group))],.int .i64 ((gt (F40 (g_TBuffer (aL v0)) (iA v1))).2)])
 | _,_=>.fail
theorem ok40:FnOk Try.prog 40 (genC body40):=by
 refine gen_fn body40 (rs:=[.cell 4 25,.tmp 5]) Try.func40 (by kernel_rfl) rfl rfl ?_
 intro l s ob v ns hb hob
 rcases hb with ⟨hb,rfl⟩|hb
 ·unfold body40 at hb
  split at hb
  ·rename_i v0 v1
   injection hb with q1 q2;subst q1 q2
   obtain ⟨hk0_0,hk1_0,hob⟩:=hob
   obtain ⟨r,H⟩:=Option.isSome_iff_exists.1 hob
   rw [H,gt_some]
   have hw0:=wA_TBuffer hk0_0
   have hw1:=iK_wk hk1_0
   generalize g_TBuffer (aL v0)=p0 at H hw0
   generalize iA v1=p1 at H hw1
   refine ⟨[.agg [.int .i64 p0.Limit,.int .i64 p0.Stay,.ro 3 p0.List.length false (enR c_TSleeper p0.List),.ro 43 p0.Group.length false (enR c_TStored p0.Group)],.int .i64 p1],.tup [.agg [.int .i64 r.1.Limit,.int .i64 r.1.Stay,.ro 3 r.1.List.length false (enR c_TSleeper r.1.List),.ro 43 r.1.Group.length false (enR c_TStored r.1.Group)],.int .i64 r.2],[],(fun E vs F=>FR_wk1 hw0.1 F (fun vs F=>FR_wk1 hw1.1 F (fun vs F=>F))),by simp only [ren,renL],trivial,?_⟩
   rw [Try.ntmps40]
   simp only [List.length_cons,List.length_nil,Nat.reduceAdd,Nat.reduceSub,List.replicate_succ,List.replicate_zero,List.cons_append,List.nil_append]
   unfold F40 at H
   try dsimp only at H
   refine sq ctNo_ok ?_
   simp only [go_sem]
   refine seqM ?_
   refine seqM ?_
   obtain ⟨r1,e2,H⟩:=bsi H
   refine rg ct40t0_ok ?_
   simp only [go_sem,Nat.reduceLT,Nat.reduceAdd,ct40t0_18,body18,e2]
   repeat ((with_reducible refine And.intro ?_ ?_);focus exact an0)
   refine sq ctNo_ok ?_
   simp only [go_sem]
   refine condM rfl trivial (fun hc=>?_) (fun hc=>?_)
   ·have hk3:(bEq r1 0)=false:=by simpa using hc
    replace H:=cond_t hc H
    refine sq ctNo_ok ?_
    simp only [go_sem,Nat.reduceAdd]
    repeat ((with_reducible refine And.intro ?_ ?_);focus exact an6)
    refine rg ctNo_ok ?_
    simp only [go_sem,Nat.reduceLT,Nat.reduceAdd]
    obtain rfl:=Option.some.inj H
    refine ⟨[0,1],?_,?_,[],?_,?_,rfl⟩
    ·simp only [go_sem]
     try exact at0
    ·simp only [go_sem]
     try exact at0
    ·simp only [go_sem]
     exact Cv_tup (CvL_cons (Cv_agg (CvL_cons Cv_int (CvL_cons Cv_int (CvL_cons (Cv_ronil (α:=TSleeper)) (CvL_cons (Cv_ronil (α:=TStored)) CvL_nil))))) (CvL_cons Cv_int CvL_nil))
    ·simp only [go_sem,CvH]
   have hk3:(bEq r1 0)=true:=by simpa using hc
   replace H:=cond_f hc H
   refine rg ctNo_ok ?_
   simp only [go_sem]
   refine seqM ?_
   refine sq ctNo_ok ?_
   simp only [go_sem]
   repeat ((with_reducible refine And.intro ?_ ?_);focus exact an6)
   refine condM rfl trivial (fun hc=>?_) (fun hc=>?_)
   ·have hk4:((bLt p1 1) || (bLt 255 p1))=true:=by simpa using hc
    replace H:=cond_t hc H
    refine sq ctNo_ok ?_
    simp only [go_sem,Nat.reduceAdd]
    repeat ((with_reducible refine And.intro ?_ ?_);focus exact an6)
    refine rg ctNo_ok ?_
    simp only [go_sem,Nat.reduceLT,Nat.reduceAdd]
    obtain rfl:=Option.some.inj H
    refine ⟨[0,1],?_,?_,[],?_,?_,rfl⟩
    ·simp only [go_sem]
     try exact at0
    ·simp only [go_sem]
     try exact at0
    ·simp only [go_sem]
     exact Cv_tup (CvL_cons (Cv_agg (CvL_cons Cv_int (CvL_cons Cv_int (CvL_cons (Cv_ronil (α:=TSleeper)) (CvL_cons (Cv_ronil (α:=TStored)) CvL_nil))))) (CvL_cons Cv_int CvL_nil))
    ·simp only [go_sem,CvH]
   have hk4:((bLt p1 1) || (bLt 255 p1))=false:=by simpa using hc
   replace H:=cond_f hc H
   refine rg ctNo_ok ?_
   simp only [go_sem]
   refine seqM ?_
   obtain ⟨r5,e6,H⟩:=bsi H
   refine rg ct40t1_ok ?_
   simp only [go_sem,Nat.reduceLT,Nat.reduceAdd,ct40t1_81,body81,e6]
   repeat ((with_reducible refine And.intro ?_ ?_);focus exact an0)
   refine seqM ?_
   refine blkM ?_
   refine sq ctNo_ok ?_
   simp only [go_sem]
   refine condM rfl trivial (fun hc=>?_) (fun hc=>?_)
   ·have hk7:(r5.2)=true:=by simpa using hc
    replace H:=cond_t hc H
    refine sq ctNo_ok ?_
    simp only [go_sem,Nat.reduceAdd]
    repeat ((with_reducible refine And.intro ?_ ?_);focus exact an6)
    refine rg ctNo_ok ?_
    simp only [go_sem,Nat.reduceLT,Nat.reduceAdd]
    obtain rfl:=Option.some.inj H
    refine ⟨[0,1],?_,?_,[],?_,?_,rfl⟩
    ·simp only [go_sem]
     try exact at0
    ·simp only [go_sem]
     try exact at0
    ·simp only [go_sem]
     exact Cv_tup (CvL_cons (Cv_agg (CvL_cons Cv_int (CvL_cons Cv_int (CvL_cons (Cv_ronil (α:=TSleeper)) (CvL_cons (Cv_ronil (α:=TStored)) CvL_nil))))) (CvL_cons Cv_int CvL_nil))
    ·simp only [go_sem,CvH]
   have hk7:(r5.2)=false:=by simpa using hc
   replace H:=cond_f hc H
   refine sq ctNo_ok ?_
   simp only [go_sem,Nat.reduceLeDiff,Nat.reduceLT,Nat.reduceAdd]
   repeat ((with_reducible refine And.intro ?_ ?_);focus exact an0)
   refine condM rfl trivial (fun hc=>?_) (fun hc=>?_)
   ·have hk8:(bEq (p0.List.length:Nat) 32)=true:=by simpa using hc
    replace H:=cond_t hc H
    refine sq ctNo_ok ?_
    simp only [go_sem,Nat.reduceAdd]
    repeat ((with_reducible refine And.intro ?_ ?_);focus exact an6)
    refine rg ctNo_ok ?_
    simp only [go_sem,Nat.reduceLT,Nat.reduceAdd]
    obtain rfl:=Option.some.inj H
    refine ⟨[0,1],?_,?_,[],?_,?_,rfl⟩
    ·simp only [go_sem]
     try exact at0
    ·simp only [go_sem]
     try exact at0
    ·simp only [go_sem]
     exact Cv_tup (CvL_cons (Cv_agg (CvL_cons Cv_int (CvL_cons Cv_int (CvL_cons (Cv_ronil (α:=TSleeper)) (CvL_cons (Cv_ronil (α:=TStored)) CvL_nil))))) (CvL_cons Cv_int CvL_nil))
    ·simp only [go_sem,CvH]
   have hk8:(bEq (p0.List.length:Nat) 32)=false:=by simpa using hc
   replace H:=cond_f hc H
   refine rg ctNo_ok ?_
   simp only [go_sem]
   refine seqM ?_
   obtain ⟨r9,e10,H⟩:=bsi H
   refine rg ct40t2_ok ?_
   simp only [go_sem,Nat.reduceLT,Nat.reduceAdd,ct40t2_65,body65,e10]
   repeat ((with_reducible refine And.intro ?_ ?_);focus exact an0)
   refine seqM ?_
   refine regO ?_
   refine cutO shT_ok ctNo_ok 5 ?_
   simp only [kO_normal,List.take_succ_cons,List.take_zero,List.drop_succ_cons,List.drop_zero,go_sem,Nat.reduceLeDiff,Nat.reduceLT,Nat.reduceAdd]
   repeat ((with_reducible refine And.intro ?_ ?_);focus exact an3)
   refine subO (t2:=(.agg [.int .i64 p0.Limit,.int .i64 p0.Stay,.ro 3 p0.List.length false (enR c_TSleeper p0.List),.ro 43 p0.Group.length false (enR c_TStored p0.Group)]::.int .i64 p1::.ptr 0 0 0 0::.top::.ptr 1 0 0 0::.int .i64 0::.int .i64 r1::.int .i64 r5.1::.bool r5.2::.agg [.int .i64 p0.Limit,.int .i64 p0.Stay,.ro 3 p0.List.length false (enR c_TSleeper p0.List),.ro 43 p0.Group.length false (enR c_TStored p0.Group)]::.int .i64 r1::.int .i64 r1::.bool (!bEq r1 0)::.top::.top::.int .i64 p1::.bool (bLt p1 1)::.bool (bLt p1 1)::.opt (!(bLt p1 1)) (.int .i64 p1)::.opt (!(bLt p1 1)) (.bool (bLt 255 p1))::.bool ((bLt p1 1) || (bLt 255 p1))::.top::.tup [.int .i64 r5.1,.bool r5.2]::.agg [.int .i64 p0.Limit,.int .i64 p0.Stay,.ro 3 p0.List.length false (enR c_TSleeper p0.List),.ro 43 p0.Group.length false (enR c_TStored p0.Group)]::.int .i64 p1::.tup [.int .i64 r5.1,.bool r5.2]::.int .i64 r5.1::.bool r5.2::.bool r5.2::.bool r5.2::.top::.bool (bEq (p0.List.length:Nat) 32)::.ptr 0 0 0 2::.ro 3 p0.List.length false (enR c_TSleeper p0.List)::.int .i64 (p0.List.length:Nat)::.bool (bEq (p0.List.length:Nat) 32)::.top::.agg [.int .i64 p0.Limit,.int .i64 p0.Stay,.ro 3 p0.List.length false (enR c_TSleeper p0.List),.ro 43 p0.Group.length false (enR c_TStored p0.Group)]::.agg [.int .i64 r9.Limit,.int .i64 r9.Stay,.sl 2 3 0 r9.List.length false,.sl 3 43 0 r9.Group.length false]::.ptr 0 0 0 2::.sl 2 3 0 r9.List.length false::.int .i64 r5.1::.int .i64 p1::.agg [.int .i64 p1,.bool false,.ro 43 (([]:List TStored).length) false (enR c_TStored ([]:List TStored))]::tp 4 [])) (h2:=[.lit 25 [.int .i64 r9.Limit,.int .i64 r9.Stay,.sl 2 3 0 r9.List.length false,.sl 3 43 0 r9.Group.length false],.lit 25 [.int .i64 0,.int .i64 0,.ro 0 0 true (fun _ _=>.top),.ro 0 0 true (fun _ _=>.top)],.row 57 3 r9.List.length (enR c_TSleeper r9.List),.row 61 43 r9.Group.length (enR c_TStored r9.Group)]) ?_ ?_
   ·refine SubF_of ⟨[some 0,some 1,some 2,some 3],?_,?_,by rfl,by rfl⟩
    ·simp [CvL,Cv,getM,tp,tp]
    ·(repeat (first|refine And.intro (by first|exact CvB_dead|exact CvB_same nfA|(simp [CvB,CvL,Cv,blkAt,geth,getM];done)) ?_|trivial))
   simp only [tp]
   obtain ⟨f11,H⟩:=need_some.1 H
   replace f11:=insb_iff.1 f11
   refine cutO shT_ok ct40t3_ok 4 ?_
   simp only [kO_normal,List.take_succ_cons,List.take_zero,List.drop_succ_cons,List.drop_zero,go_sem,Nat.reduceLeDiff,Nat.reduceAdd,Nat.reduceEqDiff,ct40t3_82,insN,f11]
   repeat ((with_reducible refine And.intro ?_ ?_);focus exact an3)
   refine endO ?_
   refine seqM ?_
   obtain ⟨w12,hw13,H⟩:=bsi H
   replace hw13:=Option.some.inj hw13
   have lhw13:w12.length=1:=by rw [← hw13];exact cl
   obtain ⟨w14,hw15,H⟩:=bsi H
   replace hw15:=Option.some.inj hw15
   have lhw15:w14.length=r9.List.length+1:=by rw [← hw15];exact (ins_len f11 cl)
   refine subF_mean (t2:=(.top::.top::.ptr 0 0 0 0::.top::.ptr 1 0 0 0::tp 43 [])) (h2:=[.lit 25 [.int .i64 r9.Limit,.int .i64 r9.Stay,.sl 5 3 0 w14.length false,.sl 3 43 0 r9.Group.length false],.lit 25 [.int .i64 0,.int .i64 0,.ro 0 0 true (fun _ _=>.top),.ro 0 0 true (fun _ _=>.top)],.dead,.row 61 43 r9.Group.length (enR c_TStored r9.Group),.row 57 3 w12.length (enR c_TSleeper w12),.row 57 3 w14.length (enR c_TSleeper w14)]) ?_ ?_
   ·refine SubF_of ⟨[some 0,some 1,some 2,some 3,some 4,some 5],?_,?_,by rfl,by rfl⟩
    ·simp [CvL,Cv,getM,tp,tp]
    ·exact ⟨(by simp [CvB,CvL,Cv,blkAt,geth,getM,lhw15]),(by simp [CvB,CvL,Cv,blkAt,geth]),CvB_dead,CvB_row nr_TStored rfl (fun _ _ _ _=>rfl),CvB_row nr_TSleeper lhw13 (hw13 ▸ (lit_row (f:=c_TSleeper) ([(TSleeper.mk p1 false ([]:List TStored))]) (fun _ _=>rfl) rfl)),CvB_row nr_TSleeper lhw15 (hw15 ▸ (ins_row f11 cl (fun _ _ _ _=>rfl) (lit_row (f:=c_TSleeper) ([(TSleeper.mk p1 false ([]:List TStored))]) (fun _ _=>rfl) rfl))),trivial⟩
   simp only [tp]
   refine rg ctNo_ok ?_
   simp only [go_sem,Nat.reduceLT,Nat.reduceAdd]
   repeat ((with_reducible refine And.intro ?_ ?_);focus exact an6)
   refine rg ctNo_ok ?_
   simp only [go_sem,Nat.reduceLT,Nat.reduceAdd]
   obtain rfl:=Option.some.inj H
   refine ⟨[5,3,0,1],?_,?_,[],?_,?_,rfl⟩
   ·simp only [go_sem,Nat.reduceBEq]
    try exact at0
   ·simp only [go_sem,Nat.reduceBEq]
    try exact at0
   ·simp only [go_sem,Nat.reduceBEq]
    exact Cv_tup (CvL_cons (Cv_agg (CvL_cons Cv_int (CvL_cons Cv_int (CvL_cons (ro_row (by first|rfl|simp) (fun _ _ _ _=>rfl)) (CvL_cons (ro_row (by first|rfl|simp) (fun _ _ _ _=>rfl)) CvL_nil))))) (CvL_cons Cv_int CvL_nil))
   ·simp only [go_sem,CvH]
  ·cases hb
 ·unfold body40 at hb
  split at hb<;>cases hb
noncomputable def ct50t0:Ct:=tab [(18,pureC body18)]
theorem ct50t0_ok:CtOk Try.prog ct50t0:=tab_cons ok18 <| tab_nil
theorem ct50t0_18 (l:List AV) (h:List ABlk):ct50t0 18 l h=pureC body18 l h:=rfl
noncomputable def ct50t1:Ct:=tab [(81,pureC body81)]
theorem ct50t1_ok:CtOk Try.prog ct50t1:=tab_cons ok81 <| tab_nil
theorem ct50t1_81 (l:List AV) (h:List ABlk):ct50t1 81 l h=pureC body81 l h:=rfl
noncomputable def ct50t2:Ct:=tab [(65,genC body65)]
theorem ct50t2_ok:CtOk Try.prog ct50t2:=tab_cons ok65 <| tab_nil
theorem ct50t2_65 (l:List AV) (h:List ABlk):ct50t2 65 l h=genC body65 l h:=rfl
noncomputable def F50 (p0:TBuffer) (p1:Int):Option (TBuffer × Int) :=
 (F18 p0).bind fun r1=>bif (!bEq r1 0) then (some ((TBuffer.mk 0 0 [] []),r1)) else (bif ((bLt p1 1) || (bLt 255 p1)) then (some ((TBuffer.mk 0 0 [] []),2)) else ((F81 p0 p1).bind fun r5=>bif (!r5.2) then (some ((TBuffer.mk 0 0 [] []),6)) else ((F65 p0).bind fun r8=>need (inb r5.1 r8.List.length) <| some ((TBuffer.mk r8.Limit r8.Stay (r8.List.set r5.1.toNat (TSleeper.mk ((gd r8.List r5.1.toNat).Aid) true ((gd r8.List r5.1.toNat).Held))) r8.Group),0))))
noncomputable def body50:List AV->Nat->AR
 | [v0,v1],_=>.pure (aK 4 k_TBuffer v0/\iK .i64 v1/\(F50 (g_TBuffer (aL v0)) (iA v1)).isSome=true) (.tup [.agg [.int .i64 (((gt (F50 (g_TBuffer (aL v0)) (iA v1))).1).Limit),.int .i64 (((gt (F50 (g_TBuffer (aL v0)) (iA v1))).1).Stay),.ro 3 ((((gt (F50 (g_TBuffer (aL v0)) (iA v1))).1).List).length) false (enR c_TSleeper (((gt (F50 (g_TBuffer (aL v0)) (iA v1))).1).List)),.ro 43 ((((gt (F50 (g_TBuffer (aL v0)) (iA v1))).1).Group).length) false (enR c_TStored (((gt (F50 (g_TBuffer (aL v0)) (iA v1))).1).Group))],.int .i64 ((gt (F50 (g_TBuffer (aL v0)) (iA v1))).2)])
 | _,_=>.fail
theorem ok50:FnOk Try.prog 50 (genC body50):=by
 refine gen_fn body50 (rs:=[.cell 4 25,.tmp 5]) Try.func50 (by kernel_rfl) rfl rfl ?_
 intro l s ob v ns hb hob
 rcases hb with ⟨hb,rfl⟩|hb
 ·unfold body50 at hb
  split at hb
  ·rename_i v0 v1
   injection hb with q1 q2;subst q1 q2
   obtain ⟨hk0_0,hk1_0,hob⟩:=hob
   obtain ⟨r,H⟩:=Option.isSome_iff_exists.1 hob
   rw [H,gt_some]
   have hw0:=wA_TBuffer hk0_0
   have hw1:=iK_wk hk1_0
   generalize g_TBuffer (aL v0)=p0 at H hw0
   generalize iA v1=p1 at H hw1
   refine ⟨[.agg [.int .i64 p0.Limit,.int .i64 p0.Stay,.ro 3 p0.List.length false (enR c_TSleeper p0.List),.ro 43 p0.Group.length false (enR c_TStored p0.Group)],.int .i64 p1],.tup [.agg [.int .i64 r.1.Limit,.int .i64 r.1.Stay,.ro 3 r.1.List.length false (enR c_TSleeper r.1.List),.ro 43 r.1.Group.length false (enR c_TStored r.1.Group)],.int .i64 r.2],[],(fun E vs F=>FR_wk1 hw0.1 F (fun vs F=>FR_wk1 hw1.1 F (fun vs F=>F))),by simp only [ren,renL],trivial,?_⟩
   rw [Try.ntmps50]
   simp only [List.length_cons,List.length_nil,Nat.reduceAdd,Nat.reduceSub,List.replicate_succ,List.replicate_zero,List.cons_append,List.nil_append]
   unfold F50 at H
   try dsimp only at H
   refine sq ctNo_ok ?_
   simp only [go_sem]
   refine seqM ?_
   refine regO ?_
   refine cutO shT_ok ctNo_ok 2 ?_
   simp only [kO_normal,List.take_succ_cons,List.take_zero,List.drop_succ_cons,List.drop_zero,go_sem,Nat.reduceLT,Nat.reduceAdd]
   repeat ((with_reducible refine And.intro ?_ ?_);focus exact an0)
   refine inlO (rs:=[.tmp 4,.tmp 5,.tmp 6]) Try.func51 (by kernel_rfl) rfl rfl Try.ntmps51 (caps:=[]) (tc:=[.agg [.int .i64 p0.Limit,.int .i64 p0.Stay,.ro 3 p0.List.length false (enR c_TSleeper p0.List),.ro 43 p0.Group.length false (enR c_TStored p0.Group)],.int .i64 p1]) rfl (by simp only [go_sem]) rfl ?_
   simp only [List.length_cons,List.length_nil,Nat.reduceAdd,Nat.reduceSub,List.replicate_succ,List.replicate_zero,List.cons_append,List.nil_append]
   refine sq ctNo_ok ?_
   simp only [go_sem,Nat.reduceAdd]
   refine seqM ?_
   refine seqM ?_
   obtain ⟨r1,e2,H⟩:=bsi H
   refine rg ct50t0_ok ?_
   simp only [go_sem,Nat.reduceLT,Nat.reduceAdd,ct50t0_18,body18,e2]
   repeat ((with_reducible refine And.intro ?_ ?_);focus exact an0)
   refine sq ctNo_ok ?_
   simp only [go_sem]
   refine condM rfl trivial (fun hc=>?_) (fun hc=>?_)
   ·have hk3:(bEq r1 0)=false:=by simpa using hc
    replace H:=cond_t hc H
    refine sq ctNo_ok ?_
    simp only [go_sem]
    refine rg ctNo_ok ?_
    simp only [go_sem]
    refine cutO shT_ok ctNo_ok 7 ?_
    simp only [kO_normal,List.take_succ_cons,List.take_zero,List.drop_succ_cons,List.drop_zero,go_sem,Nat.reduceLT,Nat.reduceAdd]
    repeat ((with_reducible refine And.intro ?_ ?_);focus exact an0)
    refine endO ?_
    refine seqM ?_
    refine sq ctNo_ok ?_
    simp only [go_sem]
    refine condM rfl trivial (fun hc=>?_) (fun hc=>?_)
    rotate_left
    ·simp [hk3] at hc
    refine sq ctNo_ok ?_
    simp only [go_sem,Nat.reduceAdd]
    repeat ((with_reducible refine And.intro ?_ ?_);focus exact an6)
    refine rg ctNo_ok ?_
    simp only [go_sem,Nat.reduceLT,Nat.reduceAdd]
    obtain rfl:=Option.some.inj H
    refine ⟨[0,1,2],?_,?_,[],?_,?_,rfl⟩
    ·simp only [go_sem]
     try exact at0
    ·simp only [go_sem]
     try exact at0
    ·simp only [go_sem]
     exact Cv_tup (CvL_cons (Cv_agg (CvL_cons Cv_int (CvL_cons Cv_int (CvL_cons (Cv_ronil (α:=TSleeper)) (CvL_cons (Cv_ronil (α:=TStored)) CvL_nil))))) (CvL_cons Cv_int CvL_nil))
    ·simp only [go_sem,CvH]
   have hk3:(bEq r1 0)=true:=by simpa using hc
   replace H:=cond_f hc H
   refine rg ctNo_ok ?_
   simp only [go_sem]
   refine seqM ?_
   refine sq ctNo_ok ?_
   simp only [go_sem]
   repeat ((with_reducible refine And.intro ?_ ?_);focus exact an6)
   refine condM rfl trivial (fun hc=>?_) (fun hc=>?_)
   ·have hk4:((bLt p1 1) || (bLt 255 p1))=true:=by simpa using hc
    replace H:=cond_t hc H
    refine sq ctNo_ok ?_
    simp only [go_sem]
    refine rg ctNo_ok ?_
    simp only [go_sem]
    refine cutO shT_ok ctNo_ok 7 ?_
    simp only [kO_normal,List.take_succ_cons,List.take_zero,List.drop_succ_cons,List.drop_zero,go_sem,Nat.reduceLT,Nat.reduceAdd]
    repeat ((with_reducible refine And.intro ?_ ?_);focus exact an0)
    refine endO ?_
    refine seqM ?_
    refine sq ctNo_ok ?_
    simp only [go_sem,(by decide:bEq (2) (0)=false)]
    refine condM rfl trivial (fun hc=>?_) (fun hc=>?_)
    rotate_left
    ·cases hc
    refine sq ctNo_ok ?_
    simp only [go_sem,Nat.reduceAdd]
    repeat ((with_reducible refine And.intro ?_ ?_);focus exact an6)
    refine rg ctNo_ok ?_
    simp only [go_sem,Nat.reduceLT,Nat.reduceAdd]
    obtain rfl:=Option.some.inj H
    refine ⟨[0,1,2],?_,?_,[],?_,?_,rfl⟩
    ·simp only [go_sem]
     try exact at0
    ·simp only [go_sem]
     try exact at0
    ·simp only [go_sem]
     exact Cv_tup (CvL_cons (Cv_agg (CvL_cons Cv_int (CvL_cons Cv_int (CvL_cons (Cv_ronil (α:=TSleeper)) (CvL_cons (Cv_ronil (α:=TStored)) CvL_nil))))) (CvL_cons Cv_int CvL_nil))
    ·simp only [go_sem,CvH]
   have hk4:((bLt p1 1) || (bLt 255 p1))=false:=by simpa using hc
   replace H:=cond_f hc H
   refine rg ctNo_ok ?_
   simp only [go_sem]
   refine seqM ?_
   obtain ⟨r5,e6,H⟩:=bsi H
   refine rg ct50t1_ok ?_
   simp only [go_sem,Nat.reduceLT,Nat.reduceAdd,ct50t1_81,body81,e6]
   repeat ((with_reducible refine And.intro ?_ ?_);focus exact an0)
   refine seqM ?_
   refine sq ctNo_ok ?_
   simp only [go_sem]
   refine condM rfl trivial (fun hc=>?_) (fun hc=>?_)
   ·have hk7:(r5.2)=false:=by simpa using hc
    replace H:=cond_t hc H
    refine sq ctNo_ok ?_
    simp only [go_sem]
    refine rg ctNo_ok ?_
    simp only [go_sem]
    refine cutO shT_ok ctNo_ok 7 ?_
    simp only [kO_normal,List.take_succ_cons,List.take_zero,List.drop_succ_cons,List.drop_zero,go_sem,Nat.reduceLT,Nat.reduceAdd]
    repeat ((with_reducible refine And.intro ?_ ?_);focus exact an0)
    refine endO ?_
    refine seqM ?_
    refine sq ctNo_ok ?_
    simp only [go_sem,(by decide:bEq (6) (0)=false)]
    refine condM rfl trivial (fun hc=>?_) (fun hc=>?_)
    rotate_left
    ·cases hc
    refine sq ctNo_ok ?_
    simp only [go_sem,Nat.reduceAdd]
    repeat ((with_reducible refine And.intro ?_ ?_);focus exact an6)
    refine rg ctNo_ok ?_
    simp only [go_sem,Nat.reduceLT,Nat.reduceAdd]
    obtain rfl:=Option.some.inj H
    refine ⟨[0,1,2],?_,?_,[],?_,?_,rfl⟩
    ·simp only [go_sem]
     try exact at0
    ·simp only [go_sem]
     try exact at0
    ·simp only [go_sem]
     exact Cv_tup (CvL_cons (Cv_agg (CvL_cons Cv_int (CvL_cons Cv_int (CvL_cons (Cv_ronil (α:=TSleeper)) (CvL_cons (Cv_ronil (α:=TStored)) CvL_nil))))) (CvL_cons Cv_int CvL_nil))
    ·simp only [go_sem,CvH]
   have hk7:(r5.2)=true:=by simpa using hc
   replace H:=cond_f hc H
   refine rg ctNo_ok ?_
   simp only [go_sem]
   refine seqM ?_
   obtain ⟨r8,e9,H⟩:=bsi H
   refine rg ct50t2_ok ?_
   simp only [go_sem,Nat.reduceLT,Nat.reduceAdd,ct50t2_65,body65,e9]
   repeat ((with_reducible refine And.intro ?_ ?_);focus exact an0)
   refine seqM ?_
   obtain ⟨f10,H⟩:=need_some.1 H
   replace f10:=inb_iff.1 f10
   refine draw_quiet shT_ok ctNo_ok (by kernel_rfl) (by kernel_rfl) ?_
   simp only [go_sem,Nat.reduceLeDiff,Nat.reduceLT,Nat.reduceAdd,f10]
   repeat ((with_reducible refine And.intro ?_ ?_);focus exact an6)
   refine rg ctNo_ok ?_
   simp only [go_sem]
   refine cutO shT_ok ctNo_ok 7 ?_
   simp only [kO_normal,List.take_succ_cons,List.take_zero,List.drop_succ_cons,List.drop_zero,go_sem,Nat.reduceLT,Nat.reduceAdd]
   repeat ((with_reducible refine And.intro ?_ ?_);focus exact an0)
   refine endO ?_
   refine seqM ?_
   refine sq ctNo_ok ?_
   simp only [go_sem,(by decide:bEq (0) (0)=true)]
   refine condM rfl trivial (fun hc=>?_) (fun hc=>?_)
   ·cases hc
   refine rg ctNo_ok ?_
   simp only [go_sem]
   refine sq ctNo_ok ?_
   simp only [go_sem,Nat.reduceLeDiff,Nat.reduceAdd]
   repeat ((with_reducible refine And.intro ?_ ?_);focus exact an6)
   refine sq ctNo_ok ?_
   simp only [go_sem,Nat.reduceLT,Nat.reduceAdd]
   repeat ((with_reducible refine And.intro ?_ ?_);focus exact an6)
   refine rg ctNo_ok ?_
   simp only [go_sem,Nat.reduceLT,Nat.reduceAdd]
   obtain rfl:=Option.some.inj H
   refine ⟨[3,4,0,1,2],?_,?_,[],?_,?_,rfl⟩
   ·simp only [go_sem,Nat.reduceBEq]
    try exact at0
   ·simp only [go_sem,Nat.reduceBEq]
    try exact at0
   ·simp only [go_sem,Nat.reduceBEq]
    exact Cv_tup (CvL_cons (Cv_agg (CvL_cons Cv_int (CvL_cons Cv_int (CvL_cons (ro_row (by first|rfl|simp) (upc_row (f:=c_TSleeper) r8.List r5.1.toNat 1 (TSleeper.mk ((gd r8.List r5.1.toNat).Aid) true ((gd r8.List r5.1.toNat).Held)) (fun _ _ _ _=>rfl) (fun y hy=>match y,hy with|0,_=>rfl|1,_=>rfl|2,_=>rfl|(y+3),h=>absurd h (by omega)))) (CvL_cons (ro_row (by first|rfl|simp) (fun _ _ _ _=>rfl)) CvL_nil))))) (CvL_cons Cv_int CvL_nil))
   ·simp only [go_sem,CvH]
  ·cases hb
 ·unfold body50 at hb
  split at hb<;>cases hb
noncomputable def ct39t0:Ct:=tab [(12,genC body12)]
theorem ct39t0_ok:CtOk Try.prog ct39t0:=tab_cons ok12 <| tab_nil
theorem ct39t0_12 (l:List AV) (h:List ABlk):ct39t0 12 l h=genC body12 l h:=rfl
noncomputable def ct39t1:Ct:=tab [(40,genC body40)]
theorem ct39t1_ok:CtOk Try.prog ct39t1:=tab_cons ok40 <| tab_nil
theorem ct39t1_40 (l:List AV) (h:List ABlk):ct39t1 40 l h=genC body40 l h:=rfl
noncomputable def ct39t2:Ct:=tab [(50,genC body50)]
theorem ct39t2_ok:CtOk Try.prog ct39t2:=tab_cons ok50 <| tab_nil
theorem ct39t2_50 (l:List AV) (h:List ABlk):ct39t2 50 l h=genC body50 l h:=rfl
noncomputable def F39 (p0:Int) (p1:Int):Option (TBuffer × Bool) :=
 (F12 p0 p1).bind fun r1=>(F40 r1.1 2).bind fun r3=>(F40 r3.1 1).bind fun r5=>(F50 r5.1 1).bind fun r7=>need (bif (((((bEq r1.2 0) && (bEq r3.2 0)) && (bEq r5.2 0)) && (bEq r7.2 0)) && (bEq (r7.1.List.length:Nat) 2)) then inb 0 r7.1.List.length else true) <| some (r7.1,((((((bEq r1.2 0) && (bEq r3.2 0)) && (bEq r5.2 0)) && (bEq r7.2 0)) && (bEq (r7.1.List.length:Nat) 2)) && (bEq ((gd r7.1.List 0).Aid) 1)))
noncomputable def body39:List AV->Nat->AR
 | [v0,v1],_=>.pure (iK .i64 v0/\iK .i64 v1/\(F39 (iA v0) (iA v1)).isSome=true) (.tup [.agg [.int .i64 (((gt (F39 (iA v0) (iA v1))).1).Limit),.int .i64 (((gt (F39 (iA v0) (iA v1))).1).Stay),.ro 3 ((((gt (F39 (iA v0) (iA v1))).1).List).length) false (enR c_TSleeper (((gt (F39 (iA v0) (iA v1))).1).List)),.ro 43 ((((gt (F39 (iA v0) (iA v1))).1).Group).length) false (enR c_TStored (((gt (F39 (iA v0) (iA v1))).1).Group))],.bool ((gt (F39 (iA v0) (iA v1))).2)])
 | _,_=>.fail
theorem ok39:FnOk Try.prog 39 (genC body39):=by
 refine gen_fn body39 (rs:=[.cell 4 25,.tmp 5]) Try.func39 (by kernel_rfl) rfl rfl ?_
 intro l s ob v ns hb hob
 rcases hb with ⟨hb,rfl⟩|hb
 ·unfold body39 at hb
  split at hb
  ·rename_i v0 v1
   injection hb with q1 q2;subst q1 q2
   obtain ⟨hk0_0,hk1_0,hob⟩:=hob
   obtain ⟨r,H⟩:=Option.isSome_iff_exists.1 hob
   rw [H,gt_some]
   have hw0:=iK_wk hk0_0
   have hw1:=iK_wk hk1_0
   generalize iA v0=p0 at H hw0
   generalize iA v1=p1 at H hw1
   refine ⟨[.int .i64 p0,.int .i64 p1],.tup [.agg [.int .i64 r.1.Limit,.int .i64 r.1.Stay,.ro 3 r.1.List.length false (enR c_TSleeper r.1.List),.ro 43 r.1.Group.length false (enR c_TStored r.1.Group)],.bool r.2],[],(fun E vs F=>FR_wk1 hw0.1 F (fun vs F=>FR_wk1 hw1.1 F (fun vs F=>F))),by simp only [ren,renL],trivial,?_⟩
   rw [Try.ntmps39]
   simp only [List.length_cons,List.length_nil,Nat.reduceAdd,Nat.reduceSub,List.replicate_succ,List.replicate_zero,List.cons_append,List.nil_append]
   unfold F39 at H
   try dsimp only at H
   refine sq ctNo_ok ?_
   simp only [go_sem]
   refine seqM ?_
   obtain ⟨r1,e2,H⟩:=bsi H
   refine rg ct39t0_ok ?_
   simp only [go_sem,Nat.reduceLT,Nat.reduceAdd,ct39t0_12,body12,e2]
   repeat ((with_reducible refine And.intro ?_ ?_);focus exact an0)
   refine seqM ?_
   obtain ⟨r3,e4,H⟩:=bsi H
   refine rg ct39t1_ok ?_
   simp only [go_sem,Nat.reduceLT,Nat.reduceAdd,ct39t1_40,body40,e4]
   repeat ((with_reducible refine And.intro ?_ ?_);focus exact an0)
   refine seqM ?_
   obtain ⟨r5,e6,H⟩:=bsi H
   refine rg ct39t1_ok ?_
   simp only [go_sem,Nat.reduceLT,Nat.reduceAdd,ct39t1_40,body40,e6]
   repeat ((with_reducible refine And.intro ?_ ?_);focus exact an0)
   refine seqM ?_
   obtain ⟨r7,e8,H⟩:=bsi H
   refine rg ct39t2_ok ?_
   simp only [go_sem,Nat.reduceLT,Nat.reduceAdd,ct39t2_50,body50,e8]
   repeat ((with_reducible refine And.intro ?_ ?_);focus exact an0)
   refine seqM ?_
   obtain ⟨f9,H⟩:=need_some.1 H
   replace f9:=g_iff.1 f9
   replace f9:=fun g=>inb_iff.1 (f9 g)
   refine draw_rule shT_ok ctNo_ok 0 (by kernel_rfl) (by kernel_rfl) ?_
   intro an han
   simp only [d_nil,d_cons,nxtD,xrD,xoD,roEq,minL,List.append_nil,refsOp,refs,refsL,mask,maskF,place,placeF,okLog,pairOk,hit,inL,slotsF,nrH,nrB,nrL,nr,List.replicate_zero,Nat.sub_self,Nat.add_zero,Nat.zero_add,Nat.reduceSub,Nat.lt_add_one,go_sem,Nat.reduceLeDiff,Nat.reduceLT,Nat.reduceAdd,Nat.reduceSub,Nat.reduceBEq]
   repeat ((with_reducible refine And.intro ?_ ?_);focus (and_intros<;>first|(with_reducible trivial)|(show anB _ _ _=true;subst han;kernel_rfl)|(show (anB _ _ _ && _)=true;subst han;kernel_rfl)|omega|exact f9|(intro g;have q:=f9 (by first|exact g|(rw [g];rfl)|simpa using g);first|exact q|exact ⟨q.1,q.2.1⟩|exact q.2.2|omega|exact ⟨g,q⟩|exact ⟨trivial,q⟩|exact ⟨g,q.1,q.2.1⟩|exact ⟨g,q.2.2⟩)|assumption|exact nrc|exact nfc|first|exact rfl|exact trivial|exact fitI|exact .inr rfl|exact .inl rfl|exact fun x hx=>absurd hx (by omega)))
   refine rg ctNo_ok ?_
   simp only [go_sem,Nat.reduceLT,Nat.reduceAdd]
   obtain rfl:=Option.some.inj H
   refine ⟨[0,1],?_,?_,[],?_,?_,rfl⟩
   ·simp only [go_sem]
    try exact at0
   ·simp only [go_sem]
    try exact at0
   ·simp only [go_sem]
    exact Cv_tup (CvL_cons (Cv_agg (CvL_cons Cv_int (CvL_cons Cv_int (CvL_cons (Cv_nf (by simp only [nref])) (CvL_cons (Cv_nf (by simp only [nref])) CvL_nil))))) (CvL_cons Cv_bool CvL_nil))
   ·simp only [go_sem,CvH]
  ·cases hb
 ·unfold body39 at hb
  split at hb<;>cases hb
noncomputable def F53_L1 (p0:List TStored) (v1_1:List TFrame) (v1_2:Int):Option (Lp ((List TFrame) × Int) ((List TFrame) ⊕ (List TFrame))) :=
 bif (bLt v1_2 (p0.length:Nat)) then (need (inb v1_2 p0.length) <| need (capb 104 (v1_1.length+1)) <| some (.next ((v1_1 ++ [(eF ((gd p0 v1_2.toNat).Frame))]),wr .i64 (v1_2+1)))) else (some (.done (.inl v1_1)))
noncomputable def F53 (p0:List TStored):Option (List TFrame) :=
 lp (loopD (fun s=>F53_L1 p0 s.1 s.2) ([],0)) (fun w1_3=>some w1_3) some
noncomputable def body53:List AV->Nat->AR
 | [v0],s=>.heap (lK k_TStored 43 v0/\(F53 (lA g_TStored v0)).isSome=true) (.sl s 41 0 ((gt (F53 (lA g_TStored v0))).length) false) [.row 33 41 ((gt (F53 (lA g_TStored v0))).length) (enR c_TFrame (gt (F53 (lA g_TStored v0))))]
 | _,_=>.fail
theorem ok53:FnOk Try.prog 53 (genC body53):=by
 refine gen_fn body53 (rs:=[.tmp 2]) Try.func53 (by kernel_rfl) rfl rfl ?_
 intro l s ob v ns hb hob
 rcases hb with ⟨hb,rfl⟩|hb
 ·unfold body53 at hb
  split at hb<;>cases hb
 ·unfold body53 at hb
  split at hb
  ·rename_i v0
   injection hb with q1 q2 q3;subst q1 q2 q3
   obtain ⟨hk0_0,hob⟩:=hob
   obtain ⟨r,H⟩:=Option.isSome_iff_exists.1 hob
   rw [H,gt_some]
   have hw0:=lK_wk (fun r h=>w_TStored h) hk0_0
   generalize lA g_TStored v0=p0 at H hw0
   refine ⟨[.ro 43 p0.length false (enR c_TStored p0)],.sl 0 41 0 r.length false,[.row 33 41 r.length (enR c_TFrame r)],(fun E vs F=>FR_wk1 hw0.1 F (fun vs F=>F)),by simp only [ren,rnN_0],⟨RenB_row nr_TFrame,trivial⟩,?_⟩
   rw [Try.ntmps53]
   simp only [List.length_cons,List.length_nil,Nat.reduceAdd,Nat.reduceSub,List.replicate_succ,List.replicate_zero,List.cons_append,List.nil_append]
   unfold F53 at H
   try dsimp only at H
   refine sq ctNo_ok ?_
   simp only [go_sem]
   refine seqM ?_
   refine sq ctNo_ok ?_
   simp only [go_sem]
   repeat ((with_reducible refine And.intro ?_ ?_);focus exact an0)
   refine blkM ?_
   refine loop_den (fun s:(List TFrame) × Int=>(.top::.top::.sl 0 41 0 s.1.length false::.top::.top::.ro 43 p0.length false (enR c_TStored p0)::.int .i64 (p0.length:Nat)::.int .i64 s.2::tp 10 [])) (fun s=>[.row 33 41 s.1.length (enR c_TFrame s.1)]) (fun e:List TFrame=>(.top::.top::.sl 0 41 0 e.length false::tp 15 [])) (fun e=>[.row 33 41 e.length (enR c_TFrame e)]) H ?_ (fun s o H hn1_1 hn2_1=>?_) (fun w1_3 H=>?_)
   ·refine SubF_of ⟨[none],?_,?_,by rfl,by rfl⟩
    ·simp [CvL,Cv,tp,tp]
    ·exact ⟨CvB_none,trivial⟩
   ·obtain ⟨v1_1,v1_2⟩:=s
    unfold F53_L1 at H
    delta eF at H
    try dsimp only at H ⊢
    try simp only [tp]
    refine sq ctNo_ok ?_
    simp only [go_sem]
    refine seqM ?_
    refine condM' rfl trivial (fun hc=>?_) (fun hc=>?_)
    ·have hk1:(bLt v1_2 (p0.length:Nat))=false:=by simpa using hc
     replace H:=cond_f hc H
     refine rg ctNo_ok ?_
     simp only [go_sem]
     refine ⟨_,(Option.some.inj H).symm,?_⟩
     refine SubF_of ⟨[some 0],?_,?_,by rfl,by rfl⟩
     ·simp [CvL,Cv,getM]
     ·exact ⟨CvB_row nr_TFrame cl (fun _ _ _ _=>rfl),trivial⟩
    have hk1:(bLt v1_2 (p0.length:Nat))=true:=by simpa using hc
    replace H:=cond_t hc H
    refine rg ctNo_ok ?_
    simp only [go_sem]
    refine seqM ?_
    refine blkM ?_
    refine seqM ?_
    obtain ⟨f2,H⟩:=need_some.1 H
    replace f2:=inb_iff.1 f2
    refine rg ctNo_ok ?_
    simp only [go_sem,Nat.reduceLT,Nat.reduceAdd,f2]
    repeat ((with_reducible refine And.intro ?_ ?_);focus exact an6)
    obtain ⟨f3,H⟩:=need_some.1 H
    replace f3:=capb_iff.1 f3
    refine rg ctNo_ok ?_
    simp only [go_sem,Nat.reduceLeDiff,Nat.reduceLT,Nat.reduceAdd,Nat.reduceBEq,reduceCtorEq,f3]
    repeat ((with_reducible refine And.intro ?_ ?_);focus exact an1)
    refine rg ctNo_ok ?_
    simp only [go_sem]
    refine ⟨_,(Option.some.inj H).symm,?_⟩
    refine SubF_of ⟨[some 3],?_,?_,by rfl,by rfl⟩
    ·simp [CvL,Cv,getM]
    ·exact ⟨CvB_row nr_TFrame cl (app_row (f:=c_TFrame) v1_1 [(eF ((gd p0 v1_2.toNat).Frame))] (fun _ _ _ _=>rfl) (lit_row (f:=c_TFrame) [(eF ((gd p0 v1_2.toNat).Frame))] (fun _ _=>rfl) rfl)),trivial⟩
   ·try dsimp only at H ⊢
    try simp only [tp]
    try simp only [m_normal]
    refine sq ctNo_ok ?_
    simp only [go_sem]
    refine rg ctNo_ok ?_
    simp only [go_sem]
    obtain rfl:=Option.some.inj H
    refine ⟨[],?_,?_,[some 0],?_,?_,by rfl⟩
    ·simp only [go_sem]
    ·simp only [go_sem]
    ·simp [fzV,inL,Cv,getM]
     all_goals first|exact cl
    ·simp only [go_sem,CvH]
     exact CvB_row nr_TFrame cl (fun _ _ _ _=>rfl)
  ·cases hb
noncomputable def F52_0_L1 (p0:List TFrame) (v1_1:List TFrame) (v1_2:Int):Option (Lp ((List TFrame) × Int) ((List TFrame) ⊕ (List TFrame))) :=
 bif (bLt v1_2 (p0.length:Nat)) then (need (inb v1_2 v1_1.length) <| some (.next ((v1_1.set v1_2.toNat (TFrame.mk (THeader.mk (((gd v1_1 v1_2.toNat).Head).Kind) (((gd v1_1 v1_2.toNat).Head).Sub) (((gd v1_1 v1_2.toNat).Head).ToDs) (((gd v1_1 v1_2.toNat).Head).FromDs) (((gd v1_1 v1_2.toNat).Head).More) (((gd v1_1 v1_2.toNat).Head).Retry) (((gd v1_1 v1_2.toNat).Head).Sleep) (bLt (wr .i64 (v1_2+1)) (v1_1.length:Nat)) (((gd v1_1 v1_2.toNat).Head).Protected) (((gd v1_1 v1_2.toNat).Head).Duration) (A6u8.mk ((((gd v1_1 v1_2.toNat).Head).A1).x0) ((((gd v1_1 v1_2.toNat).Head).A1).x1) ((((gd v1_1 v1_2.toNat).Head).A1).x2) ((((gd v1_1 v1_2.toNat).Head).A1).x3) ((((gd v1_1 v1_2.toNat).Head).A1).x4) ((((gd v1_1 v1_2.toNat).Head).A1).x5)) (A6u8.mk ((((gd v1_1 v1_2.toNat).Head).A2).x0) ((((gd v1_1 v1_2.toNat).Head).A2).x1) ((((gd v1_1 v1_2.toNat).Head).A2).x2) ((((gd v1_1 v1_2.toNat).Head).A2).x3) ((((gd v1_1 v1_2.toNat).Head).A2).x4) ((((gd v1_1 v1_2.toNat).Head).A2).x5)) (A6u8.mk ((((gd v1_1 v1_2.toNat).Head).A3).x0) ((((gd v1_1 v1_2.toNat).Head).A3).x1) ((((gd v1_1 v1_2.toNat).Head).A3).x2) ((((gd v1_1 v1_2.toNat).Head).A3).x3) ((((gd v1_1 v1_2.toNat).Head).A3).x4) ((((gd v1_1 v1_2.toNat).Head).A3).x5)) (A6u8.mk ((((gd v1_1 v1_2.toNat).Head).A4).x0) ((((gd v1_1 v1_2.toNat).Head).A4).x1) ((((gd v1_1 v1_2.toNat).Head).A4).x2) ((((gd v1_1 v1_2.toNat).Head).A4).x3) ((((gd v1_1 v1_2.toNat).Head).A4).x4) ((((gd v1_1 v1_2.toNat).Head).A4).x5)) (((gd v1_1 v1_2.toNat).Head).Seq) (((gd v1_1 v1_2.toNat).Head).Frag) (((gd v1_1 v1_2.toNat).Head).Tid) (((gd v1_1 v1_2.toNat).Head).Ack) (((gd v1_1 v1_2.toNat).Head).Amsdu) (((gd v1_1 v1_2.toNat).Head).Eosp)) ((gd v1_1 v1_2.toNat).Body))),wr .i64 (v1_2+1)))) else (some (.done (.inl v1_1)))
noncomputable def F52_0 (p0:List TFrame):Option (List TFrame) :=
 lp (loopD (fun s=>F52_0_L1 p0 s.1 s.2) (p0,0)) (fun w1_3=>some w1_3) some
noncomputable def body52_0:List AV->List ABlk->ED
 | [v0],h=>.ed [slN v0] (oS 33 41 h v0/\lK k_TFrame 41 (roW h v0)/\(F52_0 (lA g_TFrame (roW h v0))).isSome=true) (.sl 1 41 0 ((gt (F52_0 (lA g_TFrame (roW h v0)))).length) false) [.dead,.row 33 41 ((gt (F52_0 (lA g_TFrame (roW h v0)))).length) (enR c_TFrame (gt (F52_0 (lA g_TFrame (roW h v0)))))]
 | _,_=>.fail
theorem ok52_0:FnOk Try.prog 52 (edC body52_0):=by
 refine edit_fnM body52_0 (rs:=[.tmp 2]) Try.func52 (by kernel_rfl) rfl rfl ?_
 intro l h bs ob q0 g0 hb hob
 unfold body52_0 at hb
 split at hb
 ·rename_i v0
  injection hb with q1 q2 q3 q4;subst q1 q2 q3 q4
  obtain ⟨hk0_0,hk0_1,hob⟩:=hob
  obtain ⟨r,H⟩:=Option.isSome_iff_exists.1 hob
  rw [H,gt_some]
  obtain ⟨p0,hp0⟩:∃ p0,p0=lA g_TFrame (roW h v0):=⟨_,rfl⟩
  rw [← hp0] at H
  obtain ⟨ev0,eb0⟩:=own_row2 (f:=c_TFrame) (g:=g_TFrame) (bs:=[slN v0]) (i:=0) (fun hr=>w_TFrame hr) hk0_0 hk0_1 (L:=p0) (by rw [hp0]) rfl
  refine ⟨[.sl 0 41 0 p0.length false],[.row 33 41 p0.length (enR c_TFrame p0)],rfl,⟨ev0,trivial⟩,⟨eb0,trivial⟩,⟨trivial,⟨(nfB_en nr_TFrame),trivial⟩⟩,?_⟩
  rw [Try.ntmps52]
  simp only [List.length_cons,List.length_nil,Nat.reduceAdd,Nat.reduceSub,List.replicate_succ,List.replicate_zero,List.cons_append,List.nil_append]
  unfold F52_0 at H
  try dsimp only at H
  refine sq ctNo_ok ?_
  simp only [go_sem]
  refine seqM ?_
  refine sq ctNo_ok ?_
  simp only [go_sem]
  repeat ((with_reducible refine And.intro ?_ ?_);focus exact an0)
  refine blkM ?_
  refine loop_den (fun s:(List TFrame) × Int=>(.sl 1 41 0 s.1.length false::tp 4 (.int .i64 (p0.length:Nat)::.int .i64 s.2::tp 14 []))) (fun s=>[.dead,.row 33 41 s.1.length (enR c_TFrame s.1)]) (fun e:List TFrame=>(.sl 1 41 0 e.length false::tp 20 [])) (fun e=>[.dead,.row 33 41 e.length (enR c_TFrame e)]) H ?_ (fun s o H hn1_1 hn2_1=>?_) (fun w1_3 H=>?_)
  ·refine SubF_of ⟨[some 0,some 0],?_,?_,by rfl,by rfl⟩
   ·simp [CvL,Cv,getM,tp,tp]
   ·exact ⟨CvB_dead,CvB_row nr_TFrame cl (fun _ _ _ _=>rfl),trivial⟩
  ·obtain ⟨v1_1,v1_2⟩:=s
   unfold F52_0_L1 at H
   try dsimp only at H ⊢
   try simp only [tp]
   refine sq ctNo_ok ?_
   simp only [go_sem]
   refine seqM ?_
   refine condM' rfl trivial (fun hc=>?_) (fun hc=>?_)
   ·have hk1:(bLt v1_2 (p0.length:Nat))=false:=by simpa using hc
    replace H:=cond_f hc H
    refine rg ctNo_ok ?_
    simp only [go_sem]
    refine ⟨_,(Option.some.inj H).symm,?_⟩
    refine SubF_of ⟨[some 0,some 1],?_,?_,by rfl,by rfl⟩
    ·simp [CvL,Cv,getM]
    ·exact ⟨CvB_dead,CvB_row nr_TFrame cl (fun _ _ _ _=>rfl),trivial⟩
   have hk1:(bLt v1_2 (p0.length:Nat))=true:=by simpa using hc
   replace H:=cond_t hc H
   refine rg ctNo_ok ?_
   simp only [go_sem]
   refine seqM ?_
   refine blkM ?_
   refine sq ctNo_ok ?_
   simp only [go_sem]
   obtain ⟨f2,H⟩:=need_some.1 H
   replace f2:=inb_iff.1 f2
   refine rg ctNo_ok ?_
   simp only [go_sem,Nat.reduceLeDiff,Nat.reduceAdd,reduceCtorEq,f2]
   repeat ((with_reducible refine And.intro ?_ ?_);focus exact an0)
   refine rg ctNo_ok ?_
   simp only [go_sem]
   refine ⟨_,(Option.some.inj H).symm,?_⟩
   refine SubF_of ⟨[some 0,some 1],?_,?_,by rfl,by rfl⟩
   ·simp [CvL,Cv,getM]
   ·exact ⟨CvB_dead,CvB_row nr_TFrame cl (upc_row (f:=c_TFrame) v1_1 v1_2.toNat 7 (TFrame.mk (THeader.mk (((gd v1_1 v1_2.toNat).Head).Kind) (((gd v1_1 v1_2.toNat).Head).Sub) (((gd v1_1 v1_2.toNat).Head).ToDs) (((gd v1_1 v1_2.toNat).Head).FromDs) (((gd v1_1 v1_2.toNat).Head).More) (((gd v1_1 v1_2.toNat).Head).Retry) (((gd v1_1 v1_2.toNat).Head).Sleep) (bLt (wr .i64 (v1_2+1)) (v1_1.length:Nat)) (((gd v1_1 v1_2.toNat).Head).Protected) (((gd v1_1 v1_2.toNat).Head).Duration) (A6u8.mk ((((gd v1_1 v1_2.toNat).Head).A1).x0) ((((gd v1_1 v1_2.toNat).Head).A1).x1) ((((gd v1_1 v1_2.toNat).Head).A1).x2) ((((gd v1_1 v1_2.toNat).Head).A1).x3) ((((gd v1_1 v1_2.toNat).Head).A1).x4) ((((gd v1_1 v1_2.toNat).Head).A1).x5)) (A6u8.mk ((((gd v1_1 v1_2.toNat).Head).A2).x0) ((((gd v1_1 v1_2.toNat).Head).A2).x1) ((((gd v1_1 v1_2.toNat).Head).A2).x2) ((((gd v1_1 v1_2.toNat).Head).A2).x3) ((((gd v1_1 v1_2.toNat).Head).A2).x4) ((((gd v1_1 v1_2.toNat).Head).A2).x5)) (A6u8.mk ((((gd v1_1 v1_2.toNat).Head).A3).x0) ((((gd v1_1 v1_2.toNat).Head).A3).x1) ((((gd v1_1 v1_2.toNat).Head).A3).x2) ((((gd v1_1 v1_2.toNat).Head).A3).x3) ((((gd v1_1 v1_2.toNat).Head).A3).x4) ((((gd v1_1 v1_2.toNat).Head).A3).x5)) (A6u8.mk ((((gd v1_1 v1_2.toNat).Head).A4).x0) ((((gd v1_1 v1_2.toNat).Head).A4).x1) ((((gd v1_1 v1_2.toNat).Head).A4).x2) ((((gd v1_1 v1_2.toNat).Head).A4).x3) ((((gd v1_1 v1_2.toNat).Head).A4).x4) ((((gd v1_1 v1_2.toNat).Head).A4).x5)) (((gd v1_1 v1_2.toNat).Head).Seq) (((gd v1_1 v1_2.toNat).Head).Frag) (((gd v1_1 v1_2.toNat).Head).Tid) (((gd v1_1 v1_2.toNat).Head).Ack) (((gd v1_1 v1_2.toNat).Head).Amsdu) (((gd v1_1 v1_2.toNat).Head).Eosp)) ((gd v1_1 v1_2.toNat).Body)) (fun _ _ _ _=>rfl) (fun y hy=>match y,hy with|0,_=>rfl|1,_=>rfl|2,_=>rfl|3,_=>rfl|4,_=>rfl|5,_=>rfl|6,_=>rfl|7,_=>rfl|8,_=>rfl|9,_=>rfl|10,_=>rfl|11,_=>rfl|12,_=>rfl|13,_=>rfl|14,_=>rfl|15,_=>rfl|16,_=>rfl|17,_=>rfl|18,_=>rfl|19,_=>rfl|20,_=>rfl|21,_=>rfl|22,_=>rfl|23,_=>rfl|24,_=>rfl|25,_=>rfl|26,_=>rfl|27,_=>rfl|28,_=>rfl|29,_=>rfl|30,_=>rfl|31,_=>rfl|32,_=>rfl|33,_=>rfl|34,_=>rfl|35,_=>rfl|36,_=>rfl|37,_=>rfl|38,_=>rfl|39,_=>rfl|40,_=>rfl|(y+41),h=>absurd h (by omega))),trivial⟩
  ·try dsimp only at H ⊢
   try simp only [tp]
   try simp only [m_normal]
   refine sq ctNo_ok ?_
   simp only [go_sem]
   refine rg ctNo_ok ?_
   simp only [go_sem]
   obtain rfl:=Option.some.inj H
   refine RetE_mk [] [some 0,some 1] ?_ ?_ ?_ ?_ (by rfl) (by rfl)
   ·simp only [go_sem]
    try exact at0
   ·simp only [go_sem]
    try exact at0
   ·simp only [go_sem]
    exact (by first|(simp [Cv,getM];done)|(simp [Cv,CvL,getM,gt_some];omega))
   ·simp only [go_sem,CvH]
    first|exact ⟨CvB_dead,CvB_row nr_TFrame cl (fun _ _ _ _=>rfl)⟩|trivial
 ·cases hb
noncomputable def F52_1:Option (List TFrame) :=
 some []
noncomputable def body52_1:List AV->Nat->AR
 | [.ro 0 0 true _],s=>.heap ((F52_1).isSome=true) (.sl s 41 0 ((gt F52_1).length) false) [.row 33 41 ((gt F52_1).length) (enR c_TFrame (gt F52_1))]
 | _,_=>.fail
theorem ok52_1:FnOk Try.prog 52 (genC body52_1):=by
 refine gen_fn body52_1 (rs:=[.tmp 2]) Try.func52 (by kernel_rfl) rfl rfl ?_
 intro l s ob v ns hb hob
 rcases hb with ⟨hb,rfl⟩|hb
 ·unfold body52_1 at hb
  split at hb<;>cases hb
 ·unfold body52_1 at hb
  split at hb
  ·injection hb with q1 q2 q3;subst q1 q2 q3
   obtain ⟨r,H⟩:=Option.isSome_iff_exists.1 hob
   rw [H,gt_some]
   refine ⟨[.ro 0 0 true (fun _ _=>.top)],.sl 0 41 0 r.length false,[.row 33 41 r.length (enR c_TFrame r)],(fun E vs F=>FR_wk1 (fun _ _ h=>ro_nil h) F (fun vs F=>F)),by simp only [ren,rnN_0],⟨RenB_row nr_TFrame,trivial⟩,?_⟩
   rw [Try.ntmps52]
   simp only [List.length_cons,List.length_nil,Nat.reduceAdd,Nat.reduceSub,List.replicate_succ,List.replicate_zero,List.cons_append,List.nil_append]
   unfold F52_1 at H
   try dsimp only at H
   refine sq ctNo_ok ?_
   simp only [go_sem]
   refine seqM ?_
   refine sq ctNo_ok ?_
   simp only [go_sem]
   repeat ((with_reducible refine And.intro ?_ ?_);focus exact an0)
   refine blkM ?_
   refine loop_roundsM 1 ?_
   refine rndM ?_
   refine sq ctNo_ok ?_
   simp only [go_sem,(by decide:bLt (0) (0)=false)]
   refine seqM ?_
   refine condM rfl trivial (fun hc=>?_) (fun hc=>?_)
   ·cases hc
   refine rg ctNo_ok ?_
   simp only [go_sem]
   refine sq ctNo_ok ?_
   simp only [go_sem]
   refine rg ctNo_ok ?_
   simp only [go_sem]
   obtain rfl:=Option.some.inj H
   refine ⟨[],?_,?_,[none],?_,?_,by rfl⟩
   ·simp only [go_sem]
   ·simp only [go_sem]
   ·simp [fzV,Cv]
   ·simp only [go_sem,CvH]
    exact CvB_none
  ·cases hb
end Go.Proofs.Ytefiemaoacmdkaa
