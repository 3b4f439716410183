/-
  What BufferOnce reaches.
-/
import Derived.Test.YtefiemaoacmdkaaB
namespace Go.Proofs.Ytefiemaoacmdkaa
open Go.Am
set_option maxHeartbeats 4000000
set_option maxRecDepth 20000
set_option linter.unusedVariables false
set_option linter.unusedSimpArgs false
attribute [go_sem] w_skip w_label w_goto w_scope k_goto b_goto l_goto s_normal s_exit s_ret s_goto w_region w_draw w_seq w_cond w_block w_exit w_ret w_loop k_normal k_exit k_ret b_normal b_exit b_ret l_normal l_exit l_ret xS m_exit m_ret m_goto kL_normal kL_exit kL_ret kJ_normal kJ_exit kJ_ret kS_normal kS_exit kS_ret kS_goto r_normal r_ret o_nil o_cons q_nil q_cons nxt gval gvd gvl gvw dstOf evO uB ogC og ogL ogP ogO rho rhoO strip optOk zL setL vH absC absV absL pO hO gN ldB geth seth evStore stRes stB evBox evAlloc tH dF wQ fS binI binB binNR binU nilR_isEmpty nilR_t nilR_0 nilR_s evInt evStr evUn evConv cvO cM mrg bT evNil cL kN eI evLen2 vcells vcOk atom tabF cnd retK resFin resL resA resC resCons fD gL fU jK fillA dG putL getP nxtQ pureC_eq pureR genC_eq genR roV roL vB jH roW roWL roWOb roWObL nref nrefL binA binN dW eqRes jP evIndex2 evIndexS evSlice evSlice2 eJ xB evConv2 cvS uU fK qK evMake qU repL evFn evMin evMax freshC freshR eV kU gM qH tO lenS cutS Bool.or_false Bool.false_or Bool.or_true Bool.true_or Bool.and_false Bool.false_and Option.map_some Option.map_none Option.getD_some Option.getD_none Option.bind_some Option.bind_none Option.or_some Option.or_none Option.none_or Option.isSome_none Option.isNone_none Option.isNone_some aN aC List.append_nil cond_true cond_false lC lN beq_self_eq_true Bool.and_true Bool.true_and Bool.not_true Bool.not_false true_and and_true and_self true_implies implies_true ne_eq not_false_eq_true Bool.false_eq_true Bool.true_eq_false false_implies Nat.lt_irrefl Nat.le_refl Nat.succ_ne_self imp_self Bool.cond_false_right Bool.cond_true_left decide_true decide_false Bool.not_eq_true' Bool.not_eq_false' Bool.not_not Nat.zero_mul Nat.zero_add Nat.add_zero Nat.mul_one Nat.one_mul Bool.cond_self tsz3 tby3 tagg3 tslice3 tarr3 tzero3 tzn3 tplaces3 tint3 tstr3 tnoint3 tbool3 tany3 tintk3 tbytes3 tsz4 tby4 tagg4 tslice4 tarr4 tzero4 tzn4 tplaces4 tint4 tstr4 tnoint4 tbool4 tany4 tintk4 tbytes4 tsz5 tby5 tagg5 tslice5 tarr5 tzero5 tzn5 tplaces5 tint5 tstr5 tnoint5 tbool5 tany5 tintk5 tbytes5 tsz9 tby9 tagg9 tslice9 tarr9 tzero9 tzn9 tplaces9 tint9 tstr9 tnoint9 tbool9 tany9 tintk9 tbytes9 tsz22 tby22 tagg22 tslice22 tarr22 tzero22 tzn22 tplaces22 tint22 tstr22 tnoint22 tbool22 tany22 tintk22 tbytes22 tsz23 tby23 tagg23 tslice23 tarr23 tzero23 tzn23 tplaces23 tint23 tstr23 tnoint23 tbool23 tany23 tintk23 tbytes23 tsz25 tby25 tagg25 tslice25 tarr25 tzero25 tzn25 tplaces25 tint25 tstr25 tnoint25 tbool25 tany25 tintk25 tbytes25 tfld25_0 tfld25_1 tfld25_2 tfld25_3 tsz28 tby28 tagg28 tslice28 tarr28 tzero28 tzn28 tplaces28 tint28 tstr28 tnoint28 tbool28 tany28 tintk28 tbytes28 tsz30 tby30 tagg30 tslice30 tarr30 tzero30 tzn30 tplaces30 tint30 tstr30 tnoint30 tbool30 tany30 tintk30 tbytes30 tfld30_0 tfld30_1 tfld30_2 tfld30_3 tfld30_4 tfld30_5 tfld30_6 tfld30_7 tfld30_8 tfld30_9 tfld30_10 tfld30_11 tfld30_12 tfld30_13 tfld30_14 tfld30_15 tfld30_16 tfld30_17 tfld30_18 tfld30_19 tsz31 tby31 tagg31 tslice31 tarr31 tzero31 tzn31 tplaces31 tint31 tstr31 tnoint31 tbool31 tany31 tintk31 tbytes31 tsz33 tby33 tagg33 tslice33 tarr33 tzero33 tzn33 tplaces33 tint33 tstr33 tnoint33 tbool33 tany33 tintk33 tbytes33 tfld33_0 tfld33_1 tsz34 tby34 tagg34 tslice34 tarr34 tzero34 tzn34 tplaces34 tint34 tstr34 tnoint34 tbool34 tany34 tintk34 tbytes34 tsz39 tby39 tagg39 tslice39 tarr39 tzero39 tzn39 tplaces39 tint39 tstr39 tnoint39 tbool39 tany39 tintk39 tbytes39 tsz41 tby41 tagg41 tslice41 tarr41 tzero41 tzn41 tplaces41 tint41 tstr41 tnoint41 tbool41 tany41 tintk41 tbytes41 tfld41_0 tfld41_1 tsz52 tby52 tagg52 tslice52 tarr52 tzero52 tzn52 tplaces52 tint52 tstr52 tnoint52 tbool52 tany52 tintk52 tbytes52 tsz57 tby57 tagg57 tslice57 tarr57 tzero57 tzn57 tplaces57 tint57 tstr57 tnoint57 tbool57 tany57 tintk57 tbytes57 tfld57_0 tfld57_1 tfld57_2 tsz61 tby61 tagg61 tslice61 tarr61 tzero61 tzn61 tplaces61 tint61 tstr61 tnoint61 tbool61 tany61 tintk61 tbytes61 tfld61_0 tfld61_1 tfld61_2 tsz70 tby70 tagg70 tslice70 tarr70 tzero70 tzn70 tplaces70 tint70 tstr70 tnoint70 tbool70 tany70 tintk70 tbytes70 tfld70_0 tfld70_1 tfld70_2 tfld70_3 tfld70_4 tsz81 tby81 tagg81 tslice81 tarr81 tzero81 tzn81 tplaces81 tint81 tstr81 tnoint81 tbool81 tany81 tintk81 tbytes81 tsz82 tby82 tagg82 tslice82 tarr82 tzn82 tplaces82 tint82 tstr82 tnoint82 tbool82 tany82 tintk82 tbytes82 tsz95 tby95 tagg95 tslice95 tarr95 tzero95 tzn95 tplaces95 tint95 tstr95 tnoint95 tbool95 tany95 tintk95 tbytes95 tsz96 tby96 tagg96 tslice96 tarr96 tzero96 tzn96 tplaces96 tint96 tstr96 tnoint96 tbool96 tany96 tintk96 tbytes96 tsz103 tby103 tagg103 tslice103 tarr103 tzero103 tzn103 tplaces103 tint103 tstr103 tnoint103 tbool103 tany103 tintk103 tbytes103 tsz105 tby105 tagg105 tslice105 tarr105 tzero105 tzn105 tplaces105 tint105 tstr105 tnoint105 tbool105 tany105 tintk105 tbytes105 tsz110 tby110 tagg110 tslice110 tarr110 tzero110 tzn110 tplaces110 tint110 tstr110 tnoint110 tbool110 tany110 tintk110 tbytes110 tsz112 tby112 tagg112 tslice112 tarr112 tzero112 tzn112 tplaces112 tint112 tstr112 tnoint112 tbool112 tany112 tintk112 tbytes112 tsz124 tby124 tagg124 tslice124 tarr124 tzero124 tzn124 tplaces124 tint124 tstr124 tnoint124 tbool124 tany124 tintk124 tbytes124 tsz129 tby129 tagg129 tslice129 tarr129 tzero129 tzn129 tplaces129 tint129 tstr129 tnoint129 tbool129 tany129 tintk129 tbytes129 tsz142 tby142 tagg142 tslice142 tarr142 tzero142 tzn142 tplaces142 tint142 tstr142 tnoint142 tbool142 tany142 tintk142 tbytes142 e_u8_0 fit_u8 de_u8 jD k_u8 e_i64_0 fit_i64 de_i64 tT cS e_b_0 fit_b de_b g_b k_b e_s_0 fit_s de_s g_s k_s e_A6u8_0 e_A6u8_1 e_A6u8_2 e_A6u8_3 e_A6u8_4 e_A6u8_5 fit_A6u8 de_A6u8 g_A6u8 k_A6u8 eta_A6u8 e_THeader_0 e_THeader_1 e_THeader_2 e_THeader_3 e_THeader_4 e_THeader_5 e_THeader_6 e_THeader_7 e_THeader_8 e_THeader_9 e_THeader_10 e_THeader_11 e_THeader_12 e_THeader_13 e_THeader_14 e_THeader_15 e_THeader_16 e_THeader_17 e_THeader_18 e_THeader_19 e_THeader_20 e_THeader_21 e_THeader_22 e_THeader_23 e_THeader_24 e_THeader_25 e_THeader_26 e_THeader_27 e_THeader_28 e_THeader_29 e_THeader_30 e_THeader_31 e_THeader_32 e_THeader_33 e_THeader_34 e_THeader_35 e_THeader_36 e_THeader_37 e_THeader_38 e_THeader_39 fit_THeader de_THeader bV eO eta_THeader e_lu8_0 fit_lu8 de_lu8 g_lu8 k_lu8 e_TFrame_0 e_TFrame_1 e_TFrame_2 e_TFrame_3 e_TFrame_4 e_TFrame_5 e_TFrame_6 e_TFrame_7 e_TFrame_8 e_TFrame_9 e_TFrame_10 e_TFrame_11 e_TFrame_12 e_TFrame_13 e_TFrame_14 e_TFrame_15 e_TFrame_16 e_TFrame_17 e_TFrame_18 e_TFrame_19 e_TFrame_20 e_TFrame_21 e_TFrame_22 e_TFrame_23 e_TFrame_24 e_TFrame_25 e_TFrame_26 e_TFrame_27 e_TFrame_28 e_TFrame_29 e_TFrame_30 e_TFrame_31 e_TFrame_32 e_TFrame_33 e_TFrame_34 e_TFrame_35 e_TFrame_36 e_TFrame_37 e_TFrame_38 e_TFrame_39 e_TFrame_40 fit_TFrame de_TFrame zU vT eta_TFrame e_TStored_0 e_TStored_1 e_TStored_2 e_TStored_3 e_TStored_4 e_TStored_5 e_TStored_6 e_TStored_7 e_TStored_8 e_TStored_9 e_TStored_10 e_TStored_11 e_TStored_12 e_TStored_13 e_TStored_14 e_TStored_15 e_TStored_16 e_TStored_17 e_TStored_18 e_TStored_19 e_TStored_20 e_TStored_21 e_TStored_22 e_TStored_23 e_TStored_24 e_TStored_25 e_TStored_26 e_TStored_27 e_TStored_28 e_TStored_29 e_TStored_30 e_TStored_31 e_TStored_32 e_TStored_33 e_TStored_34 e_TStored_35 e_TStored_36 e_TStored_37 e_TStored_38 e_TStored_39 e_TStored_40 e_TStored_41 e_TStored_42 fit_TStored de_TStored yG xW eta_TStored e_lTStored_0 fit_lTStored de_lTStored dI gP e_TSleeper_0 e_TSleeper_1 e_TSleeper_2 fit_TSleeper de_TSleeper yK wG eta_TSleeper e_lTSleeper_0 fit_lTSleeper de_lTSleeper fE jE e_TBuffer_0 e_TBuffer_1 e_TBuffer_2 e_TBuffer_3 fit_TBuffer de_TBuffer zG wC eta_TBuffer e_li64_0 fit_li64 de_li64 g_li64 k_li64 e_TTraffic_0 e_TTraffic_1 fit_TTraffic de_TTraffic dH gO eta_TTraffic e_lTFrame_0 fit_lTFrame de_lTFrame bW eP e_TStep_0 e_TStep_1 e_TStep_2 e_TStep_3 e_TStep_4 e_TStep_5 e_TStep_6 e_TStep_7 e_TStep_8 e_TStep_9 e_TStep_10 e_TStep_11 e_TStep_12 e_TStep_13 e_TStep_14 e_TStep_15 e_TStep_16 e_TStep_17 e_TStep_18 e_TStep_19 e_TStep_20 e_TStep_21 e_TStep_22 e_TStep_23 e_TStep_24 e_TStep_25 e_TStep_26 e_TStep_27 e_TStep_28 e_TStep_29 e_TStep_30 e_TStep_31 e_TStep_32 e_TStep_33 e_TStep_34 e_TStep_35 e_TStep_36 e_TStep_37 e_TStep_38 e_TStep_39 e_TStep_40 e_TStep_41 e_TStep_42 e_TStep_43 e_TStep_44 fit_TStep de_TStep g_TStep kX eta_TStep e_lTStep_0 fit_lTStep de_lTStep g_lTStep cT e_u64_0 fit_u64 de_u64 g_u64 k_u64 deR_0 deR_1 deR_2 deR_3 deR_4 deR_5 deR_6 deR_7 deR_8 deR_9 deR_10 deR_11 deR_12 litC_x0 litC_x1 litC_x2 litC_x3 litC_x4 litC_x5 litC_x6 litC_x7 litC_x8 litC_x9 litC_x10 litC_x11 strE_u8 Fit_0 Option.isSome_some yQ gd_one bS evLookup mapC_nil tabR sub_enR dZ xrD xoD vM wY rK rM rG aL aK iK bK sK lK iA bA sA lA or_true true_or Int.toNat_natCast shT_28 shT_30 Int.toNat_zero Int.cast_ofNat_Int wX kOP_normal kLP_exit pcC_lt yH aLs roD roDOb yP edC edR gT rnm rnmL rnmB bH rnm_bif rnmB_bif bC gJ cA ptB slN litL celL pK isLit oS isRow inL fzV fzL xP uI fzH cO fzB dU qA vW
abbrev eF (x : TFrame) : TFrame := TFrame.mk (THeader.mk x.Head.Kind x.Head.Sub x.Head.ToDs x.Head.FromDs x.Head.More x.Head.Retry x.Head.Sleep x.Head.MoreData x.Head.Protected x.Head.Duration (A6u8.mk x.Head.A1.x0 x.Head.A1.x1 x.Head.A1.x2 x.Head.A1.x3 x.Head.A1.x4 x.Head.A1.x5) (A6u8.mk x.Head.A2.x0 x.Head.A2.x1 x.Head.A2.x2 x.Head.A2.x3 x.Head.A2.x4 x.Head.A2.x5) (A6u8.mk x.Head.A3.x0 x.Head.A3.x1 x.Head.A3.x2 x.Head.A3.x3 x.Head.A3.x4 x.Head.A3.x5) (A6u8.mk x.Head.A4.x0 x.Head.A4.x1 x.Head.A4.x2 x.Head.A4.x3 x.Head.A4.x4 x.Head.A4.x5) x.Head.Seq x.Head.Frag x.Head.Tid x.Head.Ack x.Head.Amsdu x.Head.Eosp) x.Body
theorem an0 {A:Prop} (a:A:=by first|(and_intros<;>first|(with_reducible trivial)|omega|assumption|exact nfc|first|exact rfl|exact trivial|exact qV|exact .inr rfl|exact .inl rfl|exact fun x hx=>absurd hx (by omega))|grind):A:=a
theorem an1 {A:Prop} (a:A:=by first|(and_intros<;>first|(with_reducible trivial)|omega|assumption|exact nfc|first|exact rfl|exact trivial|exact qV|exact .inr rfl|exact .inl rfl|exact fun x hx=>absurd hx (by omega)|(intro x hx;(repeat (first|(and_intros<;>(first|exact rfl|exact trivial|exact qV|exact .inr rfl|exact .inl rfl|exact fun x hx=>absurd hx (by omega)))|(exfalso;omega)|(rcases x with _|x)));done)|(refine Fit_app ?_ ?_<;>first|exact qV|(intro x hx;(repeat (first|(and_intros<;>(first|exact rfl|exact trivial|exact qV|exact .inr rfl|exact .inl rfl|exact fun x hx=>absurd hx (by omega)))|(exfalso;omega)|(rcases x with _|x)));done)|(refine Fit_app ?_ ?_<;>first|exact qV|(intro x hx;(repeat (first|(and_intros<;>(first|exact rfl|exact trivial|exact qV|exact .inr rfl|exact .inl rfl|exact fun x hx=>absurd hx (by omega)))|(exfalso;omega)|(rcases x with _|x)));done))))|grind):A:=a
theorem an2 {A:Prop} (a:A:=by and_intros<;>first|(with_reducible trivial)|(show anB _ _ _=true;subst han;kernel_rfl)|(show (anB _ _ _ && _)=true;subst han;kernel_rfl)|omega|assumption|exact nrc|exact nfc|first|exact rfl|exact trivial|exact qV|exact .inr rfl|exact .inl rfl|exact fun x hx=>absurd hx (by omega)|(intro x hx;(repeat (first|(and_intros<;>(first|exact rfl|exact trivial|exact qV|exact .inr rfl|exact .inl rfl|exact fun x hx=>absurd hx (by omega)))|(exfalso;omega)|(rcases x with _|x)));done)|(refine Fit_app ?_ ?_<;>first|exact qV|(intro x hx;(repeat (first|(and_intros<;>(first|exact rfl|exact trivial|exact qV|exact .inr rfl|exact .inl rfl|exact fun x hx=>absurd hx (by omega)))|(exfalso;omega)|(rcases x with _|x)));done)|(refine Fit_app ?_ ?_<;>first|exact qV|(intro x hx;(repeat (first|(and_intros<;>(first|exact rfl|exact trivial|exact qV|exact .inr rfl|exact .inl rfl|exact fun x hx=>absurd hx (by omega)))|(exfalso;omega)|(rcases x with _|x)));done)))):A:=a
theorem an3 {A:Prop} (a:A:=by first|(and_intros<;>first|(with_reducible trivial)|omega|assumption|exact nfc|first|exact rfl|exact trivial|exact qV|exact .inr rfl|exact .inl rfl|exact fun x hx=>absurd hx (by omega)|(intro x hx;(repeat (first|(and_intros<;>(first|exact rfl|exact trivial|exact qV|exact .inr rfl|exact .inl rfl|exact fun x hx=>absurd hx (by omega)))|(exfalso;omega)|(rcases x with _|x)));done))|grind):A:=a
theorem an4 {A:Prop} (a:A:=by and_intros<;>first|(with_reducible trivial)|(show anB _ _ _=true;subst han;kernel_rfl)|(show (anB _ _ _ && _)=true;subst han;kernel_rfl)|omega|assumption|exact nrc|exact nfc|first|exact rfl|exact trivial|exact qV|exact .inr rfl|exact .inl rfl|exact fun x hx=>absurd hx (by omega)):A:=a
theorem an5 {A:Prop} (a:A:=by first|(with_reducible trivial)|omega|grind):A:=a
theorem an6 {A:Prop} (a:A:=by and_intros<;>first|(with_reducible trivial)|(show anB _ _ _=true;subst han;kernel_rfl)|(show (anB _ _ _ && _)=true;subst han;kernel_rfl)|omega|assumption|exact nrc|exact nfc|first|exact rfl|exact trivial|exact qV|exact .inr rfl|exact .inl rfl|exact fun x hx=>absurd hx (by omega)|(intro x hx;(repeat (first|(and_intros<;>(first|exact rfl|exact trivial|exact qV|exact .inr rfl|exact .inl rfl|exact fun x hx=>absurd hx (by omega)))|(exfalso;omega)|(rcases x with _|x)));done)):A:=a
theorem an7 {A:Prop} (a:A:=by first|(with_reducible trivial)|omega|(intro g;and_intros<;>first|(with_reducible trivial)|assumption|exact nfc|(intro g2;rw [g,g2];rfl)|(intro g2;assumption)|(simp only [g,Bool.true_and,Bool.and_true,Bool.not_false,Bool.not_true];assumption)|grind)|(and_intros<;>first|(with_reducible trivial)|omega|assumption|exact nfc|first|exact rfl|exact trivial|exact qV|exact .inr rfl|exact .inl rfl|exact fun x hx=>absurd hx (by omega))|grind):A:=a
theorem at0 {A:Prop} (a:A:=by and_intros<;>first|(with_reducible trivial)|omega|exact nfc|trivial):A:=a
theorem cv {A:Prop} (a:A:=by simp [CvB,CvL,Cv,xH,geth,zX]):A:=a
theorem cl {A:Prop} (a:A:=by first|rfl|(simp;done)|(simp;omega)):A:=a
noncomputable def F61 (p0:Int):Option (Bool) :=
 some ((bLe 0 p0) && (bLe p0 1099511627776))
noncomputable def qF:List AV->AR
 | [v0]=>.pure (iK .i64 v0/\(F61 (iA v0)).isSome=true) (.bool (gt (F61 (iA v0))))
 | _=>.fail
theorem ok61:wM Try.prog 61 (yF qF):=by
 refine wE qF (rs:=[.tmp 2]) Try.func61 (by kernel_rfl) rfl rfl ?_
 intro l ob v hb hob
 unfold qF at hb
 split at hb
 ·rename_i v0
  injection hb with q1 q2;subst q1 q2
  obtain ⟨hk0_0,hob⟩:=hob
  obtain ⟨r,H⟩:=oE.1 hob
  rw [H,yQ]
  have hw0:=yI hk0_0
  generalize iA v0=p0 at H hw0
  refine ⟨[.int .i64 p0],_,(fun E vs F=>yO hw0.1 F (fun vs F=>F)),rfl,rfl,?_⟩
  rw [Try.ntmps61]
  simp only [lC,lN,Nat.reduceAdd,Nat.reduceSub,rS,rZ,aC,aN]
  unfold F61 at H
  try dsimp only at H
  refine sq zA ?_
  simp only [go_sem]
  refine sq zA ?_
  simp only [go_sem]
  repeat ((with_reducible refine aI ?_ ?_);exact an5)
  refine rg zA ?_
  simp only [go_sem]
  obtain rfl:=Option.some.inj H
  first|rfl|simp only [Bool.and_false,Bool.false_and,Bool.and_true,Bool.true_and]
 ·cases hb
noncomputable def ct46t0:Ct:=tab [(61,yF qF)]
theorem ct46t0_ok:yZ Try.prog ct46t0:=zR ok61 <| zY
theorem ct46t0_61 (l:List AV) (h:List ABlk):ct46t0 61 l h=yF qF l h:=rfl
noncomputable def F46_L1 (p0:List TStored) (p2:Int) (v1_1:Int):Option (Lp (Int) ((Unit) ⊕ (Bool))) :=
 bif (bLt v1_1 (p0.length:Nat)) then (need (inb v1_1 p0.length) <| need (bif (!(bLt p2 ((gd p0 v1_1.toNat).Cat))) then ((F61 ((gd p0 v1_1.toNat).At)).isSome) else true) <| need (bif ((!((bLt p2 ((gd p0 v1_1.toNat).Cat)) || (!(gt (F61 ((gd p0 v1_1.toNat).At)))))) && (bLt 0 v1_1)) then inb (wr .i64 (v1_1 - 1)) p0.length else true) <| bif (((bLt p2 ((gd p0 v1_1.toNat).Cat)) || (!(gt (F61 ((gd p0 v1_1.toNat).At))))) || ((bLt 0 v1_1) && (bLt ((gd p0 v1_1.toNat).At) ((gd p0 ((wr .i64 (v1_1 - 1)).toNat)).At)))) then (some (.done (.inr false))) else (some (.next (wr .i64 (v1_1+1))))) else (some (.done (.inl ())))
noncomputable def F46 (p0:List TStored) (p1:Int) (p2:Int):Option (Bool) :=
 bif (bLt p1 (p0.length:Nat)) then (some false) else (lp (xC (fun s=>F46_L1 p0 p2 s) 0) (fun _=>some true) some)
noncomputable def dB:List AV->AR
 | [v0,v1,v2]=>.pure (lK xW 43 v0/\iK .i64 v1/\iK .u8 v2/\(F46 (lA yG v0) (iA v1) (iA v2)).isSome=true) (.bool (gt (F46 (lA yG v0) (iA v1) (iA v2))))
 | _=>.fail
theorem ok46:wM Try.prog 46 (yF dB):=by
 refine wE dB (rs:=[.tmp 6]) Try.func46 (by kernel_rfl) rfl rfl ?_
 intro l ob v hb hob
 unfold dB at hb
 split at hb
 ·rename_i v0 v1 v2
  injection hb with q1 q2;subst q1 q2
  obtain ⟨hk0_0,hk1_0,hk2_0,hob⟩:=hob
  obtain ⟨r,H⟩:=oE.1 hob
  rw [H,yQ]
  have hw0:=qX (fun r h=>uY h) hk0_0
  have hw1:=yI hk1_0
  have hw2:=yI hk2_0
  generalize lA yG v0=p0 at H hw0
  generalize iA v1=p1 at H hw1
  generalize iA v2=p2 at H hw2
  refine ⟨[.ro 43 p0.length false (enR zE p0),.int .i64 p1,.int .u8 p2],_,(fun E vs F=>yO hw0.1 F (fun vs F=>yO hw1.1 F (fun vs F=>yO hw2.1 F (fun vs F=>F)))),rfl,rfl,?_⟩
  rw [Try.ntmps46]
  simp only [lC,lN,Nat.reduceAdd,Nat.reduceSub,rS,rZ,aC,aN]
  unfold F46 at H
  try dsimp only at H
  refine sq zA ?_
  simp only [go_sem]
  refine zK ?_
  refine sq zA ?_
  simp only [go_sem]
  repeat ((with_reducible refine aI ?_ ?_);exact an0)
  refine yM rfl trivial (fun hc=>?_) (fun hc=>?_)
  ·have hk1:(bLt p1 (p0.length:Nat))=true:=by simpa using hc
   replace H:=yA hc H
   refine sq zA ?_
   simp only [go_sem]
   refine rg zA ?_
   simp only [go_sem]
   obtain rfl:=Option.some.inj H
   first|rfl|simp only [Bool.and_false,Bool.false_and,Bool.and_true,Bool.true_and]
  have hk1:(bLt p1 (p0.length:Nat))=false:=by simpa using hc
  replace H:=zZ hc H
  refine rg zA ?_
  simp only [go_sem]
  refine zK ?_
  refine sq zA ?_
  simp only [go_sem]
  repeat ((with_reducible refine aI ?_ ?_);exact an0)
  refine wN ?_
  refine xX (fun s:Int=>(.ro 43 p0.length false (enR zE p0)::.top::.int .u8 p2::tp 10 (.ro 43 p0.length false (enR zE p0)::.int .i64 (p0.length:Nat)::.int .i64 s::tp 30 []))) (fun s=>[]) (fun e:Unit=>(tp 46 [])) (fun e=>[]) H ?_ (fun v1_1 o H hn1_1 hn2_1=>?_) (fun e H=>?_)
  ·refine zT ⟨[],?_,?_,by rfl,by rfl⟩
   ·simp [CvL,Cv,tp]
   ·trivial
  ·unfold F46_L1 at H
   try dsimp only at H ⊢
   try simp only [tp]
   refine sq zA ?_
   simp only [go_sem]
   refine zK ?_
   refine condM' rfl trivial (fun hc=>?_) (fun hc=>?_)
   ·have hk2:(bLt v1_1 (p0.length:Nat))=false:=by simpa using hc
    replace H:=zZ hc H
    refine rg zA ?_
    simp only [go_sem]
    refine ⟨_,(Option.some.inj H).symm,?_⟩
    refine zT ⟨[],?_,?_,by rfl,by rfl⟩
    ·simp [CvL,Cv]
    ·trivial
   have hk2:(bLt v1_1 (p0.length:Nat))=true:=by simpa using hc
   replace H:=yA hc H
   refine rg zA ?_
   simp only [go_sem]
   refine zK ?_
   refine wN ?_
   refine zK ?_
   obtain ⟨f3,H⟩:=nI H
   refine rg zA ?_
   simp only [go_sem,Nat.reduceLT,Nat.reduceAdd,f3]
   repeat ((with_reducible refine aI ?_ ?_);exact an5)
   refine zK ?_
   obtain ⟨f4,H⟩:=yT.1 H
   replace f4:=tU.1 f4
   obtain ⟨f5,H⟩:=yT.1 H
   replace f5:=tU.1 f5
   replace f5:=fun g=>uQ.1 (f5 g)
   refine vS zQ ct46t0_ok (by kernel_rfl) (by kernel_rfl) ?_
   simp only [go_sem,Nat.reduceLeDiff,Nat.reduceLT,Nat.reduceAdd,ct46t0_61,qF]
   repeat ((with_reducible refine And.intro ?_ ?_);focus (first|(with_reducible trivial)|omega|exact f4|exact f5|(intro g;have q:=f4 (by first|exact g|(rw [g];rfl)|simpa using g);first|exact q|exact ⟨q.1,q.2.1⟩|exact q.2.2|omega|exact ⟨g,q⟩|exact ⟨trivial,q⟩|exact ⟨g,q.1,q.2.1⟩|exact ⟨g,q.2.2⟩)|(intro g;have q:=f5 (by first|exact g|(rw [g];rfl)|simpa using g);first|exact q|exact ⟨q.1,q.2.1⟩|exact q.2.2|omega|exact ⟨g,q⟩|exact ⟨trivial,q⟩|exact ⟨g,q.1,q.2.1⟩|exact ⟨g,q.2.2⟩)|(intro g;(try have q0:=f4 (by first|exact g|(rw [g];rfl)|simpa using g));(try have q1:=f5 (by first|exact g|(rw [g];rfl)|simpa using g));and_intros<;>first|(with_reducible trivial)|assumption|exact nfc|(intro g2;rw [g,g2];rfl)|(intro g2;assumption)|(simp only [g,Bool.true_and,Bool.and_true,Bool.not_false,Bool.not_true];assumption)|grind)|(and_intros<;>first|(with_reducible trivial)|omega|assumption|exact nfc|first|exact rfl|exact trivial|exact qV|exact .inr rfl|exact .inl rfl|exact fun x hx=>absurd hx (by omega))|grind))
   refine yM rfl trivial (fun hc=>?_) (fun hc=>?_)
   ·have hk6:(((bLt p2 ((gd p0 v1_1.toNat).Cat)) || (!(gt (F61 ((gd p0 v1_1.toNat).At))))) || ((bLt 0 v1_1) && (bLt ((gd p0 v1_1.toNat).At) ((gd p0 ((wr .i64 (v1_1 - 1)).toNat)).At))))=true:=by first|simpa using hc|simpa only [Bool.not_eq_true',Bool.not_eq_false'] using hc
    replace H:=yA hc H
    refine sq zA ?_
    simp only [go_sem]
    refine rg zA ?_
    simp only [go_sem]
    have H:=hn2_1 _ (Option.some.inj H).symm
    obtain rfl:=Option.some.inj H
    first|rfl|simp only [Bool.and_false,Bool.false_and,Bool.and_true,Bool.true_and]
   have hk6:(((bLt p2 ((gd p0 v1_1.toNat).Cat)) || (!(gt (F61 ((gd p0 v1_1.toNat).At))))) || ((bLt 0 v1_1) && (bLt ((gd p0 v1_1.toNat).At) ((gd p0 ((wr .i64 (v1_1 - 1)).toNat)).At))))=false:=by first|simpa using hc|simpa only [Bool.not_eq_true',Bool.not_eq_false'] using hc
   replace H:=zZ hc H
   refine rg zA ?_
   simp only [go_sem]
   refine rg zA ?_
   simp only [go_sem]
   refine ⟨_,(Option.some.inj H).symm,?_⟩
   refine zT ⟨[],?_,?_,by rfl,by rfl⟩
   ·simp [CvL,Cv]
   ·trivial
  ·try dsimp only at H ⊢
   try simp only [tp]
   try simp only [xS]
   refine sq zA ?_
   simp only [go_sem]
   refine rg zA ?_
   simp only [go_sem]
   obtain rfl:=Option.some.inj H
   first|rfl|simp only [Bool.and_false,Bool.false_and,Bool.and_true,Bool.true_and]
 ·cases hb
noncomputable def F86 (p0:TSleeper):Option (Bool) :=
 some p0.Asleep
noncomputable def body86:List AV->AR
 | [v0]=>.pure (aK 3 wG v0/\(F86 (yK (aL v0))).isSome=true) (.bool (gt (F86 (yK (aL v0)))))
 | _=>.fail
theorem ok86:wM Try.prog 86 (yF body86):=by
 refine wE body86 (rs:=[.tmp 2]) Try.func86 (by kernel_rfl) rfl rfl ?_
 intro l ob v hb hob
 unfold body86 at hb
 split at hb
 ·rename_i v0
  injection hb with q1 q2;subst q1 q2
  obtain ⟨hk0_0,hob⟩:=hob
  obtain ⟨r,H⟩:=oE.1 hob
  rw [H,yQ]
  have hw0:=bP hk0_0
  generalize yK (aL v0)=p0 at H hw0
  refine ⟨[.agg [.int .i64 p0.Aid,.bool p0.Asleep,.ro 43 p0.Held.length false (enR zE p0.Held)]],_,(fun E vs F=>yO hw0.1 F (fun vs F=>F)),rfl,rfl,?_⟩
  rw [Try.ntmps86]
  simp only [lC,lN,Nat.reduceAdd,Nat.reduceSub,rS,rZ,aC,aN]
  unfold F86 at H
  try dsimp only at H
  refine sq zA ?_
  simp only [go_sem]
  refine sq zA ?_
  simp only [go_sem,Nat.reduceLeDiff,Nat.reduceLT,Nat.reduceAdd]
  repeat ((with_reducible refine aI ?_ ?_);exact an5)
  refine rg zA ?_
  simp only [go_sem]
  obtain rfl:=Option.some.inj H
  first|rfl|simp only [Bool.and_false,Bool.false_and,Bool.and_true,Bool.true_and]
 ·cases hb
noncomputable def ct106_0t0:Ct:=tab [(86,yF body86)]
theorem ct106_0t0_ok:yZ Try.prog ct106_0t0:=zR ok86 <| zY
theorem ct106_0t0_86 (l:List AV) (h:List ABlk):ct106_0t0 86 l h=yF body86 l h:=rfl
noncomputable def fX (p0:List TSleeper) (v1_1:Int):Option (Lp (Int) ((Unit) ⊕ (Int))) :=
 bif (bLt v1_1 (p0.length:Nat)) then (need (inb v1_1 p0.length) <| (F86 (gd p0 v1_1.toNat)).bind fun r3=>bif r3 then (some (.done (.inr v1_1))) else (some (.next (wr .i64 (v1_1+1))))) else (some (.done (.inl ())))
noncomputable def F106_0 (p0:List TSleeper):Option (Int) :=
 lp (xC (fun s=>fX p0 s) 0) (fun _=>some (-1)) some
noncomputable def jX:List AV->AR
 | [v0,.fn 86 []]=>.pure (lK wG 3 v0/\(F106_0 (lA yK v0)).isSome=true) (.int .i64 (gt (F106_0 (lA yK v0))))
 | _=>.fail
theorem ok106_0:wM Try.prog 106 (yF jX):=by
 refine wE jX (rs:=[.tmp 4]) Try.func106 (by kernel_rfl) rfl rfl ?_
 intro l ob v hb hob
 unfold jX at hb
 split at hb
 ·rename_i v0
  injection hb with q1 q2;subst q1 q2
  obtain ⟨hk0_0,hob⟩:=hob
  obtain ⟨r,H⟩:=oE.1 hob
  rw [H,yQ]
  have hw0:=qX (fun r h=>tN h) hk0_0
  generalize lA yK v0=p0 at H hw0
  refine ⟨[.ro 3 p0.length false (enR zC p0),.fn 86 []],_,(fun E vs F=>yO hw0.1 F (fun vs F=>yO (fn_wk LW_nil) F (fun vs F=>F))),rfl,rfl,?_⟩
  rw [Try.ntmps106]
  simp only [lC,lN,Nat.reduceAdd,Nat.reduceSub,rS,rZ,aC,aN]
  unfold F106_0 at H
  try dsimp only at H
  refine sq zA ?_
  simp only [go_sem]
  refine zK ?_
  refine sq zA ?_
  simp only [go_sem]
  repeat ((with_reducible refine aI ?_ ?_);exact an0)
  refine wN ?_
  refine xX (fun s:Int=>(.ro 3 p0.length false (enR zC p0)::.fn 86 []::tp 5 (.int .i64 (p0.length:Nat)::.int .i64 s::tp 10 []))) (fun s=>[]) (fun e:Unit=>(tp 19 [])) (fun e=>[]) H ?_ (fun v1_1 o H hn1_1 hn2_1=>?_) (fun e H=>?_)
  ·refine zT ⟨[],?_,?_,by rfl,by rfl⟩
   ·simp [CvL,Cv,tp]
   ·trivial
  ·unfold fX at H
   try dsimp only at H ⊢
   try simp only [tp]
   refine sq zA ?_
   simp only [go_sem]
   refine zK ?_
   refine condM' rfl trivial (fun hc=>?_) (fun hc=>?_)
   ·have hk1:(bLt v1_1 (p0.length:Nat))=false:=by simpa using hc
    replace H:=zZ hc H
    refine rg zA ?_
    simp only [go_sem]
    refine ⟨_,(Option.some.inj H).symm,?_⟩
    refine zT ⟨[],?_,?_,by rfl,by rfl⟩
    ·simp [CvL,Cv]
    ·trivial
   have hk1:(bLt v1_1 (p0.length:Nat))=true:=by simpa using hc
   replace H:=yA hc H
   refine rg zA ?_
   simp only [go_sem]
   refine zK ?_
   refine wN ?_
   refine sq zA ?_
   simp only [go_sem]
   refine zK ?_
   obtain ⟨f2,H⟩:=nI H
   obtain ⟨r3,e4,H⟩:=bsi H
   refine rg ct106_0t0_ok ?_
   simp only [go_sem,Nat.reduceLT,Nat.reduceAdd,ct106_0t0_86,body86,f2,e4]
   repeat ((with_reducible refine aI ?_ ?_);exact an0)
   refine yM rfl trivial (fun hc=>?_) (fun hc=>?_)
   ·have hk5:(r3)=true:=by simpa using hc
    replace H:=yA hc H
    refine sq zA ?_
    simp only [go_sem]
    refine rg zA ?_
    simp only [go_sem]
    have H:=hn2_1 _ (Option.some.inj H).symm
    obtain rfl:=Option.some.inj H
    first|rfl|simp only [Bool.and_false,Bool.false_and,Bool.and_true,Bool.true_and]
   have hk5:(r3)=false:=by simpa using hc
   replace H:=zZ hc H
   refine rg zA ?_
   simp only [go_sem]
   refine rg zA ?_
   simp only [go_sem]
   refine ⟨_,(Option.some.inj H).symm,?_⟩
   refine zT ⟨[],?_,?_,by rfl,by rfl⟩
   ·simp [CvL,Cv]
   ·trivial
  ·try dsimp only at H ⊢
   try simp only [tp]
   try simp only [xS]
   refine sq zA ?_
   simp only [go_sem]
   refine rg zA ?_
   simp only [go_sem]
   obtain rfl:=Option.some.inj H
   first|rfl|simp only [Bool.and_false,Bool.false_and,Bool.and_true,Bool.true_and]
 ·cases hb
noncomputable def ct85_0t0:Ct:=tab [(106,yF jX)]
theorem ct85_0t0_ok:yZ Try.prog ct85_0t0:=zR ok106_0 <| zY
theorem ct85_0t0_106 (l:List AV) (h:List ABlk):ct85_0t0 106 l h=yF jX l h:=rfl
noncomputable def F85_0 (p0:List TSleeper):Option (Bool) :=
 (F106_0 p0).bind fun r1=>some (bLe 0 r1)
noncomputable def eD:List AV->AR
 | [v0,.fn 86 []]=>.pure (lK wG 3 v0/\(F85_0 (lA yK v0)).isSome=true) (.bool (gt (F85_0 (lA yK v0))))
 | _=>.fail
theorem ok85_0:wM Try.prog 85 (yF eD):=by
 refine wE eD (rs:=[.tmp 4]) Try.func85 (by kernel_rfl) rfl rfl ?_
 intro l ob v hb hob
 unfold eD at hb
 split at hb
 ·rename_i v0
  injection hb with q1 q2;subst q1 q2
  obtain ⟨hk0_0,hob⟩:=hob
  obtain ⟨r,H⟩:=oE.1 hob
  rw [H,yQ]
  have hw0:=qX (fun r h=>tN h) hk0_0
  generalize lA yK v0=p0 at H hw0
  refine ⟨[.ro 3 p0.length false (enR zC p0),.fn 86 []],_,(fun E vs F=>yO hw0.1 F (fun vs F=>yO (fn_wk LW_nil) F (fun vs F=>F))),rfl,rfl,?_⟩
  rw [Try.ntmps85]
  simp only [lC,lN,Nat.reduceAdd,Nat.reduceSub,rS,rZ,aC,aN]
  unfold F85_0 at H
  try dsimp only at H
  refine sq zA ?_
  simp only [go_sem]
  refine zK ?_
  obtain ⟨r1,e2,H⟩:=bsi H
  refine rg ct85_0t0_ok ?_
  simp only [go_sem,ct85_0t0_106,jX,e2]
  repeat ((with_reducible refine aI ?_ ?_);exact an0)
  refine rg zA ?_
  simp only [go_sem]
  obtain rfl:=Option.some.inj H
  first|rfl|simp only [Bool.and_false,Bool.false_and,Bool.and_true,Bool.true_and]
 ·cases hb
noncomputable def ct47t0:Ct:=tab [(85,yF eD)]
theorem ct47t0_ok:yZ Try.prog ct47t0:=zR ok85_0 <| zY
theorem ct47t0_85 (l:List AV) (h:List ABlk):ct47t0 85 l h=yF eD l h:=rfl
noncomputable def F47 (p0:TBuffer):Option (Bool) :=
 (F85_0 p0.List).bind fun r1=>some r1
noncomputable def qE:List AV->AR
 | [v0]=>.pure (aK 4 wC v0/\(F47 (zG (aL v0))).isSome=true) (.bool (gt (F47 (zG (aL v0)))))
 | _=>.fail
theorem ok47:wM Try.prog 47 (yF qE):=by
 refine wE qE (rs:=[.tmp 2]) Try.func47 (by kernel_rfl) rfl rfl ?_
 intro l ob v hb hob
 unfold qE at hb
 split at hb
 ·rename_i v0
  injection hb with q1 q2;subst q1 q2
  obtain ⟨hk0_0,hob⟩:=hob
  obtain ⟨r,H⟩:=oE.1 hob
  rw [H,yQ]
  have hw0:=wU hk0_0
  generalize zG (aL v0)=p0 at H hw0
  refine ⟨[.agg [.int .i64 p0.Limit,.int .i64 p0.Stay,.ro 3 p0.List.length false (enR zC p0.List),.ro 43 p0.Group.length false (enR zE p0.Group)]],_,(fun E vs F=>yO hw0.1 F (fun vs F=>F)),rfl,rfl,?_⟩
  rw [Try.ntmps47]
  simp only [lC,lN,Nat.reduceAdd,Nat.reduceSub,rS,rZ,aC,aN]
  unfold F47 at H
  try dsimp only at H
  refine sq zA ?_
  simp only [go_sem]
  refine zK ?_
  obtain ⟨r1,e2,H⟩:=bsi H
  refine rg ct47t0_ok ?_
  simp only [go_sem,Nat.reduceLeDiff,Nat.reduceLT,Nat.reduceAdd,ct47t0_85,eD,e2]
  repeat ((with_reducible refine aI ?_ ?_);exact an0)
  refine rg zA ?_
  simp only [go_sem]
  obtain rfl:=Option.some.inj H
  first|rfl|simp only [Bool.and_false,Bool.false_and,Bool.and_true,Bool.true_and]
 ·cases hb
noncomputable def ct18t0:Ct:=tab [(46,yF dB)]
theorem ct18t0_ok:yZ Try.prog ct18t0:=zR ok46 <| zY
theorem ct18t0_46 (l:List AV) (h:List ABlk):ct18t0 46 l h=yF dB l h:=rfl
noncomputable def ct18t1:Ct:=tab [(46,yF dB),(47,yF qE)]
theorem ct18t1_ok:yZ Try.prog ct18t1:=zR ok46 <| zR ok47 <| zY
theorem ct18t1_46 (l:List AV) (h:List ABlk):ct18t1 46 l h=yF dB l h:=rfl
theorem ct18t1_47 (l:List AV) (h:List ABlk):ct18t1 47 l h=yF qE l h:=rfl
noncomputable def F18_L1 (p0:TBuffer) (v1_1:Bool) (v1_2:Int) (v1_3:Int):Option (Lp (Bool × Int × Int) ((Bool) ⊕ (Int))) :=
 bif (bLt v1_3 (p0.List.length:Nat)) then (need (inb v1_3 p0.List.length) <| need (bif ((v1_1 && (bLt v1_2 ((gd p0.List v1_3.toNat).Aid))) && (bLe ((gd p0.List v1_3.toNat).Aid) 255)) then ((F46 ((gd p0.List v1_3.toNat).Held) p0.Limit 3).isSome) else true) <| some (.next (((((v1_1 && (bLt v1_2 ((gd p0.List v1_3.toNat).Aid))) && (bLe ((gd p0.List v1_3.toNat).Aid) 255)) && (gt (F46 ((gd p0.List v1_3.toNat).Held) p0.Limit 3))) && ((gd p0.List v1_3.toNat).Asleep || (bEq (((gd p0.List v1_3.toNat).Held).length:Nat) 0))),(gd p0.List v1_3.toNat).Aid,wr .i64 (v1_3+1)))) else (some (.done (.inl v1_1)))
noncomputable def F18 (p0:TBuffer):Option (Int) :=
 lp (xC (fun s=>F18_L1 p0 s.1 s.2.1 s.2.2) ((((((bLe 1 p0.Limit) && (bLe p0.Limit 64)) && (bLe 1 p0.Stay)) && (bLe p0.Stay 1073741824)) && (bLe (p0.List.length:Nat) 32)),0,0)) (fun w1_4=>need (bif (!(!w1_4)) then ((F46 p0.Group p0.Limit 0).isSome) else true) <| need (bif ((!((!w1_4) || (!(gt (F46 p0.Group p0.Limit 0))))) && (bLt 0 (p0.Group.length:Nat))) then ((F47 p0).isSome) else true) <| bif (((!w1_4) || (!(gt (F46 p0.Group p0.Limit 0)))) || ((bLt 0 (p0.Group.length:Nat)) && (!(gt (F47 p0))))) then (some 8) else (some 0)) some
noncomputable def wP:List AV->AR
 | [v0]=>.pure (aK 4 wC v0/\(F18 (zG (aL v0))).isSome=true) (.int .i64 (gt (F18 (zG (aL v0)))))
 | _=>.fail
theorem ok18:wM Try.prog 18 (yF wP):=by
 refine wE wP (rs:=[.tmp 2]) Try.func18 (by kernel_rfl) rfl rfl ?_
 intro l ob v hb hob
 unfold wP at hb
 split at hb
 ·rename_i v0
  injection hb with q1 q2;subst q1 q2
  obtain ⟨hk0_0,hob⟩:=hob
  obtain ⟨r,H⟩:=oE.1 hob
  rw [H,yQ]
  have hw0:=wU hk0_0
  generalize zG (aL v0)=p0 at H hw0
  refine ⟨[.agg [.int .i64 p0.Limit,.int .i64 p0.Stay,.ro 3 p0.List.length false (enR zC p0.List),.ro 43 p0.Group.length false (enR zE p0.Group)]],_,(fun E vs F=>yO hw0.1 F (fun vs F=>F)),rfl,rfl,?_⟩
  rw [Try.ntmps18]
  simp only [lC,lN,Nat.reduceAdd,Nat.reduceSub,rS,rZ,aC,aN]
  unfold F18 at H
  try dsimp only at H
  refine sq zA ?_
  simp only [go_sem]
  refine sq zA ?_
  simp only [go_sem,Nat.reduceLeDiff,Nat.reduceLT,Nat.reduceAdd]
  repeat ((with_reducible refine aI ?_ ?_);exact an7)
  refine sq zA ?_
  simp only [go_sem]
  refine zK ?_
  refine sq zA ?_
  simp only [go_sem,Nat.reduceLeDiff,Nat.reduceLT,Nat.reduceAdd]
  repeat ((with_reducible refine aI ?_ ?_);exact an0)
  refine wN ?_
  refine xX (fun s:Bool × Int × Int=>(.top::.ptr 0 0 0 0::.top::.bool s.1::.int .i64 s.2.1::tp 27 (.ro 3 p0.List.length false (enR zC p0.List)::.int .i64 (p0.List.length:Nat)::.int .i64 s.2.2::tp 56 []))) (fun s=>[.lit 25 [.int .i64 p0.Limit,.int .i64 p0.Stay,.ro 3 p0.List.length false (enR zC p0.List),.ro 43 p0.Group.length false (enR zE p0.Group)]]) (fun e:Bool=>(.top::.ptr 0 0 0 0::.top::.bool e::tp 87 [])) (fun e=>[.lit 25 [.int .i64 p0.Limit,.int .i64 p0.Stay,.ro 3 p0.List.length false (enR zC p0.List),.ro 43 p0.Group.length false (enR zE p0.Group)]]) H ?_ (fun s o H hn1_1 hn2_1=>?_) (fun w1_4 H=>?_)
  ·refine zT ⟨[some 0],?_,?_,by rfl,by rfl⟩
   ·simp [CvL,Cv,zX,tp]
   ·exact ⟨cv,trivial⟩
  ·obtain ⟨v1_1,v1_2,v1_3⟩:=s
   unfold F18_L1 at H
   try dsimp only at H ⊢
   try simp only [tp]
   refine sq zA ?_
   simp only [go_sem]
   refine zK ?_
   refine condM' rfl trivial (fun hc=>?_) (fun hc=>?_)
   ·have hk1:(bLt v1_3 (p0.List.length:Nat))=false:=by simpa using hc
    replace H:=zZ hc H
    refine rg zA ?_
    simp only [go_sem]
    refine ⟨_,(Option.some.inj H).symm,?_⟩
    refine zT ⟨[some 0],?_,?_,by rfl,by rfl⟩
    ·simp [CvL,Cv,zX]
    ·exact ⟨cv,trivial⟩
   have hk1:(bLt v1_3 (p0.List.length:Nat))=true:=by simpa using hc
   replace H:=yA hc H
   refine rg zA ?_
   simp only [go_sem]
   refine zK ?_
   refine wN ?_
   refine zK ?_
   obtain ⟨f2,H⟩:=nI H
   refine rg zA ?_
   simp only [go_sem,Nat.reduceLT,Nat.reduceAdd,f2]
   repeat ((with_reducible refine aI ?_ ?_);exact an5)
   refine zK ?_
   obtain ⟨f3,H⟩:=yT.1 H
   replace f3:=tU.1 f3
   refine rg ct18t0_ok ?_
   simp only [go_sem,Nat.reduceLeDiff,Nat.reduceLT,Nat.reduceAdd,ct18t0_46,dB]
   repeat ((with_reducible refine And.intro ?_ ?_);focus (first|(with_reducible trivial)|omega|exact f3|(intro g;have q:=f3 (by first|exact g|(rw [g];rfl)|simpa using g);first|exact q|exact ⟨q.1,q.2.1⟩|exact q.2.2|omega|exact ⟨g,q⟩|exact ⟨trivial,q⟩|exact ⟨g,q.1,q.2.1⟩|exact ⟨g,q.2.2⟩)|(intro g;(try have q0:=f3 (by first|exact g|(rw [g];rfl)|simpa using g));and_intros<;>first|(with_reducible trivial)|assumption|exact nfc|(intro g2;rw [g,g2];rfl)|(intro g2;assumption)|(simp only [g,Bool.true_and,Bool.and_true,Bool.not_false,Bool.not_true];assumption)|grind)|(and_intros<;>first|(with_reducible trivial)|omega|assumption|exact nfc|first|exact rfl|exact trivial|exact qV|exact .inr rfl|exact .inl rfl|exact fun x hx=>absurd hx (by omega))|grind))
   refine rg zA ?_
   simp only [go_sem,Nat.reduceLeDiff,Nat.reduceLT,Nat.reduceAdd]
   repeat ((with_reducible refine aI ?_ ?_);exact an5)
   refine rg zA ?_
   simp only [go_sem]
   refine ⟨_,(Option.some.inj H).symm,?_⟩
   refine zT ⟨[some 0],?_,?_,by rfl,by rfl⟩
   ·simp [CvL,Cv,zX]
   ·exact ⟨cv,trivial⟩
  ·try dsimp only at H ⊢
   try simp only [tp]
   try simp only [xS]
   refine zK ?_
   refine zK ?_
   obtain ⟨f4,H⟩:=yT.1 H
   replace f4:=tU.1 f4
   obtain ⟨f5,H⟩:=yT.1 H
   replace f5:=tU.1 f5
   refine rg ct18t1_ok ?_
   simp only [go_sem,Nat.reduceLeDiff,Nat.reduceLT,Nat.reduceAdd,ct18t1_46,dB,ct18t1_47,qE]
   repeat ((with_reducible refine And.intro ?_ ?_);focus (first|(with_reducible trivial)|omega|exact f4|exact f5|(intro g;have q:=f4 (by first|exact g|(rw [g];rfl)|simpa using g);first|exact q|exact ⟨q.1,q.2.1⟩|exact q.2.2|omega|exact ⟨g,q⟩|exact ⟨trivial,q⟩|exact ⟨g,q.1,q.2.1⟩|exact ⟨g,q.2.2⟩)|(intro g;have q:=f5 (by first|exact g|(rw [g];rfl)|simpa using g);first|exact q|exact ⟨q.1,q.2.1⟩|exact q.2.2|omega|exact ⟨g,q⟩|exact ⟨trivial,q⟩|exact ⟨g,q.1,q.2.1⟩|exact ⟨g,q.2.2⟩)|(intro g;(try have q0:=f4 (by first|exact g|(rw [g];rfl)|simpa using g));(try have q1:=f5 (by first|exact g|(rw [g];rfl)|simpa using g));and_intros<;>first|(with_reducible trivial)|assumption|exact nfc|(intro g2;rw [g,g2];rfl)|(intro g2;assumption)|(simp only [g,Bool.true_and,Bool.and_true,Bool.not_false,Bool.not_true];assumption)|grind)|(and_intros<;>first|(with_reducible trivial)|omega|assumption|exact nfc|first|exact rfl|exact trivial|exact qV|exact .inr rfl|exact .inl rfl|exact fun x hx=>absurd hx (by omega))|grind))
   refine yM rfl trivial (fun hc=>?_) (fun hc=>?_)
   ·have hk6:(((!w1_4) || (!(gt (F46 p0.Group p0.Limit 0)))) || ((bLt 0 (p0.Group.length:Nat)) && (!(gt (F47 p0)))))=true:=by first|simpa using hc|simpa only [Bool.not_eq_true',Bool.not_eq_false'] using hc
    replace H:=yA hc H
    refine sq zA ?_
    simp only [go_sem]
    refine rg zA ?_
    simp only [go_sem]
    obtain rfl:=Option.some.inj H
    first|rfl|simp only [Bool.and_false,Bool.false_and,Bool.and_true,Bool.true_and]
   have hk6:(((!w1_4) || (!(gt (F46 p0.Group p0.Limit 0)))) || ((bLt 0 (p0.Group.length:Nat)) && (!(gt (F47 p0)))))=false:=by first|simpa using hc|simpa only [Bool.not_eq_true',Bool.not_eq_false'] using hc
   replace H:=zZ hc H
   refine rg zA ?_
   simp only [go_sem]
   refine sq zA ?_
   simp only [go_sem]
   refine rg zA ?_
   simp only [go_sem]
   obtain rfl:=Option.some.inj H
   first|rfl|simp only [Bool.and_false,Bool.false_and,Bool.and_true,Bool.true_and]
 ·cases hb
noncomputable def ct12t0:Ct:=tab [(18,yF wP)]
theorem ct12t0_ok:yZ Try.prog ct12t0:=zR ok18 <| zY
theorem ct12t0_18 (l:List AV) (h:List ABlk):ct12t0 18 l h=yF wP l h:=rfl
noncomputable def F12 (p0:Int) (p1:Int):Option (TBuffer × Int) :=
 (F18 (TBuffer.mk p0 p1 [] [])).bind fun r1=>bif (!bEq r1 0) then (some ((TBuffer.mk 0 0 [] []),2)) else (some ((TBuffer.mk p0 p1 [] []),0))
noncomputable def fL:List AV->Nat->AR
 | [v0,v1],_=>.pure (iK .i64 v0/\iK .i64 v1/\(F12 (iA v0) (iA v1)).isSome=true) (.tup [.agg [.int .i64 (((gt (F12 (iA v0) (iA v1))).1).Limit),.int .i64 (((gt (F12 (iA v0) (iA v1))).1).Stay),.ro 3 ((((gt (F12 (iA v0) (iA v1))).1).List).length) false (enR zC (((gt (F12 (iA v0) (iA v1))).1).List)),.ro 43 ((((gt (F12 (iA v0) (iA v1))).1).Group).length) false (enR zE (((gt (F12 (iA v0) (iA v1))).1).Group))],.int .i64 ((gt (F12 (iA v0) (iA v1))).2)])
 | _,_=>.fail
theorem ok12:wM Try.prog 12 (xU fL):=by
 refine uZ fL (rs:=[.cell 4 25,.tmp 5]) Try.func12 (by kernel_rfl) rfl rfl ?_
 intro l s ob v ns hb hob
 rcases hb with ⟨hb,rfl⟩|hb
 ·unfold fL at hb
  split at hb
  ·rename_i v0 v1
   injection hb with q1 q2;subst q1 q2
   obtain ⟨hk0_0,hk1_0,hob⟩:=hob
   obtain ⟨r,H⟩:=oE.1 hob
   rw [H,yQ]
   have hw0:=yI hk0_0
   have hw1:=yI hk1_0
   generalize iA v0=p0 at H hw0
   generalize iA v1=p1 at H hw1
   refine ⟨[.int .i64 p0,.int .i64 p1],.tup [.agg [.int .i64 r.1.Limit,.int .i64 r.1.Stay,.ro 3 r.1.List.length false (enR zC r.1.List),.ro 43 r.1.Group.length false (enR zE r.1.Group)],.int .i64 r.2],[],(fun E vs F=>yO hw0.1 F (fun vs F=>yO hw1.1 F (fun vs F=>F))),by simp only [ren,uS],trivial,?_⟩
   rw [Try.ntmps12]
   simp only [lC,lN,Nat.reduceAdd,Nat.reduceSub,rS,rZ,aC,aN]
   unfold F12 at H
   try dsimp only at H
   refine sq zA ?_
   simp only [go_sem]
   refine sq zA ?_
   simp only [go_sem,Nat.reduceLeDiff,Nat.reduceAdd]
   repeat ((with_reducible refine aI ?_ ?_);exact an5)
   refine zK ?_
   refine zK ?_
   obtain ⟨r1,e2,H⟩:=bsi H
   refine rg ct12t0_ok ?_
   simp only [go_sem,Nat.reduceLT,Nat.reduceAdd,reduceCtorEq,ct12t0_18,wP,e2]
   repeat ((with_reducible refine aI ?_ ?_);exact an0)
   refine yM rfl trivial (fun hc=>?_) (fun hc=>?_)
   ·have hk3:(bEq r1 0)=false:=by simpa using hc
    replace H:=yA hc H
    refine sq zA ?_
    simp only [go_sem,Nat.reduceAdd]
    repeat ((with_reducible refine aI ?_ ?_);exact an5)
    refine rg zA ?_
    simp only [go_sem,Nat.reduceLT,Nat.reduceAdd]
    obtain rfl:=Option.some.inj H
    refine ⟨[0,1],?_,?_,[],?_,?_,rfl⟩
    ·simp only [go_sem]
     try exact at0
    ·simp only [go_sem]
     try exact at0
    ·simp only [go_sem]
     exact yY (zB (yV (zB zF (zB zF (zB (zJ (α:=TSleeper)) (zB (zJ (α:=TStored)) zO))))) (zB zF zO))
    ·simp only [go_sem,CvH]
   have hk3:(bEq r1 0)=true:=by simpa using hc
   replace H:=zZ hc H
   refine rg zA ?_
   simp only [go_sem]
   refine sq zA ?_
   simp only [go_sem,Nat.reduceLT,Nat.reduceAdd]
   repeat ((with_reducible refine aI ?_ ?_);exact an5)
   refine rg zA ?_
   simp only [go_sem,Nat.reduceLT,Nat.reduceAdd]
   obtain rfl:=Option.some.inj H
   refine ⟨[0,1],?_,?_,[],?_,?_,rfl⟩
   ·simp only [go_sem]
    try exact at0
   ·simp only [go_sem]
    try exact at0
   ·simp only [go_sem]
    exact yY (zB (yV (zB zF (zB zF (zB (zJ (α:=TSleeper)) (zB (zJ (α:=TStored)) zO))))) (zB zF zO))
   ·simp only [go_sem,CvH]
  ·cases hb
 ·unfold fL at hb
  split at hb<;>cases hb
noncomputable def F103 (p0:TSleeper) (p1:Int):Option (Int) :=
 some (wr .i64 (p0.Aid - p1))
noncomputable def dA:List AV->AR
 | [v0,v1]=>.pure (aK 3 wG v0/\iK .i64 v1/\(F103 (yK (aL v0)) (iA v1)).isSome=true) (.int .i64 (gt (F103 (yK (aL v0)) (iA v1))))
 | _=>.fail
theorem ok103:wM Try.prog 103 (yF dA):=by
 refine wE dA (rs:=[.tmp 4]) Try.func103 (by kernel_rfl) rfl rfl ?_
 intro l ob v hb hob
 unfold dA at hb
 split at hb
 ·rename_i v0 v1
  injection hb with q1 q2;subst q1 q2
  obtain ⟨hk0_0,hk1_0,hob⟩:=hob
  obtain ⟨r,H⟩:=oE.1 hob
  rw [H,yQ]
  have hw0:=bP hk0_0
  have hw1:=yI hk1_0
  generalize yK (aL v0)=p0 at H hw0
  generalize iA v1=p1 at H hw1
  refine ⟨[.agg [.int .i64 p0.Aid,.bool p0.Asleep,.ro 43 p0.Held.length false (enR zE p0.Held)],.int .i64 p1],_,(fun E vs F=>yO hw0.1 F (fun vs F=>yO hw1.1 F (fun vs F=>F))),rfl,rfl,?_⟩
  rw [Try.ntmps103]
  simp only [lC,lN,Nat.reduceAdd,Nat.reduceSub,rS,rZ,aC,aN]
  unfold F103 at H
  try dsimp only at H
  refine sq zA ?_
  simp only [go_sem]
  refine sq zA ?_
  simp only [go_sem,Nat.reduceLeDiff,Nat.reduceLT,Nat.reduceAdd]
  repeat ((with_reducible refine aI ?_ ?_);exact an5)
  refine rg zA ?_
  simp only [go_sem]
  obtain rfl:=Option.some.inj H
  first|rfl|simp only [Bool.and_false,Bool.false_and,Bool.and_true,Bool.true_and]
 ·cases hb
noncomputable def ct102_0t0:Ct:=tab [(103,yF dA)]
theorem ct102_0t0_ok:yZ Try.prog ct102_0t0:=zR ok103 <| zY
theorem ct102_0t0_103 (l:List AV) (h:List ABlk):ct102_0t0 103 l h=yF dA l h:=rfl
noncomputable def F102_0_L1 (p0:List TSleeper) (p1:Int) (v1_1:Int) (v1_2:Int):Option (Lp (Int × Int) ((Int) ⊕ (Int × Bool))) :=
 bif (bLt v1_1 v1_2) then (need (inb (wr .i64 (cB .u64 (wr .u64 (wr .i64 (v1_1+v1_2))) 1)) p0.length) <| (F103 (gd p0 ((wr .i64 (cB .u64 (wr .u64 (wr .i64 (v1_1+v1_2))) 1)).toNat)) p1).bind fun r3=>bif (bLt r3 0) then (some (.next (wr .i64 ((wr .i64 (cB .u64 (wr .u64 (wr .i64 (v1_1+v1_2))) 1))+1),v1_2))) else (some (.next (v1_1,wr .i64 (cB .u64 (wr .u64 (wr .i64 (v1_1+v1_2))) 1))))) else (some (.done (.inl v1_1)))
noncomputable def F102_0 (p0:List TSleeper) (p1:Int):Option (Int × Bool) :=
 lp (xC (fun s=>F102_0_L1 p0 p1 s.1 s.2) (0,(p0.length:Nat))) (fun w1_3=>need (bif (bLt w1_3 (p0.length:Nat)) then inb w1_3 p0.length else true) <| need (bif (bLt w1_3 (p0.length:Nat)) then ((F103 (gd p0 w1_3.toNat) p1).isSome) else true) <| some (w1_3,((bLt w1_3 (p0.length:Nat)) && (bEq (gt (F103 (gd p0 w1_3.toNat) p1)) 0)))) some
noncomputable def jW:List AV->AR
 | [v0,v1,.fn 103 []]=>.pure (lK wG 3 v0/\iK .i64 v1/\(F102_0 (lA yK v0) (iA v1)).isSome=true) (.tup [.int .i64 ((gt (F102_0 (lA yK v0) (iA v1))).1),.bool ((gt (F102_0 (lA yK v0) (iA v1))).2)])
 | _=>.fail
theorem ok102_0:wM Try.prog 102 (yF jW):=by
 refine wE jW (rs:=[.tmp 6,.tmp 7]) Try.func102 (by kernel_rfl) rfl rfl ?_
 intro l ob v hb hob
 unfold jW at hb
 split at hb
 ·rename_i v0 v1
  injection hb with q1 q2;subst q1 q2
  obtain ⟨hk0_0,hk1_0,hob⟩:=hob
  obtain ⟨r,H⟩:=oE.1 hob
  rw [H,yQ]
  have hw0:=qX (fun r h=>tN h) hk0_0
  have hw1:=yI hk1_0
  generalize lA yK v0=p0 at H hw0
  generalize iA v1=p1 at H hw1
  refine ⟨[.ro 3 p0.length false (enR zC p0),.int .i64 p1,.fn 103 []],_,(fun E vs F=>yO hw0.1 F (fun vs F=>yO hw1.1 F (fun vs F=>yO (fn_wk LW_nil) F (fun vs F=>F)))),rfl,rfl,?_⟩
  rw [Try.ntmps102]
  simp only [lC,lN,Nat.reduceAdd,Nat.reduceSub,rS,rZ,aC,aN]
  unfold F102_0 at H
  try dsimp only at H
  refine sq zA ?_
  simp only [go_sem]
  refine sq zA ?_
  simp only [go_sem]
  repeat ((with_reducible refine aI ?_ ?_);exact an0)
  refine sq zA ?_
  simp only [go_sem]
  refine zK ?_
  refine wN ?_
  refine xX (fun s:Int × Int=>(.ro 3 p0.length false (enR zC p0)::.int .i64 p1::.fn 103 []::tp 5 (.int .i64 (p0.length:Nat)::.int .i64 s.1::.int .i64 s.2::tp 38 []))) (fun s=>[]) (fun e:Int=>(.ro 3 p0.length false (enR zC p0)::.int .i64 p1::.fn 103 []::tp 5 (.int .i64 (p0.length:Nat)::.int .i64 e::tp 39 []))) (fun e=>[]) H ?_ (fun s o H hn1_1 hn2_1=>?_) (fun w1_3 H=>?_)
  ·refine zT ⟨[],?_,?_,by rfl,by rfl⟩
   ·simp [CvL,Cv,tp]
   ·trivial
  ·obtain ⟨v1_1,v1_2⟩:=s
   unfold F102_0_L1 at H
   try dsimp only at H ⊢
   try simp only [tp]
   refine zK ?_
   refine sq zA ?_
   simp only [go_sem]
   refine condM' rfl trivial (fun hc=>?_) (fun hc=>?_)
   ·have hk1:(bLt v1_1 v1_2)=false:=by simpa using hc
    replace H:=zZ hc H
    refine rg zA ?_
    simp only [go_sem]
    refine ⟨_,(Option.some.inj H).symm,?_⟩
    refine zT ⟨[],?_,?_,by rfl,by rfl⟩
    ·simp [CvL,Cv]
    ·trivial
   have hk1:(bLt v1_1 v1_2)=true:=by simpa using hc
   replace H:=yA hc H
   refine rg zA ?_
   simp only [go_sem]
   refine wN ?_
   refine sq zA ?_
   simp only [go_sem]
   repeat ((with_reducible refine aI ?_ ?_);exact an5)
   refine zK ?_
   obtain ⟨f2,H⟩:=nI H
   obtain ⟨r3,e4,H⟩:=bsi H
   refine rg ct102_0t0_ok ?_
   simp only [go_sem,Nat.reduceLT,Nat.reduceAdd,ct102_0t0_103,dA,f2,e4]
   repeat ((with_reducible refine aI ?_ ?_);exact an0)
   refine yM rfl trivial (fun hc=>?_) (fun hc=>?_)
   ·have hk5:(bLt r3 0)=true:=by simpa using hc
    replace H:=yA hc H
    refine rg zA ?_
    simp only [go_sem]
    refine ⟨_,(Option.some.inj H).symm,?_⟩
    refine zT ⟨[],?_,?_,by rfl,by rfl⟩
    ·simp [CvL,Cv]
    ·trivial
   have hk5:(bLt r3 0)=false:=by simpa using hc
   replace H:=zZ hc H
   refine rg zA ?_
   simp only [go_sem]
   refine ⟨_,(Option.some.inj H).symm,?_⟩
   refine zT ⟨[],?_,?_,by rfl,by rfl⟩
   ·simp [CvL,Cv]
   ·trivial
  ·try dsimp only at H ⊢
   try simp only [tp]
   try simp only [xS]
   refine zK ?_
   obtain ⟨f6,H⟩:=yT.1 H
   replace f6:=tU.1 f6
   replace f6:=fun g=>uQ.1 (f6 g)
   obtain ⟨f7,H⟩:=yT.1 H
   replace f7:=tU.1 f7
   refine rg ct102_0t0_ok ?_
   simp only [go_sem,Nat.reduceLT,Nat.reduceAdd,ct102_0t0_103,dA]
   repeat ((with_reducible refine And.intro ?_ ?_);focus (first|(with_reducible trivial)|omega|exact f6|exact f7|(intro g;have q:=f6 (by first|exact g|(rw [g];rfl)|simpa using g);first|exact q|exact ⟨q.1,q.2.1⟩|exact q.2.2|omega|exact ⟨g,q⟩|exact ⟨trivial,q⟩|exact ⟨g,q.1,q.2.1⟩|exact ⟨g,q.2.2⟩)|(intro g;have q:=f7 (by first|exact g|(rw [g];rfl)|simpa using g);first|exact q|exact ⟨q.1,q.2.1⟩|exact q.2.2|omega|exact ⟨g,q⟩|exact ⟨trivial,q⟩|exact ⟨g,q.1,q.2.1⟩|exact ⟨g,q.2.2⟩)|(intro g;(try have q0:=f6 (by first|exact g|(rw [g];rfl)|simpa using g));(try have q1:=f7 (by first|exact g|(rw [g];rfl)|simpa using g));and_intros<;>first|(with_reducible trivial)|assumption|exact nfc|(intro g2;rw [g,g2];rfl)|(intro g2;assumption)|(simp only [g,Bool.true_and,Bool.and_true,Bool.not_false,Bool.not_true];assumption)|grind)|(and_intros<;>first|(with_reducible trivial)|omega|assumption|exact nfc|first|exact rfl|exact trivial|exact qV|exact .inr rfl|exact .inl rfl|exact fun x hx=>absurd hx (by omega))|grind))
   refine rg zA ?_
   simp only [go_sem]
   obtain rfl:=Option.some.inj H
   first|rfl|simp only [Bool.and_false,Bool.false_and,Bool.and_true,Bool.true_and]
 ·cases hb
noncomputable def ct81t0:Ct:=tab [(102,yF jW)]
theorem ct81t0_ok:yZ Try.prog ct81t0:=zR ok102_0 <| zY
theorem ct81t0_102 (l:List AV) (h:List ABlk):ct81t0 102 l h=yF jW l h:=rfl
noncomputable def F81 (p0:TBuffer) (p1:Int):Option (Int × Bool) :=
 (F102_0 p0.List p1).bind fun r1=>some (r1.1,r1.2)
noncomputable def uF:List AV->AR
 | [v0,v1]=>.pure (aK 4 wC v0/\iK .i64 v1/\(F81 (zG (aL v0)) (iA v1)).isSome=true) (.tup [.int .i64 ((gt (F81 (zG (aL v0)) (iA v1))).1),.bool ((gt (F81 (zG (aL v0)) (iA v1))).2)])
 | _=>.fail
theorem ok81:wM Try.prog 81 (yF uF):=by
 refine wE uF (rs:=[.tmp 4,.tmp 5]) Try.func81 (by kernel_rfl) rfl rfl ?_
 intro l ob v hb hob
 unfold uF at hb
 split at hb
 ·rename_i v0 v1
  injection hb with q1 q2;subst q1 q2
  obtain ⟨hk0_0,hk1_0,hob⟩:=hob
  obtain ⟨r,H⟩:=oE.1 hob
  rw [H,yQ]
  have hw0:=wU hk0_0
  have hw1:=yI hk1_0
  generalize zG (aL v0)=p0 at H hw0
  generalize iA v1=p1 at H hw1
  refine ⟨[.agg [.int .i64 p0.Limit,.int .i64 p0.Stay,.ro 3 p0.List.length false (enR zC p0.List),.ro 43 p0.Group.length false (enR zE p0.Group)],.int .i64 p1],_,(fun E vs F=>yO hw0.1 F (fun vs F=>yO hw1.1 F (fun vs F=>F))),rfl,rfl,?_⟩
  rw [Try.ntmps81]
  simp only [lC,lN,Nat.reduceAdd,Nat.reduceSub,rS,rZ,aC,aN]
  unfold F81 at H
  try dsimp only at H
  refine sq zA ?_
  simp only [go_sem]
  refine zK ?_
  obtain ⟨r1,e2,H⟩:=bsi H
  refine rg ct81t0_ok ?_
  simp only [go_sem,Nat.reduceLeDiff,Nat.reduceLT,Nat.reduceAdd,ct81t0_102,jW,e2]
  repeat ((with_reducible refine aI ?_ ?_);exact an0)
  refine rg zA ?_
  simp only [go_sem]
  obtain rfl:=Option.some.inj H
  first|rfl|simp only [Bool.and_false,Bool.false_and,Bool.and_true,Bool.true_and]
 ·cases hb
noncomputable def F92 (p0:List TSleeper):Option (List TSleeper) :=
 need (capb 40 p0.length) <| some p0
noncomputable def gG:List AV->Nat->AR
 | [v0],s=>.heap (lK wG 3 v0/\(F92 (lA yK v0)).isSome=true) (.sl s 3 0 (gt (F92 (lA yK v0))).length false) [.row 57 3 (gt (F92 (lA yK v0))).length (enR zC (gt (F92 (lA yK v0))))]
 | _,_=>.fail
theorem ok92:wM Try.prog 92 (xU gG):=by
 refine uZ gG (rs:=[.tmp 2]) Try.func92 (by kernel_rfl) rfl rfl ?_
 intro l s ob v ns hb hob
 rcases hb with ⟨hb,rfl⟩|hb
 ·unfold gG at hb
  split at hb<;>cases hb
 ·unfold gG at hb
  split at hb
  ·rename_i v0
   injection hb with q1 q2 q3;subst q1 q2 q3
   obtain ⟨hk0,hob⟩:=hob
   obtain ⟨r,H⟩:=oE.1 hob
   rw [H,yQ]
   have hw0:=qX (fun r h=>tN h) hk0
   generalize lA yK v0=p0 at H hw0
   unfold F92 at H
   obtain ⟨f1,H⟩:=nC H
   obtain rfl:=Option.some.inj H
   refine ⟨[.ro 3 p0.length false (enR zC p0)],.sl 0 3 0 p0.length false,[.row 57 3 p0.length (enR zC p0)],(fun E vs F=>yO hw0.1 F (fun vs F=>F)),by simp only [ren,rnN_0],⟨⟨rfl,rfl,rfl,fun x y _ _=>eU _ (nfR_en zH)⟩,trivial⟩,?_⟩
   rw [Try.ntmps92]
   simp only [lC,lN,Nat.reduceAdd,Nat.reduceSub,rS,rZ,aC,aN]
   refine rg zA ?_
   have nfs:∀ x y,nref (enR zC p0 x y):=fun x y=>nfR_en zH
   generalize hc:enR zC p0=c at nfs hw0
   cases hn:p0.length with
   | zero =>
    simp only [go_sem,Nat.reduceLeDiff,Nat.reduceAdd]
    have hp:p0=[]:=List.eq_nil_of_length_eq_zero hn
    subst hp;subst hc
    refine ⟨?_,?_⟩
    ·refine ⟨[],?_,?_,[none],?_,?_,rfl⟩
     ·simp only [xP]
     ·simp only [qA]
     ·simp [fzV,Cv]
     ·simp only [fzH,cO,and_true,CvH,and_true];exact qO
    ·refine ⟨by omega,[],?_,?_,[some 1],?_,?_,rfl⟩
     ·simp only [Nat.add_zero,xP,inL,vW,geth,cond_false,true_and,Nat.zero_add,Nat.le_refl]
     ·simp only [dU,qA,and_self]
     ·simp [fzV,inL,Cv,zX]
     ·simp only [fzH,cO,fzB,inL,cond_false,and_true,CvH,and_true];exact CvB_row0 zH
   | succ m =>
    simp only [go_sem,Nat.reduceLeDiff,Nat.reduceAdd,reduceCtorEq]
    refine ⟨by omega,[],?_,?_,[some 1],?_,?_,rfl⟩
    ·simp only [xP,inL,vW,geth,cond_false,true_and,Nat.zero_add,Nat.le_refl]
    ·simp only [dU,qA,and_self]
    ·simp [fzV,inL,Cv,zX]
    ·simp only [fzH,cO,fzB,inL,cond_false,and_true,CvH,and_true];rw [← hn,← hc];exact zS zH rfl (fun x y hx hy=>by simp only [kF,Nat.not_lt_zero,if_false,Nat.sub_zero])
  ·cases hb
noncomputable def F63 (p0:TFrame):Option (TFrame) :=
 need (capb 1 p0.Body.length) <| some (TFrame.mk (THeader.mk p0.Head.Kind p0.Head.Sub p0.Head.ToDs p0.Head.FromDs p0.Head.More p0.Head.Retry p0.Head.Sleep p0.Head.MoreData p0.Head.Protected p0.Head.Duration (A6u8.mk p0.Head.A1.x0 p0.Head.A1.x1 p0.Head.A1.x2 p0.Head.A1.x3 p0.Head.A1.x4 p0.Head.A1.x5) (A6u8.mk p0.Head.A2.x0 p0.Head.A2.x1 p0.Head.A2.x2 p0.Head.A2.x3 p0.Head.A2.x4 p0.Head.A2.x5) (A6u8.mk p0.Head.A3.x0 p0.Head.A3.x1 p0.Head.A3.x2 p0.Head.A3.x3 p0.Head.A3.x4 p0.Head.A3.x5) (A6u8.mk p0.Head.A4.x0 p0.Head.A4.x1 p0.Head.A4.x2 p0.Head.A4.x3 p0.Head.A4.x4 p0.Head.A4.x5) p0.Head.Seq p0.Head.Frag p0.Head.Tid p0.Head.Ack p0.Head.Amsdu p0.Head.Eosp) ([] ++ p0.Body))
noncomputable def qG:List AV->List ABlk->ED
 | [v0],h=>.ed [] (aK 41 vT (roD (yP h []) v0)/\roDOb (yP h []) v0/\(F63 (zU (aL (roD (yP h []) v0)))).isSome=true) (.agg (.int .u8 (((gt (F63 (zU (aL (roD (yP h []) v0))))).Head).Kind)::.int .u8 (((gt (F63 (zU (aL (roD (yP h []) v0))))).Head).Sub)::.bool (((gt (F63 (zU (aL (roD (yP h []) v0))))).Head).ToDs)::.bool (((gt (F63 (zU (aL (roD (yP h []) v0))))).Head).FromDs)::.bool (((gt (F63 (zU (aL (roD (yP h []) v0))))).Head).More)::.bool (((gt (F63 (zU (aL (roD (yP h []) v0))))).Head).Retry)::.bool (((gt (F63 (zU (aL (roD (yP h []) v0))))).Head).Sleep)::.bool (((gt (F63 (zU (aL (roD (yP h []) v0))))).Head).MoreData)::.bool (((gt (F63 (zU (aL (roD (yP h []) v0))))).Head).Protected)::.int .i64 (((gt (F63 (zU (aL (roD (yP h []) v0))))).Head).Duration)::.int .u8 ((((gt (F63 (zU (aL (roD (yP h []) v0))))).Head).A1).x0)::.int .u8 ((((gt (F63 (zU (aL (roD (yP h []) v0))))).Head).A1).x1)::.int .u8 ((((gt (F63 (zU (aL (roD (yP h []) v0))))).Head).A1).x2)::.int .u8 ((((gt (F63 (zU (aL (roD (yP h []) v0))))).Head).A1).x3)::.int .u8 ((((gt (F63 (zU (aL (roD (yP h []) v0))))).Head).A1).x4)::.int .u8 ((((gt (F63 (zU (aL (roD (yP h []) v0))))).Head).A1).x5)::.int .u8 ((((gt (F63 (zU (aL (roD (yP h []) v0))))).Head).A2).x0)::.int .u8 ((((gt (F63 (zU (aL (roD (yP h []) v0))))).Head).A2).x1)::.int .u8 ((((gt (F63 (zU (aL (roD (yP h []) v0))))).Head).A2).x2)::.int .u8 ((((gt (F63 (zU (aL (roD (yP h []) v0))))).Head).A2).x3)::.int .u8 ((((gt (F63 (zU (aL (roD (yP h []) v0))))).Head).A2).x4)::.int .u8 ((((gt (F63 (zU (aL (roD (yP h []) v0))))).Head).A2).x5)::.int .u8 ((((gt (F63 (zU (aL (roD (yP h []) v0))))).Head).A3).x0)::.int .u8 ((((gt (F63 (zU (aL (roD (yP h []) v0))))).Head).A3).x1)::.int .u8 ((((gt (F63 (zU (aL (roD (yP h []) v0))))).Head).A3).x2)::.int .u8 ((((gt (F63 (zU (aL (roD (yP h []) v0))))).Head).A3).x3)::.int .u8 ((((gt (F63 (zU (aL (roD (yP h []) v0))))).Head).A3).x4)::.int .u8 ((((gt (F63 (zU (aL (roD (yP h []) v0))))).Head).A3).x5)::.int .u8 ((((gt (F63 (zU (aL (roD (yP h []) v0))))).Head).A4).x0)::.int .u8 ((((gt (F63 (zU (aL (roD (yP h []) v0))))).Head).A4).x1)::.int .u8 ((((gt (F63 (zU (aL (roD (yP h []) v0))))).Head).A4).x2)::.int .u8 ((((gt (F63 (zU (aL (roD (yP h []) v0))))).Head).A4).x3)::.int .u8 ((((gt (F63 (zU (aL (roD (yP h []) v0))))).Head).A4).x4)::.int .u8 ((((gt (F63 (zU (aL (roD (yP h []) v0))))).Head).A4).x5)::.int .i64 (((gt (F63 (zU (aL (roD (yP h []) v0))))).Head).Seq)::.int .i64 (((gt (F63 (zU (aL (roD (yP h []) v0))))).Head).Frag)::.int .i64 (((gt (F63 (zU (aL (roD (yP h []) v0))))).Head).Tid)::.int .u8 (((gt (F63 (zU (aL (roD (yP h []) v0))))).Head).Ack)::.bool (((gt (F63 (zU (aL (roD (yP h []) v0))))).Head).Amsdu)::.bool (((gt (F63 (zU (aL (roD (yP h []) v0))))).Head).Eosp)::.sl 0 1 0 (((gt (F63 (zU (aL (roD (yP h []) v0))))).Body).length) false::[])) [.row 5 1 (((gt (F63 (zU (aL (roD (yP h []) v0))))).Body).length) (enR xM ((gt (F63 (zU (aL (roD (yP h []) v0))))).Body))]
 | _,_=>.fail
theorem ok63:wM Try.prog 63 (edC qG):=by
 refine edit_fnV qG (rs:=[.cell 2 33]) Try.func63 (by kernel_rfl) rfl rfl ?_
 intro l h bs ob q0 g0 hb hob
 unfold qG at hb
 split at hb
 ·rename_i v0
  injection hb with q1 q2 q3 q4;subst q1 q2 q3 q4
  obtain ⟨hk0_0,hk0_1,hob⟩:=hob
  obtain ⟨r,H⟩:=oE.1 hob
  rw [H,yQ]
  have hw0:=gC hk0_0
  obtain ⟨p0,hp_p0⟩:∃ p0,p0=zU (aL (roD (yP h []) v0)):=⟨_,rfl⟩
  rw [← hp_p0] at H hw0
  refine ⟨[.agg (.int .u8 p0.Head.Kind::.int .u8 p0.Head.Sub::.bool p0.Head.ToDs::.bool p0.Head.FromDs::.bool p0.Head.More::.bool p0.Head.Retry::.bool p0.Head.Sleep::.bool p0.Head.MoreData::.bool p0.Head.Protected::.int .i64 p0.Head.Duration::.int .u8 p0.Head.A1.x0::.int .u8 p0.Head.A1.x1::.int .u8 p0.Head.A1.x2::.int .u8 p0.Head.A1.x3::.int .u8 p0.Head.A1.x4::.int .u8 p0.Head.A1.x5::.int .u8 p0.Head.A2.x0::.int .u8 p0.Head.A2.x1::.int .u8 p0.Head.A2.x2::.int .u8 p0.Head.A2.x3::.int .u8 p0.Head.A2.x4::.int .u8 p0.Head.A2.x5::.int .u8 p0.Head.A3.x0::.int .u8 p0.Head.A3.x1::.int .u8 p0.Head.A3.x2::.int .u8 p0.Head.A3.x3::.int .u8 p0.Head.A3.x4::.int .u8 p0.Head.A3.x5::.int .u8 p0.Head.A4.x0::.int .u8 p0.Head.A4.x1::.int .u8 p0.Head.A4.x2::.int .u8 p0.Head.A4.x3::.int .u8 p0.Head.A4.x4::.int .u8 p0.Head.A4.x5::.int .i64 p0.Head.Seq::.int .i64 p0.Head.Frag::.int .i64 p0.Head.Tid::.int .u8 p0.Head.Ack::.bool p0.Head.Amsdu::.bool p0.Head.Eosp::.ro 1 p0.Body.length false (enR xM p0.Body)::[])],[],rfl,⟨(EW_view hk0_1 hw0),trivial⟩,trivial,trivial,⟨(nfB_en nr_u8),trivial⟩,⟨noroB_en,trivial⟩,(by first|(simp only [noro,tC,and_self];done)|(simp only [noro,tC];and_intros<;>first|trivial|exact noro_bif (by simp only [noro]) (by simp only [noro])|(simp only [noro,tC,and_self]))),?_⟩
  rw [Try.ntmps63]
  simp only [lC,lN,Nat.reduceAdd,Nat.reduceSub,rS,rZ,aC,aN]
  unfold F63 at H
  try dsimp only at H
  refine sq zA ?_
  simp only [go_sem]
  refine zK ?_
  obtain ⟨f1,H⟩:=nC H
  refine rg zA ?_
  simp only [go_sem,Nat.reduceLeDiff,Nat.reduceLT,Nat.reduceAdd,f1]
  repeat ((with_reducible refine aI ?_ ?_);exact an1)
  refine sq zA ?_
  simp only [go_sem,Nat.reduceLT,Nat.reduceAdd]
  repeat ((with_reducible refine aI ?_ ?_);exact an5)
  refine rg zA ?_
  simp only [go_sem,Nat.reduceLT,Nat.reduceAdd]
  obtain rfl:=Option.some.inj H
  refine RetE_mk [] [some 3] ?_ ?_ ?_ ?_ (by rfl) (by rfl)
  ·simp only [go_sem]
   try exact at0
  ·simp only [go_sem]
   try exact at0
  ·simp only [go_sem]
   exact (by first|(simp [Cv,CvL,zX];done)|(simp [Cv,CvL,zX,yQ];omega))
  ·simp only [go_sem,CvH]
   exact zS nr_u8 cl (wW (f:=xM) [] p0.Body (wF (f:=xM) [] (fun _ _=>rfl) rfl) (fun _ _ _ _=>rfl))
 ·cases hb
noncomputable def ct93t0:Ct:=tab [(63,edC qG)]
theorem ct93t0_ok:yZ Try.prog ct93t0:=zR ok63 <| zY
theorem ct93t0_63 (l:List AV) (h:List ABlk):ct93t0 63 l h=edC qG l h:=rfl
noncomputable def cI (p0:List TStored) (v1_1:List TStored) (v1_2:Int):Option (Lp ((List TStored) × Int) ((List TStored) ⊕ (List TStored))) :=
 bif (bLt v1_2 (p0.length:Nat)) then (need (inb v1_2 p0.length) <| (F63 (eF ((gd p0 v1_2.toNat).Frame))).bind fun r3=>need (capb 120 (v1_1.length+1)) <| some (.next ((v1_1 ++ [(TStored.mk ((gd p0 v1_2.toNat).Cat) ((gd p0 v1_2.toNat).At) (eF r3))]),wr .i64 (v1_2+1)))) else (some (.done (.inl v1_1)))
noncomputable def F93 (p0:List TStored):Option (List TStored) :=
 lp (xC (fun s=>cI p0 s.1 s.2) ([],0)) (fun w1_3=>some w1_3) some
noncomputable def kG:List AV->Nat->AR
 | [v0],s=>.heap (lK xW 43 v0/\(F93 (lA yG v0)).isSome=true) (.sl s 43 0 ((gt (F93 (lA yG v0))).length) false) [.row 61 43 ((gt (F93 (lA yG v0))).length) (enR zE (gt (F93 (lA yG v0))))]
 | _,_=>.fail
theorem ok93:wM Try.prog 93 (xU kG):=by
 refine uZ kG (rs:=[.tmp 2]) Try.func93 (by kernel_rfl) rfl rfl ?_
 intro l s ob v ns hb hob
 rcases hb with ⟨hb,rfl⟩|hb
 ·unfold kG at hb
  split at hb<;>cases hb
 ·unfold kG at hb
  split at hb
  ·rename_i v0
   injection hb with q1 q2 q3;subst q1 q2 q3
   obtain ⟨hk0_0,hob⟩:=hob
   obtain ⟨r,H⟩:=oE.1 hob
   rw [H,yQ]
   have hw0:=qX (fun r h=>uY h) hk0_0
   generalize lA yG v0=p0 at H hw0
   refine ⟨[.ro 43 p0.length false (enR zE p0)],.sl 0 43 0 r.length false,[.row 61 43 r.length (enR zE r)],(fun E vs F=>yO hw0.1 F (fun vs F=>F)),by simp only [ren,rnN_0],⟨gD zV,trivial⟩,?_⟩
   rw [Try.ntmps93]
   simp only [lC,lN,Nat.reduceAdd,Nat.reduceSub,rS,rZ,aC,aN]
   unfold F93 at H
   try dsimp only at H
   refine sq zA ?_
   simp only [go_sem]
   refine zK ?_
   refine sq zA ?_
   simp only [go_sem]
   repeat ((with_reducible refine aI ?_ ?_);exact an0)
   refine wN ?_
   refine xX (fun s:(List TStored) × Int=>(.top::.top::.sl 0 43 0 s.1.length false::.top::.top::.ro 43 p0.length false (enR zE p0)::.int .i64 (p0.length:Nat)::.int .i64 s.2::tp 13 [])) (fun s=>[.row 61 43 s.1.length (enR zE s.1)]) (fun e:List TStored=>(.top::.top::.sl 0 43 0 e.length false::tp 18 [])) (fun e=>[.row 61 43 e.length (enR zE e)]) H ?_ (fun s o H hn1_1 hn2_1=>?_) (fun w1_3 H=>?_)
   ·refine zT ⟨[none],?_,?_,by rfl,by rfl⟩
    ·simp [CvL,Cv,tp]
    ·exact ⟨qO,trivial⟩
   ·obtain ⟨v1_1,v1_2⟩:=s
    unfold cI at H
    delta eF at H
    try dsimp only at H ⊢
    try simp only [tp]
    refine sq zA ?_
    simp only [go_sem]
    refine zK ?_
    refine condM' rfl trivial (fun hc=>?_) (fun hc=>?_)
    ·have hk1:(bLt v1_2 (p0.length:Nat))=false:=by simpa using hc
     replace H:=zZ hc H
     refine rg zA ?_
     simp only [go_sem]
     refine ⟨_,(Option.some.inj H).symm,?_⟩
     refine zT ⟨[some 0],?_,?_,by rfl,by rfl⟩
     ·simp [CvL,Cv,zX]
     ·exact ⟨zS zV cl (fun _ _ _ _=>rfl),trivial⟩
    have hk1:(bLt v1_2 (p0.length:Nat))=true:=by simpa using hc
    replace H:=yA hc H
    refine rg zA ?_
    simp only [go_sem]
    refine zK ?_
    refine wN ?_
    refine zK ?_
    obtain ⟨f2,H⟩:=nI H
    refine rg zA ?_
    simp only [go_sem,Nat.reduceLT,Nat.reduceAdd,f2]
    repeat ((with_reducible refine aI ?_ ?_);exact an5)
    refine zK ?_
    obtain ⟨r3,e4,H⟩:=bsi H
    refine rg ct93t0_ok ?_
    simp only [go_sem,Nat.reduceLT,Nat.reduceAdd,reduceCtorEq,ct93t0_63,qG,e4]
    repeat ((with_reducible refine aI ?_ ?_);exact an0)
    refine qZ ?_
    refine xQ zQ zA 2 ?_
    simp only [zM,tS,tZ,dS,dZ,go_sem,Nat.reduceLT,Nat.reduceAdd]
    repeat ((with_reducible refine aI ?_ ?_);exact an3)
    refine fzO [2] ?_ ?_
    ·simp only [go_sem,Nat.reduceBEq]
     try exact at0
    simp only [go_sem,Nat.reduceBEq,Nat.reduceAdd]
    obtain ⟨f5,H⟩:=nC H
    refine xQ zQ zA 3 ?_
    simp only [zM,tS,tZ,dS,dZ,go_sem,Nat.reduceLeDiff,Nat.reduceAdd,Nat.reduceBEq,f5]
    repeat ((with_reducible refine aI ?_ ?_);exact an1)
    refine wS ?_
    refine rg zA ?_
    simp only [go_sem]
    refine ⟨_,(Option.some.inj H).symm,?_⟩
    refine zT ⟨[some 4],?_,?_,by rfl,by rfl⟩
    ·simp [CvL,Cv,zX]
    ·exact ⟨zS zV cl (wW (f:=zE) v1_1 [(TStored.mk ((gd p0 v1_2.toNat).Cat) ((gd p0 v1_2.toNat).At) (eF r3))] (fun _ _ _ _=>rfl) (wF (f:=zE) [(TStored.mk ((gd p0 v1_2.toNat).Cat) ((gd p0 v1_2.toNat).At) (eF r3))] (fun _ _=>rfl) rfl)),trivial⟩
   ·try dsimp only at H ⊢
    try simp only [tp]
    try simp only [xS]
    refine sq zA ?_
    simp only [go_sem]
    refine rg zA ?_
    simp only [go_sem]
    obtain rfl:=Option.some.inj H
    refine ⟨[],?_,?_,[some 0],?_,?_,by rfl⟩
    ·simp only [go_sem]
    ·simp only [go_sem]
    ·simp [fzV,inL,Cv,zX]
     all_goals first|exact cl
    ·simp only [go_sem,CvH]
     exact zS zV cl (fun _ _ _ _=>rfl)
  ·cases hb
noncomputable def ct93_0t0:Ct:=tab [(63,edC qG)]
theorem ct93_0t0_ok:yZ Try.prog ct93_0t0:=zR ok63 <| zY
theorem ct93_0t0_63 (l:List AV) (h:List ABlk):ct93_0t0 63 l h=edC qG l h:=rfl
noncomputable def F93_0_L1 (p0:List TStored) (v1_1:List TStored) (v1_2:Int):Option (Lp ((List TStored) × Int) ((List TStored) ⊕ (List TStored))) :=
 bif (bLt v1_2 (p0.length:Nat)) then (need (inb v1_2 p0.length) <| (F63 (eF ((gd p0 v1_2.toNat).Frame))).bind fun r3=>need (capb 120 (v1_1.length+1)) <| some (.next ((v1_1 ++ [(TStored.mk ((gd p0 v1_2.toNat).Cat) ((gd p0 v1_2.toNat).At) (eF r3))]),wr .i64 (v1_2+1)))) else (some (.done (.inl v1_1)))
noncomputable def F93_0 (p0:List TStored):Option (List TStored) :=
 lp (xC (fun s=>F93_0_L1 p0 s.1 s.2) ([],0)) (fun w1_3=>some w1_3) some
noncomputable def qS:List AV->Nat->AR
 | [v0],_=>.pure (lK xW 43 v0/\(F93_0 (lA yG v0)).isSome=true) (.ro 43 ((gt (F93_0 (lA yG v0))).length) false (enR zE (gt (F93_0 (lA yG v0)))))
 | _,_=>.fail
theorem ok93_0:wM Try.prog 93 (xU qS):=by
 refine uZ qS (rs:=[.tmp 2]) Try.func93 (by kernel_rfl) rfl rfl ?_
 intro l s ob v ns hb hob
 rcases hb with ⟨hb,rfl⟩|hb
 ·unfold qS at hb
  split at hb
  ·rename_i v0
   injection hb with q1 q2;subst q1 q2
   obtain ⟨hk0_0,hob⟩:=hob
   obtain ⟨r,H⟩:=oE.1 hob
   rw [H,yQ]
   have hw0:=qX (fun r h=>uY h) hk0_0
   generalize lA yG v0=p0 at H hw0
   refine ⟨[.ro 43 p0.length false (enR zE p0)],.ro 43 r.length false (enR zE r),[],(fun E vs F=>yO hw0.1 F (fun vs F=>F)),by simp only [ren],trivial,?_⟩
   rw [Try.ntmps93]
   simp only [lC,lN,Nat.reduceAdd,Nat.reduceSub,rS,rZ,aC,aN]
   unfold F93_0 at H
   try dsimp only at H
   refine sq zA ?_
   simp only [go_sem]
   refine zK ?_
   refine sq zA ?_
   simp only [go_sem]
   repeat ((with_reducible refine aI ?_ ?_);exact an0)
   refine wN ?_
   refine xX (fun s:(List TStored) × Int=>(.top::.top::.sl 0 43 0 s.1.length false::.top::.top::.ro 43 p0.length false (enR zE p0)::.int .i64 (p0.length:Nat)::.int .i64 s.2::tp 13 [])) (fun s=>[.row 61 43 s.1.length (enR zE s.1)]) (fun e:List TStored=>(.top::.top::.sl 0 43 0 e.length false::tp 18 [])) (fun e=>[.row 61 43 e.length (enR zE e)]) H ?_ (fun s o H hn1_1 hn2_1=>?_) (fun w1_3 H=>?_)
   ·refine zT ⟨[none],?_,?_,by rfl,by rfl⟩
    ·simp [CvL,Cv,tp]
    ·exact ⟨qO,trivial⟩
   ·obtain ⟨v1_1,v1_2⟩:=s
    unfold F93_0_L1 at H
    delta eF at H
    try dsimp only at H ⊢
    try simp only [tp]
    refine sq zA ?_
    simp only [go_sem]
    refine zK ?_
    refine condM' rfl trivial (fun hc=>?_) (fun hc=>?_)
    ·have hk1:(bLt v1_2 (p0.length:Nat))=false:=by simpa using hc
     replace H:=zZ hc H
     refine rg zA ?_
     simp only [go_sem]
     refine ⟨_,(Option.some.inj H).symm,?_⟩
     refine zT ⟨[some 0],?_,?_,by rfl,by rfl⟩
     ·simp [CvL,Cv,zX]
     ·exact ⟨zS zV cl (fun _ _ _ _=>rfl),trivial⟩
    have hk1:(bLt v1_2 (p0.length:Nat))=true:=by simpa using hc
    replace H:=yA hc H
    refine rg zA ?_
    simp only [go_sem]
    refine zK ?_
    refine wN ?_
    refine zK ?_
    obtain ⟨f2,H⟩:=nI H
    refine rg zA ?_
    simp only [go_sem,Nat.reduceLT,Nat.reduceAdd,f2]
    repeat ((with_reducible refine aI ?_ ?_);exact an5)
    refine zK ?_
    obtain ⟨r3,e4,H⟩:=bsi H
    refine rg ct93_0t0_ok ?_
    simp only [go_sem,Nat.reduceLT,Nat.reduceAdd,reduceCtorEq,ct93_0t0_63,qG,e4]
    repeat ((with_reducible refine aI ?_ ?_);exact an0)
    refine qZ ?_
    refine xQ zQ zA 2 ?_
    simp only [zM,tS,tZ,dS,dZ,go_sem,Nat.reduceLT,Nat.reduceAdd]
    repeat ((with_reducible refine aI ?_ ?_);exact an3)
    refine fzO [2] ?_ ?_
    ·simp only [go_sem,Nat.reduceBEq]
     try exact at0
    simp only [go_sem,Nat.reduceBEq,Nat.reduceAdd]
    obtain ⟨f5,H⟩:=nC H
    refine xQ zQ zA 3 ?_
    simp only [zM,tS,tZ,dS,dZ,go_sem,Nat.reduceLeDiff,Nat.reduceAdd,Nat.reduceBEq,f5]
    repeat ((with_reducible refine aI ?_ ?_);exact an1)
    refine wS ?_
    refine rg zA ?_
    simp only [go_sem]
    refine ⟨_,(Option.some.inj H).symm,?_⟩
    refine zT ⟨[some 4],?_,?_,by rfl,by rfl⟩
    ·simp [CvL,Cv,zX]
    ·exact ⟨zS zV cl (wW (f:=zE) v1_1 [(TStored.mk ((gd p0 v1_2.toNat).Cat) ((gd p0 v1_2.toNat).At) (eF r3))] (fun _ _ _ _=>rfl) (wF (f:=zE) [(TStored.mk ((gd p0 v1_2.toNat).Cat) ((gd p0 v1_2.toNat).At) (eF r3))] (fun _ _=>rfl) rfl)),trivial⟩
   ·try dsimp only at H ⊢
    try simp only [tp]
    try simp only [xS]
    refine sq zA ?_
    simp only [go_sem]
    refine rg zA ?_
    simp only [go_sem]
    obtain rfl:=Option.some.inj H
    refine ⟨[0],?_,?_,[],?_,?_,rfl⟩
    ·simp only [go_sem]
     try exact at0
    ·simp only [go_sem]
     try exact at0
    ·simp only [go_sem]
     exact (xN (by first|rfl|simp) (fun _ _ _ _=>rfl))
    ·simp only [go_sem,CvH]
  ·cases hb
 ·unfold qS at hb
  split at hb<;>cases hb
noncomputable def ct65t0:Ct:=tab [(92,xU gG)]
theorem ct65t0_ok:yZ Try.prog ct65t0:=zR ok92 <| zY
theorem ct65t0_92 (l:List AV) (h:List ABlk):ct65t0 92 l h=xU gG l h:=rfl
noncomputable def ct65t1:Ct:=tab [(93,xU qS)]
theorem ct65t1_ok:yZ Try.prog ct65t1:=zR ok93_0 <| zY
theorem ct65t1_93 (l:List AV) (h:List ABlk):ct65t1 93 l h=xU qS l h:=rfl
noncomputable def ct65t2:Ct:=tab [(93,xU kG)]
theorem ct65t2_ok:yZ Try.prog ct65t2:=zR ok93 <| zY
theorem ct65t2_93 (l:List AV) (h:List ABlk):ct65t2 93 l h=xU kG l h:=rfl
noncomputable def cG (r1:List TSleeper) (v1_1:Int) (v1_2:List TSleeper):Option (Lp (Int × (List TSleeper)) ((List TSleeper) ⊕ (TBuffer))) :=
 bif (bLt v1_1 (r1.length:Nat)) then (need (inb v1_1 v1_2.length) <| (F93_0 ((gd v1_2 v1_1.toNat).Held)).bind fun r5=>need (inb v1_1 v1_2.length) <| some (.next (wr .i64 (v1_1+1),(v1_2.set v1_1.toNat (TSleeper.mk ((gd v1_2 v1_1.toNat).Aid) ((gd v1_2 v1_1.toNat).Asleep) r5))))) else (some (.done (.inl v1_2)))
noncomputable def F65 (p0:TBuffer):Option (TBuffer) :=
 (F92 p0.List).bind fun r1=>lp (xC (fun s=>cG r1 s.1 s.2) (0,r1)) (fun w1_3=>(F93 p0.Group).bind fun r8=>some (TBuffer.mk p0.Limit p0.Stay w1_3 r8)) some
noncomputable def vX:List AV->Nat->AR
 | [v0],s=>.heap (aK 4 wC v0/\(F65 (zG (aL v0))).isSome=true) (.agg [.int .i64 ((gt (F65 (zG (aL v0)))).Limit),.int .i64 ((gt (F65 (zG (aL v0)))).Stay),.sl s 3 0 (((gt (F65 (zG (aL v0)))).List).length) false,.sl (s+1) 43 0 (((gt (F65 (zG (aL v0)))).Group).length) false]) [.row 57 3 (((gt (F65 (zG (aL v0)))).List).length) (enR zC ((gt (F65 (zG (aL v0)))).List)),.row 61 43 (((gt (F65 (zG (aL v0)))).Group).length) (enR zE ((gt (F65 (zG (aL v0)))).Group))]
 | _,_=>.fail
theorem ok65:wM Try.prog 65 (xU vX):=by
 refine uZ vX (rs:=[.cell 2 25]) Try.func65 (by kernel_rfl) rfl rfl ?_
 intro l s ob v ns hb hob
 rcases hb with ⟨hb,rfl⟩|hb
 ·unfold vX at hb
  split at hb<;>cases hb
 ·unfold vX at hb
  split at hb
  ·rename_i v0
   injection hb with q1 q2 q3;subst q1 q2 q3
   obtain ⟨hk0_0,hob⟩:=hob
   obtain ⟨r,H⟩:=oE.1 hob
   rw [H,yQ]
   have hw0:=wU hk0_0
   generalize zG (aL v0)=p0 at H hw0
   refine ⟨[.agg [.int .i64 p0.Limit,.int .i64 p0.Stay,.ro 3 p0.List.length false (enR zC p0.List),.ro 43 p0.Group.length false (enR zE p0.Group)]],.agg [.int .i64 r.Limit,.int .i64 r.Stay,.sl 0 3 0 r.List.length false,.sl 1 43 0 r.Group.length false],[.row 57 3 r.List.length (enR zC r.List),.row 61 43 r.Group.length (enR zE r.Group)],(fun E vs F=>yO hw0.1 F (fun vs F=>F)),by simp only [ren,uS,rnN_0,rnN_s,Nat.zero_add],⟨gD zH,gD zV,trivial⟩,?_⟩
   rw [Try.ntmps65]
   simp only [lC,lN,Nat.reduceAdd,Nat.reduceSub,rS,rZ,aC,aN]
   unfold F65 at H
   try dsimp only at H
   refine sq zA ?_
   simp only [go_sem]
   refine zK ?_
   obtain ⟨r1,e2,H⟩:=bsi H
   refine rg ct65t0_ok ?_
   simp only [go_sem,Nat.reduceLeDiff,Nat.reduceLT,Nat.reduceAdd,ct65t0_92,gG,e2]
   repeat ((with_reducible refine aI ?_ ?_);exact an0)
   refine zK ?_
   refine sq zA ?_
   simp only [go_sem,Nat.reduceLeDiff,Nat.reduceLT,Nat.reduceAdd]
   repeat ((with_reducible refine aI ?_ ?_);exact an0)
   refine wN ?_
   refine xX (fun s:Int × (List TSleeper)=>(.top::.ptr 0 0 0 0::.ptr 1 0 0 0::tp 7 (.int .i64 (r1.length:Nat)::.int .i64 s.1::tp 20 []))) (fun s=>[.lit 25 [.int .i64 p0.Limit,.int .i64 p0.Stay,.sl 3 3 0 s.2.length false,.ro 43 p0.Group.length false (enR zE p0.Group)],.lit 25 [.int .i64 0,.int .i64 0,.ro 0 0 true (fun _ _=>.top),.ro 0 0 true (fun _ _=>.top)],.dead,.row 57 3 s.2.length (enR zC s.2)]) (fun e:List TSleeper=>(.top::.ptr 0 0 0 0::.ptr 1 0 0 0::tp 29 [])) (fun e=>[.lit 25 [.int .i64 p0.Limit,.int .i64 p0.Stay,.sl 3 3 0 e.length false,.ro 43 p0.Group.length false (enR zE p0.Group)],.lit 25 [.int .i64 0,.int .i64 0,.ro 0 0 true (fun _ _=>.top),.ro 0 0 true (fun _ _=>.top)],.dead,.row 57 3 e.length (enR zC e)]) H ?_ (fun s o H hn1_1 hn2_1=>?_) (fun w1_3 H=>?_)
   ·refine zT ⟨[some 0,some 1,some 2,some 2],?_,?_,by rfl,by rfl⟩
    ·simp [CvL,Cv,zX,tp]
    ·exact ⟨cv,cv,zD,zS zH cl (fun _ _ _ _=>rfl),trivial⟩
   ·obtain ⟨v1_1,v1_2⟩:=s
    unfold cG at H
    try dsimp only at H ⊢
    try simp only [tp]
    refine sq zA ?_
    simp only [go_sem,Nat.reduceAdd]
    refine zK ?_
    refine condM' rfl trivial (fun hc=>?_) (fun hc=>?_)
    ·have hk3:(bLt v1_1 (r1.length:Nat))=false:=by simpa using hc
     replace H:=zZ hc H
     refine rg zA ?_
     simp only [go_sem]
     refine ⟨_,(Option.some.inj H).symm,?_⟩
     refine zT ⟨[some 0,some 1,some 2,some 3],?_,?_,by rfl,by rfl⟩
     ·simp [CvL,Cv,zX]
     ·exact ⟨cv,cv,zD,zS zH cl (fun _ _ _ _=>rfl),trivial⟩
    have hk3:(bLt v1_1 (r1.length:Nat))=true:=by simpa using hc
    replace H:=yA hc H
    refine rg zA ?_
    simp only [go_sem]
    refine zK ?_
    refine wN ?_
    refine sq zA ?_
    simp only [go_sem]
    obtain ⟨f4,H⟩:=nI H
    obtain ⟨r5,e6,H⟩:=bsi H
    obtain ⟨f7,H⟩:=nI H
    refine yL zQ ct65t1_ok 0 (by kernel_rfl) (by kernel_rfl) ?_
    intro an han
    simp only [wK,xR,vL,xrD,xoD,vM,wY,List.append_nil,xA,refs,vF,mask,xZ,place,xI,wA,xK,hit,inL,xD,ren,nrH,nrB,rZ,Nat.sub_self,Nat.add_zero,Nat.zero_add,Nat.reduceSub,Nat.lt_add_one,go_sem,Nat.reduceLeDiff,Nat.reduceLT,Nat.reduceAdd,Nat.reduceSub,Nat.reduceBEq,ct65t1_93,qS,f4,e6]
    repeat ((with_reducible refine aI ?_ ?_);exact an4)
    refine rg zA ?_
    simp only [go_sem]
    refine ⟨_,(Option.some.inj H).symm,?_⟩
    refine zT ⟨[some 0,some 1,some 2,some 3],?_,?_,by rfl,by rfl⟩
    ·simp [CvL,Cv,zX]
    ·exact ⟨cv,cv,zD,zS zH cl (tD (f:=zC) v1_2 v1_1.toNat 2 (TSleeper.mk ((gd v1_2 v1_1.toNat).Aid) ((gd v1_2 v1_1.toNat).Asleep) r5) (fun _ _ _ _=>rfl) (fun y hy=>match y,hy with|0,_=>rfl|1,_=>rfl|2,_=>rfl|(y+3),h=>absurd h nlt)),trivial⟩
   ·try dsimp only at H ⊢
    try simp only [tp]
    try simp only [xS]
    refine zK ?_
    obtain ⟨r8,e9,H⟩:=bsi H
    refine rg ct65t2_ok ?_
    simp only [go_sem,Nat.reduceLT,Nat.reduceAdd,ct65t2_93,kG,e9]
    repeat ((with_reducible refine aI ?_ ?_);exact an0)
    refine sq zA ?_
    simp only [go_sem,Nat.reduceLT,Nat.reduceAdd]
    repeat ((with_reducible refine aI ?_ ?_);exact an5)
    refine rg zA ?_
    simp only [go_sem,Nat.reduceLT,Nat.reduceAdd]
    obtain rfl:=Option.some.inj H
    refine ⟨[],?_,?_,[some 3,some 4],?_,?_,by rfl⟩
    ·simp only [go_sem]
    ·simp only [go_sem]
    ·simp [fzV,fzL,inL,Cv,CvL,zX]
     all_goals first|exact cl|exact cl
    ·simp only [go_sem,CvH]
     exact ⟨zS zH cl (fun _ _ _ _=>rfl),zS zV cl (fun _ _ _ _=>rfl)⟩
  ·cases hb
theorem ext82:ExtOk Try.prog 104 ovC2:=ov_ext2 (t:=22) (tr:=4) (e:=57) (z:=3) Try.func104 (by kernel_rfl) (by kernel_rfl) (by kernel_rfl) (by kernel_rfl) (by kernel_rfl) (by kernel_rfl)
def ctI82:Ct:=tab [(104,ovC2)]
theorem ctI82_ok:yZ Try.prog ctI82:=tab_ext ext82 zY
theorem ctI82_eq (l:List AV) (h:List ABlk):ctI82 104 l h=ovC2 l h:=rfl
theorem tik82_0:tintk Try.prog 2=true:=by kernel_rfl
theorem tik82_1:tintk Try.prog 22=false:=by kernel_rfl
set_option maxHeartbeats 8000000 in
theorem okF82:wM Try.prog 82 (insF 57 3):=by
 refine edit1_fn (sh:=fun _=>none) (fun _ _ h=>by cases h) ctI82_ok (insF 57 3) (rs:=[.tmp 6]) Try.func82 (by kernel_rfl) rfl rfl insF_np ?_
 intro E h l vs ob v h' H F hc hob
 unfold insF at hc
 split at hc
 ·rename_i b es' i n nl p b2 es3 i2 m nl2
  split at hc
  ·rename_i e' es2 NN c hb
   split at hc
   ·rename_i e4 es4 N2 d hb2
    injection hc with q1 q2 q3
    subst q1 q2 q3
    obtain ⟨rfl,rfl,rfl,rfl,rfl,hbb,hN,hN2,hpn,hmm,hbig,hfl,hfl2⟩:=hob
    obtain ⟨vs⟩:=vs
    match vs,F.1 with
    | [u1,u2,u3],_ =>
     have hne:geth h b ≠ .dead:=by rw [hb];exact fun e=>by cases e
     obtain ⟨cap,hcap,hV⟩:=csl_of_sl (only_sl (F.2 0 _ u1 rfl rfl))
     have g2:=F.2 1 _ u2 rfl rfl
     have g3:=only_ro (b:=b) H (F.2 2 _ u3 rfl rfl) hb2 hne hbb hN2 fun x y hx hy=>(hfl2 x y hx hy).1
     obtain rfl:=vP g2
     refine ⟨b,57,3,NN,c,n+m,dX i p m c (vC i2 d),[.csl 0 3 i n cap,.int .i64 p,.ro 3 m nl2 (vC i2 d)],hb,fun x y hx hy=>(hfl x y hx hy).1,fun x y hx hy=>?_,rfl,rfl,?_,?_⟩
     ·unfold dX vC
      split
      ·exact hfl _ _ (by omega) hy
      ·split
       ·exact hfl2 _ _ (by omega) hy
       ·exact hfl _ _ (by omega) hy
     ·refine ⟨rfl,fun j a w ha hw=>?_⟩
      match j with
      | 0=>simp at ha hw;subst ha hw;exact hV
      | 1=>simp at ha hw;subst ha hw;exact .int _ _
      | 2=>simp at ha hw;subst ha hw;exact g3
      | j+3=>simp at ha
     ·rw [Try.ntmps82]
      show wpC _ _ _ _ _ (.csl 0 3 i n cap::.int .i64 p::.ro 3 m nl2 (vC i2 d)::.top::.top::.top::.top::.top::.top::.top::.top::.top::.top::.top::.top::.top::.top::.top::.top::.top::.top::.top::.top::.top::.top::.top::.top::.top::.top::.top::.top::.top::.top::.top::.top::.top::.top::.top::.top::.top::.top::.top::.top::.top::.top::.top::.top::.top::.top::.top::.top::.top::.top::.top::.top::.top::.top::.top::.top::.top::.top::.top::.top::.top::.top::.top::.top::.top::.top::.top::.top::.top::.top::.top::.top::.top::.top::.top::.top::.top::.top::.top::.top::.top::.top::.top::.top::.top::.top::.top::.top::.top::.top::.top::.top::[]) _
      have hm0:0 < m:=by omega
      have hm1:((m:Int) == 0)=false:=by simp;omega
      rcases Nat.lt_or_ge p n with hp|hp
      ·have hpq:((p:Int) == (n:Int))=false:=by simp;omega
       have w1:wr .i64 ((n:Int)+(m:Int))=((n+m:Nat):Int):=by unfold wr;rw [IntWalk.i64_in _ (by omega)];omega
       have w2:wr .i64 (((n+m:Nat):Int) - (p:Int))=((n+m - p:Nat):Int):=by unfold wr;rw [IntWalk.i64_in _ (by omega)];omega
       have w3:wr .i64 ((p:Int)+(m:Int))=((p+m:Nat):Int):=by unfold wr;rw [IntWalk.i64_in _ (by omega)];omega
       have hpm:p+(n+m - p)=n+m:=by omega
       have mn1:min m (n+m - p)=m:=by omega
       have mn2:min (n - p) (n+m - (p+m))=n - p:=by omega
       have mn3:min (n+m - p) (n+m - (p+m))=n - p:=by omega
       have fin:∀ x y,x < n+m->dX i p m c (vC i2 d) x y=dX i p m c (vC i2 d) x y:=fun _ _ _=>rfl
       by_cases hroom:n+m <= cap
       ·have hg:decide ((cap:Int) < ((n+m:Nat):Int))=false:=by simp;omega
        simp only [go_sem,Nat.reduceLeDiff,Nat.reduceAdd,reduceCtorEq,qH,tO,lenS,cutS,evCap,jJ,tik82_1,bEq,Option.isNone_some,Option.isSome_none,Option.isNone_none,Int.toNat_natCast,hm1,hpq,hg,Nat.sub_zero,bLt,w1,w2,w3,hpm,ctI82_eq,ovC2,slB,Nat.add_zero,Nat.zero_add]
        refine ⟨by omega,by omega,by omega,by omega,?_⟩
        refine yL (sh:=fun _=>none) (fun _ _ h=>by cases h) ctI82_ok 0 (by kernel_rfl) (by kernel_rfl) ?_
        intro an han
        simp only [go_sem,Nat.reduceLeDiff,Nat.reduceAdd,Nat.reduceSub,qH,tO,lenS,cutS,Option.isSome_none,Option.isNone_none,Int.toNat_natCast,w3,mn1,mn3,Nat.add_zero,Nat.zero_add,wK,xR,vL,xA,refs,vF,mask,xZ,place,xI,wA,xK,hit,inL,xD,ren,nrH,nrB,rZ,Bool.or_false,Bool.or_true,Bool.true_or,Bool.false_and,Nat.sub_self,Nat.add_zero,Nat.zero_add,Nat.reduceSub,Nat.lt_add_one]
        refine ⟨by omega,by omega,by omega,by omega,by omega,?_⟩
        refine conv_move (b:=0) rfl (by omega) (by omega) fun x y hx hy=>?_
        unfold jR dX vC
        by_cases hxp:x < p
        ·rw [if_neg (by omega),if_neg (by omega),if_pos hxp]
        ·rw [if_neg hxp]
         by_cases hxm:x < p+m
         ·rw [if_pos (by omega),if_pos hxm]
          congr 1
          omega
         ·rw [if_neg (by omega),if_pos (by omega),if_neg hxm]
          congr 1
          omega
       ·have hg:decide ((cap:Int) < ((n+m:Nat):Int))=true:=by simp;omega
        have hd:decide (cap < n+m)=true:=by simp;omega
        simp only [go_sem,Nat.reduceLeDiff,Nat.reduceAdd,reduceCtorEq,qH,tO,lenS,cutS,evCap,jJ,tik82_1,bEq,Option.isNone_some,Option.isSome_none,Option.isNone_none,Int.toNat_natCast,hm1,hpq,hg,hd,Nat.sub_zero,bLt,w1,w2,w3,hpm,mn1,ctI82_eq,ovC2,slB,Nat.add_zero,Nat.zero_add]
        refine ⟨by omega,by omega,by omega,by omega,by omega,?_⟩
        refine yL (sh:=fun _=>none) (fun _ _ h=>by cases h) ctI82_ok 0 (by kernel_rfl) (by kernel_rfl) ?_
        intro an han
        simp only [go_sem,Nat.reduceLeDiff,Nat.reduceAdd,Nat.reduceSub,Nat.reduceBEq,qH,tO,lenS,cutS,Option.isSome_none,Option.isNone_none,Int.toNat_natCast,w3,mn2,Nat.add_zero,Nat.zero_add,wK,xR,vL,xA,refs,vF,mask,xZ,place,xI,wA,xK,hit,inL,xD,ren,nrH,nrB,rZ,Bool.or_false,Bool.or_true,Bool.true_or,Bool.false_and,Nat.sub_self,Nat.add_zero,Nat.zero_add,Nat.reduceSub,Nat.lt_add_one]
        refine ⟨by omega,by omega,by omega,?_⟩
        refine conv_two (by omega) fun x y hx hy=>?_
        unfold jR kF dX vC
        by_cases hxp:x < p
        ·rw [if_neg (by omega),if_neg (by omega),if_pos hxp,if_pos hxp]
        ·by_cases hxm:x < p+m
         ·rw [if_neg (by omega),if_pos (by omega),if_neg hxp,if_pos hxm]
         ·rw [if_pos (by omega),if_neg hxp,if_neg hxm]
          congr 1
          omega
      ·obtain rfl:p=n:=by omega
       have hpq:((p:Int) == (p:Int))=true:=by simp
       by_cases hroom:p+m <= cap
       ·have hd1:decide (p+m <= cap)=true:=by simpa using hroom
        simp only [go_sem,Nat.reduceLeDiff,Nat.reduceAdd,qH,tO,lenS,cutS,evCap,jJ,tik82_1,bEq,Option.isNone_some,Option.isSome_none,Option.isNone_none,Int.toNat_natCast,hm1,hpq,hd1,Nat.sub_zero]
        refine ⟨by omega,by omega,?_⟩
        refine conv_move (b:=0) rfl (by omega) (by omega) fun x y hx hy=>?_
        unfold jR dX
        by_cases hxp:x < p
        ·rw [if_neg (by omega),if_pos hxp]
        ·rw [if_pos (by omega),if_neg hxp,if_pos (by omega)]
         congr 1
         omega
       ·have hd1:decide (p+m <= cap)=false:=by simpa using hroom
        simp only [go_sem,Nat.reduceLeDiff,Nat.reduceAdd,qH,tO,lenS,cutS,evCap,jJ,tik82_1,bEq,Option.isNone_some,Option.isSome_none,Option.isNone_none,Int.toNat_natCast,hm1,hpq,hd1,Nat.sub_zero]
        refine ⟨by omega,by omega,?_⟩
        refine conv_two (Nat.le_refl _) fun x y hx hy=>?_
        unfold kF dX vC
        by_cases hxp:x < p
        ·rw [if_pos hxp,if_pos hxp]
        ·rw [if_neg hxp,if_neg hxp,if_pos (by omega)]
   ·cases hc
  ·cases hc
 ·cases hc
theorem ok82:wM Try.prog 82 (insN 57 3):=insN_ok okF82
noncomputable def ct40t0:Ct:=tab [(18,yF wP)]
theorem ct40t0_ok:yZ Try.prog ct40t0:=zR ok18 <| zY
theorem ct40t0_18 (l:List AV) (h:List ABlk):ct40t0 18 l h=yF wP l h:=rfl
noncomputable def ct40t1:Ct:=tab [(81,yF uF)]
theorem ct40t1_ok:yZ Try.prog ct40t1:=zR ok81 <| zY
theorem ct40t1_81 (l:List AV) (h:List ABlk):ct40t1 81 l h=yF uF l h:=rfl
noncomputable def ct40t2:Ct:=tab [(65,xU vX)]
theorem ct40t2_ok:yZ Try.prog ct40t2:=zR ok65 <| zY
theorem ct40t2_65 (l:List AV) (h:List ABlk):ct40t2 65 l h=xU vX l h:=rfl
noncomputable def ct40t3:Ct:=tab [(82,insN 57 3)]
theorem ct40t3_ok:yZ Try.prog ct40t3:=zR ok82 <| zY
theorem ct40t3_82 (l:List AV) (h:List ABlk):ct40t3 82 l h=insN 57 3 l h:=rfl
noncomputable def F40 (p0:TBuffer) (p1:Int):Option (TBuffer × Int) :=
 (F18 p0).bind fun r1=>bif (!bEq r1 0) then (some ((TBuffer.mk 0 0 [] []),r1)) else (bif ((bLt p1 1) || (bLt 255 p1)) then (some ((TBuffer.mk 0 0 [] []),2)) else ((F81 p0 p1).bind fun r5=>bif r5.2 then (some ((TBuffer.mk 0 0 [] []),20)) else (bif (bEq (p0.List.length:Nat) 32) then (some ((TBuffer.mk 0 0 [] []),22)) else ((F65 p0).bind fun r9=>need (insb r5.1 r9.List.length) <| (some ([(TSleeper.mk p1 false ([]:List TStored))])).bind fun w12=>(some (insL r9.List r5.1 ([(TSleeper.mk p1 false ([]:List TStored))]))).bind fun w14=>some ((TBuffer.mk r9.Limit r9.Stay w14 r9.Group),0)))))
noncomputable def fO:List AV->Nat->AR
 | [v0,v1],_=>.pure (aK 4 wC v0/\iK .i64 v1/\(F40 (zG (aL v0)) (iA v1)).isSome=true) (.tup [.agg [.int .i64 (((gt (F40 (zG (aL v0)) (iA v1))).1).Limit),.int .i64 (((gt (F40 (zG (aL v0)) (iA v1))).1).Stay),.ro 3 ((((gt (F40 (zG (aL v0)) (iA v1))).1).List).length) false (enR zC (((gt (F40 (zG (aL v0)) (iA v1))).1).List)),.ro 43 ((((gt (F40 (zG (aL v0)) (iA v1))).1).Group).length) false (enR zE (((gt (F40 (zG (aL v0)) (iA v1))).1).Group))],.int .i64 ((gt (F40 (zG (aL v0)) (iA v1))).2)])
 | _,_=>.fail
theorem ok40:wM Try.prog 40 (xU fO):=by
 refine uZ fO (rs:=[.cell 4 25,.tmp 5]) Try.func40 (by kernel_rfl) rfl rfl ?_
 intro l s ob v ns hb hob
 rcases hb with ⟨hb,rfl⟩|hb
 ·unfold fO at hb
  split at hb
  ·rename_i v0 v1
   injection hb with q1 q2;subst q1 q2
   obtain ⟨hk0_0,hk1_0,hob⟩:=hob
   obtain ⟨r,H⟩:=oE.1 hob
   rw [H,yQ]
   have hw0:=wU hk0_0
   have hw1:=yI hk1_0
   generalize zG (aL v0)=p0 at H hw0
   generalize iA v1=p1 at H hw1
   refine ⟨[.agg [.int .i64 p0.Limit,.int .i64 p0.Stay,.ro 3 p0.List.length false (enR zC p0.List),.ro 43 p0.Group.length false (enR zE p0.Group)],.int .i64 p1],.tup [.agg [.int .i64 r.1.Limit,.int .i64 r.1.Stay,.ro 3 r.1.List.length false (enR zC r.1.List),.ro 43 r.1.Group.length false (enR zE r.1.Group)],.int .i64 r.2],[],(fun E vs F=>yO hw0.1 F (fun vs F=>yO hw1.1 F (fun vs F=>F))),by simp only [ren,uS],trivial,?_⟩
   rw [Try.ntmps40]
   simp only [lC,lN,Nat.reduceAdd,Nat.reduceSub,rS,rZ,aC,aN]
   unfold F40 at H
   try dsimp only at H
   refine sq zA ?_
   simp only [go_sem]
   refine zK ?_
   refine zK ?_
   obtain ⟨r1,e2,H⟩:=bsi H
   refine rg ct40t0_ok ?_
   simp only [go_sem,Nat.reduceLT,Nat.reduceAdd,ct40t0_18,wP,e2]
   repeat ((with_reducible refine aI ?_ ?_);exact an0)
   refine sq zA ?_
   simp only [go_sem]
   refine yM rfl trivial (fun hc=>?_) (fun hc=>?_)
   ·have hk3:(bEq r1 0)=false:=by simpa using hc
    replace H:=yA hc H
    refine sq zA ?_
    simp only [go_sem,Nat.reduceAdd]
    repeat ((with_reducible refine aI ?_ ?_);exact an5)
    refine rg zA ?_
    simp only [go_sem,Nat.reduceLT,Nat.reduceAdd]
    obtain rfl:=Option.some.inj H
    refine ⟨[0,1],?_,?_,[],?_,?_,rfl⟩
    ·simp only [go_sem]
     try exact at0
    ·simp only [go_sem]
     try exact at0
    ·simp only [go_sem]
     exact yY (zB (yV (zB zF (zB zF (zB (zJ (α:=TSleeper)) (zB (zJ (α:=TStored)) zO))))) (zB zF zO))
    ·simp only [go_sem,CvH]
   have hk3:(bEq r1 0)=true:=by simpa using hc
   replace H:=zZ hc H
   refine rg zA ?_
   simp only [go_sem]
   refine zK ?_
   refine sq zA ?_
   simp only [go_sem]
   repeat ((with_reducible refine aI ?_ ?_);exact an5)
   refine yM rfl trivial (fun hc=>?_) (fun hc=>?_)
   ·have hk4:((bLt p1 1) || (bLt 255 p1))=true:=by simpa using hc
    replace H:=yA hc H
    refine sq zA ?_
    simp only [go_sem,Nat.reduceAdd]
    repeat ((with_reducible refine aI ?_ ?_);exact an5)
    refine rg zA ?_
    simp only [go_sem,Nat.reduceLT,Nat.reduceAdd]
    obtain rfl:=Option.some.inj H
    refine ⟨[0,1],?_,?_,[],?_,?_,rfl⟩
    ·simp only [go_sem]
     try exact at0
    ·simp only [go_sem]
     try exact at0
    ·simp only [go_sem]
     exact yY (zB (yV (zB zF (zB zF (zB (zJ (α:=TSleeper)) (zB (zJ (α:=TStored)) zO))))) (zB zF zO))
    ·simp only [go_sem,CvH]
   have hk4:((bLt p1 1) || (bLt 255 p1))=false:=by simpa using hc
   replace H:=zZ hc H
   refine rg zA ?_
   simp only [go_sem]
   refine zK ?_
   obtain ⟨r5,e6,H⟩:=bsi H
   refine rg ct40t1_ok ?_
   simp only [go_sem,Nat.reduceLT,Nat.reduceAdd,ct40t1_81,uF,e6]
   repeat ((with_reducible refine aI ?_ ?_);exact an0)
   refine zK ?_
   refine wN ?_
   refine sq zA ?_
   simp only [go_sem]
   refine yM rfl trivial (fun hc=>?_) (fun hc=>?_)
   ·have hk7:(r5.2)=true:=by simpa using hc
    replace H:=yA hc H
    refine sq zA ?_
    simp only [go_sem,Nat.reduceAdd]
    repeat ((with_reducible refine aI ?_ ?_);exact an5)
    refine rg zA ?_
    simp only [go_sem,Nat.reduceLT,Nat.reduceAdd]
    obtain rfl:=Option.some.inj H
    refine ⟨[0,1],?_,?_,[],?_,?_,rfl⟩
    ·simp only [go_sem]
     try exact at0
    ·simp only [go_sem]
     try exact at0
    ·simp only [go_sem]
     exact yY (zB (yV (zB zF (zB zF (zB (zJ (α:=TSleeper)) (zB (zJ (α:=TStored)) zO))))) (zB zF zO))
    ·simp only [go_sem,CvH]
   have hk7:(r5.2)=false:=by simpa using hc
   replace H:=zZ hc H
   refine sq zA ?_
   simp only [go_sem,Nat.reduceLeDiff,Nat.reduceLT,Nat.reduceAdd]
   repeat ((with_reducible refine aI ?_ ?_);exact an0)
   refine yM rfl trivial (fun hc=>?_) (fun hc=>?_)
   ·have hk8:(bEq (p0.List.length:Nat) 32)=true:=by simpa using hc
    replace H:=yA hc H
    refine sq zA ?_
    simp only [go_sem,Nat.reduceAdd]
    repeat ((with_reducible refine aI ?_ ?_);exact an5)
    refine rg zA ?_
    simp only [go_sem,Nat.reduceLT,Nat.reduceAdd]
    obtain rfl:=Option.some.inj H
    refine ⟨[0,1],?_,?_,[],?_,?_,rfl⟩
    ·simp only [go_sem]
     try exact at0
    ·simp only [go_sem]
     try exact at0
    ·simp only [go_sem]
     exact yY (zB (yV (zB zF (zB zF (zB (zJ (α:=TSleeper)) (zB (zJ (α:=TStored)) zO))))) (zB zF zO))
    ·simp only [go_sem,CvH]
   have hk8:(bEq (p0.List.length:Nat) 32)=false:=by simpa using hc
   replace H:=zZ hc H
   refine rg zA ?_
   simp only [go_sem]
   refine zK ?_
   obtain ⟨r9,e10,H⟩:=bsi H
   refine rg ct40t2_ok ?_
   simp only [go_sem,Nat.reduceLT,Nat.reduceAdd,ct40t2_65,vX,e10]
   repeat ((with_reducible refine aI ?_ ?_);exact an0)
   refine zK ?_
   refine qZ ?_
   refine xQ zQ zA 5 ?_
   simp only [zM,tS,tZ,dS,dZ,go_sem,Nat.reduceLeDiff,Nat.reduceLT,Nat.reduceAdd]
   repeat ((with_reducible refine aI ?_ ?_);exact an3)
   refine subO (t2:=(.agg [.int .i64 p0.Limit,.int .i64 p0.Stay,.ro 3 p0.List.length false (enR zC p0.List),.ro 43 p0.Group.length false (enR zE p0.Group)]::.int .i64 p1::.ptr 0 0 0 0::.top::.ptr 1 0 0 0::.int .i64 0::.int .i64 r1::.int .i64 r5.1::.bool r5.2::.agg [.int .i64 p0.Limit,.int .i64 p0.Stay,.ro 3 p0.List.length false (enR zC p0.List),.ro 43 p0.Group.length false (enR zE p0.Group)]::.int .i64 r1::.int .i64 r1::.bool (!bEq r1 0)::.top::.top::.int .i64 p1::.bool (bLt p1 1)::.bool (bLt p1 1)::.opt (!(bLt p1 1)) (.int .i64 p1)::.opt (!(bLt p1 1)) (.bool (bLt 255 p1))::.bool ((bLt p1 1) || (bLt 255 p1))::.top::.tup [.int .i64 r5.1,.bool r5.2]::.agg [.int .i64 p0.Limit,.int .i64 p0.Stay,.ro 3 p0.List.length false (enR zC p0.List),.ro 43 p0.Group.length false (enR zE p0.Group)]::.int .i64 p1::.tup [.int .i64 r5.1,.bool r5.2]::.int .i64 r5.1::.bool r5.2::.bool r5.2::.bool r5.2::.top::.bool (bEq (p0.List.length:Nat) 32)::.ptr 0 0 0 2::.ro 3 p0.List.length false (enR zC p0.List)::.int .i64 (p0.List.length:Nat)::.bool (bEq (p0.List.length:Nat) 32)::.top::.agg [.int .i64 p0.Limit,.int .i64 p0.Stay,.ro 3 p0.List.length false (enR zC p0.List),.ro 43 p0.Group.length false (enR zE p0.Group)]::.agg [.int .i64 r9.Limit,.int .i64 r9.Stay,.sl 2 3 0 r9.List.length false,.sl 3 43 0 r9.Group.length false]::.ptr 0 0 0 2::.sl 2 3 0 r9.List.length false::.int .i64 r5.1::.int .i64 p1::.agg [.int .i64 p1,.bool false,.ro 43 (([]:List TStored).length) false (enR zE ([]:List TStored))]::tp 4 [])) (h2:=[.lit 25 [.int .i64 r9.Limit,.int .i64 r9.Stay,.sl 2 3 0 r9.List.length false,.sl 3 43 0 r9.Group.length false],.lit 25 [.int .i64 0,.int .i64 0,.ro 0 0 true (fun _ _=>.top),.ro 0 0 true (fun _ _=>.top)],.row 57 3 r9.List.length (enR zC r9.List),.row 61 43 r9.Group.length (enR zE r9.Group)]) ?_ ?_
   ·refine zT ⟨[some 0,some 1,some 2,some 3],?_,?_,by rfl,by rfl⟩
    ·simp [CvL,Cv,zX,tp]
    ·(repeat (first|refine And.intro (by first|exact zD|exact zW nfA|(simp [CvB,CvL,Cv,xH,geth,zX];done)) ?_|trivial))
   simp only [tp]
   obtain ⟨f11,H⟩:=yT.1 H
   replace f11:=insb_iff.1 f11
   refine xQ zQ ct40t3_ok 4 ?_
   simp only [zM,tS,tZ,dS,dZ,go_sem,Nat.reduceLeDiff,Nat.reduceAdd,Nat.reduceEqDiff,ct40t3_82,insN,f11]
   repeat ((with_reducible refine aI ?_ ?_);exact an3)
   refine wS ?_
   refine zK ?_
   obtain ⟨w12,hw13,H⟩:=bsj H
   have lhw13:w12.length=1:=by rw [← hw13];exact cl
   obtain ⟨w14,hw15,H⟩:=bsj H
   have lhw15:w14.length=r9.List.length+1:=by rw [← hw15];exact (ins_len f11 cl)
   refine vO (t2:=(.top::.top::.ptr 0 0 0 0::.top::.ptr 1 0 0 0::tp 43 [])) (h2:=[.lit 25 [.int .i64 r9.Limit,.int .i64 r9.Stay,.sl 5 3 0 w14.length false,.sl 3 43 0 r9.Group.length false],.lit 25 [.int .i64 0,.int .i64 0,.ro 0 0 true (fun _ _=>.top),.ro 0 0 true (fun _ _=>.top)],.dead,.row 61 43 r9.Group.length (enR zE r9.Group),.row 57 3 w12.length (enR zC w12),.row 57 3 w14.length (enR zC w14)]) ?_ ?_
   ·refine zT ⟨[some 0,some 1,some 2,some 3,some 4,some 5],?_,?_,by rfl,by rfl⟩
    ·simp [CvL,Cv,zX,tp]
    ·exact ⟨(by simp [CvB,CvL,Cv,xH,geth,zX,lhw15]),(by simp [CvB,CvL,Cv,xH,geth]),zD,zS zV rfl (fun _ _ _ _=>rfl),zS zH lhw13 (hw13 ▸ (wF (f:=zC) ([(TSleeper.mk p1 false ([]:List TStored))]) (fun _ _=>rfl) rfl)),zS zH lhw15 (hw15 ▸ (ins_row f11 cl (fun _ _ _ _=>rfl) (wF (f:=zC) ([(TSleeper.mk p1 false ([]:List TStored))]) (fun _ _=>rfl) rfl))),trivial⟩
   simp only [tp]
   refine rg zA ?_
   simp only [go_sem,Nat.reduceLT,Nat.reduceAdd]
   repeat ((with_reducible refine aI ?_ ?_);exact an5)
   refine rg zA ?_
   simp only [go_sem,Nat.reduceLT,Nat.reduceAdd]
   obtain rfl:=Option.some.inj H
   refine ⟨[5,3,0,1],?_,?_,[],?_,?_,rfl⟩
   ·simp only [go_sem,Nat.reduceBEq]
    try exact at0
   ·simp only [go_sem,Nat.reduceBEq]
    try exact at0
   ·simp only [go_sem,Nat.reduceBEq]
    exact yY (zB (yV (zB zF (zB zF (zB (xN (by first|rfl|simp) (fun _ _ _ _=>rfl)) (zB (xN (by first|rfl|simp) (fun _ _ _ _=>rfl)) zO))))) (zB zF zO))
   ·simp only [go_sem,CvH]
  ·cases hb
 ·unfold fO at hb
  split at hb<;>cases hb
noncomputable def ct50t0:Ct:=tab [(18,yF wP)]
theorem ct50t0_ok:yZ Try.prog ct50t0:=zR ok18 <| zY
theorem ct50t0_18 (l:List AV) (h:List ABlk):ct50t0 18 l h=yF wP l h:=rfl
noncomputable def ct50t1:Ct:=tab [(81,yF uF)]
theorem ct50t1_ok:yZ Try.prog ct50t1:=zR ok81 <| zY
theorem ct50t1_81 (l:List AV) (h:List ABlk):ct50t1 81 l h=yF uF l h:=rfl
noncomputable def ct50t2:Ct:=tab [(65,xU vX)]
theorem ct50t2_ok:yZ Try.prog ct50t2:=zR ok65 <| zY
theorem ct50t2_65 (l:List AV) (h:List ABlk):ct50t2 65 l h=xU vX l h:=rfl
noncomputable def F50 (p0:TBuffer) (p1:Int):Option (TBuffer × Int) :=
 (F18 p0).bind fun r1=>bif (!bEq r1 0) then (some ((TBuffer.mk 0 0 [] []),r1)) else (bif ((bLt p1 1) || (bLt 255 p1)) then (some ((TBuffer.mk 0 0 [] []),2)) else ((F81 p0 p1).bind fun r5=>bif (!r5.2) then (some ((TBuffer.mk 0 0 [] []),6)) else ((F65 p0).bind fun r8=>need (inb r5.1 r8.List.length) <| some ((TBuffer.mk r8.Limit r8.Stay (r8.List.set r5.1.toNat (TSleeper.mk ((gd r8.List r5.1.toNat).Aid) true ((gd r8.List r5.1.toNat).Held))) r8.Group),0))))
noncomputable def fP:List AV->Nat->AR
 | [v0,v1],_=>.pure (aK 4 wC v0/\iK .i64 v1/\(F50 (zG (aL v0)) (iA v1)).isSome=true) (.tup [.agg [.int .i64 (((gt (F50 (zG (aL v0)) (iA v1))).1).Limit),.int .i64 (((gt (F50 (zG (aL v0)) (iA v1))).1).Stay),.ro 3 ((((gt (F50 (zG (aL v0)) (iA v1))).1).List).length) false (enR zC (((gt (F50 (zG (aL v0)) (iA v1))).1).List)),.ro 43 ((((gt (F50 (zG (aL v0)) (iA v1))).1).Group).length) false (enR zE (((gt (F50 (zG (aL v0)) (iA v1))).1).Group))],.int .i64 ((gt (F50 (zG (aL v0)) (iA v1))).2)])
 | _,_=>.fail
theorem ok50:wM Try.prog 50 (xU fP):=by
 refine uZ fP (rs:=[.cell 4 25,.tmp 5]) Try.func50 (by kernel_rfl) rfl rfl ?_
 intro l s ob v ns hb hob
 rcases hb with ⟨hb,rfl⟩|hb
 ·unfold fP at hb
  split at hb
  ·rename_i v0 v1
   injection hb with q1 q2;subst q1 q2
   obtain ⟨hk0_0,hk1_0,hob⟩:=hob
   obtain ⟨r,H⟩:=oE.1 hob
   rw [H,yQ]
   have hw0:=wU hk0_0
   have hw1:=yI hk1_0
   generalize zG (aL v0)=p0 at H hw0
   generalize iA v1=p1 at H hw1
   refine ⟨[.agg [.int .i64 p0.Limit,.int .i64 p0.Stay,.ro 3 p0.List.length false (enR zC p0.List),.ro 43 p0.Group.length false (enR zE p0.Group)],.int .i64 p1],.tup [.agg [.int .i64 r.1.Limit,.int .i64 r.1.Stay,.ro 3 r.1.List.length false (enR zC r.1.List),.ro 43 r.1.Group.length false (enR zE r.1.Group)],.int .i64 r.2],[],(fun E vs F=>yO hw0.1 F (fun vs F=>yO hw1.1 F (fun vs F=>F))),by simp only [ren,uS],trivial,?_⟩
   rw [Try.ntmps50]
   simp only [lC,lN,Nat.reduceAdd,Nat.reduceSub,rS,rZ,aC,aN]
   unfold F50 at H
   try dsimp only at H
   refine sq zA ?_
   simp only [go_sem]
   refine zK ?_
   refine qZ ?_
   refine xQ zQ zA 2 ?_
   simp only [zM,tS,tZ,dS,dZ,go_sem,Nat.reduceLT,Nat.reduceAdd]
   repeat ((with_reducible refine aI ?_ ?_);exact an0)
   refine gX (rs:=[.tmp 4,.tmp 5,.tmp 6]) Try.func51 (by kernel_rfl) rfl rfl Try.ntmps51 (caps:=[]) (tc:=[.agg [.int .i64 p0.Limit,.int .i64 p0.Stay,.ro 3 p0.List.length false (enR zC p0.List),.ro 43 p0.Group.length false (enR zE p0.Group)],.int .i64 p1]) rfl (by simp only [go_sem]) rfl ?_
   simp only [lC,lN,Nat.reduceAdd,Nat.reduceSub,rS,rZ,aC,aN]
   refine sq zA ?_
   simp only [go_sem,Nat.reduceAdd]
   refine zK ?_
   refine zK ?_
   obtain ⟨r1,e2,H⟩:=bsi H
   refine rg ct50t0_ok ?_
   simp only [go_sem,Nat.reduceLT,Nat.reduceAdd,ct50t0_18,wP,e2]
   repeat ((with_reducible refine aI ?_ ?_);exact an0)
   refine sq zA ?_
   simp only [go_sem]
   refine yM rfl trivial (fun hc=>?_) (fun hc=>?_)
   ·have hk3:(bEq r1 0)=false:=by simpa using hc
    replace H:=yA hc H
    refine sq zA ?_
    simp only [go_sem]
    refine rg zA ?_
    simp only [go_sem]
    refine xQ zQ zA 7 ?_
    simp only [zM,tS,tZ,dS,dZ,go_sem,Nat.reduceLT,Nat.reduceAdd]
    repeat ((with_reducible refine aI ?_ ?_);exact an0)
    refine wS ?_
    refine zK ?_
    refine sq zA ?_
    simp only [go_sem]
    refine yM rfl trivial (fun hc=>?_) (fun hc=>?_)
    rotate_left
    ·simp [hk3] at hc
    refine sq zA ?_
    simp only [go_sem,Nat.reduceAdd]
    repeat ((with_reducible refine aI ?_ ?_);exact an5)
    refine rg zA ?_
    simp only [go_sem,Nat.reduceLT,Nat.reduceAdd]
    obtain rfl:=Option.some.inj H
    refine ⟨[0,1,2],?_,?_,[],?_,?_,rfl⟩
    ·simp only [go_sem]
     try exact at0
    ·simp only [go_sem]
     try exact at0
    ·simp only [go_sem]
     exact yY (zB (yV (zB zF (zB zF (zB (zJ (α:=TSleeper)) (zB (zJ (α:=TStored)) zO))))) (zB zF zO))
    ·simp only [go_sem,CvH]
   have hk3:(bEq r1 0)=true:=by simpa using hc
   replace H:=zZ hc H
   refine rg zA ?_
   simp only [go_sem]
   refine zK ?_
   refine sq zA ?_
   simp only [go_sem]
   repeat ((with_reducible refine aI ?_ ?_);exact an5)
   refine yM rfl trivial (fun hc=>?_) (fun hc=>?_)
   ·have hk4:((bLt p1 1) || (bLt 255 p1))=true:=by simpa using hc
    replace H:=yA hc H
    refine sq zA ?_
    simp only [go_sem]
    refine rg zA ?_
    simp only [go_sem]
    refine xQ zQ zA 7 ?_
    simp only [zM,tS,tZ,dS,dZ,go_sem,Nat.reduceLT,Nat.reduceAdd]
    repeat ((with_reducible refine aI ?_ ?_);exact an0)
    refine wS ?_
    refine zK ?_
    refine sq zA ?_
    simp only [go_sem,(by decide:bEq (2) (0)=false)]
    refine yM rfl trivial (fun hc=>?_) (fun hc=>?_)
    rotate_left
    ·cases hc
    refine sq zA ?_
    simp only [go_sem,Nat.reduceAdd]
    repeat ((with_reducible refine aI ?_ ?_);exact an5)
    refine rg zA ?_
    simp only [go_sem,Nat.reduceLT,Nat.reduceAdd]
    obtain rfl:=Option.some.inj H
    refine ⟨[0,1,2],?_,?_,[],?_,?_,rfl⟩
    ·simp only [go_sem]
     try exact at0
    ·simp only [go_sem]
     try exact at0
    ·simp only [go_sem]
     exact yY (zB (yV (zB zF (zB zF (zB (zJ (α:=TSleeper)) (zB (zJ (α:=TStored)) zO))))) (zB zF zO))
    ·simp only [go_sem,CvH]
   have hk4:((bLt p1 1) || (bLt 255 p1))=false:=by simpa using hc
   replace H:=zZ hc H
   refine rg zA ?_
   simp only [go_sem]
   refine zK ?_
   obtain ⟨r5,e6,H⟩:=bsi H
   refine rg ct50t1_ok ?_
   simp only [go_sem,Nat.reduceLT,Nat.reduceAdd,ct50t1_81,uF,e6]
   repeat ((with_reducible refine aI ?_ ?_);exact an0)
   refine zK ?_
   refine sq zA ?_
   simp only [go_sem]
   refine yM rfl trivial (fun hc=>?_) (fun hc=>?_)
   ·have hk7:(r5.2)=false:=by simpa using hc
    replace H:=yA hc H
    refine sq zA ?_
    simp only [go_sem]
    refine rg zA ?_
    simp only [go_sem]
    refine xQ zQ zA 7 ?_
    simp only [zM,tS,tZ,dS,dZ,go_sem,Nat.reduceLT,Nat.reduceAdd]
    repeat ((with_reducible refine aI ?_ ?_);exact an0)
    refine wS ?_
    refine zK ?_
    refine sq zA ?_
    simp only [go_sem,(by decide:bEq (6) (0)=false)]
    refine yM rfl trivial (fun hc=>?_) (fun hc=>?_)
    rotate_left
    ·cases hc
    refine sq zA ?_
    simp only [go_sem,Nat.reduceAdd]
    repeat ((with_reducible refine aI ?_ ?_);exact an5)
    refine rg zA ?_
    simp only [go_sem,Nat.reduceLT,Nat.reduceAdd]
    obtain rfl:=Option.some.inj H
    refine ⟨[0,1,2],?_,?_,[],?_,?_,rfl⟩
    ·simp only [go_sem]
     try exact at0
    ·simp only [go_sem]
     try exact at0
    ·simp only [go_sem]
     exact yY (zB (yV (zB zF (zB zF (zB (zJ (α:=TSleeper)) (zB (zJ (α:=TStored)) zO))))) (zB zF zO))
    ·simp only [go_sem,CvH]
   have hk7:(r5.2)=true:=by simpa using hc
   replace H:=zZ hc H
   refine rg zA ?_
   simp only [go_sem]
   refine zK ?_
   obtain ⟨r8,e9,H⟩:=bsi H
   refine rg ct50t2_ok ?_
   simp only [go_sem,Nat.reduceLT,Nat.reduceAdd,ct50t2_65,vX,e9]
   repeat ((with_reducible refine aI ?_ ?_);exact an0)
   refine zK ?_
   obtain ⟨f10,H⟩:=nI H
   refine vS zQ zA (by kernel_rfl) (by kernel_rfl) ?_
   simp only [go_sem,Nat.reduceLeDiff,Nat.reduceLT,Nat.reduceAdd,f10]
   repeat ((with_reducible refine aI ?_ ?_);exact an5)
   refine rg zA ?_
   simp only [go_sem]
   refine xQ zQ zA 7 ?_
   simp only [zM,tS,tZ,dS,dZ,go_sem,Nat.reduceLT,Nat.reduceAdd]
   repeat ((with_reducible refine aI ?_ ?_);exact an0)
   refine wS ?_
   refine zK ?_
   refine sq zA ?_
   simp only [go_sem,(by decide:bEq (0) (0)=true)]
   refine yM rfl trivial (fun hc=>?_) (fun hc=>?_)
   ·cases hc
   refine rg zA ?_
   simp only [go_sem]
   refine sq zA ?_
   simp only [go_sem,Nat.reduceLeDiff,Nat.reduceAdd]
   repeat ((with_reducible refine aI ?_ ?_);exact an5)
   refine sq zA ?_
   simp only [go_sem,Nat.reduceLT,Nat.reduceAdd]
   repeat ((with_reducible refine aI ?_ ?_);exact an5)
   refine rg zA ?_
   simp only [go_sem,Nat.reduceLT,Nat.reduceAdd]
   obtain rfl:=Option.some.inj H
   refine ⟨[3,4,0,1,2],?_,?_,[],?_,?_,rfl⟩
   ·simp only [go_sem,Nat.reduceBEq]
    try exact at0
   ·simp only [go_sem,Nat.reduceBEq]
    try exact at0
   ·simp only [go_sem,Nat.reduceBEq]
    exact yY (zB (yV (zB zF (zB zF (zB (xN (by first|rfl|simp) (tD (f:=zC) r8.List r5.1.toNat 1 (TSleeper.mk ((gd r8.List r5.1.toNat).Aid) true ((gd r8.List r5.1.toNat).Held)) (fun _ _ _ _=>rfl) (fun y hy=>match y,hy with|0,_=>rfl|1,_=>rfl|2,_=>rfl|(y+3),h=>absurd h nlt))) (zB (xN (by first|rfl|simp) (fun _ _ _ _=>rfl)) zO))))) (zB zF zO))
   ·simp only [go_sem,CvH]
  ·cases hb
 ·unfold fP at hb
  split at hb<;>cases hb
noncomputable def F37 (p0:Int):Option (TFrame) :=
 some (TFrame.mk (THeader.mk 0 0 false false false false false false false 0 (A6u8.mk 0 0 0 0 0 0) (A6u8.mk 0 0 0 0 0 0) (A6u8.mk 0 0 0 0 0 0) (A6u8.mk 0 0 0 0 0 0) 0 0 0 0 false false) [wr .u8 (cB .i64 p0 8),wr .u8 p0])
noncomputable def qD:List AV->List ABlk->ED
 | [v0],h=>.ed [] (iK .i64 (roD (yP h []) v0)/\roDOb (yP h []) v0/\(F37 (iA (roD (yP h []) v0))).isSome=true) (.agg (.int .u8 (((gt (F37 (iA (roD (yP h []) v0)))).Head).Kind)::.int .u8 (((gt (F37 (iA (roD (yP h []) v0)))).Head).Sub)::.bool (((gt (F37 (iA (roD (yP h []) v0)))).Head).ToDs)::.bool (((gt (F37 (iA (roD (yP h []) v0)))).Head).FromDs)::.bool (((gt (F37 (iA (roD (yP h []) v0)))).Head).More)::.bool (((gt (F37 (iA (roD (yP h []) v0)))).Head).Retry)::.bool (((gt (F37 (iA (roD (yP h []) v0)))).Head).Sleep)::.bool (((gt (F37 (iA (roD (yP h []) v0)))).Head).MoreData)::.bool (((gt (F37 (iA (roD (yP h []) v0)))).Head).Protected)::.int .i64 (((gt (F37 (iA (roD (yP h []) v0)))).Head).Duration)::.int .u8 ((((gt (F37 (iA (roD (yP h []) v0)))).Head).A1).x0)::.int .u8 ((((gt (F37 (iA (roD (yP h []) v0)))).Head).A1).x1)::.int .u8 ((((gt (F37 (iA (roD (yP h []) v0)))).Head).A1).x2)::.int .u8 ((((gt (F37 (iA (roD (yP h []) v0)))).Head).A1).x3)::.int .u8 ((((gt (F37 (iA (roD (yP h []) v0)))).Head).A1).x4)::.int .u8 ((((gt (F37 (iA (roD (yP h []) v0)))).Head).A1).x5)::.int .u8 ((((gt (F37 (iA (roD (yP h []) v0)))).Head).A2).x0)::.int .u8 ((((gt (F37 (iA (roD (yP h []) v0)))).Head).A2).x1)::.int .u8 ((((gt (F37 (iA (roD (yP h []) v0)))).Head).A2).x2)::.int .u8 ((((gt (F37 (iA (roD (yP h []) v0)))).Head).A2).x3)::.int .u8 ((((gt (F37 (iA (roD (yP h []) v0)))).Head).A2).x4)::.int .u8 ((((gt (F37 (iA (roD (yP h []) v0)))).Head).A2).x5)::.int .u8 ((((gt (F37 (iA (roD (yP h []) v0)))).Head).A3).x0)::.int .u8 ((((gt (F37 (iA (roD (yP h []) v0)))).Head).A3).x1)::.int .u8 ((((gt (F37 (iA (roD (yP h []) v0)))).Head).A3).x2)::.int .u8 ((((gt (F37 (iA (roD (yP h []) v0)))).Head).A3).x3)::.int .u8 ((((gt (F37 (iA (roD (yP h []) v0)))).Head).A3).x4)::.int .u8 ((((gt (F37 (iA (roD (yP h []) v0)))).Head).A3).x5)::.int .u8 ((((gt (F37 (iA (roD (yP h []) v0)))).Head).A4).x0)::.int .u8 ((((gt (F37 (iA (roD (yP h []) v0)))).Head).A4).x1)::.int .u8 ((((gt (F37 (iA (roD (yP h []) v0)))).Head).A4).x2)::.int .u8 ((((gt (F37 (iA (roD (yP h []) v0)))).Head).A4).x3)::.int .u8 ((((gt (F37 (iA (roD (yP h []) v0)))).Head).A4).x4)::.int .u8 ((((gt (F37 (iA (roD (yP h []) v0)))).Head).A4).x5)::.int .i64 (((gt (F37 (iA (roD (yP h []) v0)))).Head).Seq)::.int .i64 (((gt (F37 (iA (roD (yP h []) v0)))).Head).Frag)::.int .i64 (((gt (F37 (iA (roD (yP h []) v0)))).Head).Tid)::.int .u8 (((gt (F37 (iA (roD (yP h []) v0)))).Head).Ack)::.bool (((gt (F37 (iA (roD (yP h []) v0)))).Head).Amsdu)::.bool (((gt (F37 (iA (roD (yP h []) v0)))).Head).Eosp)::.sl 0 1 0 (((gt (F37 (iA (roD (yP h []) v0)))).Body).length) false::[])) [.row 5 1 (((gt (F37 (iA (roD (yP h []) v0)))).Body).length) (enR xM ((gt (F37 (iA (roD (yP h []) v0)))).Body))]
 | _,_=>.fail
theorem ok37:wM Try.prog 37 (edC qD):=by
 refine edit_fnV qD (rs:=[.cell 2 33]) Try.func37 (by kernel_rfl) rfl rfl ?_
 intro l h bs ob q0 g0 hb hob
 unfold qD at hb
 split at hb
 ·rename_i v0
  injection hb with q1 q2 q3 q4;subst q1 q2 q3 q4
  obtain ⟨hk0_0,hk0_1,hob⟩:=hob
  obtain ⟨r,H⟩:=oE.1 hob
  rw [H,yQ]
  have hw0:=yI hk0_0
  obtain ⟨p0,hp_p0⟩:∃ p0,p0=iA (roD (yP h []) v0):=⟨_,rfl⟩
  rw [← hp_p0] at H hw0
  refine ⟨[.int .i64 p0],[],rfl,⟨(EW_view hk0_1 hw0),trivial⟩,trivial,trivial,⟨(nfB_en nr_u8),trivial⟩,⟨noroB_en,trivial⟩,(by first|(simp only [noro,tC,and_self];done)|(simp only [noro,tC];and_intros<;>first|trivial|exact noro_bif (by simp only [noro]) (by simp only [noro])|(simp only [noro,tC,and_self]))),?_⟩
  rw [Try.ntmps37]
  simp only [lC,lN,Nat.reduceAdd,Nat.reduceSub,rS,rZ,aC,aN]
  unfold F37 at H
  try dsimp only at H
  refine sq zA ?_
  simp only [go_sem]
  refine sq zA ?_
  simp only [go_sem,Nat.reduceLeDiff,Nat.reduceAdd]
  repeat ((with_reducible refine aI ?_ ?_);exact an5)
  refine rg zA ?_
  simp only [go_sem,Nat.reduceLT,Nat.reduceAdd]
  obtain rfl:=Option.some.inj H
  refine RetE_mk [] [some 1] ?_ ?_ ?_ ?_ (by rfl) (by rfl)
  ·simp only [go_sem]
   try exact at0
  ·simp only [go_sem]
   try exact at0
  ·simp only [go_sem,Nat.reduceAdd]
   exact (by first|(simp [Cv,CvL,zX];done)|(simp [Cv,CvL,zX,yQ];omega))
  ·simp only [go_sem,Nat.reduceAdd,CvH]
   exact zS nr_u8 cl (wF (f:=xM) [wr .u8 (cB .i64 p0 8),wr .u8 p0] (fun _ _=>rfl) rfl)
 ·cases hb
noncomputable def gZ (r1:List TSleeper) (v1_1:Int) (v1_2:List TSleeper):Option (Lp (Int × (List TSleeper)) ((Int × (List TSleeper)) ⊕ (TBuffer))) :=
 bif (bLt v1_1 (r1.length:Nat)) then (need (bLt v1_1 1000000) <| need (inb v1_1 v1_2.length) <| (F93_0 ((gd v1_2 v1_1.toNat).Held)).bind fun r5=>need (inb v1_1 v1_2.length) <| some (.next (wr .i64 (v1_1+1),(v1_2.set v1_1.toNat (TSleeper.mk ((gd v1_2 v1_1.toNat).Aid) ((gd v1_2 v1_1.toNat).Asleep) r5))))) else (some (.done (.inl (v1_1,v1_2))))
noncomputable def cH (gi:Nat) (p0:TBuffer):Option (TBuffer) :=
 (F92 p0.List).bind fun r1=>lp (xC (fun s=>gZ r1 s.1 s.2) (0,r1)) (fun e=>need (bLt (gi:Int) e.1) <| (F93 p0.Group).bind fun r8=>some (TBuffer.mk p0.Limit p0.Stay e.2 r8)) some
noncomputable def kT (gi:Nat):List AV->Nat->AR
 | [v0],s=>.heap (aK 4 wC v0/\(cH gi (zG (aL v0))).isSome=true) (.agg [.int .i64 ((gt (cH gi (zG (aL v0)))).Limit),.int .i64 ((gt (cH gi (zG (aL v0)))).Stay),.sl (s) 3 0 ((gt (cH gi (zG (aL v0)))).List).length false,.sl (s+2) 43 0 ((gt (cH gi (zG (aL v0)))).Group).length false]) [.row 57 3 ((gt (cH gi (zG (aL v0)))).List).length (upc (enR zC ((gt (cH gi (zG (aL v0)))).List)) gi 2 [.sl (s+1) 43 0 ((gd ((gt (cH gi (zG (aL v0)))).List) gi).Held).length false]),.row 61 43 ((gd ((gt (cH gi (zG (aL v0)))).List) gi).Held).length (enR zE ((gd ((gt (cH gi (zG (aL v0)))).List) gi).Held)),.row 61 43 ((gt (cH gi (zG (aL v0)))).Group).length (enR zE ((gt (cH gi (zG (aL v0)))).Group))]
 | _,_=>.fail
theorem ok65f (gi:Nat):wM Try.prog 65 (xU (kT gi)):=by
 refine uZ (kT gi) (rs:=[.cell 2 25]) Try.func65 (by kernel_rfl) rfl rfl ?_
 intro l s ob v ns hb hob
 rcases hb with ⟨hb,rfl⟩|hb
 ·unfold kT at hb
  split at hb<;>cases hb
 ·unfold kT at hb
  split at hb
  ·rename_i v0
   injection hb with q1 q2 q3;subst q1 q2 q3
   obtain ⟨hk0_0,hob⟩:=hob
   obtain ⟨r,H⟩:=oE.1 hob
   rw [H,yQ]
   have hw0:=wU hk0_0
   generalize zG (aL v0)=p0 at H hw0
   refine ⟨[.agg [.int .i64 p0.Limit,.int .i64 p0.Stay,.ro 3 p0.List.length false (enR zC p0.List),.ro 43 p0.Group.length false (enR zE p0.Group)]],.agg [.int .i64 (r.Limit),.int .i64 (r.Stay),.sl (0) 3 0 (r.List).length false,.sl (2) 43 0 (r.Group).length false],[.row 57 3 (r.List).length (upc (enR zC (r.List)) gi 2 [.sl (1) 43 0 ((gd (r.List) gi).Held).length false]),.row 61 43 ((gd (r.List) gi).Held).length (enR zE ((gd (r.List) gi).Held)),.row 61 43 (r.Group).length (enR zE (r.Group))],(fun E vs F=>yO hw0.1 F (fun vs F=>F)),by simp only [ren,uS,rnN_0,rnN_s,Nat.reduceAdd],⟨RenB_foc zH (by simp only [rnN_s]),gD zV,gD zV,trivial⟩,?_⟩
   rw [Try.ntmps65]
   simp only [lC,lN,Nat.reduceAdd,Nat.reduceSub,rS,rZ,aC,aN]
   unfold cH at H
   try dsimp only at H
   refine sq zA ?_
   simp only [go_sem]
   refine zK ?_
   obtain ⟨r1,e2,H⟩:=bsi H
   refine rg ct65t0_ok ?_
   simp only [go_sem,Nat.reduceLeDiff,Nat.reduceLT,Nat.reduceAdd,ct65t0_92,gG,e2]
   repeat ((with_reducible refine aI ?_ ?_);exact an0)
   refine zK ?_
   refine sq zA ?_
   simp only [go_sem,Nat.reduceLeDiff,Nat.reduceLT,Nat.reduceAdd]
   repeat ((with_reducible refine aI ?_ ?_);exact an0)
   refine wN ?_
   refine xX (fun s:Int × (List TSleeper)=>(.top::.ptr 0 0 0 0::.ptr 1 0 0 0::tp 7 (.int .i64 (r1.length:Nat)::.int .i64 s.1::tp 20 []))) (fun s=>[.lit 25 [.int .i64 p0.Limit,.int .i64 p0.Stay,.sl 3 3 0 s.2.length false,.ro 43 p0.Group.length false (enR zE p0.Group)],.lit 25 [.int .i64 0,.int .i64 0,.ro 0 0 true (fun _ _=>.top),.ro 0 0 true (fun _ _=>.top)],.dead,.row 57 3 s.2.length (bif bLt (gi:Int) s.1 then upc (enR zC s.2) gi 2 [.sl 4 43 0 (gd s.2 gi).Held.length false] else enR zC s.2),.row 61 43 (bif bLt (gi:Int) s.1 then (gd s.2 gi).Held.length else 0) (enR zE (gd s.2 gi).Held)]) (fun e:Int × (List TSleeper)=>(.top::.ptr 0 0 0 0::.ptr 1 0 0 0::tp 29 [])) (fun e=>[.lit 25 [.int .i64 p0.Limit,.int .i64 p0.Stay,.sl 3 3 0 e.2.length false,.ro 43 p0.Group.length false (enR zE p0.Group)],.lit 25 [.int .i64 0,.int .i64 0,.ro 0 0 true (fun _ _=>.top),.ro 0 0 true (fun _ _=>.top)],.dead,.row 57 3 e.2.length (bif bLt (gi:Int) e.1 then upc (enR zC e.2) gi 2 [.sl 4 43 0 (gd e.2 gi).Held.length false] else enR zC e.2),.row 61 43 (bif bLt (gi:Int) e.1 then (gd e.2 gi).Held.length else 0) (enR zE (gd e.2 gi).Held)]) H ?_ (fun s o H hn1_1 hn2_1=>?_) (fun e H=>?_)
   ·have h0:bLt (gi:Int) 0=false:=by simp [bLt]
    try dsimp only
    simp only [h0,cond_false]
    refine zT ⟨[some 0,some 1,some 2,some 2,none],?_,?_,by rfl,by rfl⟩
    ·simp [CvL,Cv,zX,tp]
    ·exact ⟨cv,cv,zD,zS zH cl (fun _ _ _ _=>rfl),(by simp only [CvB]),trivial⟩
   ·obtain ⟨v1_1,v1_2⟩:=s
    unfold gZ at H
    try dsimp only at H ⊢
    try simp only [tp]
    refine sq zA ?_
    simp only [go_sem,Nat.reduceAdd]
    refine zK ?_
    refine condM' rfl trivial (fun hc=>?_) (fun hc=>?_)
    ·have hk3:(bLt v1_1 (r1.length:Nat))=false:=by simpa using hc
     replace H:=zZ hc H
     refine rg zA ?_
     simp only [go_sem]
     refine ⟨_,(Option.some.inj H).symm,?_⟩
     cases hgi:bLt (gi:Int) v1_1
     ·try dsimp only
      simp only [cond_false]
      refine zT ⟨[some 0,some 1,some 2,some 3,some 4],?_,?_,by rfl,by rfl⟩
      ·simp [CvL,Cv,zX]
      ·exact ⟨cv,cv,zD,zS zH cl (fun _ _ _ _=>rfl),CvB_z,trivial⟩
     ·try dsimp only
      simp only [cond_true]
      refine zT ⟨[some 0,some 1,some 2,some 3,some 4],?_,?_,by rfl,by rfl⟩
      ·simp [CvL,Cv,zX]
      ·exact ⟨cv,cv,zD,CvB_focI zH (by simp [zX]) rfl rfl,zS zV rfl (fun _ _ _ _=>rfl),trivial⟩
    have hk3:(bLt v1_1 (r1.length:Nat))=true:=by simpa using hc
    replace H:=yA hc H
    refine rg zA ?_
    simp only [go_sem]
    refine zK ?_
    refine wN ?_
    refine sq zA ?_
    simp only [go_sem]
    obtain ⟨fz0,H⟩:=yT.1 H
    have fz0:v1_1 < 1000000:=by simpa [bLt] using fz0
    obtain ⟨f4,H⟩:=nI H
    obtain ⟨r5,e6,H⟩:=bsi H
    obtain ⟨f7,H⟩:=nI H
    have hwr:wr .i64 (v1_1+1)=v1_1+1:=qB (by omega)
    rcases Nat.lt_trichotomy v1_1.toNat gi with hgi|hgi|hgi
    ·have hb:bLt (gi:Int) v1_1=false:=by simp only [bLt,decide_eq_false_iff_not];omega
     have hb2:bLt (gi:Int) (wr .i64 (v1_1+1))=false:=by rw [hwr];simp only [bLt,decide_eq_false_iff_not];omega
     simp only [hb,cond_false]
     refine yL zQ ct65t1_ok 0 (by kernel_rfl) (by kernel_rfl) ?_
     intro an han
     simp only [wK,xR,vL,xrD,xoD,vM,wY,List.append_nil,xA,refs,vF,mask,xZ,place,xI,wA,xK,hit,inL,xD,ren,nrH,nrB,rZ,Nat.sub_self,Nat.add_zero,Nat.zero_add,Nat.reduceSub,Nat.lt_add_one,go_sem,Nat.reduceLeDiff,Nat.reduceLT,Nat.reduceAdd,Nat.reduceSub,Nat.reduceBEq,ct65t1_93,qS,f4,e6]
     repeat ((with_reducible refine aI ?_ ?_);exact an4)
     refine rg zA ?_
     simp only [go_sem]
     refine ⟨_,(Option.some.inj H).symm,?_⟩
     try dsimp only
     simp only [hb2,cond_false]
     refine zT ⟨[some 0,some 1,some 2,some 3,some 4],?_,?_,by rfl,by rfl⟩
     ·simp [CvL,Cv,zX]
     ·exact ⟨cv,cv,zD,zS zH cl (tD (f:=zC) v1_2 v1_1.toNat 2 (TSleeper.mk ((gd v1_2 v1_1.toNat).Aid) ((gd v1_2 v1_1.toNat).Asleep) r5) (fun _ _ _ _=>rfl) (fun y hy=>match y,hy with|0,_=>rfl|1,_=>rfl|2,_=>rfl|(y+3),h=>absurd h nlt)),CvB_z,trivial⟩
    ·have hb:bLt (gi:Int) v1_1=false:=by simp only [bLt,decide_eq_false_iff_not];omega
     have hb2:bLt (gi:Int) (wr .i64 (v1_1+1))=true:=by rw [hwr];simp only [bLt,decide_eq_true_eq];omega
     have Hk:=H
     obtain rfl:=hgi
     have H:=Hk
     have e6b:F93 (gd v1_2 v1_1.toNat).Held=some r5:=by have h:=e6;unfold F93_0 at h;unfold F93;exact h
     have hgs:gd (v1_2.set v1_1.toNat (TSleeper.mk ((gd v1_2 v1_1.toNat).Aid) ((gd v1_2 v1_1.toNat).Asleep) r5)) v1_1.toNat=(TSleeper.mk ((gd v1_2 v1_1.toNat).Aid) ((gd v1_2 v1_1.toNat).Asleep) r5):=uJ (by omega)
     simp only [hb,cond_false]
     refine yL zQ ct65t2_ok 1 (by kernel_rfl) (by kernel_rfl) ?_
     intro an han
     simp only [wK,xR,vL,xrD,xoD,vM,wY,List.append_nil,xA,refs,vF,mask,xZ,place,xI,wA,xK,hit,inL,xD,ren,rnN,nrH,nrB,rZ,rS,Nat.sub_self,Nat.add_zero,Nat.zero_add,Nat.reduceSub,Nat.lt_add_one,go_sem,Nat.reduceLeDiff,Nat.reduceLT,Nat.reduceAdd,Nat.reduceSub,Nat.reduceBEq,ct65t2_93,kG,f4,e6b]
     repeat ((with_reducible refine aI ?_ ?_);exact an4)
     refine rg zA ?_
     simp only [go_sem]
     refine ⟨_,(Option.some.inj H).symm,?_⟩
     try dsimp only
     simp only [hb2,cond_true,hgs]
     refine zT ⟨[some 0,some 1,some 2,some 3,some 5],?_,?_,by rfl,by rfl⟩
     ·simp [CvL,Cv,zX]
     ·exact ⟨cv,cv,zD,CvB_focS zH (by omega) (by simp [zX]) (fun y hy hne=>match y,hy with|0,_=>rfl|1,_=>rfl|2,_=>absurd rfl hne|(y+3),h=>absurd h (by omega)) rfl,zS zV rfl (fun _ _ _ _=>rfl),trivial⟩
    ·have hb:bLt (gi:Int) v1_1=true:=by simp only [bLt,decide_eq_true_eq];omega
     have hb2:bLt (gi:Int) (wr .i64 (v1_1+1))=true:=by rw [hwr];simp only [bLt,decide_eq_true_eq];omega
     have hne:v1_1.toNat ≠ gi:=by omega
     have hgs:gd (v1_2.set v1_1.toNat (TSleeper.mk ((gd v1_2 v1_1.toNat).Aid) ((gd v1_2 v1_1.toNat).Asleep) r5)) gi=gd v1_2 gi:=uK hne
     simp only [hb,cond_true]
     refine yL zQ ct65t1_ok 0 (by kernel_rfl) (by kernel_rfl) ?_
     intro an han
     simp only [wK,xR,vL,xrD,xoD,vM,wY,List.append_nil,xA,refs,vF,mask,xZ,place,xI,wA,xK,hit,inL,xD,ren,nrH,nrB,rZ,Nat.sub_self,Nat.add_zero,Nat.zero_add,Nat.reduceSub,Nat.lt_add_one,go_sem,Nat.reduceLeDiff,Nat.reduceLT,Nat.reduceAdd,Nat.reduceSub,Nat.reduceBEq,xG hne,ct65t1_93,qS,f4,e6]
     repeat ((with_reducible refine aI ?_ ?_);exact an4)
     refine rg zA ?_
     simp only [go_sem]
     refine ⟨_,(Option.some.inj H).symm,?_⟩
     try dsimp only
     simp only [hb2,cond_true,hgs]
     refine zT ⟨[some 0,some 1,some 2,some 3,some 4],?_,?_,by rfl,by rfl⟩
     ·simp [CvL,Cv,zX]
     ·exact ⟨cv,cv,zD,CvB_focC zH (by omega) hne (by simp [zX]) rfl (fun y hy=>match y,hy with|0,_=>rfl|1,_=>rfl|2,_=>rfl|(y+3),h=>absurd h nlt),zS zV rfl (fun _ _ _ _=>rfl),trivial⟩
   ·obtain ⟨e1,e2⟩:=e
    try dsimp only at H ⊢
    try simp only [tp]
    try simp only [xS]
    refine zK ?_
    obtain ⟨fgi,H⟩:=yT.1 H
    try simp only [fgi,cond_true]
    obtain ⟨r8,e9,H⟩:=bsi H
    refine rg ct65t2_ok ?_
    simp only [go_sem,Nat.reduceLT,Nat.reduceAdd,ct65t2_93,kG,e9]
    repeat ((with_reducible refine aI ?_ ?_);exact an0)
    refine sq zA ?_
    simp only [go_sem,Nat.reduceLT,Nat.reduceAdd]
    repeat ((with_reducible refine aI ?_ ?_);exact an5)
    refine rg zA ?_
    simp only [go_sem,Nat.reduceLT,Nat.reduceAdd]
    obtain rfl:=Option.some.inj H
    refine ⟨[],?_,?_,[some 3,some 4,some 5],?_,?_,by rfl⟩
    ·simp only [go_sem]
    ·simp only [go_sem]
    ·simp [fzV,fzL,inL,Cv,CvL,zX]
     all_goals first|exact cl|exact cl
    ·simp only [go_sem,CvH]
     exact ⟨CvB_focI zH (by simp [zX]) rfl rfl,zS zV rfl (fun _ _ _ _=>rfl),zS zV cl (fun _ _ _ _=>rfl)⟩
  ·cases hb
noncomputable def F62 (p0:List TStored) (p1:Int):Option (Bool) :=
 need (bif (bLt 0 (p0.length:Nat)) then inb (wr .i64 ((p0.length:Nat) - 1)) p0.length else true) <| some ((bLt 0 (p0.length:Nat)) && (bLt p1 ((gd p0 ((wr .i64 ((p0.length:Nat) - 1)).toNat)).At)))
noncomputable def dD:List AV->AR
 | [v0,v1]=>.pure (lK xW 43 v0/\iK .i64 v1/\(F62 (lA yG v0) (iA v1)).isSome=true) (.bool (gt (F62 (lA yG v0) (iA v1))))
 | _=>.fail
theorem ok62:wM Try.prog 62 (yF dD):=by
 refine wE dD (rs:=[.tmp 4]) Try.func62 (by kernel_rfl) rfl rfl ?_
 intro l ob v hb hob
 unfold dD at hb
 split at hb
 ·rename_i v0 v1
  injection hb with q1 q2;subst q1 q2
  obtain ⟨hk0_0,hk1_0,hob⟩:=hob
  obtain ⟨r,H⟩:=oE.1 hob
  rw [H,yQ]
  have hw0:=qX (fun r h=>uY h) hk0_0
  have hw1:=yI hk1_0
  generalize lA yG v0=p0 at H hw0
  generalize iA v1=p1 at H hw1
  refine ⟨[.ro 43 p0.length false (enR zE p0),.int .i64 p1],_,(fun E vs F=>yO hw0.1 F (fun vs F=>yO hw1.1 F (fun vs F=>F))),rfl,rfl,?_⟩
  rw [Try.ntmps62]
  simp only [lC,lN,Nat.reduceAdd,Nat.reduceSub,rS,rZ,aC,aN]
  unfold F62 at H
  try dsimp only at H
  refine sq zA ?_
  simp only [go_sem]
  refine zK ?_
  obtain ⟨f1,H⟩:=yT.1 H
  replace f1:=tU.1 f1
  replace f1:=fun g=>uQ.1 (f1 g)
  refine rg zA ?_
  simp only [go_sem,Nat.reduceLeDiff,Nat.reduceLT,Nat.reduceAdd]
  repeat ((with_reducible refine And.intro ?_ ?_);focus (first|(with_reducible trivial)|omega|exact f1|(intro g;have q:=f1 (by first|exact g|(rw [g];rfl)|simpa using g);first|exact q|exact ⟨q.1,q.2.1⟩|exact q.2.2|omega|exact ⟨g,q⟩|exact ⟨trivial,q⟩|exact ⟨g,q.1,q.2.1⟩|exact ⟨g,q.2.2⟩)|(intro g;(try have q0:=f1 (by first|exact g|(rw [g];rfl)|simpa using g));and_intros<;>first|(with_reducible trivial)|assumption|exact nfc|(intro g2;rw [g,g2];rfl)|(intro g2;assumption)|(simp only [g,Bool.true_and,Bool.and_true,Bool.not_false,Bool.not_true];assumption)|grind)|(and_intros<;>first|(with_reducible trivial)|omega|assumption|exact nfc|first|exact rfl|exact trivial|exact qV|exact .inr rfl|exact .inl rfl|exact fun x hx=>absurd hx (by omega))|grind))
  refine rg zA ?_
  simp only [go_sem]
  obtain rfl:=Option.some.inj H
  first|rfl|simp only [Bool.and_false,Bool.false_and,Bool.and_true,Bool.true_and]
 ·cases hb
noncomputable def F88 (p0:Int):Option (Bool) :=
 some (!bEq p0 p0)
noncomputable def body88:List AV->AR
 | [v0]=>.pure (iK .u8 v0/\(F88 (iA v0)).isSome=true) (.bool (gt (F88 (iA v0))))
 | _=>.fail
theorem ok88:wM Try.prog 88 (yF body88):=by
 refine wE body88 (rs:=[.tmp 2]) Try.func88 (by kernel_rfl) rfl rfl ?_
 intro l ob v hb hob
 unfold body88 at hb
 split at hb
 ·rename_i v0
  injection hb with q1 q2;subst q1 q2
  obtain ⟨hk0_0,hob⟩:=hob
  obtain ⟨r,H⟩:=oE.1 hob
  rw [H,yQ]
  have hw0:=yI hk0_0
  generalize iA v0=p0 at H hw0
  refine ⟨[.int .u8 p0],_,(fun E vs F=>yO hw0.1 F (fun vs F=>F)),rfl,rfl,?_⟩
  rw [Try.ntmps88]
  simp only [lC,lN,Nat.reduceAdd,Nat.reduceSub,rS,rZ,aC,aN]
  unfold F88 at H
  try dsimp only at H
  refine sq zA ?_
  simp only [go_sem]
  refine sq zA ?_
  simp only [go_sem]
  refine rg zA ?_
  simp only [go_sem]
  obtain rfl:=Option.some.inj H
  first|rfl|simp only [Bool.and_false,Bool.false_and,Bool.and_true,Bool.true_and]
 ·cases hb
noncomputable def ct57t0:Ct:=tab [(88,yF body88)]
theorem ct57t0_ok:yZ Try.prog ct57t0:=zR ok88 <| zY
theorem ct57t0_88 (l:List AV) (h:List ABlk):ct57t0 88 l h=yF body88 l h:=rfl
noncomputable def F57 (p0:Int) (p1:Int):Option (Int) :=
 (F88 p0).bind fun r1=>(F88 p1).bind fun r3=>bif r1 then (bif r3 then (some 0) else (some (-1))) else (bif r3 then (some 1) else (bif (bLt p0 p1) then (some (-1)) else (bif (bLt p1 p0) then (some 1) else (some 0))))
noncomputable def dC:List AV->AR
 | [v0,v1]=>.pure (iK .u8 v0/\iK .u8 v1/\(F57 (iA v0) (iA v1)).isSome=true) (.int .i64 (gt (F57 (iA v0) (iA v1))))
 | _=>.fail
theorem ok57:wM Try.prog 57 (yF dC):=by
 refine wE dC (rs:=[.tmp 4]) Try.func57 (by kernel_rfl) rfl rfl ?_
 intro l ob v hb hob
 unfold dC at hb
 split at hb
 ·rename_i v0 v1
  injection hb with q1 q2;subst q1 q2
  obtain ⟨hk0_0,hk1_0,hob⟩:=hob
  obtain ⟨r,H⟩:=oE.1 hob
  rw [H,yQ]
  have hw0:=yI hk0_0
  have hw1:=yI hk1_0
  generalize iA v0=p0 at H hw0
  generalize iA v1=p1 at H hw1
  refine ⟨[.int .u8 p0,.int .u8 p1],_,(fun E vs F=>yO hw0.1 F (fun vs F=>yO hw1.1 F (fun vs F=>F))),rfl,rfl,?_⟩
  rw [Try.ntmps57]
  simp only [lC,lN,Nat.reduceAdd,Nat.reduceSub,rS,rZ,aC,aN]
  unfold F57 at H
  try dsimp only at H
  refine sq zA ?_
  simp only [go_sem]
  refine zK ?_
  obtain ⟨r1,e2,H⟩:=bsi H
  refine rg ct57t0_ok ?_
  simp only [go_sem,ct57t0_88,body88,e2]
  repeat ((with_reducible refine aI ?_ ?_);exact an0)
  refine zK ?_
  obtain ⟨r3,e4,H⟩:=bsi H
  refine rg ct57t0_ok ?_
  simp only [go_sem,ct57t0_88,body88,e4]
  repeat ((with_reducible refine aI ?_ ?_);exact an0)
  refine zK ?_
  refine sq zA ?_
  simp only [go_sem]
  refine yM rfl trivial (fun hc=>?_) (fun hc=>?_)
  ·have hk5:(r1)=true:=by simpa using hc
   replace H:=yA hc H
   refine zK ?_
   refine sq zA ?_
   simp only [go_sem]
   refine yM rfl trivial (fun hc=>?_) (fun hc=>?_)
   ·have hk6:(r3)=true:=by simpa using hc
    replace H:=yA hc H
    refine sq zA ?_
    simp only [go_sem]
    refine rg zA ?_
    simp only [go_sem]
    obtain rfl:=Option.some.inj H
    first|rfl|simp only [Bool.and_false,Bool.false_and,Bool.and_true,Bool.true_and]
   have hk6:(r3)=false:=by simpa using hc
   replace H:=zZ hc H
   refine rg zA ?_
   simp only [go_sem]
   refine sq zA ?_
   simp only [go_sem]
   refine rg zA ?_
   simp only [go_sem]
   obtain rfl:=Option.some.inj H
   first|rfl|simp only [Bool.and_false,Bool.false_and,Bool.and_true,Bool.true_and]
  have hk5:(r1)=false:=by simpa using hc
  replace H:=zZ hc H
  refine rg zA ?_
  simp only [go_sem]
  refine zK ?_
  refine sq zA ?_
  simp only [go_sem]
  refine yM rfl trivial (fun hc=>?_) (fun hc=>?_)
  ·have hk7:(r3)=true:=by simpa using hc
   replace H:=yA hc H
   refine sq zA ?_
   simp only [go_sem]
   refine rg zA ?_
   simp only [go_sem]
   obtain rfl:=Option.some.inj H
   first|rfl|simp only [Bool.and_false,Bool.false_and,Bool.and_true,Bool.true_and]
  have hk7:(r3)=false:=by simpa using hc
  replace H:=zZ hc H
  refine rg zA ?_
  simp only [go_sem]
  refine zK ?_
  refine sq zA ?_
  simp only [go_sem]
  refine yM rfl trivial (fun hc=>?_) (fun hc=>?_)
  ·have hk8:(bLt p0 p1)=true:=by simpa using hc
   replace H:=yA hc H
   refine sq zA ?_
   simp only [go_sem]
   refine rg zA ?_
   simp only [go_sem]
   obtain rfl:=Option.some.inj H
   first|rfl|simp only [Bool.and_false,Bool.false_and,Bool.and_true,Bool.true_and]
  have hk8:(bLt p0 p1)=false:=by simpa using hc
  replace H:=zZ hc H
  refine rg zA ?_
  simp only [go_sem]
  refine zK ?_
  refine sq zA ?_
  simp only [go_sem]
  refine yM rfl trivial (fun hc=>?_) (fun hc=>?_)
  ·have hk9:(bLt p1 p0)=true:=by simpa using hc
   replace H:=yA hc H
   refine sq zA ?_
   simp only [go_sem]
   refine rg zA ?_
   simp only [go_sem]
   obtain rfl:=Option.some.inj H
   first|rfl|simp only [Bool.and_false,Bool.false_and,Bool.and_true,Bool.true_and]
  have hk9:(bLt p1 p0)=false:=by simpa using hc
  replace H:=zZ hc H
  refine rg zA ?_
  simp only [go_sem]
  refine sq zA ?_
  simp only [go_sem]
  refine rg zA ?_
  simp only [go_sem]
  obtain rfl:=Option.some.inj H
  first|rfl|simp only [Bool.and_false,Bool.false_and,Bool.and_true,Bool.true_and]
 ·cases hb
noncomputable def ct90t0:Ct:=tab [(57,yF dC)]
theorem ct90t0_ok:yZ Try.prog ct90t0:=zR ok57 <| zY
theorem ct90t0_57 (l:List AV) (h:List ABlk):ct90t0 57 l h=yF dC l h:=rfl
noncomputable def F90 (p0:TStored) (p1:TStored):Option (Int) :=
 (F57 p0.Cat p1.Cat).bind fun r1=>some r1
noncomputable def dE:List AV->AR
 | [v0,v1]=>.pure (aK 43 xW v0/\aK 43 xW v1/\(F90 (yG (aL v0)) (yG (aL v1))).isSome=true) (.int .i64 (gt (F90 (yG (aL v0)) (yG (aL v1)))))
 | _=>.fail
theorem ok90:wM Try.prog 90 (yF dE):=by
 refine wE dE (rs:=[.tmp 4]) Try.func90 (by kernel_rfl) rfl rfl ?_
 intro l ob v hb hob
 unfold dE at hb
 split at hb
 ·rename_i v0 v1
  injection hb with q1 q2;subst q1 q2
  obtain ⟨hk0_0,hk1_0,hob⟩:=hob
  obtain ⟨r,H⟩:=oE.1 hob
  rw [H,yQ]
  have hw0:=kR hk0_0
  have hw1:=kR hk1_0
  generalize yG (aL v0)=p0 at H hw0
  generalize yG (aL v1)=p1 at H hw1
  refine ⟨[.agg (.int .u8 p0.Cat::.int .i64 p0.At::.int .u8 p0.Frame.Head.Kind::.int .u8 p0.Frame.Head.Sub::.bool p0.Frame.Head.ToDs::.bool p0.Frame.Head.FromDs::.bool p0.Frame.Head.More::.bool p0.Frame.Head.Retry::.bool p0.Frame.Head.Sleep::.bool p0.Frame.Head.MoreData::.bool p0.Frame.Head.Protected::.int .i64 p0.Frame.Head.Duration::.int .u8 p0.Frame.Head.A1.x0::.int .u8 p0.Frame.Head.A1.x1::.int .u8 p0.Frame.Head.A1.x2::.int .u8 p0.Frame.Head.A1.x3::.int .u8 p0.Frame.Head.A1.x4::.int .u8 p0.Frame.Head.A1.x5::.int .u8 p0.Frame.Head.A2.x0::.int .u8 p0.Frame.Head.A2.x1::.int .u8 p0.Frame.Head.A2.x2::.int .u8 p0.Frame.Head.A2.x3::.int .u8 p0.Frame.Head.A2.x4::.int .u8 p0.Frame.Head.A2.x5::.int .u8 p0.Frame.Head.A3.x0::.int .u8 p0.Frame.Head.A3.x1::.int .u8 p0.Frame.Head.A3.x2::.int .u8 p0.Frame.Head.A3.x3::.int .u8 p0.Frame.Head.A3.x4::.int .u8 p0.Frame.Head.A3.x5::.int .u8 p0.Frame.Head.A4.x0::.int .u8 p0.Frame.Head.A4.x1::.int .u8 p0.Frame.Head.A4.x2::.int .u8 p0.Frame.Head.A4.x3::.int .u8 p0.Frame.Head.A4.x4::.int .u8 p0.Frame.Head.A4.x5::.int .i64 p0.Frame.Head.Seq::.int .i64 p0.Frame.Head.Frag::.int .i64 p0.Frame.Head.Tid::.int .u8 p0.Frame.Head.Ack::.bool p0.Frame.Head.Amsdu::.bool p0.Frame.Head.Eosp::.ro 1 p0.Frame.Body.length false (enR xM p0.Frame.Body)::[]),.agg (.int .u8 p1.Cat::.int .i64 p1.At::.int .u8 p1.Frame.Head.Kind::.int .u8 p1.Frame.Head.Sub::.bool p1.Frame.Head.ToDs::.bool p1.Frame.Head.FromDs::.bool p1.Frame.Head.More::.bool p1.Frame.Head.Retry::.bool p1.Frame.Head.Sleep::.bool p1.Frame.Head.MoreData::.bool p1.Frame.Head.Protected::.int .i64 p1.Frame.Head.Duration::.int .u8 p1.Frame.Head.A1.x0::.int .u8 p1.Frame.Head.A1.x1::.int .u8 p1.Frame.Head.A1.x2::.int .u8 p1.Frame.Head.A1.x3::.int .u8 p1.Frame.Head.A1.x4::.int .u8 p1.Frame.Head.A1.x5::.int .u8 p1.Frame.Head.A2.x0::.int .u8 p1.Frame.Head.A2.x1::.int .u8 p1.Frame.Head.A2.x2::.int .u8 p1.Frame.Head.A2.x3::.int .u8 p1.Frame.Head.A2.x4::.int .u8 p1.Frame.Head.A2.x5::.int .u8 p1.Frame.Head.A3.x0::.int .u8 p1.Frame.Head.A3.x1::.int .u8 p1.Frame.Head.A3.x2::.int .u8 p1.Frame.Head.A3.x3::.int .u8 p1.Frame.Head.A3.x4::.int .u8 p1.Frame.Head.A3.x5::.int .u8 p1.Frame.Head.A4.x0::.int .u8 p1.Frame.Head.A4.x1::.int .u8 p1.Frame.Head.A4.x2::.int .u8 p1.Frame.Head.A4.x3::.int .u8 p1.Frame.Head.A4.x4::.int .u8 p1.Frame.Head.A4.x5::.int .i64 p1.Frame.Head.Seq::.int .i64 p1.Frame.Head.Frag::.int .i64 p1.Frame.Head.Tid::.int .u8 p1.Frame.Head.Ack::.bool p1.Frame.Head.Amsdu::.bool p1.Frame.Head.Eosp::.ro 1 p1.Frame.Body.length false (enR xM p1.Frame.Body)::[])],_,(fun E vs F=>yO hw0.1 F (fun vs F=>yO hw1.1 F (fun vs F=>F))),rfl,rfl,?_⟩
  rw [Try.ntmps90]
  simp only [lC,lN,Nat.reduceAdd,Nat.reduceSub,rS,rZ,aC,aN]
  unfold F90 at H
  try dsimp only at H
  refine sq zA ?_
  simp only [go_sem]
  refine zK ?_
  obtain ⟨r1,e2,H⟩:=bsi H
  refine rg ct90t0_ok ?_
  simp only [go_sem,Nat.reduceLeDiff,Nat.reduceLT,Nat.reduceAdd,ct90t0_57,dC,e2]
  repeat ((with_reducible refine aI ?_ ?_);exact an0)
  refine rg zA ?_
  simp only [go_sem]
  obtain rfl:=Option.some.inj H
  first|rfl|simp only [Bool.and_false,Bool.false_and,Bool.and_true,Bool.true_and]
 ·cases hb
noncomputable def F91_0 (p0:TStored) (p1:Int):Option (Bool) :=
 some (bEq p0.Cat p1)
noncomputable def eE:List AV->AR
 | [v0,v1]=>.pure (aK 43 xW v0/\rK 1 k_u8 v1/\(F91_0 (yG (aL v0)) (jD (rG v1))).isSome=true) (.bool (gt (F91_0 (yG (aL v0)) (jD (rG v1)))))
 | _=>.fail
theorem ok91_0:wM Try.prog 91 (yF eE):=by
 refine wE eE (rs:=[.tmp 3]) Try.func91 (by kernel_rfl) rfl rfl ?_
 intro l ob v hb hob
 unfold eE at hb
 split at hb
 ·rename_i v0 v1
  injection hb with q1 q2;subst q1 q2
  obtain ⟨hk0_0,hk1_0,hob⟩:=hob
  obtain ⟨r,H⟩:=oE.1 hob
  rw [H,yQ]
  have hw0:=kR hk0_0
  have hw1:=rK_wk (f:=xM) (g:=jD) (fun r h=>w_u8 h) hk1_0
  generalize yG (aL v0)=p0 at H hw0
  generalize jD (rG v1)=p1 at H hw1
  refine ⟨[.agg (.int .u8 p0.Cat::.int .i64 p0.At::.int .u8 p0.Frame.Head.Kind::.int .u8 p0.Frame.Head.Sub::.bool p0.Frame.Head.ToDs::.bool p0.Frame.Head.FromDs::.bool p0.Frame.Head.More::.bool p0.Frame.Head.Retry::.bool p0.Frame.Head.Sleep::.bool p0.Frame.Head.MoreData::.bool p0.Frame.Head.Protected::.int .i64 p0.Frame.Head.Duration::.int .u8 p0.Frame.Head.A1.x0::.int .u8 p0.Frame.Head.A1.x1::.int .u8 p0.Frame.Head.A1.x2::.int .u8 p0.Frame.Head.A1.x3::.int .u8 p0.Frame.Head.A1.x4::.int .u8 p0.Frame.Head.A1.x5::.int .u8 p0.Frame.Head.A2.x0::.int .u8 p0.Frame.Head.A2.x1::.int .u8 p0.Frame.Head.A2.x2::.int .u8 p0.Frame.Head.A2.x3::.int .u8 p0.Frame.Head.A2.x4::.int .u8 p0.Frame.Head.A2.x5::.int .u8 p0.Frame.Head.A3.x0::.int .u8 p0.Frame.Head.A3.x1::.int .u8 p0.Frame.Head.A3.x2::.int .u8 p0.Frame.Head.A3.x3::.int .u8 p0.Frame.Head.A3.x4::.int .u8 p0.Frame.Head.A3.x5::.int .u8 p0.Frame.Head.A4.x0::.int .u8 p0.Frame.Head.A4.x1::.int .u8 p0.Frame.Head.A4.x2::.int .u8 p0.Frame.Head.A4.x3::.int .u8 p0.Frame.Head.A4.x4::.int .u8 p0.Frame.Head.A4.x5::.int .i64 p0.Frame.Head.Seq::.int .i64 p0.Frame.Head.Frag::.int .i64 p0.Frame.Head.Tid::.int .u8 p0.Frame.Head.Ack::.bool p0.Frame.Head.Amsdu::.bool p0.Frame.Head.Eosp::.ro 1 p0.Frame.Body.length false (enR xM p0.Frame.Body)::[]),.rptr 1 1 0 0 (enR xM [p1])],_,(fun E vs F=>yO hw0.1 F (fun vs F=>yO hw1.1 F (fun vs F=>F))),rfl,rfl,?_⟩
  rw [Try.ntmps91]
  simp only [lC,lN,Nat.reduceAdd,Nat.reduceSub,rS,rZ,aC,aN]
  unfold F91_0 at H
  try dsimp only at H
  refine sq zA ?_
  simp only [go_sem]
  refine sq zA ?_
  simp only [go_sem,Nat.reduceLeDiff,Nat.reduceLT,Nat.reduceAdd]
  repeat ((with_reducible refine aI ?_ ?_);exact an5)
  refine rg zA ?_
  simp only [go_sem]
  obtain rfl:=Option.some.inj H
  first|rfl|simp only [Bool.and_false,Bool.false_and,Bool.and_true,Bool.true_and]
 ·cases hb
noncomputable def ct58_0t0:Ct:=tab [(91,yF eE)]
theorem ct58_0t0_ok:yZ Try.prog ct58_0t0:=zR ok91_0 <| zY
theorem ct58_0t0_91 (l:List AV) (h:List ABlk):ct58_0t0 91 l h=yF eE l h:=rfl
noncomputable def F58_0_L1 (p0:List TStored) (p1:Int) (v1_1:Int):Option (Lp (Int) ((Unit) ⊕ (Int))) :=
 bif (bLt v1_1 (p0.length:Nat)) then (need (inb v1_1 p0.length) <| (F91_0 (TStored.mk ((gd p0 v1_1.toNat).Cat) ((gd p0 v1_1.toNat).At) (eF ((gd p0 v1_1.toNat).Frame))) p1).bind fun r3=>bif r3 then (some (.done (.inr v1_1))) else (some (.next (wr .i64 (v1_1+1))))) else (some (.done (.inl ())))
noncomputable def F58_0 (p0:List TStored) (p1:Int):Option (Int) :=
 lp (xC (fun s=>F58_0_L1 p0 p1 s) 0) (fun _=>some (-1)) some
noncomputable def qQ:List AV->AR
 | [v0,.fn 91 [v1]]=>.pure (lK xW 43 v0/\rK 1 k_u8 v1/\(F58_0 (lA yG v0) (jD (rG v1))).isSome=true) (.int .i64 (gt (F58_0 (lA yG v0) (jD (rG v1)))))
 | _=>.fail
theorem ok58_0:wM Try.prog 58 (yF qQ):=by
 refine wE qQ (rs:=[.tmp 4]) Try.func58 (by kernel_rfl) rfl rfl ?_
 intro l ob v hb hob
 unfold qQ at hb
 split at hb
 ·rename_i v0 v1
  injection hb with q1 q2;subst q1 q2
  obtain ⟨hk0_0,hk1_0,hob⟩:=hob
  obtain ⟨r,H⟩:=oE.1 hob
  rw [H,yQ]
  have hw0:=qX (fun r h=>uY h) hk0_0
  have hw1:=rK_wk (f:=xM) (g:=jD) (fun r h=>w_u8 h) hk1_0
  generalize lA yG v0=p0 at H hw0
  generalize jD (rG v1)=p1 at H hw1
  refine ⟨[.ro 43 p0.length false (enR zE p0),.fn 91 [.rptr 1 1 0 0 (enR xM [p1])]],_,(fun E vs F=>yO hw0.1 F (fun vs F=>yO (fn_wk (LW_cons hw1.1 LW_nil)) F (fun vs F=>F))),rfl,rfl,?_⟩
  rw [Try.ntmps58]
  simp only [lC,lN,Nat.reduceAdd,Nat.reduceSub,rS,rZ,aC,aN]
  unfold F58_0 at H
  try dsimp only at H
  refine sq zA ?_
  simp only [go_sem]
  refine zK ?_
  refine sq zA ?_
  simp only [go_sem]
  repeat ((with_reducible refine aI ?_ ?_);exact an0)
  refine wN ?_
  refine xX (fun s:Int=>(.ro 43 p0.length false (enR zE p0)::.fn 91 [.rptr 1 1 0 0 (enR xM [p1])]::tp 5 (.int .i64 (p0.length:Nat)::.int .i64 s::tp 10 []))) (fun s=>[]) (fun e:Unit=>(tp 19 [])) (fun e=>[]) H ?_ (fun v1_1 o H hn1_1 hn2_1=>?_) (fun e H=>?_)
  ·refine zT ⟨[],?_,?_,by rfl,by rfl⟩
   ·simp [CvL,Cv,tp]
   ·trivial
  ·unfold F58_0_L1 at H
   try dsimp only at H ⊢
   try simp only [tp]
   refine sq zA ?_
   simp only [go_sem]
   refine zK ?_
   refine condM' rfl trivial (fun hc=>?_) (fun hc=>?_)
   ·have hk1:(bLt v1_1 (p0.length:Nat))=false:=by simpa using hc
    replace H:=zZ hc H
    refine rg zA ?_
    simp only [go_sem]
    refine ⟨_,(Option.some.inj H).symm,?_⟩
    refine zT ⟨[],?_,?_,by rfl,by rfl⟩
    ·simp [CvL,Cv]
    ·trivial
   have hk1:(bLt v1_1 (p0.length:Nat))=true:=by simpa using hc
   replace H:=yA hc H
   refine rg zA ?_
   simp only [go_sem]
   refine zK ?_
   refine wN ?_
   refine sq zA ?_
   simp only [go_sem]
   refine zK ?_
   obtain ⟨f2,H⟩:=nI H
   obtain ⟨r3,e4,H⟩:=bsi H
   refine rg ct58_0t0_ok ?_
   simp only [go_sem,Nat.reduceLT,Nat.reduceAdd,ct58_0t0_91,eE,f2,e4]
   repeat ((with_reducible refine aI ?_ ?_);exact an0)
   refine yM rfl trivial (fun hc=>?_) (fun hc=>?_)
   ·have hk5:(r3)=true:=by simpa using hc
    replace H:=yA hc H
    refine sq zA ?_
    simp only [go_sem]
    refine rg zA ?_
    simp only [go_sem]
    have H:=hn2_1 _ (Option.some.inj H).symm
    obtain rfl:=Option.some.inj H
    first|rfl|simp only [Bool.and_false,Bool.false_and,Bool.and_true,Bool.true_and]
   have hk5:(r3)=false:=by simpa using hc
   replace H:=zZ hc H
   refine rg zA ?_
   simp only [go_sem]
   refine rg zA ?_
   simp only [go_sem]
   refine ⟨_,(Option.some.inj H).symm,?_⟩
   refine zT ⟨[],?_,?_,by rfl,by rfl⟩
   ·simp [CvL,Cv]
   ·trivial
  ·try dsimp only at H ⊢
   try simp only [tp]
   try simp only [xS]
   refine sq zA ?_
   simp only [go_sem]
   refine rg zA ?_
   simp only [go_sem]
   obtain rfl:=Option.some.inj H
   first|rfl|simp only [Bool.and_false,Bool.false_and,Bool.and_true,Bool.true_and]
 ·cases hb
end Go.Proofs.Ytefiemaoacmdkaa
