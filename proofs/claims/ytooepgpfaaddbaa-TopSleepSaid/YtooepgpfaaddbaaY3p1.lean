/-
  What TopSleep reaches.
-/
import Derived.Test.YtooepgpfaaddbaaRG
namespace Go.Proofs.Ytooepgpfaaddbaa
open Go.Am
set_option maxHeartbeats 4000000
set_option maxRecDepth 20000
set_option linter.unusedVariables false
set_option linter.unusedSimpArgs false
attribute [local go_sem] w_skip w_label w_goto w_scope k_goto b_goto l_goto s_normal s_exit s_ret s_goto w_region w_draw w_seq w_cond w_block w_exit w_ret w_loop k_normal k_exit k_ret b_normal b_exit b_ret l_normal l_exit l_ret yR m_exit m_ret m_goto kL_normal kL_exit kL_ret kJ_normal kJ_exit kJ_ret kJR_normal kJR_ret kS_normal kS_exit kS_ret kS_goto vD r_ret o_nil o_cons q_nil q_cons nxt gval gvd gvl gvw dstOf evO vG ogC og ogL ogP ogO rho rhoO strip optOk zR setL wQ absC absV absL pO hO qS ldB geth seth evStore stRes stB evBox evAlloc wS eL xJ eQ binI binB binNR binU fW nilR_t nilR_0 nilR_s evInt evStr evUn evConv cvO evPick mrg fM evNil evCall eJ qG evLen2 vcells vcOk atom tabF cnd retK resFin resL resA resC resCons fL tJ eR qX fillA fillOk putL getP nxtQ pureC_eq pureR genC_eq genR roV roL wN eB roW roWL roWOb roWObL nref nrefL binA binN eqSh eqRes qP evIndex2 evIndexS evSlice evSlice2 qT yM evConv2 cvS vB eN tO evMake wZ repL evFn evMin evMax freshC freshR sub_enR0 tC tK uT uA lenS cutS Bool.or_false Bool.false_or Bool.or_true Bool.true_or Bool.and_false Bool.false_and Option.map_some Option.map_none Option.getD_some Option.getD_none Option.bind_some Option.bind_none Option.or_some Option.or_none Option.none_or Option.isSome_none Option.isNone_none Option.isNone_some aN aC List.append_nil cond_true cond_false lC lN beq_self_eq_true Bool.and_true Bool.true_and Bool.not_true Bool.not_false true_and and_true and_self true_implies implies_true ne_eq not_false_eq_true Bool.false_eq_true Bool.true_eq_false false_implies Nat.lt_irrefl Nat.le_refl Nat.succ_ne_self imp_self Bool.cond_false_right Bool.cond_true_left decide_true decide_false Bool.not_eq_true' Bool.not_eq_false' Bool.not_not Nat.zero_mul Nat.zero_add Nat.add_zero Nat.mul_one Nat.one_mul Bool.cond_self tsz3 tby3 tagg3 tslice3 tarr3 tzero3 tzn3 tplaces3 tint3 tstr3 tnoint3 tbool3 tany3 tintk3 tbytes3 tsz4 tby4 tagg4 tslice4 tarr4 tzero4 tzn4 tplaces4 tint4 tstr4 tnoint4 tbool4 tany4 tintk4 tbytes4 tsz5 tby5 tagg5 tslice5 tarr5 tzero5 tzn5 tplaces5 tint5 tstr5 tnoint5 tbool5 tany5 tintk5 tbytes5 tsz23 tby23 tagg23 tslice23 tarr23 tzero23 tzn23 tplaces23 tint23 tstr23 tnoint23 tbool23 tany23 tintk23 tbytes23 tfld23_0 tfld23_1 tfld23_2 tfld23_3 tfld23_4 tsz24 tby24 tagg24 tslice24 tarr24 tzero24 tzn24 tplaces24 tint24 tstr24 tnoint24 tbool24 tany24 tintk24 tbytes24 tsz26 tby26 tagg26 tslice26 tarr26 tzero26 tzn26 tplaces26 tint26 tstr26 tnoint26 tbool26 tany26 tintk26 tbytes26 tsz28 tby28 tagg28 tslice28 tarr28 tzero28 tzn28 tplaces28 tint28 tstr28 tnoint28 tbool28 tany28 tintk28 tbytes28 tsz29 tby29 tagg29 tslice29 tarr29 tzero29 tzn29 tplaces29 tint29 tstr29 tnoint29 tbool29 tany29 tintk29 tbytes29 tsz31 tby31 tagg31 tslice31 tarr31 tzero31 tzn31 tplaces31 tint31 tstr31 tnoint31 tbool31 tany31 tintk31 tbytes31 tfld31_0 tfld31_1 tfld31_2 tfld31_3 tsz35 tby35 tagg35 tslice35 tarr35 tzero35 tzn35 tplaces35 tint35 tstr35 tnoint35 tbool35 tany35 tintk35 tbytes35 tsz36 tby36 tagg36 tslice36 tarr36 tzero36 tzn36 tplaces36 tint36 tstr36 tnoint36 tbool36 tany36 tintk36 tbytes36 tsz37 tby37 tagg37 tslice37 tarr37 tzero37 tzn37 tplaces37 tint37 tstr37 tnoint37 tbool37 tany37 tintk37 tbytes37 tsz38 tby38 tagg38 tslice38 tarr38 tzero38 tzn38 tplaces38 tint38 tstr38 tnoint38 tbool38 tany38 tintk38 tbytes38 tsz40 tby40 tagg40 tslice40 tarr40 tzero40 tzn40 tplaces40 tint40 tstr40 tnoint40 tbool40 tany40 tintk40 tbytes40 tfld40_0 tfld40_1 tfld40_2 tfld40_3 tfld40_4 tfld40_5 tfld40_6 tsz42 tby42 tagg42 tslice42 tarr42 tzero42 tzn42 tplaces42 tint42 tstr42 tnoint42 tbool42 tany42 tintk42 tbytes42 tfld42_0 tfld42_1 tsz46 tby46 tagg46 tslice46 tarr46 tzero46 tzn46 tplaces46 tint46 tstr46 tnoint46 tbool46 tany46 tintk46 tbytes46 tsz49 tby49 tagg49 tslice49 tarr49 tzero49 tzn49 tplaces49 tint49 tstr49 tnoint49 tbool49 tany49 tintk49 tbytes49 tfld49_0 tfld49_1 tfld49_2 tfld49_3 tfld49_4 tfld49_5 tfld49_6 tfld49_7 tfld49_8 tfld49_9 tfld49_10 tfld49_11 tfld49_12 tfld49_13 tfld49_14 tfld49_15 tfld49_16 tfld49_17 tfld49_18 tfld49_19 tsz50 tby50 tagg50 tslice50 tarr50 tzero50 tzn50 tplaces50 tint50 tstr50 tnoint50 tbool50 tany50 tintk50 tbytes50 tsz54 tby54 tagg54 tslice54 tarr54 tzero54 tzn54 tplaces54 tint54 tstr54 tnoint54 tbool54 tany54 tintk54 tbytes54 tfld54_0 tfld54_1 tsz61 tby61 tagg61 tslice61 tarr61 tzero61 tzn61 tplaces61 tint61 tstr61 tnoint61 tbool61 tany61 tintk61 tbytes61 tfld61_0 tfld61_1 tsz72 tby72 tagg72 tslice72 tarr72 tzero72 tzn72 tplaces72 tint72 tstr72 tnoint72 tbool72 tany72 tintk72 tbytes72 tfld72_0 tfld72_1 tfld72_2 tsz73 tby73 tagg73 tslice73 tarr73 tzero73 tzn73 tplaces73 tint73 tstr73 tnoint73 tbool73 tany73 tintk73 tbytes73 tsz74 tby74 tagg74 tslice74 tarr74 tzero74 tzn74 tplaces74 tint74 tstr74 tnoint74 tbool74 tany74 tintk74 tbytes74 tsz80 tby80 tagg80 tslice80 tarr80 tzero80 tzn80 tplaces80 tint80 tstr80 tnoint80 tbool80 tany80 tintk80 tbytes80 tsz82 tby82 tagg82 tslice82 tarr82 tzero82 tzn82 tplaces82 tint82 tstr82 tnoint82 tbool82 tany82 tintk82 tbytes82 tfld82_0 tfld82_1 tfld82_2 tsz91 tby91 tagg91 tslice91 tarr91 tzero91 tzn91 tplaces91 tint91 tstr91 tnoint91 tbool91 tany91 tintk91 tbytes91 tsz93 tby93 tagg93 tslice93 tarr93 tzero93 tzn93 tplaces93 tint93 tstr93 tnoint93 tbool93 tany93 tintk93 tbytes93 tsz100 tby100 tagg100 tslice100 tarr100 tzero100 tzn100 tplaces100 tint100 tstr100 tnoint100 tbool100 tany100 tintk100 tbytes100 tsz106 tby106 tagg106 tslice106 tarr106 tzero106 tzn106 tplaces106 tint106 tstr106 tnoint106 tbool106 tany106 tintk106 tbytes106 tsz115 tby115 tagg115 tslice115 tarr115 tzero115 tzn115 tplaces115 tint115 tstr115 tnoint115 tbool115 tany115 tintk115 tbytes115 tsz116 tby116 tagg116 tslice116 tarr116 tzero116 tzn116 tplaces116 tint116 tstr116 tnoint116 tbool116 tany116 tintk116 tbytes116 tsz117 tby117 tagg117 tslice117 tarr117 tzero117 tzn117 tplaces117 tint117 tstr117 tnoint117 tbool117 tany117 tintk117 tbytes117 tsz118 tby118 tagg118 tslice118 tarr118 tzero118 tzn118 tplaces118 tint118 tstr118 tnoint118 tbool118 tany118 tintk118 tbytes118 tsz121 tby121 tagg121 tslice121 tarr121 tzero121 tzn121 tplaces121 tint121 tstr121 tnoint121 tbool121 tany121 tintk121 tbytes121 tsz123 tby123 tagg123 tslice123 tarr123 tzero123 tzn123 tplaces123 tint123 tstr123 tnoint123 tbool123 tany123 tintk123 tbytes123 tsz124 tby124 tagg124 tslice124 tarr124 tzero124 tzn124 tplaces124 tint124 tstr124 tnoint124 tbool124 tany124 tintk124 tbytes124 e_u8_0 fit_u8 de_u8 vJ k_u8 e_i64_0 fit_i64 de_i64 wO k_i64 e_b_0 fit_b de_b g_b k_b tQ tR tT tU tV qH kA g_TWakeRule wG qF dF dG bV de_TComing g_TComing vR bP fG fQ eY tE uL e_A6u8_0 e_A6u8_1 e_A6u8_2 e_A6u8_3 e_A6u8_4 e_A6u8_5 fit_A6u8 de_A6u8 g_A6u8 k_A6u8 eta_A6u8 cO cP cQ cR cS cT cU cV cW cX kD kE kF kG kH kI kK kN kP kQ kR kT kU kV kW kX kY kZ jA jB jC jD jE jF jG jH jI jJ jK jL bW de_THeader fS qL bQ e_lu8_0 fit_lu8 de_lu8 g_lu8 k_lu8 e_TFrame_0 e_TFrame_1 e_TFrame_2 e_TFrame_3 e_TFrame_4 e_TFrame_5 e_TFrame_6 e_TFrame_7 e_TFrame_8 e_TFrame_9 dH dI dJ dK dL dM dN dO dP dQ dR dT dU dV dW dX dY cA cB cC cD cE cF cG cH cI cJ cK cL cM cN fit_TFrame de_TFrame zT vK eta_TFrame cY cZ bC bD bE bF bG bH bI bJ jP jQ jR jS jT jU jV jW jX jY jZ hU hZ gA gB gC gD gE gF gG gH gI gJ gK gL gM gN gO gP gQ gR gS gT bX de_TStored yA xD bR fH fR eZ tF uM jM jN jO fN eU yI xL fI qE qI kB uF vQ dB dC dD dE bU de_TBuffer zG xS bM e_li64_0 fit_li64 de_li64 g_li64 k_li64 e_A4i64_0 e_A4i64_1 e_A4i64_2 e_A4i64_3 fit_A4i64 de_A4i64 g_A4i64 k_A4i64 eta_A4i64 gW gX gY gZ fA fB fC fD fE fF tW tX tY qA qB qC qD fP eW tD uK fK bL bY de_lTFrame fT qM gU gV fO eV yO wF fJ e_u64_0 fit_u64 de_u64 g_u64 k_u64 e_A32u8_0 e_A32u8_1 e_A32u8_2 e_A32u8_3 e_A32u8_4 e_A32u8_5 e_A32u8_6 e_A32u8_7 e_A32u8_8 e_A32u8_9 e_A32u8_10 e_A32u8_11 e_A32u8_12 e_A32u8_13 e_A32u8_14 e_A32u8_15 e_A32u8_16 e_A32u8_17 e_A32u8_18 e_A32u8_19 e_A32u8_20 e_A32u8_21 e_A32u8_22 e_A32u8_23 e_A32u8_24 e_A32u8_25 e_A32u8_26 e_A32u8_27 e_A32u8_28 e_A32u8_29 e_A32u8_30 e_A32u8_31 fit_A32u8 de_A32u8 g_A32u8 k_A32u8 eta_A32u8 deR_0 deR_1 deR_2 deR_3 deR_4 deR_5 deR_6 deR_7 deR_8 deR_9 deR_10 deR_11 deR_12 litC_x0 litC_x1 litC_x2 litC_x3 litC_x4 litC_x5 litC_x6 litC_x7 litC_x8 litC_x9 litC_x10 litC_x11 strE_u8 Fit_0 Option.isSome_some yD gd_one evCopyL eH evLk_mp evLk_val evLkM bT findMb_lit findMb_row bS mapC_nil tabR sub_enR dZ xrD xoD tN vS rK rM rG aL aK iK bK sK lK iA bA sA lA or_true true_or Int.toNat_natCast shT_23 shT_37 shT_42 shT_46 shT_49 shT_121 Int.toNat_zero Int.cast_ofNat_Int kSP_normal kOP_normal kLP_exit pcC_lt upc_ii aLs roD roDOb yF edC edR eE rnm rnmL rnmB rnmC_en rnmC_upc rnmH rnm_bif rnmB_bif putH dA rhoN ptB slN litL celL pK isLit oS isRow inL fzV fzL wK tL fzH fzHF fzB fzObB eI rowOb
abbrev eF (x : TFrame) : TFrame := TFrame.mk (THeader.mk x.Head.Kind x.Head.Sub x.Head.ToDs x.Head.FromDs x.Head.More x.Head.Retry x.Head.Sleep x.Head.MoreData x.Head.Protected x.Head.Duration (A6u8.mk x.Head.A1.x0 x.Head.A1.x1 x.Head.A1.x2 x.Head.A1.x3 x.Head.A1.x4 x.Head.A1.x5) (A6u8.mk x.Head.A2.x0 x.Head.A2.x1 x.Head.A2.x2 x.Head.A2.x3 x.Head.A2.x4 x.Head.A2.x5) (A6u8.mk x.Head.A3.x0 x.Head.A3.x1 x.Head.A3.x2 x.Head.A3.x3 x.Head.A3.x4 x.Head.A3.x5) (A6u8.mk x.Head.A4.x0 x.Head.A4.x1 x.Head.A4.x2 x.Head.A4.x3 x.Head.A4.x4 x.Head.A4.x5) x.Head.Seq x.Head.Frag x.Head.Tid x.Head.Ack x.Head.Amsdu x.Head.Eosp) x.Body
theorem an0 {A:Prop} (a:A:=by first|(and_intros<;>first|(with_reducible trivial)|omega|assumption|exact nfc|first|exact rfl|exact trivial|exact uV|exact .inr rfl|exact .inl rfl|exact fun x hx=>absurd hx (by omega))|grind):A:=a
theorem an1 {A:Prop} (a:A:=by first|(and_intros<;>first|(with_reducible trivial)|omega|assumption|exact nfc|first|exact rfl|exact trivial|exact uV|exact .inr rfl|exact .inl rfl|exact fun x hx=>absurd hx (by omega)|(intro x hx;(repeat (first|(and_intros<;>(first|exact rfl|exact trivial|exact uV|exact .inr rfl|exact .inl rfl|exact fun x hx=>absurd hx (by omega)))|(exfalso;omega)|(rcases x with _|x)));done)|(refine Fit_app ?_ ?_<;>first|exact uV|(intro x hx;(repeat (first|(and_intros<;>(first|exact rfl|exact trivial|exact uV|exact .inr rfl|exact .inl rfl|exact fun x hx=>absurd hx (by omega)))|(exfalso;omega)|(rcases x with _|x)));done)|(refine Fit_app ?_ ?_<;>first|exact uV|(intro x hx;(repeat (first|(and_intros<;>(first|exact rfl|exact trivial|exact uV|exact .inr rfl|exact .inl rfl|exact fun x hx=>absurd hx (by omega)))|(exfalso;omega)|(rcases x with _|x)));done))))|grind):A:=a
theorem an2 {A:Prop} (a:A:=by and_intros<;>first|(with_reducible trivial)|(show anB _ _ _=true;subst han;kernel_rfl)|(show (anB _ _ _ && _)=true;subst han;kernel_rfl)|omega|assumption|exact nrc|exact nfc|first|exact rfl|exact trivial|exact uV|exact .inr rfl|exact .inl rfl|exact fun x hx=>absurd hx (by omega)|(intro x hx;(repeat (first|(and_intros<;>(first|exact rfl|exact trivial|exact uV|exact .inr rfl|exact .inl rfl|exact fun x hx=>absurd hx (by omega)))|(exfalso;omega)|(rcases x with _|x)));done)|(refine Fit_app ?_ ?_<;>first|exact uV|(intro x hx;(repeat (first|(and_intros<;>(first|exact rfl|exact trivial|exact uV|exact .inr rfl|exact .inl rfl|exact fun x hx=>absurd hx (by omega)))|(exfalso;omega)|(rcases x with _|x)));done)|(refine Fit_app ?_ ?_<;>first|exact uV|(intro x hx;(repeat (first|(and_intros<;>(first|exact rfl|exact trivial|exact uV|exact .inr rfl|exact .inl rfl|exact fun x hx=>absurd hx (by omega)))|(exfalso;omega)|(rcases x with _|x)));done)))):A:=a
theorem an3 {A:Prop} (a:A:=by first|(and_intros<;>first|(with_reducible trivial)|omega|assumption|exact nfc|first|exact rfl|exact trivial|exact uV|exact .inr rfl|exact .inl rfl|exact fun x hx=>absurd hx (by omega)|(intro x hx;(repeat (first|(and_intros<;>(first|exact rfl|exact trivial|exact uV|exact .inr rfl|exact .inl rfl|exact fun x hx=>absurd hx (by omega)))|(exfalso;omega)|(rcases x with _|x)));done))|grind):A:=a
theorem an4 {A:Prop} (a:A:=by first|(with_reducible trivial)|omega|grind):A:=a
theorem an5 {A:Prop} (a:A:=by first|(with_reducible trivial)|omega|(intro g;and_intros<;>first|(with_reducible trivial)|assumption|exact nfc|(intro g2;rw [g,g2];rfl)|(intro g2;assumption)|(simp only [g,Bool.true_and,Bool.and_true,Bool.not_false,Bool.not_true];assumption)|grind)|(and_intros<;>first|(with_reducible trivial)|omega|assumption|exact nfc|first|exact rfl|exact trivial|exact uV|exact .inr rfl|exact .inl rfl|exact fun x hx=>absurd hx (by omega))|grind):A:=a
theorem an6 {A:Prop} (a:A:=by and_intros<;>first|(with_reducible trivial)|(show anB _ _ _=true;subst han;kernel_rfl)|(show (anB _ _ _ && _)=true;subst han;kernel_rfl)|omega|assumption|exact nrc|exact nfc|first|exact rfl|exact trivial|exact uV|exact .inr rfl|exact .inl rfl|exact fun x hx=>absurd hx (by omega)):A:=a
theorem an7 {A:Prop} (a:A:=by first|(with_reducible trivial)|omega|(intro g;and_intros<;>first|(with_reducible trivial)|assumption|exact nfc|(intro g2;rw [g,g2];rfl)|(intro g2;assumption)|(simp only [g,Bool.true_and,Bool.and_true,Bool.not_false,Bool.not_true];assumption)|grind)|(and_intros<;>first|(with_reducible trivial)|omega|assumption|exact nfc|first|exact rfl|exact trivial|exact uV|exact .inr rfl|exact .inl rfl|exact fun x hx=>absurd hx (by omega)|(intro x hx;(repeat (first|(and_intros<;>(first|exact rfl|exact trivial|exact uV|exact .inr rfl|exact .inl rfl|exact fun x hx=>absurd hx (by omega)))|(exfalso;omega)|(rcases x with _|x)));done)|(refine Fit_app ?_ ?_<;>first|exact uV|(intro x hx;(repeat (first|(and_intros<;>(first|exact rfl|exact trivial|exact uV|exact .inr rfl|exact .inl rfl|exact fun x hx=>absurd hx (by omega)))|(exfalso;omega)|(rcases x with _|x)));done)|(refine Fit_app ?_ ?_<;>first|exact uV|(intro x hx;(repeat (first|(and_intros<;>(first|exact rfl|exact trivial|exact uV|exact .inr rfl|exact .inl rfl|exact fun x hx=>absurd hx (by omega)))|(exfalso;omega)|(rcases x with _|x)));done))))|grind):A:=a
theorem at0 {A:Prop} (a:A:=by and_intros<;>first|(with_reducible trivial)|omega|exact nfc|trivial):A:=a
theorem cv {A:Prop} (a:A:=by simp [CvB,CvL,Cv,wB,geth,yB]):A:=a
theorem cl {A:Prop} (a:A:=by first|rfl|(simp;done)|(simp;omega)):A:=a
noncomputable def F24 (p0:Int):Option (Bool) :=
 some ((bLe 0 p0) && (bLe p0 1099511627776))
noncomputable def body24:List AV->AR
 | [v0]=>.pure (iK .i64 v0/\(F24 (iA v0)).isSome=true) (.bool (gt (F24 (iA v0))))
 | _=>.fail
theorem ok24:xZ Try.prog 24 (zV body24):=by
 refine xC body24 (rs:=[.tmp 2]) Try.func24 (by kernel_rfl) rfl rfl ?_
 intro l ob v hb hob
 unfold body24 at hb
 split at hb
 ·rename_i v0
  injection hb with q1 q2;subst q1 q2
  obtain ⟨hk0_0,hob⟩:=hob
  obtain ⟨r,H⟩:=oE.1 hob
  rw [H,yD]
  have hw0:=yJ hk0_0
  generalize iA v0=p0 at H hw0
  refine ⟨[.int .i64 p0],_,(fun E vs F=>yL hw0.1 F (fun vs F=>F)),rfl,rfl,?_⟩
  rw [Try.ntmps24]
  simp only [lC,lN,Nat.reduceAdd,Nat.reduceSub,rS,rZ,aC,aN]
  unfold F24 at H
  try dsimp only at H
  refine sq zA ?_
  simp only [go_sem]
  refine sq zA ?_
  simp only [go_sem]
  repeat ((with_reducible refine aI ?_ ?_);exact an4)
  refine rg zA ?_
  simp only [go_sem]
  obtain rfl:=Option.some.inj H
  first|rfl|simp only [Bool.and_false,Bool.false_and,Bool.and_true,Bool.true_and]
 ·cases hb
noncomputable def ct40t0:Ct:=tab [(24,zV body24)]
theorem ct40t0_ok:yU Try.prog ct40t0:=zP ok24 <| zX
theorem ct40t0_24 (l:List AV) (h:List ABlk):ct40t0 24 l h=zV body24 l h:=rfl
noncomputable def F40_L1 (p0:List TStored) (p2:Int) (v1_1:Int):Option (Lp (Int) ((Unit) ⊕ (Bool))) :=
 bif (bLt v1_1 (p0.length:Nat)) then (need (inb v1_1 p0.length) <| need (bif (!(bLt p2 ((gd p0 v1_1.toNat).Cat))) then ((F24 ((gd p0 v1_1.toNat).At)).isSome) else true) <| need (bif ((!((bLt p2 ((gd p0 v1_1.toNat).Cat)) || (!(gt (F24 ((gd p0 v1_1.toNat).At)))))) && (bLt 0 v1_1)) then inb (wr .i64 (v1_1 - 1)) p0.length else true) <| bif (((bLt p2 ((gd p0 v1_1.toNat).Cat)) || (!(gt (F24 ((gd p0 v1_1.toNat).At))))) || ((bLt 0 v1_1) && (bLt ((gd p0 v1_1.toNat).At) ((gd p0 ((wr .i64 (v1_1 - 1)).toNat)).At)))) then (some (.done (.inr false))) else (some (.next (wr .i64 (v1_1+1))))) else (some (.done (.inl ())))
noncomputable def F40 (p0:List TStored) (p1:Int) (p2:Int):Option (Bool) :=
 bif (bLt p1 (p0.length:Nat)) then (some false) else (lp (yN (fun s=>F40_L1 p0 p2 s) 0) (fun _=>some true) some)
noncomputable def body40:List AV->AR
 | [v0,v1,v2]=>.pure (lK xD 43 v0/\iK .i64 v1/\iK .u8 v2/\(F40 (lA yA v0) (iA v1) (iA v2)).isSome=true) (.bool (gt (F40 (lA yA v0) (iA v1) (iA v2))))
 | _=>.fail
theorem ok40:xZ Try.prog 40 (zV body40):=by
 refine xC body40 (rs:=[.tmp 6]) Try.func40 (by kernel_rfl) rfl rfl ?_
 intro l ob v hb hob
 unfold body40 at hb
 split at hb
 ·rename_i v0 v1 v2
  injection hb with q1 q2;subst q1 q2
  obtain ⟨hk0_0,hk1_0,hk2_0,hob⟩:=hob
  obtain ⟨r,H⟩:=oE.1 hob
  rw [H,yD]
  have hw0:=uP (fun r h=>eA h) hk0_0
  have hw1:=yJ hk1_0
  have hw2:=yJ hk2_0
  generalize lA yA v0=p0 at H hw0
  generalize iA v1=p1 at H hw1
  generalize iA v2=p2 at H hw2
  refine ⟨[.ro 43 p0.length false (enR zD p0),.int .i64 p1,.int .u8 p2],_,(fun E vs F=>yL hw0.1 F (fun vs F=>yL hw1.1 F (fun vs F=>yL hw2.1 F (fun vs F=>F)))),rfl,rfl,?_⟩
  rw [Try.ntmps40]
  simp only [lC,lN,Nat.reduceAdd,Nat.reduceSub,rS,rZ,aC,aN]
  unfold F40 at H
  try dsimp only at H
  refine sq zA ?_
  simp only [go_sem]
  refine zH ?_
  refine sq zA ?_
  simp only [go_sem]
  repeat ((with_reducible refine aI ?_ ?_);exact an0)
  refine yE rfl trivial (fun hc=>?_) (fun hc=>?_)
  ·have hk1:(bLt p1 (p0.length:Nat))=true:=by simpa using hc
   replace H:=zO hc H
   refine sq zA ?_
   simp only [go_sem]
   refine rg zA ?_
   simp only [go_sem]
   obtain rfl:=Option.some.inj H
   first|rfl|simp only [Bool.and_false,Bool.false_and,Bool.and_true,Bool.true_and]
  have hk1:(bLt p1 (p0.length:Nat))=false:=by simpa using hc
  replace H:=zN hc H
  refine rg zA ?_
  simp only [go_sem]
  refine zH ?_
  refine sq zA ?_
  simp only [go_sem]
  repeat ((with_reducible refine aI ?_ ?_);exact an0)
  refine xI ?_
  refine xA (fun s:Int=>(.ro 43 p0.length false (enR zD p0)::.top::.int .u8 p2::tp 10 (.ro 43 p0.length false (enR zD p0)::.int .i64 (p0.length:Nat)::.int .i64 s::tp 30 []))) (fun s=>[]) (fun e:Unit=>(tp 46 [])) (fun e=>[]) H ?_ (fun v1_1 o H hn1_1 hn2_1=>?_) (fun e H=>?_)
  ·refine zI ⟨[],?_,?_,by rfl,by rfl⟩
   ·simp [CvL,Cv,tp]
   ·trivial
  ·unfold F40_L1 at H
   try dsimp only at H ⊢
   try simp only [tp]
   refine sq zA ?_
   simp only [go_sem]
   refine zH ?_
   refine condM' rfl trivial (fun hc=>?_) (fun hc=>?_)
   ·have hk2:(bLt v1_1 (p0.length:Nat))=false:=by simpa using hc
    replace H:=zN hc H
    refine rg zA ?_
    simp only [go_sem]
    refine ⟨_,(Option.some.inj H).symm,?_⟩
    refine zI ⟨[],?_,?_,by rfl,by rfl⟩
    ·simp [CvL,Cv]
    ·trivial
   have hk2:(bLt v1_1 (p0.length:Nat))=true:=by simpa using hc
   replace H:=zO hc H
   refine rg zA ?_
   simp only [go_sem]
   refine zH ?_
   refine xI ?_
   refine zH ?_
   obtain ⟨f3,H⟩:=nI H
   refine rg zA ?_
   simp only [go_sem,Nat.reduceLT,Nat.reduceAdd,f3]
   repeat ((with_reducible refine aI ?_ ?_);exact an4)
   refine zH ?_
   obtain ⟨f4,H⟩:=yH.1 H
   replace f4:=bZ.1 f4
   obtain ⟨f5,H⟩:=yH.1 H
   replace f5:=bZ.1 f5
   replace f5:=fun g=>uG.1 (f5 g)
   refine vY zL ct40t0_ok (by kernel_rfl) (by kernel_rfl) ?_
   simp only [go_sem,Nat.reduceLeDiff,Nat.reduceLT,Nat.reduceAdd,ct40t0_24,body24]
   repeat ((with_reducible refine And.intro ?_ ?_);focus (first|(with_reducible trivial)|omega|exact f4|exact f5|(intro g;have q:=f4 (by first|exact g|(rw [g];rfl)|simpa using g);first|exact q|exact ⟨q.1,q.2.1⟩|exact q.2.2|omega|exact ⟨g,q⟩|exact ⟨trivial,q⟩|exact ⟨g,q.1,q.2.1⟩|exact ⟨g,q.2.2⟩)|(intro g;have q:=f5 (by first|exact g|(rw [g];rfl)|simpa using g);first|exact q|exact ⟨q.1,q.2.1⟩|exact q.2.2|omega|exact ⟨g,q⟩|exact ⟨trivial,q⟩|exact ⟨g,q.1,q.2.1⟩|exact ⟨g,q.2.2⟩)|(intro g;(try have q0:=f4 (by first|exact g|(rw [g];rfl)|simpa using g));(try have q1:=f5 (by first|exact g|(rw [g];rfl)|simpa using g));and_intros<;>first|(with_reducible trivial)|assumption|exact nfc|(intro g2;rw [g,g2];rfl)|(intro g2;assumption)|(simp only [g,Bool.true_and,Bool.and_true,Bool.not_false,Bool.not_true];assumption)|grind)|(and_intros<;>first|(with_reducible trivial)|omega|assumption|exact nfc|first|exact rfl|exact trivial|exact uV|exact .inr rfl|exact .inl rfl|exact fun x hx=>absurd hx (by omega))|grind))
   refine yE rfl trivial (fun hc=>?_) (fun hc=>?_)
   ·have hk6:(((bLt p2 ((gd p0 v1_1.toNat).Cat)) || (!(gt (F24 ((gd p0 v1_1.toNat).At))))) || ((bLt 0 v1_1) && (bLt ((gd p0 v1_1.toNat).At) ((gd p0 ((wr .i64 (v1_1 - 1)).toNat)).At))))=true:=by first|simpa using hc|simpa only [Bool.not_eq_true',Bool.not_eq_false'] using hc
    replace H:=zO hc H
    refine sq zA ?_
    simp only [go_sem]
    refine rg zA ?_
    simp only [go_sem]
    have H:=hn2_1 _ (Option.some.inj H).symm
    obtain rfl:=Option.some.inj H
    first|rfl|simp only [Bool.and_false,Bool.false_and,Bool.and_true,Bool.true_and]
   have hk6:(((bLt p2 ((gd p0 v1_1.toNat).Cat)) || (!(gt (F24 ((gd p0 v1_1.toNat).At))))) || ((bLt 0 v1_1) && (bLt ((gd p0 v1_1.toNat).At) ((gd p0 ((wr .i64 (v1_1 - 1)).toNat)).At))))=false:=by first|simpa using hc|simpa only [Bool.not_eq_true',Bool.not_eq_false'] using hc
   replace H:=zN hc H
   refine rg zA ?_
   simp only [go_sem]
   refine rg zA ?_
   simp only [go_sem]
   refine ⟨_,(Option.some.inj H).symm,?_⟩
   refine zI ⟨[],?_,?_,by rfl,by rfl⟩
   ·simp [CvL,Cv]
   ·trivial
  ·try dsimp only at H ⊢
   try simp only [tp]
   try simp only [yR]
   refine sq zA ?_
   simp only [go_sem]
   refine rg zA ?_
   simp only [go_sem]
   obtain rfl:=Option.some.inj H
   first|rfl|simp only [Bool.and_false,Bool.false_and,Bool.and_true,Bool.true_and]
 ·cases hb
noncomputable def F62 (p0:TSleeper):Option (Bool) :=
 some p0.Asleep
noncomputable def body62:List AV->AR
 | [v0]=>.pure (aK 3 xL v0/\(F62 (yI (aL v0))).isSome=true) (.bool (gt (F62 (yI (aL v0)))))
 | _=>.fail
theorem ok62:xZ Try.prog 62 (zV body62):=by
 refine xC body62 (rs:=[.tmp 2]) Try.func62 (by kernel_rfl) rfl rfl ?_
 intro l ob v hb hob
 unfold body62 at hb
 split at hb
 ·rename_i v0
  injection hb with q1 q2;subst q1 q2
  obtain ⟨hk0_0,hob⟩:=hob
  obtain ⟨r,H⟩:=oE.1 hob
  rw [H,yD]
  have hw0:=wA_TSleeper hk0_0
  generalize yI (aL v0)=p0 at H hw0
  refine ⟨[.agg [.int .i64 p0.Aid,.bool p0.Asleep,.ro 43 p0.Held.length false (enR zD p0.Held)]],_,(fun E vs F=>yL hw0.1 F (fun vs F=>F)),rfl,rfl,?_⟩
  rw [Try.ntmps62]
  simp only [lC,lN,Nat.reduceAdd,Nat.reduceSub,rS,rZ,aC,aN]
  unfold F62 at H
  try dsimp only at H
  refine sq zA ?_
  simp only [go_sem]
  refine sq zA ?_
  simp only [go_sem,Nat.reduceLeDiff,Nat.reduceLT,Nat.reduceAdd]
  repeat ((with_reducible refine aI ?_ ?_);exact an4)
  refine rg zA ?_
  simp only [go_sem]
  obtain rfl:=Option.some.inj H
  first|rfl|simp only [Bool.and_false,Bool.false_and,Bool.and_true,Bool.true_and]
 ·cases hb
noncomputable def ct67_0t0:Ct:=tab [(62,zV body62)]
theorem ct67_0t0_ok:yU Try.prog ct67_0t0:=zP ok62 <| zX
theorem ct67_0t0_62 (l:List AV) (h:List ABlk):ct67_0t0 62 l h=zV body62 l h:=rfl
noncomputable def F67_0_L1 (p0:List TSleeper) (v1_1:Int):Option (Lp (Int) ((Unit) ⊕ (Int))) :=
 bif (bLt v1_1 (p0.length:Nat)) then (need (inb v1_1 p0.length) <| (F62 (gd p0 v1_1.toNat)).bind fun r3=>bif r3 then (some (.done (.inr v1_1))) else (some (.next (wr .i64 (v1_1+1))))) else (some (.done (.inl ())))
noncomputable def F67_0 (p0:List TSleeper):Option (Int) :=
 lp (yN (fun s=>F67_0_L1 p0 s) 0) (fun _=>some (-1)) some
noncomputable def body67_0:List AV->AR
 | [v0,.fn 62 []]=>.pure (lK xL 3 v0/\(F67_0 (lA yI v0)).isSome=true) (.int .i64 (gt (F67_0 (lA yI v0))))
 | _=>.fail
theorem ok67_0:xZ Try.prog 67 (zV body67_0):=by
 refine xC body67_0 (rs:=[.tmp 4]) Try.func67 (by kernel_rfl) rfl rfl ?_
 intro l ob v hb hob
 unfold body67_0 at hb
 split at hb
 ·rename_i v0
  injection hb with q1 q2;subst q1 q2
  obtain ⟨hk0_0,hob⟩:=hob
  obtain ⟨r,H⟩:=oE.1 hob
  rw [H,yD]
  have hw0:=uP (fun r h=>w_TSleeper h) hk0_0
  generalize lA yI v0=p0 at H hw0
  refine ⟨[.ro 3 p0.length false (enR zF p0),.fn 62 []],_,(fun E vs F=>yL hw0.1 F (fun vs F=>yL (fn_wk LW_nil) F (fun vs F=>F))),rfl,rfl,?_⟩
  rw [Try.ntmps67]
  simp only [lC,lN,Nat.reduceAdd,Nat.reduceSub,rS,rZ,aC,aN]
  unfold F67_0 at H
  try dsimp only at H
  refine sq zA ?_
  simp only [go_sem]
  refine zH ?_
  refine sq zA ?_
  simp only [go_sem]
  repeat ((with_reducible refine aI ?_ ?_);exact an0)
  refine xI ?_
  refine xA (fun s:Int=>(.ro 3 p0.length false (enR zF p0)::.fn 62 []::tp 5 (.int .i64 (p0.length:Nat)::.int .i64 s::tp 10 []))) (fun s=>[]) (fun e:Unit=>(tp 19 [])) (fun e=>[]) H ?_ (fun v1_1 o H hn1_1 hn2_1=>?_) (fun e H=>?_)
  ·refine zI ⟨[],?_,?_,by rfl,by rfl⟩
   ·simp [CvL,Cv,tp]
   ·trivial
  ·unfold F67_0_L1 at H
   try dsimp only at H ⊢
   try simp only [tp]
   refine sq zA ?_
   simp only [go_sem]
   refine zH ?_
   refine condM' rfl trivial (fun hc=>?_) (fun hc=>?_)
   ·have hk1:(bLt v1_1 (p0.length:Nat))=false:=by simpa using hc
    replace H:=zN hc H
    refine rg zA ?_
    simp only [go_sem]
    refine ⟨_,(Option.some.inj H).symm,?_⟩
    refine zI ⟨[],?_,?_,by rfl,by rfl⟩
    ·simp [CvL,Cv]
    ·trivial
   have hk1:(bLt v1_1 (p0.length:Nat))=true:=by simpa using hc
   replace H:=zO hc H
   refine rg zA ?_
   simp only [go_sem]
   refine zH ?_
   refine xI ?_
   refine sq zA ?_
   simp only [go_sem]
   refine zH ?_
   obtain ⟨f2,H⟩:=nI H
   obtain ⟨r3,e4,H⟩:=bsi H
   refine rg ct67_0t0_ok ?_
   simp only [go_sem,Nat.reduceLT,Nat.reduceAdd,ct67_0t0_62,body62,f2,e4]
   repeat ((with_reducible refine aI ?_ ?_);exact an0)
   refine yE rfl trivial (fun hc=>?_) (fun hc=>?_)
   ·have hk5:(r3)=true:=by simpa using hc
    replace H:=zO hc H
    refine sq zA ?_
    simp only [go_sem]
    refine rg zA ?_
    simp only [go_sem]
    have H:=hn2_1 _ (Option.some.inj H).symm
    obtain rfl:=Option.some.inj H
    first|rfl|simp only [Bool.and_false,Bool.false_and,Bool.and_true,Bool.true_and]
   have hk5:(r3)=false:=by simpa using hc
   replace H:=zN hc H
   refine rg zA ?_
   simp only [go_sem]
   refine rg zA ?_
   simp only [go_sem]
   refine ⟨_,(Option.some.inj H).symm,?_⟩
   refine zI ⟨[],?_,?_,by rfl,by rfl⟩
   ·simp [CvL,Cv]
   ·trivial
  ·try dsimp only at H ⊢
   try simp only [tp]
   try simp only [yR]
   refine sq zA ?_
   simp only [go_sem]
   refine rg zA ?_
   simp only [go_sem]
   obtain rfl:=Option.some.inj H
   first|rfl|simp only [Bool.and_false,Bool.false_and,Bool.and_true,Bool.true_and]
 ·cases hb
noncomputable def ct61_0t0:Ct:=tab [(67,zV body67_0)]
theorem ct61_0t0_ok:yU Try.prog ct61_0t0:=zP ok67_0 <| zX
theorem ct61_0t0_67 (l:List AV) (h:List ABlk):ct61_0t0 67 l h=zV body67_0 l h:=rfl
noncomputable def F61_0 (p0:List TSleeper):Option (Bool) :=
 (F67_0 p0).bind fun r1=>some (bLe 0 r1)
noncomputable def body61_0:List AV->AR
 | [v0,.fn 62 []]=>.pure (lK xL 3 v0/\(F61_0 (lA yI v0)).isSome=true) (.bool (gt (F61_0 (lA yI v0))))
 | _=>.fail
theorem ok61_0:xZ Try.prog 61 (zV body61_0):=by
 refine xC body61_0 (rs:=[.tmp 4]) Try.func61 (by kernel_rfl) rfl rfl ?_
 intro l ob v hb hob
 unfold body61_0 at hb
 split at hb
 ·rename_i v0
  injection hb with q1 q2;subst q1 q2
  obtain ⟨hk0_0,hob⟩:=hob
  obtain ⟨r,H⟩:=oE.1 hob
  rw [H,yD]
  have hw0:=uP (fun r h=>w_TSleeper h) hk0_0
  generalize lA yI v0=p0 at H hw0
  refine ⟨[.ro 3 p0.length false (enR zF p0),.fn 62 []],_,(fun E vs F=>yL hw0.1 F (fun vs F=>yL (fn_wk LW_nil) F (fun vs F=>F))),rfl,rfl,?_⟩
  rw [Try.ntmps61]
  simp only [lC,lN,Nat.reduceAdd,Nat.reduceSub,rS,rZ,aC,aN]
  unfold F61_0 at H
  try dsimp only at H
  refine sq zA ?_
  simp only [go_sem]
  refine zH ?_
  obtain ⟨r1,e2,H⟩:=bsi H
  refine rg ct61_0t0_ok ?_
  simp only [go_sem,ct61_0t0_67,body67_0,e2]
  repeat ((with_reducible refine aI ?_ ?_);exact an0)
  refine rg zA ?_
  simp only [go_sem]
  obtain rfl:=Option.some.inj H
  first|rfl|simp only [Bool.and_false,Bool.false_and,Bool.and_true,Bool.true_and]
 ·cases hb
noncomputable def ct41t0:Ct:=tab [(61,zV body61_0)]
theorem ct41t0_ok:yU Try.prog ct41t0:=zP ok61_0 <| zX
theorem ct41t0_61 (l:List AV) (h:List ABlk):ct41t0 61 l h=zV body61_0 l h:=rfl
noncomputable def F41 (p0:TBuffer):Option (Bool) :=
 (F61_0 p0.List).bind fun r1=>some r1
noncomputable def body41:List AV->AR
 | [v0]=>.pure (aK 4 xS v0/\(F41 (zG (aL v0))).isSome=true) (.bool (gt (F41 (zG (aL v0)))))
 | _=>.fail
theorem ok41:xZ Try.prog 41 (zV body41):=by
 refine xC body41 (rs:=[.tmp 2]) Try.func41 (by kernel_rfl) rfl rfl ?_
 intro l ob v hb hob
 unfold body41 at hb
 split at hb
 ·rename_i v0
  injection hb with q1 q2;subst q1 q2
  obtain ⟨hk0_0,hob⟩:=hob
  obtain ⟨r,H⟩:=oE.1 hob
  rw [H,yD]
  have hw0:=uO hk0_0
  generalize zG (aL v0)=p0 at H hw0
  refine ⟨[.agg [.int .i64 p0.Limit,.int .i64 p0.Stay,.ro 3 p0.List.length false (enR zF p0.List),.ro 43 p0.Group.length false (enR zD p0.Group)]],_,(fun E vs F=>yL hw0.1 F (fun vs F=>F)),rfl,rfl,?_⟩
  rw [Try.ntmps41]
  simp only [lC,lN,Nat.reduceAdd,Nat.reduceSub,rS,rZ,aC,aN]
  unfold F41 at H
  try dsimp only at H
  refine sq zA ?_
  simp only [go_sem]
  refine zH ?_
  obtain ⟨r1,e2,H⟩:=bsi H
  refine rg ct41t0_ok ?_
  simp only [go_sem,Nat.reduceLeDiff,Nat.reduceLT,Nat.reduceAdd,ct41t0_61,body61_0,e2]
  repeat ((with_reducible refine aI ?_ ?_);exact an0)
  refine rg zA ?_
  simp only [go_sem]
  obtain rfl:=Option.some.inj H
  first|rfl|simp only [Bool.and_false,Bool.false_and,Bool.and_true,Bool.true_and]
 ·cases hb
noncomputable def ct19t0:Ct:=tab [(40,zV body40)]
theorem ct19t0_ok:yU Try.prog ct19t0:=zP ok40 <| zX
theorem ct19t0_40 (l:List AV) (h:List ABlk):ct19t0 40 l h=zV body40 l h:=rfl
noncomputable def ct19t1:Ct:=tab [(40,zV body40),(41,zV body41)]
theorem ct19t1_ok:yU Try.prog ct19t1:=zP ok40 <| zP ok41 <| zX
theorem ct19t1_40 (l:List AV) (h:List ABlk):ct19t1 40 l h=zV body40 l h:=rfl
theorem ct19t1_41 (l:List AV) (h:List ABlk):ct19t1 41 l h=zV body41 l h:=rfl
noncomputable def F19_L1 (p0:TBuffer) (v1_1:Bool) (v1_2:Int) (v1_3:Int):Option (Lp (Bool × Int × Int) ((Bool) ⊕ (Int))) :=
 bif (bLt v1_3 (p0.List.length:Nat)) then (need (inb v1_3 p0.List.length) <| need (bif ((v1_1 && (bLt v1_2 ((gd p0.List v1_3.toNat).Aid))) && (bLe ((gd p0.List v1_3.toNat).Aid) 255)) then ((F40 ((gd p0.List v1_3.toNat).Held) p0.Limit 3).isSome) else true) <| some (.next (((((v1_1 && (bLt v1_2 ((gd p0.List v1_3.toNat).Aid))) && (bLe ((gd p0.List v1_3.toNat).Aid) 255)) && (gt (F40 ((gd p0.List v1_3.toNat).Held) p0.Limit 3))) && ((gd p0.List v1_3.toNat).Asleep || (bEq (((gd p0.List v1_3.toNat).Held).length:Nat) 0))),(gd p0.List v1_3.toNat).Aid,wr .i64 (v1_3+1)))) else (some (.done (.inl v1_1)))
noncomputable def F19 (p0:TBuffer):Option (Int) :=
 lp (yN (fun s=>F19_L1 p0 s.1 s.2.1 s.2.2) ((((((bLe 1 p0.Limit) && (bLe p0.Limit 64)) && (bLe 1 p0.Stay)) && (bLe p0.Stay 1073741824)) && (bLe (p0.List.length:Nat) 32)),0,0)) (fun w1_4=>need (bif (!(!w1_4)) then ((F40 p0.Group p0.Limit 0).isSome) else true) <| need (bif ((!((!w1_4) || (!(gt (F40 p0.Group p0.Limit 0))))) && (bLt 0 (p0.Group.length:Nat))) then ((F41 p0).isSome) else true) <| bif (((!w1_4) || (!(gt (F40 p0.Group p0.Limit 0)))) || ((bLt 0 (p0.Group.length:Nat)) && (!(gt (F41 p0))))) then (some 8) else (some 0)) some
noncomputable def vM:List AV->AR
 | [v0]=>.pure (aK 4 xS v0/\(F19 (zG (aL v0))).isSome=true) (.int .i64 (gt (F19 (zG (aL v0)))))
 | _=>.fail
theorem ok19:xZ Try.prog 19 (zV vM):=by
 refine xC vM (rs:=[.tmp 2]) Try.func19 (by kernel_rfl) rfl rfl ?_
 intro l ob v hb hob
 unfold vM at hb
 split at hb
 ·rename_i v0
  injection hb with q1 q2;subst q1 q2
  obtain ⟨hk0_0,hob⟩:=hob
  obtain ⟨r,H⟩:=oE.1 hob
  rw [H,yD]
  have hw0:=uO hk0_0
  generalize zG (aL v0)=p0 at H hw0
  refine ⟨[.agg [.int .i64 p0.Limit,.int .i64 p0.Stay,.ro 3 p0.List.length false (enR zF p0.List),.ro 43 p0.Group.length false (enR zD p0.Group)]],_,(fun E vs F=>yL hw0.1 F (fun vs F=>F)),rfl,rfl,?_⟩
  rw [Try.ntmps19]
  simp only [lC,lN,Nat.reduceAdd,Nat.reduceSub,rS,rZ,aC,aN]
  unfold F19 at H
  try dsimp only at H
  refine sq zA ?_
  simp only [go_sem]
  refine sq zA ?_
  simp only [go_sem,Nat.reduceLeDiff,Nat.reduceLT,Nat.reduceAdd]
  repeat ((with_reducible refine aI ?_ ?_);exact an5)
  refine sq zA ?_
  simp only [go_sem]
  refine zH ?_
  refine sq zA ?_
  simp only [go_sem,Nat.reduceLeDiff,Nat.reduceLT,Nat.reduceAdd]
  repeat ((with_reducible refine aI ?_ ?_);exact an0)
  refine xI ?_
  refine xA (fun s:Bool × Int × Int=>(.top::.ptr 0 0 0 0::.top::.bool s.1::.int .i64 s.2.1::tp 27 (.ro 3 p0.List.length false (enR zF p0.List)::.int .i64 (p0.List.length:Nat)::.int .i64 s.2.2::tp 56 []))) (fun s=>[.lit 31 [.int .i64 p0.Limit,.int .i64 p0.Stay,.ro 3 p0.List.length false (enR zF p0.List),.ro 43 p0.Group.length false (enR zD p0.Group)]]) (fun e:Bool=>(.top::.ptr 0 0 0 0::.top::.bool e::tp 87 [])) (fun e=>[.lit 31 [.int .i64 p0.Limit,.int .i64 p0.Stay,.ro 3 p0.List.length false (enR zF p0.List),.ro 43 p0.Group.length false (enR zD p0.Group)]]) H ?_ (fun s o H hn1_1 hn2_1=>?_) (fun w1_4 H=>?_)
  ·refine zI ⟨[some 0],?_,?_,by rfl,by rfl⟩
   ·simp [CvL,Cv,yB,tp]
   ·exact ⟨cv,trivial⟩
  ·obtain ⟨v1_1,v1_2,v1_3⟩:=s
   unfold F19_L1 at H
   try dsimp only at H ⊢
   try simp only [tp]
   refine sq zA ?_
   simp only [go_sem]
   refine zH ?_
   refine condM' rfl trivial (fun hc=>?_) (fun hc=>?_)
   ·have hk1:(bLt v1_3 (p0.List.length:Nat))=false:=by simpa using hc
    replace H:=zN hc H
    refine rg zA ?_
    simp only [go_sem]
    refine ⟨_,(Option.some.inj H).symm,?_⟩
    refine zI ⟨[some 0],?_,?_,by rfl,by rfl⟩
    ·simp [CvL,Cv,yB]
    ·exact ⟨cv,trivial⟩
   have hk1:(bLt v1_3 (p0.List.length:Nat))=true:=by simpa using hc
   replace H:=zO hc H
   refine rg zA ?_
   simp only [go_sem]
   refine zH ?_
   refine xI ?_
   refine zH ?_
   obtain ⟨f2,H⟩:=nI H
   refine rg zA ?_
   simp only [go_sem,Nat.reduceLT,Nat.reduceAdd,f2]
   repeat ((with_reducible refine aI ?_ ?_);exact an4)
   refine zH ?_
   obtain ⟨f3,H⟩:=yH.1 H
   replace f3:=bZ.1 f3
   refine rg ct19t0_ok ?_
   simp only [go_sem,Nat.reduceLeDiff,Nat.reduceLT,Nat.reduceAdd,ct19t0_40,body40]
   repeat ((with_reducible refine And.intro ?_ ?_);focus (first|(with_reducible trivial)|omega|exact f3|(intro g;have q:=f3 (by first|exact g|(rw [g];rfl)|simpa using g);first|exact q|exact ⟨q.1,q.2.1⟩|exact q.2.2|omega|exact ⟨g,q⟩|exact ⟨trivial,q⟩|exact ⟨g,q.1,q.2.1⟩|exact ⟨g,q.2.2⟩)|(intro g;(try have q0:=f3 (by first|exact g|(rw [g];rfl)|simpa using g));and_intros<;>first|(with_reducible trivial)|assumption|exact nfc|(intro g2;rw [g,g2];rfl)|(intro g2;assumption)|(simp only [g,Bool.true_and,Bool.and_true,Bool.not_false,Bool.not_true];assumption)|grind)|(and_intros<;>first|(with_reducible trivial)|omega|assumption|exact nfc|first|exact rfl|exact trivial|exact uV|exact .inr rfl|exact .inl rfl|exact fun x hx=>absurd hx (by omega))|grind))
   refine rg zA ?_
   simp only [go_sem,Nat.reduceLeDiff,Nat.reduceLT,Nat.reduceAdd]
   repeat ((with_reducible refine aI ?_ ?_);exact an4)
   refine rg zA ?_
   simp only [go_sem]
   refine ⟨_,(Option.some.inj H).symm,?_⟩
   refine zI ⟨[some 0],?_,?_,by rfl,by rfl⟩
   ·simp [CvL,Cv,yB]
   ·exact ⟨cv,trivial⟩
  ·try dsimp only at H ⊢
   try simp only [tp]
   try simp only [yR]
   refine zH ?_
   refine zH ?_
   obtain ⟨f4,H⟩:=yH.1 H
   replace f4:=bZ.1 f4
   obtain ⟨f5,H⟩:=yH.1 H
   replace f5:=bZ.1 f5
   refine rg ct19t1_ok ?_
   simp only [go_sem,Nat.reduceLeDiff,Nat.reduceLT,Nat.reduceAdd,ct19t1_40,body40,ct19t1_41,body41]
   repeat ((with_reducible refine And.intro ?_ ?_);focus (first|(with_reducible trivial)|omega|exact f4|exact f5|(intro g;have q:=f4 (by first|exact g|(rw [g];rfl)|simpa using g);first|exact q|exact ⟨q.1,q.2.1⟩|exact q.2.2|omega|exact ⟨g,q⟩|exact ⟨trivial,q⟩|exact ⟨g,q.1,q.2.1⟩|exact ⟨g,q.2.2⟩)|(intro g;have q:=f5 (by first|exact g|(rw [g];rfl)|simpa using g);first|exact q|exact ⟨q.1,q.2.1⟩|exact q.2.2|omega|exact ⟨g,q⟩|exact ⟨trivial,q⟩|exact ⟨g,q.1,q.2.1⟩|exact ⟨g,q.2.2⟩)|(intro g;(try have q0:=f4 (by first|exact g|(rw [g];rfl)|simpa using g));(try have q1:=f5 (by first|exact g|(rw [g];rfl)|simpa using g));and_intros<;>first|(with_reducible trivial)|assumption|exact nfc|(intro g2;rw [g,g2];rfl)|(intro g2;assumption)|(simp only [g,Bool.true_and,Bool.and_true,Bool.not_false,Bool.not_true];assumption)|grind)|(and_intros<;>first|(with_reducible trivial)|omega|assumption|exact nfc|first|exact rfl|exact trivial|exact uV|exact .inr rfl|exact .inl rfl|exact fun x hx=>absurd hx (by omega))|grind))
   refine yE rfl trivial (fun hc=>?_) (fun hc=>?_)
   ·have hk6:(((!w1_4) || (!(gt (F40 p0.Group p0.Limit 0)))) || ((bLt 0 (p0.Group.length:Nat)) && (!(gt (F41 p0)))))=true:=by first|simpa using hc|simpa only [Bool.not_eq_true',Bool.not_eq_false'] using hc
    replace H:=zO hc H
    refine sq zA ?_
    simp only [go_sem]
    refine rg zA ?_
    simp only [go_sem]
    obtain rfl:=Option.some.inj H
    first|rfl|simp only [Bool.and_false,Bool.false_and,Bool.and_true,Bool.true_and]
   have hk6:(((!w1_4) || (!(gt (F40 p0.Group p0.Limit 0)))) || ((bLt 0 (p0.Group.length:Nat)) && (!(gt (F41 p0)))))=false:=by first|simpa using hc|simpa only [Bool.not_eq_true',Bool.not_eq_false'] using hc
   replace H:=zN hc H
   refine rg zA ?_
   simp only [go_sem]
   refine sq zA ?_
   simp only [go_sem]
   refine rg zA ?_
   simp only [go_sem]
   obtain rfl:=Option.some.inj H
   first|rfl|simp only [Bool.and_false,Bool.false_and,Bool.and_true,Bool.true_and]
 ·cases hb
noncomputable def ct6t0:Ct:=tab [(19,zV vM)]
theorem ct6t0_ok:yU Try.prog ct6t0:=zP ok19 <| zX
theorem ct6t0_19 (l:List AV) (h:List ABlk):ct6t0 19 l h=zV vM l h:=rfl
noncomputable def F6 (p0:Int) (p1:Int):Option (TBuffer × Int) :=
 (F19 (TBuffer.mk p0 p1 [] [])).bind fun r1=>bif (!bEq r1 0) then (some ((TBuffer.mk 0 0 [] []),2)) else (some ((TBuffer.mk p0 p1 [] []),0))
noncomputable def body6:List AV->Nat->AR
 | [v0,v1],_=>.pure (iK .i64 v0/\iK .i64 v1/\(F6 (iA v0) (iA v1)).isSome=true) (.tup [.agg [.int .i64 (((gt (F6 (iA v0) (iA v1))).1).Limit),.int .i64 (((gt (F6 (iA v0) (iA v1))).1).Stay),.ro 3 ((((gt (F6 (iA v0) (iA v1))).1).List).length) false (enR zF (((gt (F6 (iA v0) (iA v1))).1).List)),.ro 43 ((((gt (F6 (iA v0) (iA v1))).1).Group).length) false (enR zD (((gt (F6 (iA v0) (iA v1))).1).Group))],.int .i64 ((gt (F6 (iA v0) (iA v1))).2)])
 | _,_=>.fail
theorem ok6:xZ Try.prog 6 (wE body6):=by
 refine gen_fn body6 (rs:=[.cell 4 31,.tmp 5]) Try.func6 (by kernel_rfl) rfl rfl ?_
 intro l s ob v ns hb hob
 rcases hb with ⟨hb,rfl⟩|hb
 ·unfold body6 at hb
  split at hb
  ·rename_i v0 v1
   injection hb with q1 q2;subst q1 q2
   obtain ⟨hk0_0,hk1_0,hob⟩:=hob
   obtain ⟨r,H⟩:=oE.1 hob
   rw [H,yD]
   have hw0:=yJ hk0_0
   have hw1:=yJ hk1_0
   generalize iA v0=p0 at H hw0
   generalize iA v1=p1 at H hw1
   refine ⟨[.int .i64 p0,.int .i64 p1],.tup [.agg [.int .i64 r.1.Limit,.int .i64 r.1.Stay,.ro 3 r.1.List.length false (enR zF r.1.List),.ro 43 r.1.Group.length false (enR zD r.1.Group)],.int .i64 r.2],[],(fun E vs F=>yL hw0.1 F (fun vs F=>yL hw1.1 F (fun vs F=>F))),by simp only [ren,eS],trivial,?_⟩
   rw [Try.ntmps6]
   simp only [lC,lN,Nat.reduceAdd,Nat.reduceSub,rS,rZ,aC,aN]
   unfold F6 at H
   try dsimp only at H
   refine sq zA ?_
   simp only [go_sem]
   refine sq zA ?_
   simp only [go_sem,Nat.reduceLeDiff,Nat.reduceAdd]
   repeat ((with_reducible refine aI ?_ ?_);exact an4)
   refine zH ?_
   refine zH ?_
   obtain ⟨r1,e2,H⟩:=bsi H
   refine rg ct6t0_ok ?_
   simp only [go_sem,Nat.reduceLT,Nat.reduceAdd,reduceCtorEq,ct6t0_19,vM,e2]
   repeat ((with_reducible refine aI ?_ ?_);exact an0)
   refine yE rfl trivial (fun hc=>?_) (fun hc=>?_)
   ·have hk3:(bEq r1 0)=false:=by simpa using hc
    replace H:=zO hc H
    refine sq zA ?_
    simp only [go_sem,Nat.reduceAdd]
    repeat ((with_reducible refine aI ?_ ?_);exact an4)
    refine rg zA ?_
    simp only [go_sem,Nat.reduceLT,Nat.reduceAdd]
    obtain rfl:=Option.some.inj H
    refine ⟨[0,1],?_,?_,[],?_,?_,rfl⟩
    ·simp only [go_sem]
     try exact at0
    ·simp only [go_sem]
     try exact at0
    ·simp only [go_sem]
     exact xF (zC (xO (zC zE (zC zE (zC (zZ (α:=TSleeper)) (zC (zZ (α:=TStored)) zW))))) (zC zE zW))
    ·simp only [go_sem,CvH]
   have hk3:(bEq r1 0)=true:=by simpa using hc
   replace H:=zN hc H
   refine rg zA ?_
   simp only [go_sem]
   refine sq zA ?_
   simp only [go_sem,Nat.reduceLT,Nat.reduceAdd]
   repeat ((with_reducible refine aI ?_ ?_);exact an4)
   refine rg zA ?_
   simp only [go_sem,Nat.reduceLT,Nat.reduceAdd]
   obtain rfl:=Option.some.inj H
   refine ⟨[0,1],?_,?_,[],?_,?_,rfl⟩
   ·simp only [go_sem]
    try exact at0
   ·simp only [go_sem]
    try exact at0
   ·simp only [go_sem]
    exact xF (zC (xO (zC zE (zC zE (zC (zZ (α:=TSleeper)) (zC (zZ (α:=TStored)) zW))))) (zC zE zW))
   ·simp only [go_sem,CvH]
  ·cases hb
 ·unfold body6 at hb
  split at hb<;>cases hb
noncomputable def F43 (p0:TSleeper) (p1:Int):Option (Int) :=
 some (wr .i64 (p0.Aid - p1))
noncomputable def body43:List AV->AR
 | [v0,v1]=>.pure (aK 3 xL v0/\iK .i64 v1/\(F43 (yI (aL v0)) (iA v1)).isSome=true) (.int .i64 (gt (F43 (yI (aL v0)) (iA v1))))
 | _=>.fail
theorem ok43:xZ Try.prog 43 (zV body43):=by
 refine xC body43 (rs:=[.tmp 4]) Try.func43 (by kernel_rfl) rfl rfl ?_
 intro l ob v hb hob
 unfold body43 at hb
 split at hb
 ·rename_i v0 v1
  injection hb with q1 q2;subst q1 q2
  obtain ⟨hk0_0,hk1_0,hob⟩:=hob
  obtain ⟨r,H⟩:=oE.1 hob
  rw [H,yD]
  have hw0:=wA_TSleeper hk0_0
  have hw1:=yJ hk1_0
  generalize yI (aL v0)=p0 at H hw0
  generalize iA v1=p1 at H hw1
  refine ⟨[.agg [.int .i64 p0.Aid,.bool p0.Asleep,.ro 43 p0.Held.length false (enR zD p0.Held)],.int .i64 p1],_,(fun E vs F=>yL hw0.1 F (fun vs F=>yL hw1.1 F (fun vs F=>F))),rfl,rfl,?_⟩
  rw [Try.ntmps43]
  simp only [lC,lN,Nat.reduceAdd,Nat.reduceSub,rS,rZ,aC,aN]
  unfold F43 at H
  try dsimp only at H
  refine sq zA ?_
  simp only [go_sem]
  refine sq zA ?_
  simp only [go_sem,Nat.reduceLeDiff,Nat.reduceLT,Nat.reduceAdd]
  repeat ((with_reducible refine aI ?_ ?_);exact an4)
  refine rg zA ?_
  simp only [go_sem]
  obtain rfl:=Option.some.inj H
  first|rfl|simp only [Bool.and_false,Bool.false_and,Bool.and_true,Bool.true_and]
 ·cases hb
noncomputable def ct42_0t0:Ct:=tab [(43,zV body43)]
theorem ct42_0t0_ok:yU Try.prog ct42_0t0:=zP ok43 <| zX
theorem ct42_0t0_43 (l:List AV) (h:List ABlk):ct42_0t0 43 l h=zV body43 l h:=rfl
noncomputable def F42_0_L1 (p0:List TSleeper) (p1:Int) (v1_1:Int) (v1_2:Int):Option (Lp (Int × Int) ((Int) ⊕ (Int × Bool))) :=
 bif (bLt v1_1 v1_2) then (need (inb (wr .i64 (vE .u64 (wr .u64 (wr .i64 (v1_1+v1_2))) 1)) p0.length) <| (F43 (gd p0 ((wr .i64 (vE .u64 (wr .u64 (wr .i64 (v1_1+v1_2))) 1)).toNat)) p1).bind fun r3=>bif (bLt r3 0) then (some (.next (wr .i64 ((wr .i64 (vE .u64 (wr .u64 (wr .i64 (v1_1+v1_2))) 1))+1),v1_2))) else (some (.next (v1_1,wr .i64 (vE .u64 (wr .u64 (wr .i64 (v1_1+v1_2))) 1))))) else (some (.done (.inl v1_1)))
noncomputable def F42_0 (p0:List TSleeper) (p1:Int):Option (Int × Bool) :=
 lp (yN (fun s=>F42_0_L1 p0 p1 s.1 s.2) (0,(p0.length:Nat))) (fun w1_3=>need (bif (bLt w1_3 (p0.length:Nat)) then inb w1_3 p0.length else true) <| need (bif (bLt w1_3 (p0.length:Nat)) then ((F43 (gd p0 w1_3.toNat) p1).isSome) else true) <| some (w1_3,((bLt w1_3 (p0.length:Nat)) && (bEq (gt (F43 (gd p0 w1_3.toNat) p1)) 0)))) some
noncomputable def body42_0:List AV->AR
 | [v0,v1,.fn 43 []]=>.pure (lK xL 3 v0/\iK .i64 v1/\(F42_0 (lA yI v0) (iA v1)).isSome=true) (.tup [.int .i64 ((gt (F42_0 (lA yI v0) (iA v1))).1),.bool ((gt (F42_0 (lA yI v0) (iA v1))).2)])
 | _=>.fail
theorem ok42_0:xZ Try.prog 42 (zV body42_0):=by
 refine xC body42_0 (rs:=[.tmp 6,.tmp 7]) Try.func42 (by kernel_rfl) rfl rfl ?_
 intro l ob v hb hob
 unfold body42_0 at hb
 split at hb
 ·rename_i v0 v1
  injection hb with q1 q2;subst q1 q2
  obtain ⟨hk0_0,hk1_0,hob⟩:=hob
  obtain ⟨r,H⟩:=oE.1 hob
  rw [H,yD]
  have hw0:=uP (fun r h=>w_TSleeper h) hk0_0
  have hw1:=yJ hk1_0
  generalize lA yI v0=p0 at H hw0
  generalize iA v1=p1 at H hw1
  refine ⟨[.ro 3 p0.length false (enR zF p0),.int .i64 p1,.fn 43 []],_,(fun E vs F=>yL hw0.1 F (fun vs F=>yL hw1.1 F (fun vs F=>yL (fn_wk LW_nil) F (fun vs F=>F)))),rfl,rfl,?_⟩
  rw [Try.ntmps42]
  simp only [lC,lN,Nat.reduceAdd,Nat.reduceSub,rS,rZ,aC,aN]
  unfold F42_0 at H
  try dsimp only at H
  refine sq zA ?_
  simp only [go_sem]
  refine sq zA ?_
  simp only [go_sem]
  repeat ((with_reducible refine aI ?_ ?_);exact an0)
  refine sq zA ?_
  simp only [go_sem]
  refine zH ?_
  refine xI ?_
  refine xA (fun s:Int × Int=>(.ro 3 p0.length false (enR zF p0)::.int .i64 p1::.fn 43 []::tp 5 (.int .i64 (p0.length:Nat)::.int .i64 s.1::.int .i64 s.2::tp 38 []))) (fun s=>[]) (fun e:Int=>(.ro 3 p0.length false (enR zF p0)::.int .i64 p1::.fn 43 []::tp 5 (.int .i64 (p0.length:Nat)::.int .i64 e::tp 39 []))) (fun e=>[]) H ?_ (fun s o H hn1_1 hn2_1=>?_) (fun w1_3 H=>?_)
  ·refine zI ⟨[],?_,?_,by rfl,by rfl⟩
   ·simp [CvL,Cv,tp]
   ·trivial
  ·obtain ⟨v1_1,v1_2⟩:=s
   unfold F42_0_L1 at H
   try dsimp only at H ⊢
   try simp only [tp]
   refine zH ?_
   refine sq zA ?_
   simp only [go_sem]
   refine condM' rfl trivial (fun hc=>?_) (fun hc=>?_)
   ·have hk1:(bLt v1_1 v1_2)=false:=by simpa using hc
    replace H:=zN hc H
    refine rg zA ?_
    simp only [go_sem]
    refine ⟨_,(Option.some.inj H).symm,?_⟩
    refine zI ⟨[],?_,?_,by rfl,by rfl⟩
    ·simp [CvL,Cv]
    ·trivial
   have hk1:(bLt v1_1 v1_2)=true:=by simpa using hc
   replace H:=zO hc H
   refine rg zA ?_
   simp only [go_sem]
   refine xI ?_
   refine sq zA ?_
   simp only [go_sem]
   repeat ((with_reducible refine aI ?_ ?_);exact an4)
   refine zH ?_
   obtain ⟨f2,H⟩:=nI H
   obtain ⟨r3,e4,H⟩:=bsi H
   refine rg ct42_0t0_ok ?_
   simp only [go_sem,Nat.reduceLT,Nat.reduceAdd,ct42_0t0_43,body43,f2,e4]
   repeat ((with_reducible refine aI ?_ ?_);exact an0)
   refine yE rfl trivial (fun hc=>?_) (fun hc=>?_)
   ·have hk5:(bLt r3 0)=true:=by simpa using hc
    replace H:=zO hc H
    refine rg zA ?_
    simp only [go_sem]
    refine ⟨_,(Option.some.inj H).symm,?_⟩
    refine zI ⟨[],?_,?_,by rfl,by rfl⟩
    ·simp [CvL,Cv]
    ·trivial
   have hk5:(bLt r3 0)=false:=by simpa using hc
   replace H:=zN hc H
   refine rg zA ?_
   simp only [go_sem]
   refine ⟨_,(Option.some.inj H).symm,?_⟩
   refine zI ⟨[],?_,?_,by rfl,by rfl⟩
   ·simp [CvL,Cv]
   ·trivial
  ·try dsimp only at H ⊢
   try simp only [tp]
   try simp only [yR]
   refine zH ?_
   obtain ⟨f6,H⟩:=yH.1 H
   replace f6:=bZ.1 f6
   replace f6:=fun g=>uG.1 (f6 g)
   obtain ⟨f7,H⟩:=yH.1 H
   replace f7:=bZ.1 f7
   refine rg ct42_0t0_ok ?_
   simp only [go_sem,Nat.reduceLT,Nat.reduceAdd,ct42_0t0_43,body43]
   repeat ((with_reducible refine And.intro ?_ ?_);focus (first|(with_reducible trivial)|omega|exact f6|exact f7|(intro g;have q:=f6 (by first|exact g|(rw [g];rfl)|simpa using g);first|exact q|exact ⟨q.1,q.2.1⟩|exact q.2.2|omega|exact ⟨g,q⟩|exact ⟨trivial,q⟩|exact ⟨g,q.1,q.2.1⟩|exact ⟨g,q.2.2⟩)|(intro g;have q:=f7 (by first|exact g|(rw [g];rfl)|simpa using g);first|exact q|exact ⟨q.1,q.2.1⟩|exact q.2.2|omega|exact ⟨g,q⟩|exact ⟨trivial,q⟩|exact ⟨g,q.1,q.2.1⟩|exact ⟨g,q.2.2⟩)|(intro g;(try have q0:=f6 (by first|exact g|(rw [g];rfl)|simpa using g));(try have q1:=f7 (by first|exact g|(rw [g];rfl)|simpa using g));and_intros<;>first|(with_reducible trivial)|assumption|exact nfc|(intro g2;rw [g,g2];rfl)|(intro g2;assumption)|(simp only [g,Bool.true_and,Bool.and_true,Bool.not_false,Bool.not_true];assumption)|grind)|(and_intros<;>first|(with_reducible trivial)|omega|assumption|exact nfc|first|exact rfl|exact trivial|exact uV|exact .inr rfl|exact .inl rfl|exact fun x hx=>absurd hx (by omega))|grind))
   refine rg zA ?_
   simp only [go_sem]
   obtain rfl:=Option.some.inj H
   first|rfl|simp only [Bool.and_false,Bool.false_and,Bool.and_true,Bool.true_and]
 ·cases hb
noncomputable def ct20t0:Ct:=tab [(42,zV body42_0)]
theorem ct20t0_ok:yU Try.prog ct20t0:=zP ok42_0 <| zX
theorem ct20t0_42 (l:List AV) (h:List ABlk):ct20t0 42 l h=zV body42_0 l h:=rfl
noncomputable def F20 (p0:TBuffer) (p1:Int):Option (Int × Bool) :=
 (F42_0 p0.List p1).bind fun r1=>some (r1.1,r1.2)
noncomputable def eP:List AV->AR
 | [v0,v1]=>.pure (aK 4 xS v0/\iK .i64 v1/\(F20 (zG (aL v0)) (iA v1)).isSome=true) (.tup [.int .i64 ((gt (F20 (zG (aL v0)) (iA v1))).1),.bool ((gt (F20 (zG (aL v0)) (iA v1))).2)])
 | _=>.fail
theorem ok20:xZ Try.prog 20 (zV eP):=by
 refine xC eP (rs:=[.tmp 4,.tmp 5]) Try.func20 (by kernel_rfl) rfl rfl ?_
 intro l ob v hb hob
 unfold eP at hb
 split at hb
 ·rename_i v0 v1
  injection hb with q1 q2;subst q1 q2
  obtain ⟨hk0_0,hk1_0,hob⟩:=hob
  obtain ⟨r,H⟩:=oE.1 hob
  rw [H,yD]
  have hw0:=uO hk0_0
  have hw1:=yJ hk1_0
  generalize zG (aL v0)=p0 at H hw0
  generalize iA v1=p1 at H hw1
  refine ⟨[.agg [.int .i64 p0.Limit,.int .i64 p0.Stay,.ro 3 p0.List.length false (enR zF p0.List),.ro 43 p0.Group.length false (enR zD p0.Group)],.int .i64 p1],_,(fun E vs F=>yL hw0.1 F (fun vs F=>yL hw1.1 F (fun vs F=>F))),rfl,rfl,?_⟩
  rw [Try.ntmps20]
  simp only [lC,lN,Nat.reduceAdd,Nat.reduceSub,rS,rZ,aC,aN]
  unfold F20 at H
  try dsimp only at H
  refine sq zA ?_
  simp only [go_sem]
  refine zH ?_
  obtain ⟨r1,e2,H⟩:=bsi H
  refine rg ct20t0_ok ?_
  simp only [go_sem,Nat.reduceLeDiff,Nat.reduceLT,Nat.reduceAdd,ct20t0_42,body42_0,e2]
  repeat ((with_reducible refine aI ?_ ?_);exact an0)
  refine rg zA ?_
  simp only [go_sem]
  obtain rfl:=Option.some.inj H
  first|rfl|simp only [Bool.and_false,Bool.false_and,Bool.and_true,Bool.true_and]
 ·cases hb
noncomputable def F44 (p0:List TSleeper):Option (List TSleeper) :=
 need (capb 40 p0.length) <| some p0
noncomputable def uZ:List AV->Nat->AR
 | [v0],s=>.heap (lK xL 3 v0/\(F44 (lA yI v0)).isSome=true) (.sl s 3 0 (gt (F44 (lA yI v0))).length false) [.row 72 3 (gt (F44 (lA yI v0))).length (enR zF (gt (F44 (lA yI v0))))]
 | _,_=>.fail
theorem ok44:xZ Try.prog 44 (wE uZ):=by
 refine gen_fn uZ (rs:=[.tmp 2]) Try.func44 (by kernel_rfl) rfl rfl ?_
 intro l s ob v ns hb hob
 rcases hb with ⟨hb,rfl⟩|hb
 ·unfold uZ at hb
  split at hb<;>cases hb
 ·unfold uZ at hb
  split at hb
  ·rename_i v0
   injection hb with q1 q2 q3;subst q1 q2 q3
   obtain ⟨hk0,hob⟩:=hob
   obtain ⟨r,H⟩:=oE.1 hob
   rw [H,yD]
   have hw0:=uP (fun r h=>w_TSleeper h) hk0
   generalize lA yI v0=p0 at H hw0
   unfold F44 at H
   obtain ⟨f1,H⟩:=nC H
   obtain rfl:=Option.some.inj H
   refine ⟨[.ro 3 p0.length false (enR zF p0)],.sl 0 3 0 p0.length false,[.row 72 3 p0.length (enR zF p0)],(fun E vs F=>yL hw0.1 F (fun vs F=>F)),by simp only [ren,rnN_0],⟨⟨rfl,rfl,rfl,fun x y _ _=>ren_nref _ (nfR_en wU)⟩,trivial⟩,?_⟩
   rw [Try.ntmps44]
   simp only [lC,lN,Nat.reduceAdd,Nat.reduceSub,rS,rZ,aC,aN]
   refine rg zA ?_
   have nfs:∀ x y,nref (enR zF p0 x y):=fun x y=>nfR_en wU
   generalize hc:enR zF p0=c at nfs hw0
   cases hn:p0.length with
   | zero =>
    simp only [go_sem,Nat.reduceLeDiff,Nat.reduceAdd]
    have hp:p0=[]:=List.eq_nil_of_length_eq_zero hn
    subst hp;subst hc
    refine ⟨?_,?_⟩
    ·refine ⟨[],?_,?_,[none],?_,?_,rfl⟩
     ·simp only [wK]
     ·simp only [eI]
     ·simp [fzV,Cv]
     ·simp only [fzH,fzHF,and_true,CvH,and_true];exact uR
    ·refine ⟨by omega,[],?_,?_,[some 1],?_,?_,rfl⟩
     ·simp only [Nat.add_zero,wK,inL,rowOb,geth,cond_false,true_and,Nat.zero_add,Nat.le_refl]
     ·simp only [fzObB,eI,and_self]
     ·simp [fzV,inL,Cv,yB]
     ·simp only [fzH,fzHF,fzB,inL,cond_false,and_true,CvH,and_true];exact CvB_row0 wU
   | succ m =>
    simp only [go_sem,Nat.reduceLeDiff,Nat.reduceAdd,reduceCtorEq]
    refine ⟨by omega,[],?_,?_,[some 1],?_,?_,rfl⟩
    ·simp only [wK,inL,rowOb,geth,cond_false,true_and,Nat.zero_add,Nat.le_refl]
    ·simp only [fzObB,eI,and_self]
    ·simp [fzV,inL,Cv,yB]
    ·simp only [fzH,fzHF,fzB,inL,cond_false,and_true,CvH,and_true];rw [← hn,← hc];exact zK wU rfl (fun x y hx hy=>by simp only [appC,Nat.not_lt_zero,if_false,Nat.sub_zero])
  ·cases hb
noncomputable def F26 (p0:TFrame):Option (TFrame) :=
 need (capb 1 p0.Body.length) <| some (TFrame.mk (THeader.mk p0.Head.Kind p0.Head.Sub p0.Head.ToDs p0.Head.FromDs p0.Head.More p0.Head.Retry p0.Head.Sleep p0.Head.MoreData p0.Head.Protected p0.Head.Duration (A6u8.mk p0.Head.A1.x0 p0.Head.A1.x1 p0.Head.A1.x2 p0.Head.A1.x3 p0.Head.A1.x4 p0.Head.A1.x5) (A6u8.mk p0.Head.A2.x0 p0.Head.A2.x1 p0.Head.A2.x2 p0.Head.A2.x3 p0.Head.A2.x4 p0.Head.A2.x5) (A6u8.mk p0.Head.A3.x0 p0.Head.A3.x1 p0.Head.A3.x2 p0.Head.A3.x3 p0.Head.A3.x4 p0.Head.A3.x5) (A6u8.mk p0.Head.A4.x0 p0.Head.A4.x1 p0.Head.A4.x2 p0.Head.A4.x3 p0.Head.A4.x4 p0.Head.A4.x5) p0.Head.Seq p0.Head.Frag p0.Head.Tid p0.Head.Ack p0.Head.Amsdu p0.Head.Eosp) ([] ++ p0.Body))
noncomputable def body26:List AV->List ABlk->ED
 | [v0],h=>.ed [] (aK 41 vK (roD (yF h []) v0)/\roDOb (yF h []) v0/\(F26 (zT (aL (roD (yF h []) v0)))).isSome=true) (.agg (.int .u8 (((gt (F26 (zT (aL (roD (yF h []) v0))))).Head).Kind)::.int .u8 (((gt (F26 (zT (aL (roD (yF h []) v0))))).Head).Sub)::.bool (((gt (F26 (zT (aL (roD (yF h []) v0))))).Head).ToDs)::.bool (((gt (F26 (zT (aL (roD (yF h []) v0))))).Head).FromDs)::.bool (((gt (F26 (zT (aL (roD (yF h []) v0))))).Head).More)::.bool (((gt (F26 (zT (aL (roD (yF h []) v0))))).Head).Retry)::.bool (((gt (F26 (zT (aL (roD (yF h []) v0))))).Head).Sleep)::.bool (((gt (F26 (zT (aL (roD (yF h []) v0))))).Head).MoreData)::.bool (((gt (F26 (zT (aL (roD (yF h []) v0))))).Head).Protected)::.int .i64 (((gt (F26 (zT (aL (roD (yF h []) v0))))).Head).Duration)::.int .u8 ((((gt (F26 (zT (aL (roD (yF h []) v0))))).Head).A1).x0)::.int .u8 ((((gt (F26 (zT (aL (roD (yF h []) v0))))).Head).A1).x1)::.int .u8 ((((gt (F26 (zT (aL (roD (yF h []) v0))))).Head).A1).x2)::.int .u8 ((((gt (F26 (zT (aL (roD (yF h []) v0))))).Head).A1).x3)::.int .u8 ((((gt (F26 (zT (aL (roD (yF h []) v0))))).Head).A1).x4)::.int .u8 ((((gt (F26 (zT (aL (roD (yF h []) v0))))).Head).A1).x5)::.int .u8 ((((gt (F26 (zT (aL (roD (yF h []) v0))))).Head).A2).x0)::.int .u8 ((((gt (F26 (zT (aL (roD (yF h []) v0))))).Head).A2).x1)::.int .u8 ((((gt (F26 (zT (aL (roD (yF h []) v0))))).Head).A2).x2)::.int .u8 ((((gt (F26 (zT (aL (roD (yF h []) v0))))).Head).A2).x3)::.int .u8 ((((gt (F26 (zT (aL (roD (yF h []) v0))))).Head).A2).x4)::.int .u8 ((((gt (F26 (zT (aL (roD (yF h []) v0))))).Head).A2).x5)::.int .u8 ((((gt (F26 (zT (aL (roD (yF h []) v0))))).Head).A3).x0)::.int .u8 ((((gt (F26 (zT (aL (roD (yF h []) v0))))).Head).A3).x1)::.int .u8 ((((gt (F26 (zT (aL (roD (yF h []) v0))))).Head).A3).x2)::.int .u8 ((((gt (F26 (zT (aL (roD (yF h []) v0))))).Head).A3).x3)::.int .u8 ((((gt (F26 (zT (aL (roD (yF h []) v0))))).Head).A3).x4)::.int .u8 ((((gt (F26 (zT (aL (roD (yF h []) v0))))).Head).A3).x5)::.int .u8 ((((gt (F26 (zT (aL (roD (yF h []) v0))))).Head).A4).x0)::.int .u8 ((((gt (F26 (zT (aL (roD (yF h []) v0))))).Head).A4).x1)::.int .u8 ((((gt (F26 (zT (aL (roD (yF h []) v0))))).Head).A4).x2)::.int .u8 ((((gt (F26 (zT (aL (roD (yF h []) v0))))).Head).A4).x3)::.int .u8 ((((gt (F26 (zT (aL (roD (yF h []) v0))))).Head).A4).x4)::.int .u8 ((((gt (F26 (zT (aL (roD (yF h []) v0))))).Head).A4).x5)::.int .i64 (((gt (F26 (zT (aL (roD (yF h []) v0))))).Head).Seq)::.int .i64 (((gt (F26 (zT (aL (roD (yF h []) v0))))).Head).Frag)::.int .i64 (((gt (F26 (zT (aL (roD (yF h []) v0))))).Head).Tid)::.int .u8 (((gt (F26 (zT (aL (roD (yF h []) v0))))).Head).Ack)::.bool (((gt (F26 (zT (aL (roD (yF h []) v0))))).Head).Amsdu)::.bool (((gt (F26 (zT (aL (roD (yF h []) v0))))).Head).Eosp)::.sl 0 1 0 (((gt (F26 (zT (aL (roD (yF h []) v0))))).Body).length) false::[])) [.row 5 1 (((gt (F26 (zT (aL (roD (yF h []) v0))))).Body).length) (enR yG ((gt (F26 (zT (aL (roD (yF h []) v0))))).Body))]
 | _,_=>.fail
theorem ok26:xZ Try.prog 26 (edC body26):=by
 refine edit_fnV body26 (rs:=[.cell 2 54]) Try.func26 (by kernel_rfl) rfl rfl ?_
 intro l h bs ob q0 g0 hb hob
 unfold body26 at hb
 split at hb
 ·rename_i v0
  injection hb with q1 q2 q3 q4;subst q1 q2 q3 q4
  obtain ⟨hk0_0,hk0_1,hob⟩:=hob
  obtain ⟨r,H⟩:=oE.1 hob
  rw [H,yD]
  have hw0:=wA_TFrame hk0_0
  obtain ⟨p0,hp_p0⟩:∃ p0,p0=zT (aL (roD (yF h []) v0)):=⟨_,rfl⟩
  rw [← hp_p0] at H hw0
  refine ⟨[.agg (.int .u8 p0.Head.Kind::.int .u8 p0.Head.Sub::.bool p0.Head.ToDs::.bool p0.Head.FromDs::.bool p0.Head.More::.bool p0.Head.Retry::.bool p0.Head.Sleep::.bool p0.Head.MoreData::.bool p0.Head.Protected::.int .i64 p0.Head.Duration::.int .u8 p0.Head.A1.x0::.int .u8 p0.Head.A1.x1::.int .u8 p0.Head.A1.x2::.int .u8 p0.Head.A1.x3::.int .u8 p0.Head.A1.x4::.int .u8 p0.Head.A1.x5::.int .u8 p0.Head.A2.x0::.int .u8 p0.Head.A2.x1::.int .u8 p0.Head.A2.x2::.int .u8 p0.Head.A2.x3::.int .u8 p0.Head.A2.x4::.int .u8 p0.Head.A2.x5::.int .u8 p0.Head.A3.x0::.int .u8 p0.Head.A3.x1::.int .u8 p0.Head.A3.x2::.int .u8 p0.Head.A3.x3::.int .u8 p0.Head.A3.x4::.int .u8 p0.Head.A3.x5::.int .u8 p0.Head.A4.x0::.int .u8 p0.Head.A4.x1::.int .u8 p0.Head.A4.x2::.int .u8 p0.Head.A4.x3::.int .u8 p0.Head.A4.x4::.int .u8 p0.Head.A4.x5::.int .i64 p0.Head.Seq::.int .i64 p0.Head.Frag::.int .i64 p0.Head.Tid::.int .u8 p0.Head.Ack::.bool p0.Head.Amsdu::.bool p0.Head.Eosp::.ro 1 p0.Body.length false (enR yG p0.Body)::[])],[],rfl,⟨(EW_view hk0_1 hw0),trivial⟩,trivial,trivial,⟨(nfB_en xT),trivial⟩,⟨noroB_en,trivial⟩,(by first|(simp only [noro,wP,and_self];done)|(simp only [noro,wP];and_intros<;>first|trivial|exact noro_bif (by simp only [noro]) (by simp only [noro])|(simp only [noro,wP,and_self]))),?_⟩
  rw [Try.ntmps26]
  simp only [lC,lN,Nat.reduceAdd,Nat.reduceSub,rS,rZ,aC,aN]
  unfold F26 at H
  try dsimp only at H
  refine sq zA ?_
  simp only [go_sem]
  refine zH ?_
  obtain ⟨f1,H⟩:=nC H
  refine rg zA ?_
  simp only [go_sem,Nat.reduceLeDiff,Nat.reduceLT,Nat.reduceAdd,f1]
  repeat ((with_reducible refine aI ?_ ?_);exact an1)
  refine sq zA ?_
  simp only [go_sem,Nat.reduceLT,Nat.reduceAdd]
  repeat ((with_reducible refine aI ?_ ?_);exact an4)
  refine rg zA ?_
  simp only [go_sem,Nat.reduceLT,Nat.reduceAdd]
  obtain rfl:=Option.some.inj H
  refine vH [] [some 3] ?_ ?_ ?_ ?_ (by rfl) (by rfl)
  ·simp only [go_sem]
   try exact at0
  ·simp only [go_sem]
   try exact at0
  ·simp only [go_sem]
   exact (by first|(simp [Cv,CvL,yB];done)|(simp [Cv,CvL,yB,yD];omega))
  ·simp only [go_sem,CvH]
   exact zK xT cl (wW (f:=yG) [] p0.Body (yY (f:=yG) [] (fun _ _=>rfl) rfl) (fun _ _ _ _=>rfl))
 ·cases hb
noncomputable def ct45t0:Ct:=tab [(26,edC body26)]
theorem ct45t0_ok:yU Try.prog ct45t0:=zP ok26 <| zX
theorem ct45t0_26 (l:List AV) (h:List ABlk):ct45t0 26 l h=edC body26 l h:=rfl
noncomputable def F45_L1 (p0:List TStored) (v1_1:List TStored) (v1_2:Int):Option (Lp ((List TStored) × Int) ((List TStored) ⊕ (List TStored))) :=
 bif (bLt v1_2 (p0.length:Nat)) then (need (inb v1_2 p0.length) <| (F26 (eF ((gd p0 v1_2.toNat).Frame))).bind fun r3=>need (capb 120 (v1_1.length+1)) <| some (.next ((v1_1 ++ [(TStored.mk ((gd p0 v1_2.toNat).Cat) ((gd p0 v1_2.toNat).At) (eF r3))]),wr .i64 (v1_2+1)))) else (some (.done (.inl v1_1)))
noncomputable def F45 (p0:List TStored):Option (List TStored) :=
 lp (yN (fun s=>F45_L1 p0 s.1 s.2) ([],0)) (fun w1_3=>some w1_3) some
noncomputable def vV:List AV->Nat->AR
 | [v0],s=>.heap (lK xD 43 v0/\(F45 (lA yA v0)).isSome=true) (.sl s 43 0 ((gt (F45 (lA yA v0))).length) false) [.row 82 43 ((gt (F45 (lA yA v0))).length) (enR zD (gt (F45 (lA yA v0))))]
 | _,_=>.fail
theorem ok45:xZ Try.prog 45 (wE vV):=by
 refine gen_fn vV (rs:=[.tmp 2]) Try.func45 (by kernel_rfl) rfl rfl ?_
 intro l s ob v ns hb hob
 rcases hb with ⟨hb,rfl⟩|hb
 ·unfold vV at hb
  split at hb<;>cases hb
 ·unfold vV at hb
  split at hb
  ·rename_i v0
   injection hb with q1 q2 q3;subst q1 q2 q3
   obtain ⟨hk0_0,hob⟩:=hob
   obtain ⟨r,H⟩:=oE.1 hob
   rw [H,yD]
   have hw0:=uP (fun r h=>eA h) hk0_0
   generalize lA yA v0=p0 at H hw0
   refine ⟨[.ro 43 p0.length false (enR zD p0)],.sl 0 43 0 r.length false,[.row 82 43 r.length (enR zD r)],(fun E vs F=>yL hw0.1 F (fun vs F=>F)),by simp only [ren,rnN_0],⟨RenB_row yP,trivial⟩,?_⟩
   rw [Try.ntmps45]
   simp only [lC,lN,Nat.reduceAdd,Nat.reduceSub,rS,rZ,aC,aN]
   unfold F45 at H
   try dsimp only at H
   refine sq zA ?_
   simp only [go_sem]
   refine zH ?_
   refine sq zA ?_
   simp only [go_sem]
   repeat ((with_reducible refine aI ?_ ?_);exact an0)
   refine xI ?_
   refine xA (fun s:(List TStored) × Int=>(.top::.top::.sl 0 43 0 s.1.length false::.top::.top::.ro 43 p0.length false (enR zD p0)::.int .i64 (p0.length:Nat)::.int .i64 s.2::tp 13 [])) (fun s=>[.row 82 43 s.1.length (enR zD s.1)]) (fun e:List TStored=>(.top::.top::.sl 0 43 0 e.length false::tp 18 [])) (fun e=>[.row 82 43 e.length (enR zD e)]) H ?_ (fun s o H hn1_1 hn2_1=>?_) (fun w1_3 H=>?_)
   ·refine zI ⟨[none],?_,?_,by rfl,by rfl⟩
    ·simp [CvL,Cv,tp]
    ·exact ⟨uR,trivial⟩
   ·obtain ⟨v1_1,v1_2⟩:=s
    unfold F45_L1 at H
    delta eF at H
    try dsimp only at H ⊢
    try simp only [tp]
    refine sq zA ?_
    simp only [go_sem]
    refine zH ?_
    refine condM' rfl trivial (fun hc=>?_) (fun hc=>?_)
    ·have hk1:(bLt v1_2 (p0.length:Nat))=false:=by simpa using hc
     replace H:=zN hc H
     refine rg zA ?_
     simp only [go_sem]
     refine ⟨_,(Option.some.inj H).symm,?_⟩
     refine zI ⟨[some 0],?_,?_,by rfl,by rfl⟩
     ·simp [CvL,Cv,yB]
     ·exact ⟨zK yP cl (fun _ _ _ _=>rfl),trivial⟩
    have hk1:(bLt v1_2 (p0.length:Nat))=true:=by simpa using hc
    replace H:=zO hc H
    refine rg zA ?_
    simp only [go_sem]
    refine zH ?_
    refine xI ?_
    refine zH ?_
    obtain ⟨f2,H⟩:=nI H
    refine rg zA ?_
    simp only [go_sem,Nat.reduceLT,Nat.reduceAdd,f2]
    repeat ((with_reducible refine aI ?_ ?_);exact an4)
    refine zH ?_
    obtain ⟨r3,e4,H⟩:=bsi H
    refine rg ct45t0_ok ?_
    simp only [go_sem,Nat.reduceLT,Nat.reduceAdd,reduceCtorEq,ct45t0_26,body26,e4]
    repeat ((with_reducible refine aI ?_ ?_);exact an0)
    refine tM ?_
    refine xE zL zA 2 ?_
    simp only [zJ,tS,tZ,dS,dZ,go_sem,Nat.reduceLT,Nat.reduceAdd]
    repeat ((with_reducible refine aI ?_ ?_);exact an3)
    refine fzO [2] ?_ ?_
    ·simp only [go_sem,Nat.reduceBEq]
     try exact at0
    simp only [go_sem,Nat.reduceBEq,Nat.reduceAdd]
    obtain ⟨f5,H⟩:=nC H
    refine xE zL zA 3 ?_
    simp only [zJ,tS,tZ,dS,dZ,go_sem,Nat.reduceLeDiff,Nat.reduceAdd,Nat.reduceBEq,f5]
    repeat ((with_reducible refine aI ?_ ?_);exact an1)
    refine wX ?_
    refine rg zA ?_
    simp only [go_sem]
    refine ⟨_,(Option.some.inj H).symm,?_⟩
    refine zI ⟨[some 4],?_,?_,by rfl,by rfl⟩
    ·simp [CvL,Cv,yB]
    ·exact ⟨zK yP cl (wW (f:=zD) v1_1 [(TStored.mk ((gd p0 v1_2.toNat).Cat) ((gd p0 v1_2.toNat).At) (eF r3))] (fun _ _ _ _=>rfl) (yY (f:=zD) [(TStored.mk ((gd p0 v1_2.toNat).Cat) ((gd p0 v1_2.toNat).At) (eF r3))] (fun _ _=>rfl) rfl)),trivial⟩
   ·try dsimp only at H ⊢
    try simp only [tp]
    try simp only [yR]
    refine sq zA ?_
    simp only [go_sem]
    refine rg zA ?_
    simp only [go_sem]
    obtain rfl:=Option.some.inj H
    refine ⟨[],?_,?_,[some 0],?_,?_,by rfl⟩
    ·simp only [go_sem]
    ·simp only [go_sem]
    ·simp [fzV,inL,Cv,yB]
     all_goals first|exact cl
    ·simp only [go_sem,CvH]
     exact zK yP cl (fun _ _ _ _=>rfl)
  ·cases hb
noncomputable def ct45_0t0:Ct:=tab [(26,edC body26)]
theorem ct45_0t0_ok:yU Try.prog ct45_0t0:=zP ok26 <| zX
theorem ct45_0t0_26 (l:List AV) (h:List ABlk):ct45_0t0 26 l h=edC body26 l h:=rfl
noncomputable def F45_0_L1 (p0:List TStored) (v1_1:List TStored) (v1_2:Int):Option (Lp ((List TStored) × Int) ((List TStored) ⊕ (List TStored))) :=
 bif (bLt v1_2 (p0.length:Nat)) then (need (inb v1_2 p0.length) <| (F26 (eF ((gd p0 v1_2.toNat).Frame))).bind fun r3=>need (capb 120 (v1_1.length+1)) <| some (.next ((v1_1 ++ [(TStored.mk ((gd p0 v1_2.toNat).Cat) ((gd p0 v1_2.toNat).At) (eF r3))]),wr .i64 (v1_2+1)))) else (some (.done (.inl v1_1)))
noncomputable def F45_0 (p0:List TStored):Option (List TStored) :=
 lp (yN (fun s=>F45_0_L1 p0 s.1 s.2) ([],0)) (fun w1_3=>some w1_3) some
noncomputable def body45_0:List AV->Nat->AR
 | [v0],_=>.pure (lK xD 43 v0/\(F45_0 (lA yA v0)).isSome=true) (.ro 43 ((gt (F45_0 (lA yA v0))).length) false (enR zD (gt (F45_0 (lA yA v0)))))
 | _,_=>.fail
theorem ok45_0:xZ Try.prog 45 (wE body45_0):=by
 refine gen_fn body45_0 (rs:=[.tmp 2]) Try.func45 (by kernel_rfl) rfl rfl ?_
 intro l s ob v ns hb hob
 rcases hb with ⟨hb,rfl⟩|hb
 ·unfold body45_0 at hb
  split at hb
  ·rename_i v0
   injection hb with q1 q2;subst q1 q2
   obtain ⟨hk0_0,hob⟩:=hob
   obtain ⟨r,H⟩:=oE.1 hob
   rw [H,yD]
   have hw0:=uP (fun r h=>eA h) hk0_0
   generalize lA yA v0=p0 at H hw0
   refine ⟨[.ro 43 p0.length false (enR zD p0)],.ro 43 r.length false (enR zD r),[],(fun E vs F=>yL hw0.1 F (fun vs F=>F)),by simp only [ren],trivial,?_⟩
   rw [Try.ntmps45]
   simp only [lC,lN,Nat.reduceAdd,Nat.reduceSub,rS,rZ,aC,aN]
   unfold F45_0 at H
   try dsimp only at H
   refine sq zA ?_
   simp only [go_sem]
   refine zH ?_
   refine sq zA ?_
   simp only [go_sem]
   repeat ((with_reducible refine aI ?_ ?_);exact an0)
   refine xI ?_
   refine xA (fun s:(List TStored) × Int=>(.top::.top::.sl 0 43 0 s.1.length false::.top::.top::.ro 43 p0.length false (enR zD p0)::.int .i64 (p0.length:Nat)::.int .i64 s.2::tp 13 [])) (fun s=>[.row 82 43 s.1.length (enR zD s.1)]) (fun e:List TStored=>(.top::.top::.sl 0 43 0 e.length false::tp 18 [])) (fun e=>[.row 82 43 e.length (enR zD e)]) H ?_ (fun s o H hn1_1 hn2_1=>?_) (fun w1_3 H=>?_)
   ·refine zI ⟨[none],?_,?_,by rfl,by rfl⟩
    ·simp [CvL,Cv,tp]
    ·exact ⟨uR,trivial⟩
   ·obtain ⟨v1_1,v1_2⟩:=s
    unfold F45_0_L1 at H
    delta eF at H
    try dsimp only at H ⊢
    try simp only [tp]
    refine sq zA ?_
    simp only [go_sem]
    refine zH ?_
    refine condM' rfl trivial (fun hc=>?_) (fun hc=>?_)
    ·have hk1:(bLt v1_2 (p0.length:Nat))=false:=by simpa using hc
     replace H:=zN hc H
     refine rg zA ?_
     simp only [go_sem]
     refine ⟨_,(Option.some.inj H).symm,?_⟩
     refine zI ⟨[some 0],?_,?_,by rfl,by rfl⟩
     ·simp [CvL,Cv,yB]
     ·exact ⟨zK yP cl (fun _ _ _ _=>rfl),trivial⟩
    have hk1:(bLt v1_2 (p0.length:Nat))=true:=by simpa using hc
    replace H:=zO hc H
    refine rg zA ?_
    simp only [go_sem]
    refine zH ?_
    refine xI ?_
    refine zH ?_
    obtain ⟨f2,H⟩:=nI H
    refine rg zA ?_
    simp only [go_sem,Nat.reduceLT,Nat.reduceAdd,f2]
    repeat ((with_reducible refine aI ?_ ?_);exact an4)
    refine zH ?_
    obtain ⟨r3,e4,H⟩:=bsi H
    refine rg ct45_0t0_ok ?_
    simp only [go_sem,Nat.reduceLT,Nat.reduceAdd,reduceCtorEq,ct45_0t0_26,body26,e4]
    repeat ((with_reducible refine aI ?_ ?_);exact an0)
    refine tM ?_
    refine xE zL zA 2 ?_
    simp only [zJ,tS,tZ,dS,dZ,go_sem,Nat.reduceLT,Nat.reduceAdd]
    repeat ((with_reducible refine aI ?_ ?_);exact an3)
    refine fzO [2] ?_ ?_
    ·simp only [go_sem,Nat.reduceBEq]
     try exact at0
    simp only [go_sem,Nat.reduceBEq,Nat.reduceAdd]
    obtain ⟨f5,H⟩:=nC H
    refine xE zL zA 3 ?_
    simp only [zJ,tS,tZ,dS,dZ,go_sem,Nat.reduceLeDiff,Nat.reduceAdd,Nat.reduceBEq,f5]
    repeat ((with_reducible refine aI ?_ ?_);exact an1)
    refine wX ?_
    refine rg zA ?_
    simp only [go_sem]
    refine ⟨_,(Option.some.inj H).symm,?_⟩
    refine zI ⟨[some 4],?_,?_,by rfl,by rfl⟩
    ·simp [CvL,Cv,yB]
    ·exact ⟨zK yP cl (wW (f:=zD) v1_1 [(TStored.mk ((gd p0 v1_2.toNat).Cat) ((gd p0 v1_2.toNat).At) (eF r3))] (fun _ _ _ _=>rfl) (yY (f:=zD) [(TStored.mk ((gd p0 v1_2.toNat).Cat) ((gd p0 v1_2.toNat).At) (eF r3))] (fun _ _=>rfl) rfl)),trivial⟩
   ·try dsimp only at H ⊢
    try simp only [tp]
    try simp only [yR]
    refine sq zA ?_
    simp only [go_sem]
    refine rg zA ?_
    simp only [go_sem]
    obtain rfl:=Option.some.inj H
    refine ⟨[0],?_,?_,[],?_,?_,rfl⟩
    ·simp only [go_sem]
     try exact at0
    ·simp only [go_sem]
     try exact at0
    ·simp only [go_sem]
     exact (uD (by first|rfl|simp) (fun _ _ _ _=>rfl))
    ·simp only [go_sem,CvH]
  ·cases hb
 ·unfold body45_0 at hb
  split at hb<;>cases hb
noncomputable def ct21t0:Ct:=tab [(44,wE uZ)]
theorem ct21t0_ok:yU Try.prog ct21t0:=zP ok44 <| zX
theorem ct21t0_44 (l:List AV) (h:List ABlk):ct21t0 44 l h=wE uZ l h:=rfl
noncomputable def ct21t1:Ct:=tab [(45,wE body45_0)]
theorem ct21t1_ok:yU Try.prog ct21t1:=zP ok45_0 <| zX
theorem ct21t1_45 (l:List AV) (h:List ABlk):ct21t1 45 l h=wE body45_0 l h:=rfl
noncomputable def ct21t2:Ct:=tab [(45,wE vV)]
theorem ct21t2_ok:yU Try.prog ct21t2:=zP ok45 <| zX
theorem ct21t2_45 (l:List AV) (h:List ABlk):ct21t2 45 l h=wE vV l h:=rfl
noncomputable def F21_L1 (r1:List TSleeper) (v1_1:Int) (v1_2:List TSleeper):Option (Lp (Int × (List TSleeper)) ((List TSleeper) ⊕ (TBuffer))) :=
 bif (bLt v1_1 (r1.length:Nat)) then (need (inb v1_1 v1_2.length) <| (F45_0 ((gd v1_2 v1_1.toNat).Held)).bind fun r5=>need (inb v1_1 v1_2.length) <| some (.next (wr .i64 (v1_1+1),(v1_2.set v1_1.toNat (TSleeper.mk ((gd v1_2 v1_1.toNat).Aid) ((gd v1_2 v1_1.toNat).Asleep) r5))))) else (some (.done (.inl v1_2)))
noncomputable def F21 (p0:TBuffer):Option (TBuffer) :=
 (F44 p0.List).bind fun r1=>lp (yN (fun s=>F21_L1 r1 s.1 s.2) (0,r1)) (fun w1_3=>(F45 p0.Group).bind fun r8=>some (TBuffer.mk p0.Limit p0.Stay w1_3 r8)) some
noncomputable def body21:List AV->Nat->AR
 | [v0],s=>.heap (aK 4 xS v0/\(F21 (zG (aL v0))).isSome=true) (.agg [.int .i64 ((gt (F21 (zG (aL v0)))).Limit),.int .i64 ((gt (F21 (zG (aL v0)))).Stay),.sl s 3 0 (((gt (F21 (zG (aL v0)))).List).length) false,.sl (s+1) 43 0 (((gt (F21 (zG (aL v0)))).Group).length) false]) [.row 72 3 (((gt (F21 (zG (aL v0)))).List).length) (enR zF ((gt (F21 (zG (aL v0)))).List)),.row 82 43 (((gt (F21 (zG (aL v0)))).Group).length) (enR zD ((gt (F21 (zG (aL v0)))).Group))]
 | _,_=>.fail
theorem ok21:xZ Try.prog 21 (wE body21):=by
 refine gen_fn body21 (rs:=[.cell 2 31]) Try.func21 (by kernel_rfl) rfl rfl ?_
 intro l s ob v ns hb hob
 rcases hb with ⟨hb,rfl⟩|hb
 ·unfold body21 at hb
  split at hb<;>cases hb
 ·unfold body21 at hb
  split at hb
  ·rename_i v0
   injection hb with q1 q2 q3;subst q1 q2 q3
   obtain ⟨hk0_0,hob⟩:=hob
   obtain ⟨r,H⟩:=oE.1 hob
   rw [H,yD]
   have hw0:=uO hk0_0
   generalize zG (aL v0)=p0 at H hw0
   refine ⟨[.agg [.int .i64 p0.Limit,.int .i64 p0.Stay,.ro 3 p0.List.length false (enR zF p0.List),.ro 43 p0.Group.length false (enR zD p0.Group)]],.agg [.int .i64 r.Limit,.int .i64 r.Stay,.sl 0 3 0 r.List.length false,.sl 1 43 0 r.Group.length false],[.row 72 3 r.List.length (enR zF r.List),.row 82 43 r.Group.length (enR zD r.Group)],(fun E vs F=>yL hw0.1 F (fun vs F=>F)),by simp only [ren,eS,rnN_0,rnN_s,Nat.zero_add],⟨RenB_row wU,RenB_row yP,trivial⟩,?_⟩
   rw [Try.ntmps21]
   simp only [lC,lN,Nat.reduceAdd,Nat.reduceSub,rS,rZ,aC,aN]
   unfold F21 at H
   try dsimp only at H
   refine sq zA ?_
   simp only [go_sem]
   refine zH ?_
   obtain ⟨r1,e2,H⟩:=bsi H
   refine rg ct21t0_ok ?_
   simp only [go_sem,Nat.reduceLeDiff,Nat.reduceLT,Nat.reduceAdd,ct21t0_44,uZ,e2]
   repeat ((with_reducible refine aI ?_ ?_);exact an0)
   refine zH ?_
   refine sq zA ?_
   simp only [go_sem,Nat.reduceLeDiff,Nat.reduceLT,Nat.reduceAdd]
   repeat ((with_reducible refine aI ?_ ?_);exact an0)
   refine xI ?_
   refine xA (fun s:Int × (List TSleeper)=>(.top::.ptr 0 0 0 0::.ptr 1 0 0 0::tp 7 (.int .i64 (r1.length:Nat)::.int .i64 s.1::tp 20 []))) (fun s=>[.lit 31 [.int .i64 p0.Limit,.int .i64 p0.Stay,.sl 3 3 0 s.2.length false,.ro 43 p0.Group.length false (enR zD p0.Group)],.lit 31 [.int .i64 0,.int .i64 0,.ro 0 0 true (fun _ _=>.top),.ro 0 0 true (fun _ _=>.top)],.dead,.row 72 3 s.2.length (enR zF s.2)]) (fun e:List TSleeper=>(.top::.ptr 0 0 0 0::.ptr 1 0 0 0::tp 29 [])) (fun e=>[.lit 31 [.int .i64 p0.Limit,.int .i64 p0.Stay,.sl 3 3 0 e.length false,.ro 43 p0.Group.length false (enR zD p0.Group)],.lit 31 [.int .i64 0,.int .i64 0,.ro 0 0 true (fun _ _=>.top),.ro 0 0 true (fun _ _=>.top)],.dead,.row 72 3 e.length (enR zF e)]) H ?_ (fun s o H hn1_1 hn2_1=>?_) (fun w1_3 H=>?_)
   ·refine zI ⟨[some 0,some 1,some 2,some 2],?_,?_,by rfl,by rfl⟩
    ·simp [CvL,Cv,yB,tp]
    ·exact ⟨cv,cv,zB,zK wU cl (fun _ _ _ _=>rfl),trivial⟩
   ·obtain ⟨v1_1,v1_2⟩:=s
    unfold F21_L1 at H
    try dsimp only at H ⊢
    try simp only [tp]
    refine sq zA ?_
    simp only [go_sem,Nat.reduceAdd]
    refine zH ?_
    refine condM' rfl trivial (fun hc=>?_) (fun hc=>?_)
    ·have hk3:(bLt v1_1 (r1.length:Nat))=false:=by simpa using hc
     replace H:=zN hc H
     refine rg zA ?_
     simp only [go_sem]
     refine ⟨_,(Option.some.inj H).symm,?_⟩
     refine zI ⟨[some 0,some 1,some 2,some 3],?_,?_,by rfl,by rfl⟩
     ·simp [CvL,Cv,yB]
     ·exact ⟨cv,cv,zB,zK wU cl (fun _ _ _ _=>rfl),trivial⟩
    have hk3:(bLt v1_1 (r1.length:Nat))=true:=by simpa using hc
    replace H:=zO hc H
    refine rg zA ?_
    simp only [go_sem]
    refine zH ?_
    refine xI ?_
    refine sq zA ?_
    simp only [go_sem]
    obtain ⟨f4,H⟩:=nI H
    obtain ⟨r5,e6,H⟩:=bsi H
    obtain ⟨f7,H⟩:=nI H
    refine yZ zL ct21t1_ok 0 (by kernel_rfl) (by kernel_rfl) ?_
    intro an han
    simp only [uC,wM,eG,xrD,xoD,tN,vS,List.append_nil,xK,refs,uI,mask,wT,place,xU,wV,wA,hit,inL,xM,ren,nrH,nrB,rZ,Nat.sub_self,Nat.add_zero,Nat.zero_add,Nat.reduceSub,Nat.lt_add_one,go_sem,Nat.reduceLeDiff,Nat.reduceLT,Nat.reduceAdd,Nat.reduceSub,Nat.reduceBEq,ct21t1_45,body45_0,f4,e6]
    repeat ((with_reducible refine aI ?_ ?_);exact an6)
    refine rg zA ?_
    simp only [go_sem]
    refine ⟨_,(Option.some.inj H).symm,?_⟩
    refine zI ⟨[some 0,some 1,some 2,some 3],?_,?_,by rfl,by rfl⟩
    ·simp [CvL,Cv,yB]
    ·exact ⟨cv,cv,zB,zK wU cl (fZ (f:=zF) v1_2 v1_1.toNat 2 (TSleeper.mk ((gd v1_2 v1_1.toNat).Aid) ((gd v1_2 v1_1.toNat).Asleep) r5) (fun _ _ _ _=>rfl) (fun y hy=>match y,hy with|0,_=>rfl|1,_=>rfl|2,_=>rfl|(y+3),h=>absurd h nlt)),trivial⟩
   ·try dsimp only at H ⊢
    try simp only [tp]
    try simp only [yR]
    refine zH ?_
    obtain ⟨r8,e9,H⟩:=bsi H
    refine rg ct21t2_ok ?_
    simp only [go_sem,Nat.reduceLT,Nat.reduceAdd,ct21t2_45,vV,e9]
    repeat ((with_reducible refine aI ?_ ?_);exact an0)
    refine sq zA ?_
    simp only [go_sem,Nat.reduceLT,Nat.reduceAdd]
    repeat ((with_reducible refine aI ?_ ?_);exact an4)
    refine rg zA ?_
    simp only [go_sem,Nat.reduceLT,Nat.reduceAdd]
    obtain rfl:=Option.some.inj H
    refine ⟨[],?_,?_,[some 3,some 4],?_,?_,by rfl⟩
    ·simp only [go_sem]
    ·simp only [go_sem]
    ·simp [fzV,fzL,inL,Cv,CvL,yB]
     all_goals first|exact cl|exact cl
    ·simp only [go_sem,CvH]
     exact ⟨zK wU cl (fun _ _ _ _=>rfl),zK yP cl (fun _ _ _ _=>rfl)⟩
  ·cases hb
theorem ext22:ExtOk Try.prog 46 ovC2:=ov_ext2 (t:=28) (tr:=4) (e:=72) (z:=3) Try.func46 (by kernel_rfl) (by kernel_rfl) (by kernel_rfl) (by kernel_rfl) (by kernel_rfl) (by kernel_rfl)
def ctI22:Ct:=tab [(46,ovC2)]
theorem ctI22_ok:yU Try.prog ctI22:=tab_ext ext22 zX
theorem ctI22_eq (l:List AV) (h:List ABlk):ctI22 46 l h=ovC2 l h:=rfl
theorem tik22_0:tintk Try.prog 2=true:=by kernel_rfl
theorem tik22_1:tintk Try.prog 28=false:=by kernel_rfl
set_option maxHeartbeats 8000000 in
theorem okF22:xZ Try.prog 22 (insF 72 3):=by
 refine edit1_fn (sh:=fun _=>none) (fun _ _ h=>by cases h) ctI22_ok (insF 72 3) (rs:=[.tmp 6]) Try.func22 (by kernel_rfl) rfl rfl insF_np ?_
 intro E h l vs ob v h' H F hc hob
 unfold insF at hc
 split at hc
 ·rename_i b es' i n nl p b2 es3 i2 m nl2
  split at hc
  ·rename_i e' es2 NN c hb
   split at hc
   ·rename_i e4 es4 N2 d hb2
    injection hc with q1 q2 q3
    subst q1 q2 q3
    obtain ⟨rfl,rfl,rfl,rfl,rfl,hbb,hN,hN2,hpn,hmm,hbig,hfl,hfl2⟩:=hob
    obtain ⟨vs⟩:=vs
    match vs,F.1 with
    | [u1,u2,u3],_ =>
     have hne:geth h b ≠ .dead:=by rw [hb];exact fun e=>by cases e
     obtain ⟨cap,hcap,hV⟩:=csl_of_sl (only_sl (F.2 0 _ u1 rfl rfl))
     have g2:=F.2 1 _ u2 rfl rfl
     have g3:=only_ro (b:=b) H (F.2 2 _ u3 rfl rfl) hb2 hne hbb hN2 fun x y hx hy=>(hfl2 x y hx hy).1
     obtain rfl:=vU g2
     refine ⟨b,72,3,NN,c,n+m,insA i p m c (wR i2 d),[.csl 0 3 i n cap,.int .i64 p,.ro 3 m nl2 (wR i2 d)],hb,fun x y hx hy=>(hfl x y hx hy).1,fun x y hx hy=>?_,rfl,rfl,?_,?_⟩
     ·unfold insA wR
      split
      ·exact hfl _ _ (by omega) hy
      ·split
       ·exact hfl2 _ _ (by omega) hy
       ·exact hfl _ _ (by omega) hy
     ·refine ⟨rfl,fun j a w ha hw=>?_⟩
      match j with
      | 0=>simp at ha hw;subst ha hw;exact hV
      | 1=>simp at ha hw;subst ha hw;exact .int _ _
      | 2=>simp at ha hw;subst ha hw;exact g3
      | j+3=>simp at ha
     ·rw [Try.ntmps22]
      show wpC _ _ _ _ _ (.csl 0 3 i n cap::.int .i64 p::.ro 3 m nl2 (wR i2 d)::.top::.top::.top::.top::.top::.top::.top::.top::.top::.top::.top::.top::.top::.top::.top::.top::.top::.top::.top::.top::.top::.top::.top::.top::.top::.top::.top::.top::.top::.top::.top::.top::.top::.top::.top::.top::.top::.top::.top::.top::.top::.top::.top::.top::.top::.top::.top::.top::.top::.top::.top::.top::.top::.top::.top::.top::.top::.top::.top::.top::.top::.top::.top::.top::.top::.top::.top::.top::.top::.top::.top::.top::.top::.top::.top::.top::.top::.top::.top::.top::.top::.top::.top::.top::.top::.top::.top::.top::.top::.top::.top::.top::[]) _
      have hm0:0 < m:=by omega
      have hm1:((m:Int) == 0)=false:=by simp;omega
      rcases Nat.lt_or_ge p n with hp|hp
      ·have hpq:((p:Int) == (n:Int))=false:=by simp;omega
       have w1:wr .i64 ((n:Int)+(m:Int))=((n+m:Nat):Int):=by unfold wr;rw [IntWalk.i64_in _ (by omega)];omega
       have w2:wr .i64 (((n+m:Nat):Int) - (p:Int))=((n+m - p:Nat):Int):=by unfold wr;rw [IntWalk.i64_in _ (by omega)];omega
       have w3:wr .i64 ((p:Int)+(m:Int))=((p+m:Nat):Int):=by unfold wr;rw [IntWalk.i64_in _ (by omega)];omega
       have hpm:p+(n+m - p)=n+m:=by omega
       have mn1:min m (n+m - p)=m:=by omega
       have mn2:min (n - p) (n+m - (p+m))=n - p:=by omega
       have mn3:min (n+m - p) (n+m - (p+m))=n - p:=by omega
       have fin:∀ x y,x < n+m->insA i p m c (wR i2 d) x y=insA i p m c (wR i2 d) x y:=fun _ _ _=>rfl
       by_cases hroom:n+m <= cap
       ·have hg:decide ((cap:Int) < ((n+m:Nat):Int))=false:=by simp;omega
        simp only [go_sem,Nat.reduceLeDiff,Nat.reduceAdd,reduceCtorEq,uT,uA,lenS,cutS,evCap,evAppZ,tik22_1,bEq,Option.isNone_some,Option.isSome_none,Option.isNone_none,Int.toNat_natCast,hm1,hpq,hg,Nat.sub_zero,bLt,w1,w2,w3,hpm,ctI22_eq,ovC2,slB,Nat.add_zero,Nat.zero_add]
        refine ⟨by omega,by omega,by omega,by omega,?_⟩
        refine yZ (sh:=fun _=>none) (fun _ _ h=>by cases h) ctI22_ok 0 (by kernel_rfl) (by kernel_rfl) ?_
        intro an han
        simp only [go_sem,Nat.reduceLeDiff,Nat.reduceAdd,Nat.reduceSub,uT,uA,lenS,cutS,Option.isSome_none,Option.isNone_none,Int.toNat_natCast,w3,mn1,mn3,Nat.add_zero,Nat.zero_add,uC,wM,eG,xK,refs,uI,mask,wT,place,xU,wV,wA,hit,inL,xM,ren,nrH,nrB,rZ,Bool.or_false,Bool.or_true,Bool.true_or,Bool.false_and,Nat.sub_self,Nat.add_zero,Nat.zero_add,Nat.reduceSub,Nat.lt_add_one]
        refine ⟨by omega,by omega,by omega,by omega,by omega,?_⟩
        refine conv_move (b:=0) rfl (by omega) (by omega) fun x y hx hy=>?_
        unfold ovwC insA wR
        by_cases hxp:x < p
        ·rw [if_neg (by omega),if_neg (by omega),if_pos hxp]
        ·rw [if_neg hxp]
         by_cases hxm:x < p+m
         ·rw [if_pos (by omega),if_pos hxm]
          congr 1
          omega
         ·rw [if_neg (by omega),if_pos (by omega),if_neg hxm]
          congr 1
          omega
       ·have hg:decide ((cap:Int) < ((n+m:Nat):Int))=true:=by simp;omega
        have hd:decide (cap < n+m)=true:=by simp;omega
        simp only [go_sem,Nat.reduceLeDiff,Nat.reduceAdd,reduceCtorEq,uT,uA,lenS,cutS,evCap,evAppZ,tik22_1,bEq,Option.isNone_some,Option.isSome_none,Option.isNone_none,Int.toNat_natCast,hm1,hpq,hg,hd,Nat.sub_zero,bLt,w1,w2,w3,hpm,mn1,ctI22_eq,ovC2,slB,Nat.add_zero,Nat.zero_add]
        refine ⟨by omega,by omega,by omega,by omega,by omega,?_⟩
        refine yZ (sh:=fun _=>none) (fun _ _ h=>by cases h) ctI22_ok 0 (by kernel_rfl) (by kernel_rfl) ?_
        intro an han
        simp only [go_sem,Nat.reduceLeDiff,Nat.reduceAdd,Nat.reduceSub,Nat.reduceBEq,uT,uA,lenS,cutS,Option.isSome_none,Option.isNone_none,Int.toNat_natCast,w3,mn2,Nat.add_zero,Nat.zero_add,uC,wM,eG,xK,refs,uI,mask,wT,place,xU,wV,wA,hit,inL,xM,ren,nrH,nrB,rZ,Bool.or_false,Bool.or_true,Bool.true_or,Bool.false_and,Nat.sub_self,Nat.add_zero,Nat.zero_add,Nat.reduceSub,Nat.lt_add_one]
        refine ⟨by omega,by omega,by omega,?_⟩
        refine conv_two (by omega) fun x y hx hy=>?_
        unfold ovwC appC insA wR
        by_cases hxp:x < p
        ·rw [if_neg (by omega),if_neg (by omega),if_pos hxp,if_pos hxp]
        ·by_cases hxm:x < p+m
         ·rw [if_neg (by omega),if_pos (by omega),if_neg hxp,if_pos hxm]
         ·rw [if_pos (by omega),if_neg hxp,if_neg hxm]
          congr 1
          omega
      ·obtain rfl:p=n:=by omega
       have hpq:((p:Int) == (p:Int))=true:=by simp
       by_cases hroom:p+m <= cap
       ·have hd1:decide (p+m <= cap)=true:=by simpa using hroom
        simp only [go_sem,Nat.reduceLeDiff,Nat.reduceAdd,uT,uA,lenS,cutS,evCap,evAppZ,tik22_1,bEq,Option.isNone_some,Option.isSome_none,Option.isNone_none,Int.toNat_natCast,hm1,hpq,hd1,Nat.sub_zero]
        refine ⟨by omega,by omega,?_⟩
        refine conv_move (b:=0) rfl (by omega) (by omega) fun x y hx hy=>?_
        unfold ovwC insA
        by_cases hxp:x < p
        ·rw [if_neg (by omega),if_pos hxp]
        ·rw [if_pos (by omega),if_neg hxp,if_pos (by omega)]
         congr 1
         omega
       ·have hd1:decide (p+m <= cap)=false:=by simpa using hroom
        simp only [go_sem,Nat.reduceLeDiff,Nat.reduceAdd,uT,uA,lenS,cutS,evCap,evAppZ,tik22_1,bEq,Option.isNone_some,Option.isSome_none,Option.isNone_none,Int.toNat_natCast,hm1,hpq,hd1,Nat.sub_zero]
        refine ⟨by omega,by omega,?_⟩
        refine conv_two (Nat.le_refl _) fun x y hx hy=>?_
        unfold appC insA wR
        by_cases hxp:x < p
        ·rw [if_pos hxp,if_pos hxp]
        ·rw [if_neg hxp,if_neg hxp,if_pos (by omega)]
   ·cases hc
  ·cases hc
 ·cases hc
theorem ok22:xZ Try.prog 22 (insN 72 3):=insN_ok okF22
noncomputable def ct7t0:Ct:=tab [(19,zV vM)]
theorem ct7t0_ok:yU Try.prog ct7t0:=zP ok19 <| zX
theorem ct7t0_19 (l:List AV) (h:List ABlk):ct7t0 19 l h=zV vM l h:=rfl
noncomputable def ct7t1:Ct:=tab [(20,zV eP)]
theorem ct7t1_ok:yU Try.prog ct7t1:=zP ok20 <| zX
theorem ct7t1_20 (l:List AV) (h:List ABlk):ct7t1 20 l h=zV eP l h:=rfl
noncomputable def ct7t2:Ct:=tab [(21,wE body21)]
theorem ct7t2_ok:yU Try.prog ct7t2:=zP ok21 <| zX
theorem ct7t2_21 (l:List AV) (h:List ABlk):ct7t2 21 l h=wE body21 l h:=rfl
noncomputable def ct7t3:Ct:=tab [(22,insN 72 3)]
theorem ct7t3_ok:yU Try.prog ct7t3:=zP ok22 <| zX
theorem ct7t3_22 (l:List AV) (h:List ABlk):ct7t3 22 l h=insN 72 3 l h:=rfl
noncomputable def F7 (p0:TBuffer) (p1:Int):Option (TBuffer × Int) :=
 (F19 p0).bind fun r1=>bif (!bEq r1 0) then (some ((TBuffer.mk 0 0 [] []),r1)) else (bif ((bLt p1 1) || (bLt 255 p1)) then (some ((TBuffer.mk 0 0 [] []),2)) else ((F20 p0 p1).bind fun r5=>bif r5.2 then (some ((TBuffer.mk 0 0 [] []),20)) else (bif (bEq (p0.List.length:Nat) 32) then (some ((TBuffer.mk 0 0 [] []),22)) else ((F21 p0).bind fun r9=>need (insb r5.1 r9.List.length) <| (some ([(TSleeper.mk p1 false ([]:List TStored))])).bind fun w12=>(some (insL r9.List r5.1 ([(TSleeper.mk p1 false ([]:List TStored))]))).bind fun w14=>some ((TBuffer.mk r9.Limit r9.Stay w14 r9.Group),0)))))
noncomputable def body7:List AV->Nat->AR
 | [v0,v1],_=>.pure (aK 4 xS v0/\iK .i64 v1/\(F7 (zG (aL v0)) (iA v1)).isSome=true) (.tup [.agg [.int .i64 (((gt (F7 (zG (aL v0)) (iA v1))).1).Limit),.int .i64 (((gt (F7 (zG (aL v0)) (iA v1))).1).Stay),.ro 3 ((((gt (F7 (zG (aL v0)) (iA v1))).1).List).length) false (enR zF (((gt (F7 (zG (aL v0)) (iA v1))).1).List)),.ro 43 ((((gt (F7 (zG (aL v0)) (iA v1))).1).Group).length) false (enR zD (((gt (F7 (zG (aL v0)) (iA v1))).1).Group))],.int .i64 ((gt (F7 (zG (aL v0)) (iA v1))).2)])
 | _,_=>.fail
theorem ok7:xZ Try.prog 7 (wE body7):=by
 refine gen_fn body7 (rs:=[.cell 4 31,.tmp 5]) Try.func7 (by kernel_rfl) rfl rfl ?_
 intro l s ob v ns hb hob
 rcases hb with ⟨hb,rfl⟩|hb
 ·unfold body7 at hb
  split at hb
  ·rename_i v0 v1
   injection hb with q1 q2;subst q1 q2
   obtain ⟨hk0_0,hk1_0,hob⟩:=hob
   obtain ⟨r,H⟩:=oE.1 hob
   rw [H,yD]
   have hw0:=uO hk0_0
   have hw1:=yJ hk1_0
   generalize zG (aL v0)=p0 at H hw0
   generalize iA v1=p1 at H hw1
   refine ⟨[.agg [.int .i64 p0.Limit,.int .i64 p0.Stay,.ro 3 p0.List.length false (enR zF p0.List),.ro 43 p0.Group.length false (enR zD p0.Group)],.int .i64 p1],.tup [.agg [.int .i64 r.1.Limit,.int .i64 r.1.Stay,.ro 3 r.1.List.length false (enR zF r.1.List),.ro 43 r.1.Group.length false (enR zD r.1.Group)],.int .i64 r.2],[],(fun E vs F=>yL hw0.1 F (fun vs F=>yL hw1.1 F (fun vs F=>F))),by simp only [ren,eS],trivial,?_⟩
   rw [Try.ntmps7]
   simp only [lC,lN,Nat.reduceAdd,Nat.reduceSub,rS,rZ,aC,aN]
   unfold F7 at H
   try dsimp only at H
   refine sq zA ?_
   simp only [go_sem]
   refine zH ?_
   refine zH ?_
   obtain ⟨r1,e2,H⟩:=bsi H
   refine rg ct7t0_ok ?_
   simp only [go_sem,Nat.reduceLT,Nat.reduceAdd,ct7t0_19,vM,e2]
   repeat ((with_reducible refine aI ?_ ?_);exact an0)
   refine sq zA ?_
   simp only [go_sem]
   refine yE rfl trivial (fun hc=>?_) (fun hc=>?_)
   ·have hk3:(bEq r1 0)=false:=by simpa using hc
    replace H:=zO hc H
    refine sq zA ?_
    simp only [go_sem,Nat.reduceAdd]
    repeat ((with_reducible refine aI ?_ ?_);exact an4)
    refine rg zA ?_
    simp only [go_sem,Nat.reduceLT,Nat.reduceAdd]
    obtain rfl:=Option.some.inj H
    refine ⟨[0,1],?_,?_,[],?_,?_,rfl⟩
    ·simp only [go_sem]
     try exact at0
    ·simp only [go_sem]
     try exact at0
    ·simp only [go_sem]
     exact xF (zC (xO (zC zE (zC zE (zC (zZ (α:=TSleeper)) (zC (zZ (α:=TStored)) zW))))) (zC zE zW))
    ·simp only [go_sem,CvH]
   have hk3:(bEq r1 0)=true:=by simpa using hc
   replace H:=zN hc H
   refine rg zA ?_
   simp only [go_sem]
   refine zH ?_
   refine sq zA ?_
   simp only [go_sem]
   repeat ((with_reducible refine aI ?_ ?_);exact an4)
   refine yE rfl trivial (fun hc=>?_) (fun hc=>?_)
   ·have hk4:((bLt p1 1) || (bLt 255 p1))=true:=by simpa using hc
    replace H:=zO hc H
    refine sq zA ?_
    simp only [go_sem,Nat.reduceAdd]
    repeat ((with_reducible refine aI ?_ ?_);exact an4)
    refine rg zA ?_
    simp only [go_sem,Nat.reduceLT,Nat.reduceAdd]
    obtain rfl:=Option.some.inj H
    refine ⟨[0,1],?_,?_,[],?_,?_,rfl⟩
    ·simp only [go_sem]
     try exact at0
    ·simp only [go_sem]
     try exact at0
    ·simp only [go_sem]
     exact xF (zC (xO (zC zE (zC zE (zC (zZ (α:=TSleeper)) (zC (zZ (α:=TStored)) zW))))) (zC zE zW))
    ·simp only [go_sem,CvH]
   have hk4:((bLt p1 1) || (bLt 255 p1))=false:=by simpa using hc
   replace H:=zN hc H
   refine rg zA ?_
   simp only [go_sem]
   refine zH ?_
   obtain ⟨r5,e6,H⟩:=bsi H
   refine rg ct7t1_ok ?_
   simp only [go_sem,Nat.reduceLT,Nat.reduceAdd,ct7t1_20,eP,e6]
   repeat ((with_reducible refine aI ?_ ?_);exact an0)
   refine zH ?_
   refine xI ?_
   refine sq zA ?_
   simp only [go_sem]
   refine yE rfl trivial (fun hc=>?_) (fun hc=>?_)
   ·have hk7:(r5.2)=true:=by simpa using hc
    replace H:=zO hc H
    refine sq zA ?_
    simp only [go_sem,Nat.reduceAdd]
    repeat ((with_reducible refine aI ?_ ?_);exact an4)
    refine rg zA ?_
    simp only [go_sem,Nat.reduceLT,Nat.reduceAdd]
    obtain rfl:=Option.some.inj H
    refine ⟨[0,1],?_,?_,[],?_,?_,rfl⟩
    ·simp only [go_sem]
     try exact at0
    ·simp only [go_sem]
     try exact at0
    ·simp only [go_sem]
     exact xF (zC (xO (zC zE (zC zE (zC (zZ (α:=TSleeper)) (zC (zZ (α:=TStored)) zW))))) (zC zE zW))
    ·simp only [go_sem,CvH]
   have hk7:(r5.2)=false:=by simpa using hc
   replace H:=zN hc H
   refine sq zA ?_
   simp only [go_sem,Nat.reduceLeDiff,Nat.reduceLT,Nat.reduceAdd]
   repeat ((with_reducible refine aI ?_ ?_);exact an0)
   refine yE rfl trivial (fun hc=>?_) (fun hc=>?_)
   ·have hk8:(bEq (p0.List.length:Nat) 32)=true:=by simpa using hc
    replace H:=zO hc H
    refine sq zA ?_
    simp only [go_sem,Nat.reduceAdd]
    repeat ((with_reducible refine aI ?_ ?_);exact an4)
    refine rg zA ?_
    simp only [go_sem,Nat.reduceLT,Nat.reduceAdd]
    obtain rfl:=Option.some.inj H
    refine ⟨[0,1],?_,?_,[],?_,?_,rfl⟩
    ·simp only [go_sem]
     try exact at0
    ·simp only [go_sem]
     try exact at0
    ·simp only [go_sem]
     exact xF (zC (xO (zC zE (zC zE (zC (zZ (α:=TSleeper)) (zC (zZ (α:=TStored)) zW))))) (zC zE zW))
    ·simp only [go_sem,CvH]
   have hk8:(bEq (p0.List.length:Nat) 32)=false:=by simpa using hc
   replace H:=zN hc H
   refine rg zA ?_
   simp only [go_sem]
   refine zH ?_
   obtain ⟨r9,e10,H⟩:=bsi H
   refine rg ct7t2_ok ?_
   simp only [go_sem,Nat.reduceLT,Nat.reduceAdd,ct7t2_21,body21,e10]
   repeat ((with_reducible refine aI ?_ ?_);exact an0)
   refine zH ?_
   refine tM ?_
   refine xE zL zA 5 ?_
   simp only [zJ,tS,tZ,dS,dZ,go_sem,Nat.reduceLeDiff,Nat.reduceLT,Nat.reduceAdd]
   repeat ((with_reducible refine aI ?_ ?_);exact an3)
   refine subO (t2:=(.agg [.int .i64 p0.Limit,.int .i64 p0.Stay,.ro 3 p0.List.length false (enR zF p0.List),.ro 43 p0.Group.length false (enR zD p0.Group)]::.int .i64 p1::.ptr 0 0 0 0::.top::.ptr 1 0 0 0::.int .i64 0::.int .i64 r1::.int .i64 r5.1::.bool r5.2::.agg [.int .i64 p0.Limit,.int .i64 p0.Stay,.ro 3 p0.List.length false (enR zF p0.List),.ro 43 p0.Group.length false (enR zD p0.Group)]::.int .i64 r1::.int .i64 r1::.bool (!bEq r1 0)::.top::.top::.int .i64 p1::.bool (bLt p1 1)::.bool (bLt p1 1)::.opt (!(bLt p1 1)) (.int .i64 p1)::.opt (!(bLt p1 1)) (.bool (bLt 255 p1))::.bool ((bLt p1 1) || (bLt 255 p1))::.top::.tup [.int .i64 r5.1,.bool r5.2]::.agg [.int .i64 p0.Limit,.int .i64 p0.Stay,.ro 3 p0.List.length false (enR zF p0.List),.ro 43 p0.Group.length false (enR zD p0.Group)]::.int .i64 p1::.tup [.int .i64 r5.1,.bool r5.2]::.int .i64 r5.1::.bool r5.2::.bool r5.2::.bool r5.2::.top::.bool (bEq (p0.List.length:Nat) 32)::.ptr 0 0 0 2::.ro 3 p0.List.length false (enR zF p0.List)::.int .i64 (p0.List.length:Nat)::.bool (bEq (p0.List.length:Nat) 32)::.top::.agg [.int .i64 p0.Limit,.int .i64 p0.Stay,.ro 3 p0.List.length false (enR zF p0.List),.ro 43 p0.Group.length false (enR zD p0.Group)]::.agg [.int .i64 r9.Limit,.int .i64 r9.Stay,.sl 2 3 0 r9.List.length false,.sl 3 43 0 r9.Group.length false]::.ptr 0 0 0 2::.sl 2 3 0 r9.List.length false::.int .i64 r5.1::.int .i64 p1::.agg [.int .i64 p1,.bool false,.ro 43 (([]:List TStored).length) false (enR zD ([]:List TStored))]::tp 4 [])) (h2:=[.lit 31 [.int .i64 r9.Limit,.int .i64 r9.Stay,.sl 2 3 0 r9.List.length false,.sl 3 43 0 r9.Group.length false],.lit 31 [.int .i64 0,.int .i64 0,.ro 0 0 true (fun _ _=>.top),.ro 0 0 true (fun _ _=>.top)],.row 72 3 r9.List.length (enR zF r9.List),.row 82 43 r9.Group.length (enR zD r9.Group)]) ?_ ?_
   ·refine zI ⟨[some 0,some 1,some 2,some 3],?_,?_,by rfl,by rfl⟩
    ·simp [CvL,Cv,yB,tp]
    ·(repeat (first|refine And.intro (by first|exact zB|exact zQ nfA|(simp [CvB,CvL,Cv,wB,geth,yB];done)) ?_|trivial))
   simp only [tp]
   obtain ⟨f11,H⟩:=yH.1 H
   replace f11:=insb_iff.1 f11
   refine xE zL ct7t3_ok 4 ?_
   simp only [zJ,tS,tZ,dS,dZ,go_sem,Nat.reduceLeDiff,Nat.reduceAdd,Nat.reduceEqDiff,ct7t3_22,insN,f11]
   repeat ((with_reducible refine aI ?_ ?_);exact an3)
   refine wX ?_
   refine zH ?_
   obtain ⟨w12,hw13,H⟩:=bsj H
   have lhw13:w12.length=1:=by rw [← hw13];exact cl
   obtain ⟨w14,hw15,H⟩:=bsj H
   have lhw15:w14.length=r9.List.length+1:=by rw [← hw15];exact (ins_len f11 cl)
   refine fY (t2:=(.top::.top::.ptr 0 0 0 0::.top::.ptr 1 0 0 0::tp 43 [])) (h2:=[.lit 31 [.int .i64 r9.Limit,.int .i64 r9.Stay,.sl 5 3 0 w14.length false,.sl 3 43 0 r9.Group.length false],.lit 31 [.int .i64 0,.int .i64 0,.ro 0 0 true (fun _ _=>.top),.ro 0 0 true (fun _ _=>.top)],.dead,.row 82 43 r9.Group.length (enR zD r9.Group),.row 72 3 w12.length (enR zF w12),.row 72 3 w14.length (enR zF w14)]) ?_ ?_
   ·refine zI ⟨[some 0,some 1,some 2,some 3,some 4,some 5],?_,?_,by rfl,by rfl⟩
    ·simp [CvL,Cv,yB,tp]
    ·exact ⟨(by simp [CvB,CvL,Cv,wB,geth,yB,lhw15]),(by simp [CvB,CvL,Cv,wB,geth]),zB,zK yP rfl (fun _ _ _ _=>rfl),zK wU lhw13 (hw13 ▸ (yY (f:=zF) ([(TSleeper.mk p1 false ([]:List TStored))]) (fun _ _=>rfl) rfl)),zK wU lhw15 (hw15 ▸ (ins_row f11 cl (fun _ _ _ _=>rfl) (yY (f:=zF) ([(TSleeper.mk p1 false ([]:List TStored))]) (fun _ _=>rfl) rfl))),trivial⟩
   simp only [tp]
   refine rg zA ?_
   simp only [go_sem,Nat.reduceLT,Nat.reduceAdd]
   repeat ((with_reducible refine aI ?_ ?_);exact an4)
   refine rg zA ?_
   simp only [go_sem,Nat.reduceLT,Nat.reduceAdd]
   obtain rfl:=Option.some.inj H
   refine ⟨[5,3,0,1],?_,?_,[],?_,?_,rfl⟩
   ·simp only [go_sem,Nat.reduceBEq]
    try exact at0
   ·simp only [go_sem,Nat.reduceBEq]
    try exact at0
   ·simp only [go_sem,Nat.reduceBEq]
    exact xF (zC (xO (zC zE (zC zE (zC (uD (by first|rfl|simp) (fun _ _ _ _=>rfl)) (zC (uD (by first|rfl|simp) (fun _ _ _ _=>rfl)) zW))))) (zC zE zW))
   ·simp only [go_sem,CvH]
  ·cases hb
 ·unfold body7 at hb
  split at hb<;>cases hb
noncomputable def ct8t0:Ct:=tab [(19,zV vM)]
theorem ct8t0_ok:yU Try.prog ct8t0:=zP ok19 <| zX
theorem ct8t0_19 (l:List AV) (h:List ABlk):ct8t0 19 l h=zV vM l h:=rfl
noncomputable def ct8t1:Ct:=tab [(20,zV eP)]
theorem ct8t1_ok:yU Try.prog ct8t1:=zP ok20 <| zX
theorem ct8t1_20 (l:List AV) (h:List ABlk):ct8t1 20 l h=zV eP l h:=rfl
noncomputable def ct8t2:Ct:=tab [(44,wE uZ)]
theorem ct8t2_ok:yU Try.prog ct8t2:=zP ok44 <| zX
theorem ct8t2_44 (l:List AV) (h:List ABlk):ct8t2 44 l h=wE uZ l h:=rfl
noncomputable def ct8t3:Ct:=tab [(45,wE vV)]
theorem ct8t3_ok:yU Try.prog ct8t3:=zP ok45 <| zX
theorem ct8t3_45 (l:List AV) (h:List ABlk):ct8t3 45 l h=wE vV l h:=rfl
noncomputable def F8 (p0:TBuffer) (p1:Int):Option (TBuffer × Int) :=
 (F19 p0).bind fun r1=>bif (!bEq r1 0) then (some ((TBuffer.mk 0 0 [] []),r1)) else (bif ((bLt p1 1) || (bLt 255 p1)) then (some ((TBuffer.mk 0 0 [] []),2)) else ((F20 p0 p1).bind fun r5=>bif (!r5.2) then (some ((TBuffer.mk 0 0 [] []),6)) else ((F44 p0.List).bind fun r8=>need (decide (r8.length=1)) <| need (inb 0 1) <| (F45 ((gd r8 0).Held)).bind fun r13=>need (inb 0 1) <| (F45 p0.Group).bind fun r16=>bif bEq r5.1 0 then (need (inb 0 1) <| some ((TBuffer.mk p0.Limit p0.Stay [(TSleeper.mk ((gd r8 0).Aid) true r13)] r16),0)) else (none))))
noncomputable def body8:List AV->Nat->AR
 | [v0,v1],_=>.pure (aK 4 xS v0/\iK .i64 v1/\(F8 (zG (aL v0)) (iA v1)).isSome=true) (.tup [.agg [.int .i64 (((gt (F8 (zG (aL v0)) (iA v1))).1).Limit),.int .i64 (((gt (F8 (zG (aL v0)) (iA v1))).1).Stay),.ro 3 ((((gt (F8 (zG (aL v0)) (iA v1))).1).List).length) false (enR zF (((gt (F8 (zG (aL v0)) (iA v1))).1).List)),.ro 43 ((((gt (F8 (zG (aL v0)) (iA v1))).1).Group).length) false (enR zD (((gt (F8 (zG (aL v0)) (iA v1))).1).Group))],.int .i64 ((gt (F8 (zG (aL v0)) (iA v1))).2)])
 | _,_=>.fail
theorem ok8:xZ Try.prog 8 (wE body8):=by
 refine gen_fn body8 (rs:=[.cell 4 31,.tmp 5]) Try.func8 (by kernel_rfl) rfl rfl ?_
 intro l s ob v ns hb hob
 rcases hb with ⟨hb,rfl⟩|hb
 ·unfold body8 at hb
  split at hb
  ·rename_i v0 v1
   injection hb with q1 q2;subst q1 q2
   obtain ⟨hk0_0,hk1_0,hob⟩:=hob
   obtain ⟨r,H⟩:=oE.1 hob
   rw [H,yD]
   have hw0:=uO hk0_0
   have hw1:=yJ hk1_0
   generalize zG (aL v0)=p0 at H hw0
   generalize iA v1=p1 at H hw1
   refine ⟨[.agg [.int .i64 p0.Limit,.int .i64 p0.Stay,.ro 3 p0.List.length false (enR zF p0.List),.ro 43 p0.Group.length false (enR zD p0.Group)],.int .i64 p1],.tup [.agg [.int .i64 r.1.Limit,.int .i64 r.1.Stay,.ro 3 r.1.List.length false (enR zF r.1.List),.ro 43 r.1.Group.length false (enR zD r.1.Group)],.int .i64 r.2],[],(fun E vs F=>yL hw0.1 F (fun vs F=>yL hw1.1 F (fun vs F=>F))),by simp only [ren,eS],trivial,?_⟩
   rw [Try.ntmps8]
   simp only [lC,lN,Nat.reduceAdd,Nat.reduceSub,rS,rZ,aC,aN]
   unfold F8 at H
   try dsimp only at H
   refine sq zA ?_
   simp only [go_sem]
   refine zH ?_
   refine tM ?_
   refine xE zL zA 2 ?_
   simp only [zJ,tS,tZ,dS,dZ,go_sem,Nat.reduceLT,Nat.reduceAdd]
   repeat ((with_reducible refine aI ?_ ?_);exact an0)
   refine inlO (rs:=[.tmp 4,.tmp 5,.tmp 6]) Try.func23 (by kernel_rfl) rfl rfl Try.ntmps23 (caps:=[]) (tc:=[.agg [.int .i64 p0.Limit,.int .i64 p0.Stay,.ro 3 p0.List.length false (enR zF p0.List),.ro 43 p0.Group.length false (enR zD p0.Group)],.int .i64 p1]) rfl (by simp only [go_sem]) rfl ?_
   simp only [lC,lN,Nat.reduceAdd,Nat.reduceSub,rS,rZ,aC,aN]
   refine sq zA ?_
   simp only [go_sem,Nat.reduceAdd]
   refine zH ?_
   refine zH ?_
   obtain ⟨r1,e2,H⟩:=bsi H
   refine rg ct8t0_ok ?_
   simp only [go_sem,Nat.reduceLT,Nat.reduceAdd,ct8t0_19,vM,e2]
   repeat ((with_reducible refine aI ?_ ?_);exact an0)
   refine sq zA ?_
   simp only [go_sem]
   refine yE rfl trivial (fun hc=>?_) (fun hc=>?_)
   ·have hk3:(bEq r1 0)=false:=by simpa using hc
    replace H:=zO hc H
    refine sq zA ?_
    simp only [go_sem]
    refine rg zA ?_
    simp only [go_sem]
    refine xE zL zA 7 ?_
    simp only [zJ,tS,tZ,dS,dZ,go_sem,Nat.reduceLT,Nat.reduceAdd]
    repeat ((with_reducible refine aI ?_ ?_);exact an0)
    refine wX ?_
    refine zH ?_
    refine sq zA ?_
    simp only [go_sem]
    refine yE rfl trivial (fun hc=>?_) (fun hc=>?_)
    rotate_left
    ·simp [hk3] at hc
    refine sq zA ?_
    simp only [go_sem,Nat.reduceAdd]
    repeat ((with_reducible refine aI ?_ ?_);exact an4)
    refine rg zA ?_
    simp only [go_sem,Nat.reduceLT,Nat.reduceAdd]
    obtain rfl:=Option.some.inj H
    refine ⟨[0,1,2],?_,?_,[],?_,?_,rfl⟩
    ·simp only [go_sem]
     try exact at0
    ·simp only [go_sem]
     try exact at0
    ·simp only [go_sem]
     exact xF (zC (xO (zC zE (zC zE (zC (zZ (α:=TSleeper)) (zC (zZ (α:=TStored)) zW))))) (zC zE zW))
    ·simp only [go_sem,CvH]
   have hk3:(bEq r1 0)=true:=by simpa using hc
   replace H:=zN hc H
   refine rg zA ?_
   simp only [go_sem]
   refine zH ?_
   refine sq zA ?_
   simp only [go_sem]
   repeat ((with_reducible refine aI ?_ ?_);exact an4)
   refine yE rfl trivial (fun hc=>?_) (fun hc=>?_)
   ·have hk4:((bLt p1 1) || (bLt 255 p1))=true:=by simpa using hc
    replace H:=zO hc H
    refine sq zA ?_
    simp only [go_sem]
    refine rg zA ?_
    simp only [go_sem]
    refine xE zL zA 7 ?_
    simp only [zJ,tS,tZ,dS,dZ,go_sem,Nat.reduceLT,Nat.reduceAdd]
    repeat ((with_reducible refine aI ?_ ?_);exact an0)
    refine wX ?_
    refine zH ?_
    refine sq zA ?_
    simp only [go_sem,(by decide:bEq (2) (0)=false)]
    refine yE rfl trivial (fun hc=>?_) (fun hc=>?_)
    rotate_left
    ·cases hc
    refine sq zA ?_
    simp only [go_sem,Nat.reduceAdd]
    repeat ((with_reducible refine aI ?_ ?_);exact an4)
    refine rg zA ?_
    simp only [go_sem,Nat.reduceLT,Nat.reduceAdd]
    obtain rfl:=Option.some.inj H
    refine ⟨[0,1,2],?_,?_,[],?_,?_,rfl⟩
    ·simp only [go_sem]
     try exact at0
    ·simp only [go_sem]
     try exact at0
    ·simp only [go_sem]
     exact xF (zC (xO (zC zE (zC zE (zC (zZ (α:=TSleeper)) (zC (zZ (α:=TStored)) zW))))) (zC zE zW))
    ·simp only [go_sem,CvH]
   have hk4:((bLt p1 1) || (bLt 255 p1))=false:=by simpa using hc
   replace H:=zN hc H
   refine rg zA ?_
   simp only [go_sem]
   refine zH ?_
   obtain ⟨r5,e6,H⟩:=bsi H
   refine rg ct8t1_ok ?_
   simp only [go_sem,Nat.reduceLT,Nat.reduceAdd,ct8t1_20,eP,e6]
   repeat ((with_reducible refine aI ?_ ?_);exact an0)
   refine zH ?_
   refine sq zA ?_
   simp only [go_sem]
   refine yE rfl trivial (fun hc=>?_) (fun hc=>?_)
   ·have hk7:(r5.2)=false:=by simpa using hc
    replace H:=zO hc H
    refine sq zA ?_
    simp only [go_sem]
    refine rg zA ?_
    simp only [go_sem]
    refine xE zL zA 7 ?_
    simp only [zJ,tS,tZ,dS,dZ,go_sem,Nat.reduceLT,Nat.reduceAdd]
    repeat ((with_reducible refine aI ?_ ?_);exact an0)
    refine wX ?_
    refine zH ?_
    refine sq zA ?_
    simp only [go_sem,(by decide:bEq (6) (0)=false)]
    refine yE rfl trivial (fun hc=>?_) (fun hc=>?_)
    rotate_left
    ·cases hc
    refine sq zA ?_
    simp only [go_sem,Nat.reduceAdd]
    repeat ((with_reducible refine aI ?_ ?_);exact an4)
    refine rg zA ?_
    simp only [go_sem,Nat.reduceLT,Nat.reduceAdd]
    obtain rfl:=Option.some.inj H
    refine ⟨[0,1,2],?_,?_,[],?_,?_,rfl⟩
    ·simp only [go_sem]
     try exact at0
    ·simp only [go_sem]
     try exact at0
    ·simp only [go_sem]
     exact xF (zC (xO (zC zE (zC zE (zC (zZ (α:=TSleeper)) (zC (zZ (α:=TStored)) zW))))) (zC zE zW))
    ·simp only [go_sem,CvH]
   have hk7:(r5.2)=true:=by simpa using hc
   replace H:=zN hc H
   refine rg zA ?_
   simp only [go_sem]
   refine zH ?_
   refine tM ?_
   refine xE zL zA 1 ?_
   simp only [zJ,tS,tZ,dS,dZ,go_sem,Nat.reduceLT,Nat.reduceAdd]
   repeat ((with_reducible refine aI ?_ ?_);exact an0)
   refine inlO (rs:=[.cell 2 31]) Try.func21 (by kernel_rfl) rfl rfl Try.ntmps21 (caps:=[]) (tc:=[.agg [.int .i64 p0.Limit,.int .i64 p0.Stay,.ro 3 p0.List.length false (enR zF p0.List),.ro 43 p0.Group.length false (enR zD p0.Group)]]) rfl (by simp only [go_sem]) rfl ?_
   simp only [lC,lN,Nat.reduceAdd,Nat.reduceSub,rS,rZ,aC,aN]
   refine sq zA ?_
   simp only [go_sem,Nat.reduceAdd]
   refine zH ?_
   obtain ⟨r8,e9,H⟩:=bsi H
   refine rg ct8t2_ok ?_
   simp only [go_sem,Nat.reduceLeDiff,Nat.reduceLT,Nat.reduceAdd,ct8t2_44,uZ,e9]
   repeat ((with_reducible refine aI ?_ ?_);exact an0)
   refine zH ?_
   refine zH ?_
   obtain ⟨f10,H⟩:=yH.1 H
   replace f10:=decide_eq_true_iff.1 f10
   refine toLitM 5 (z:=3) (n:=1) [.int .i64 ((gd r8 0).Aid),.bool ((gd r8 0).Asleep),.ro 43 (((gd r8 0).Held).length) false (enR zD ((gd r8 0).Held))] rfl f10 rfl (by decide) (fun x y hx hy=>(flat_get (f:=fun x=>zF (gd r8 x)) (n:=1) (fun _=>rfl) x y (by omega) hy).symm) ?_
   simp only [go_sem]
   rw [f10]
   refine rg zA ?_
   simp only [go_sem,Nat.reduceLeDiff,Nat.reduceLT,Nat.reduceAdd]
   repeat ((with_reducible refine aI ?_ ?_);exact an0)
   refine xI ?_
   refine loop_roundsM 2 ?_
   refine rndM ?_
   refine sq zA ?_
   simp only [go_sem,(by decide:bLt (0) (1)=true)]
   refine zH ?_
   refine yE rfl trivial (fun hc=>?_) (fun hc=>?_)
   rotate_left
   ·cases hc
   refine rg zA ?_
   simp only [go_sem]
   refine zH ?_
   refine xI ?_
   refine sq zA ?_
   simp only [go_sem]
   obtain ⟨f12,H⟩:=nI H
   obtain ⟨r13,e14,H⟩:=bsi H
   obtain ⟨f15,H⟩:=nI H
   refine yZ zL ct8t3_ok 1 (by kernel_rfl) (by kernel_rfl) ?_
   intro an han
   simp only [uC,wM,eG,xrD,xoD,tN,vS,List.append_nil,xK,refs,uI,mask,wT,place,xU,wV,wA,hit,inL,xM,ren,rnN,nrH,nrB,nrL,nr,rZ,rS,Nat.sub_self,Nat.add_zero,Nat.zero_add,Nat.reduceSub,Nat.lt_add_one,go_sem,Nat.reduceLeDiff,Nat.reduceLT,Nat.reduceAdd,Nat.reduceSub,Nat.reduceBEq,ct8t3_45,vV,f12,e14]
   repeat ((with_reducible refine aI ?_ ?_);exact an6)
   refine rg zA ?_
   simp only [go_sem,(by decide:wr IntKind.i64 ((0:Int)+1)=1)]
   refine rndM ?_
   refine sq zA ?_
   simp only [go_sem,(by decide:bLt (1) (1)=false)]
   refine zH ?_
   refine yE rfl trivial (fun hc=>?_) (fun hc=>?_)
   ·cases hc
   refine rg zA ?_
   simp only [go_sem]
   refine zH ?_
   obtain ⟨r16,e17,H⟩:=bsi H
   refine rg ct8t3_ok ?_
   simp only [go_sem,Nat.reduceLT,Nat.reduceAdd,ct8t3_45,vV,e17]
   repeat ((with_reducible refine aI ?_ ?_);exact an0)
   refine sq zA ?_
   simp only [go_sem,Nat.reduceLT,Nat.reduceAdd]
   repeat ((with_reducible refine aI ?_ ?_);exact an4)
   refine rg zA ?_
   simp only [go_sem,Nat.reduceLT,Nat.reduceAdd]
   refine xE zL zA 1 ?_
   simp only [zJ,tS,tZ,dS,dZ,go_sem,Nat.reduceAdd]
   repeat ((with_reducible refine aI ?_ ?_);exact an0)
   refine wX ?_
   refine zH ?_
   refine wY (c:=(bEq r5.1 0)) (fun hv18=>?_) (fun hv18=>?_)
   ·replace H:=zO hv18 H
    have hv18_:r5.1=0:=of_decide_eq_true hv18
    rw [hv18_]
    obtain ⟨f19,H⟩:=nI H
    refine vY zL zA (by kernel_rfl) (by kernel_rfl) ?_
    simp only [go_sem,Nat.reduceLeDiff,Nat.reduceLT,Nat.reduceAdd,f19]
    repeat ((with_reducible refine aI ?_ ?_);exact an4)
    refine rg zA ?_
    simp only [go_sem]
    refine xE zL zA 7 ?_
    simp only [zJ,tS,tZ,dS,dZ,go_sem,Nat.reduceLT,Nat.reduceAdd]
    repeat ((with_reducible refine aI ?_ ?_);exact an0)
    refine wX ?_
    refine zH ?_
    refine sq zA ?_
    simp only [go_sem,(by decide:bEq (0) (0)=true)]
    refine yE rfl trivial (fun hc=>?_) (fun hc=>?_)
    ·cases hc
    refine rg zA ?_
    simp only [go_sem]
    refine sq zA ?_
    simp only [go_sem,Nat.reduceLeDiff,Nat.reduceAdd]
    repeat ((with_reducible refine aI ?_ ?_);exact an4)
    refine sq zA ?_
    simp only [go_sem,Nat.reduceLT,Nat.reduceAdd]
    repeat ((with_reducible refine aI ?_ ?_);exact an4)
    refine eM [6] ?_ ?_
    ·simp only [go_sem,Nat.reduceBEq]
     try exact at0
    simp only [go_sem,Nat.reduceBEq,Nat.reduceAdd]
    refine ofLitM 5 3 1 1 (litC 3 [.int .i64 ((gd r8 0).Aid),.bool true,.ro 43 r13.length false (enR zD r13)]) [.int .i64 ((gd r8 0).Aid),.bool true,.ro 43 r13.length false (enR zD r13)] rfl rfl rfl (fun x y hx hy=>rfl) ?_
    simp only [go_sem]
    refine rg zA ?_
    simp only [go_sem,Nat.reduceLT,Nat.reduceAdd]
    obtain rfl:=Option.some.inj H
    refine ⟨[5,7,0,1,2,3,4],?_,?_,[],?_,?_,rfl⟩
    ·simp only [go_sem,Nat.reduceBEq]
     try exact at0
    ·simp only [go_sem,Nat.reduceBEq]
     try exact at0
    ·simp only [go_sem,Nat.reduceBEq]
     exact xF (zC (xO (zC zE (zC zE (zC (uD (by first|rfl|simp) (yY (f:=zF) [(TSleeper.mk ((gd r8 0).Aid) true r13)] (fun _ _=>rfl) rfl)) (zC (uD (by first|rfl|simp) (fun _ _ _ _=>rfl)) zW))))) (zC zE zW))
    ·simp only [go_sem,CvH]
   replace H:=zN hv18 H
   cases H
  ·cases hb
 ·unfold body8 at hb
  split at hb<;>cases hb
noncomputable def F10:Option (A6u8) :=
 some (A6u8.mk 2 0 0 0 0 2)
noncomputable def body10:List AV->AR
 | []=>.pure ((F10).isSome=true) (.agg [.int .u8 ((gt F10).x0),.int .u8 ((gt F10).x1),.int .u8 ((gt F10).x2),.int .u8 ((gt F10).x3),.int .u8 ((gt F10).x4),.int .u8 ((gt F10).x5)])
 | _=>.fail
theorem ok10:xZ Try.prog 10 (zV body10):=by
 refine xC body10 (rs:=[.cell 0 46]) Try.func10 (by kernel_rfl) rfl rfl ?_
 intro l ob v hb hob
 unfold body10 at hb
 split at hb
 ·injection hb with q1 q2;subst q1 q2
  obtain ⟨r,H⟩:=oE.1 hob
  rw [H,yD]
  refine ⟨[],_,(fun E vs F=>F),rfl,rfl,?_⟩
  rw [Try.ntmps10]
  simp only [lN,Nat.reduceSub,rS,rZ,aN]
  unfold F10 at H
  try dsimp only at H
  refine sq zA ?_
  simp only [go_sem]
  refine sq zA ?_
  simp only [go_sem,Nat.reduceLeDiff,Nat.reduceAdd]
  repeat ((with_reducible refine aI ?_ ?_);exact an4)
  refine rg zA ?_
  simp only [go_sem,Nat.reduceLT,Nat.reduceAdd]
  obtain rfl:=Option.some.inj H
  first|rfl|simp only [Bool.and_false,Bool.false_and,Bool.and_true,Bool.true_and]
 ·cases hb
noncomputable def F11:Option (A6u8) :=
 some (A6u8.mk 2 0 0 0 0 1)
noncomputable def body11:List AV->AR
 | []=>.pure ((F11).isSome=true) (.agg [.int .u8 ((gt F11).x0),.int .u8 ((gt F11).x1),.int .u8 ((gt F11).x2),.int .u8 ((gt F11).x3),.int .u8 ((gt F11).x4),.int .u8 ((gt F11).x5)])
 | _=>.fail
theorem ok11:xZ Try.prog 11 (zV body11):=by
 refine xC body11 (rs:=[.cell 0 46]) Try.func11 (by kernel_rfl) rfl rfl ?_
 intro l ob v hb hob
 unfold body11 at hb
 split at hb
 ·injection hb with q1 q2;subst q1 q2
  obtain ⟨r,H⟩:=oE.1 hob
  rw [H,yD]
  refine ⟨[],_,(fun E vs F=>F),rfl,rfl,?_⟩
  rw [Try.ntmps11]
  simp only [lN,Nat.reduceSub,rS,rZ,aN]
  unfold F11 at H
  try dsimp only at H
  refine sq zA ?_
  simp only [go_sem]
  refine sq zA ?_
  simp only [go_sem,Nat.reduceLeDiff,Nat.reduceAdd]
  repeat ((with_reducible refine aI ?_ ?_);exact an4)
  refine rg zA ?_
  simp only [go_sem,Nat.reduceLT,Nat.reduceAdd]
  obtain rfl:=Option.some.inj H
  first|rfl|simp only [Bool.and_false,Bool.false_and,Bool.and_true,Bool.true_and]
 ·cases hb
noncomputable def F25 (p0:List TStored) (p1:Int):Option (Bool) :=
 need (bif (bLt 0 (p0.length:Nat)) then inb (wr .i64 ((p0.length:Nat) - 1)) p0.length else true) <| some ((bLt 0 (p0.length:Nat)) && (bLt p1 ((gd p0 ((wr .i64 ((p0.length:Nat) - 1)).toNat)).At)))
noncomputable def body25:List AV->AR
 | [v0,v1]=>.pure (lK xD 43 v0/\iK .i64 v1/\(F25 (lA yA v0) (iA v1)).isSome=true) (.bool (gt (F25 (lA yA v0) (iA v1))))
 | _=>.fail
theorem ok25:xZ Try.prog 25 (zV body25):=by
 refine xC body25 (rs:=[.tmp 4]) Try.func25 (by kernel_rfl) rfl rfl ?_
 intro l ob v hb hob
 unfold body25 at hb
 split at hb
 ·rename_i v0 v1
  injection hb with q1 q2;subst q1 q2
  obtain ⟨hk0_0,hk1_0,hob⟩:=hob
  obtain ⟨r,H⟩:=oE.1 hob
  rw [H,yD]
  have hw0:=uP (fun r h=>eA h) hk0_0
  have hw1:=yJ hk1_0
  generalize lA yA v0=p0 at H hw0
  generalize iA v1=p1 at H hw1
  refine ⟨[.ro 43 p0.length false (enR zD p0),.int .i64 p1],_,(fun E vs F=>yL hw0.1 F (fun vs F=>yL hw1.1 F (fun vs F=>F))),rfl,rfl,?_⟩
  rw [Try.ntmps25]
  simp only [lC,lN,Nat.reduceAdd,Nat.reduceSub,rS,rZ,aC,aN]
  unfold F25 at H
  try dsimp only at H
  refine sq zA ?_
  simp only [go_sem]
  refine zH ?_
  obtain ⟨f1,H⟩:=yH.1 H
  replace f1:=bZ.1 f1
  replace f1:=fun g=>uG.1 (f1 g)
  refine rg zA ?_
  simp only [go_sem,Nat.reduceLeDiff,Nat.reduceLT,Nat.reduceAdd]
  repeat ((with_reducible refine And.intro ?_ ?_);focus (first|(with_reducible trivial)|omega|exact f1|(intro g;have q:=f1 (by first|exact g|(rw [g];rfl)|simpa using g);first|exact q|exact ⟨q.1,q.2.1⟩|exact q.2.2|omega|exact ⟨g,q⟩|exact ⟨trivial,q⟩|exact ⟨g,q.1,q.2.1⟩|exact ⟨g,q.2.2⟩)|(intro g;(try have q0:=f1 (by first|exact g|(rw [g];rfl)|simpa using g));and_intros<;>first|(with_reducible trivial)|assumption|exact nfc|(intro g2;rw [g,g2];rfl)|(intro g2;assumption)|(simp only [g,Bool.true_and,Bool.and_true,Bool.not_false,Bool.not_true];assumption)|grind)|(and_intros<;>first|(with_reducible trivial)|omega|assumption|exact nfc|first|exact rfl|exact trivial|exact uV|exact .inr rfl|exact .inl rfl|exact fun x hx=>absurd hx (by omega))|grind))
  refine rg zA ?_
  simp only [go_sem]
  obtain rfl:=Option.some.inj H
  first|rfl|simp only [Bool.and_false,Bool.false_and,Bool.and_true,Bool.true_and]
 ·cases hb
noncomputable def F58 (p0:Int):Option (Bool) :=
 some (!bEq p0 p0)
noncomputable def body58:List AV->AR
 | [v0]=>.pure (iK .u8 v0/\(F58 (iA v0)).isSome=true) (.bool (gt (F58 (iA v0))))
 | _=>.fail
theorem ok58:xZ Try.prog 58 (zV body58):=by
 refine xC body58 (rs:=[.tmp 2]) Try.func58 (by kernel_rfl) rfl rfl ?_
 intro l ob v hb hob
 unfold body58 at hb
 split at hb
 ·rename_i v0
  injection hb with q1 q2;subst q1 q2
  obtain ⟨hk0_0,hob⟩:=hob
  obtain ⟨r,H⟩:=oE.1 hob
  rw [H,yD]
  have hw0:=yJ hk0_0
  generalize iA v0=p0 at H hw0
  refine ⟨[.int .u8 p0],_,(fun E vs F=>yL hw0.1 F (fun vs F=>F)),rfl,rfl,?_⟩
  rw [Try.ntmps58]
  simp only [lC,lN,Nat.reduceAdd,Nat.reduceSub,rS,rZ,aC,aN]
  unfold F58 at H
  try dsimp only at H
  refine sq zA ?_
  simp only [go_sem]
  refine sq zA ?_
  simp only [go_sem]
  refine rg zA ?_
  simp only [go_sem]
  obtain rfl:=Option.some.inj H
  first|rfl|simp only [Bool.and_false,Bool.false_and,Bool.and_true,Bool.true_and]
 ·cases hb
noncomputable def ct34t0:Ct:=tab [(58,zV body58)]
theorem ct34t0_ok:yU Try.prog ct34t0:=zP ok58 <| zX
theorem ct34t0_58 (l:List AV) (h:List ABlk):ct34t0 58 l h=zV body58 l h:=rfl
noncomputable def F34 (p0:Int) (p1:Int):Option (Int) :=
 (F58 p0).bind fun r1=>(F58 p1).bind fun r3=>bif r1 then (bif r3 then (some 0) else (some (-1))) else (bif r3 then (some 1) else (bif (bLt p0 p1) then (some (-1)) else (bif (bLt p1 p0) then (some 1) else (some 0))))
noncomputable def body34:List AV->AR
 | [v0,v1]=>.pure (iK .u8 v0/\iK .u8 v1/\(F34 (iA v0) (iA v1)).isSome=true) (.int .i64 (gt (F34 (iA v0) (iA v1))))
 | _=>.fail
theorem ok34:xZ Try.prog 34 (zV body34):=by
 refine xC body34 (rs:=[.tmp 4]) Try.func34 (by kernel_rfl) rfl rfl ?_
 intro l ob v hb hob
 unfold body34 at hb
 split at hb
 ·rename_i v0 v1
  injection hb with q1 q2;subst q1 q2
  obtain ⟨hk0_0,hk1_0,hob⟩:=hob
  obtain ⟨r,H⟩:=oE.1 hob
  rw [H,yD]
  have hw0:=yJ hk0_0
  have hw1:=yJ hk1_0
  generalize iA v0=p0 at H hw0
  generalize iA v1=p1 at H hw1
  refine ⟨[.int .u8 p0,.int .u8 p1],_,(fun E vs F=>yL hw0.1 F (fun vs F=>yL hw1.1 F (fun vs F=>F))),rfl,rfl,?_⟩
  rw [Try.ntmps34]
  simp only [lC,lN,Nat.reduceAdd,Nat.reduceSub,rS,rZ,aC,aN]
  unfold F34 at H
  try dsimp only at H
  refine sq zA ?_
  simp only [go_sem]
  refine zH ?_
  obtain ⟨r1,e2,H⟩:=bsi H
  refine rg ct34t0_ok ?_
  simp only [go_sem,ct34t0_58,body58,e2]
  repeat ((with_reducible refine aI ?_ ?_);exact an0)
  refine zH ?_
  obtain ⟨r3,e4,H⟩:=bsi H
  refine rg ct34t0_ok ?_
  simp only [go_sem,ct34t0_58,body58,e4]
  repeat ((with_reducible refine aI ?_ ?_);exact an0)
  refine zH ?_
  refine sq zA ?_
  simp only [go_sem]
  refine yE rfl trivial (fun hc=>?_) (fun hc=>?_)
  ·have hk5:(r1)=true:=by simpa using hc
   replace H:=zO hc H
   refine zH ?_
   refine sq zA ?_
   simp only [go_sem]
   refine yE rfl trivial (fun hc=>?_) (fun hc=>?_)
   ·have hk6:(r3)=true:=by simpa using hc
    replace H:=zO hc H
    refine sq zA ?_
    simp only [go_sem]
    refine rg zA ?_
    simp only [go_sem]
    obtain rfl:=Option.some.inj H
    first|rfl|simp only [Bool.and_false,Bool.false_and,Bool.and_true,Bool.true_and]
   have hk6:(r3)=false:=by simpa using hc
   replace H:=zN hc H
   refine rg zA ?_
   simp only [go_sem]
   refine sq zA ?_
   simp only [go_sem]
   refine rg zA ?_
   simp only [go_sem]
   obtain rfl:=Option.some.inj H
   first|rfl|simp only [Bool.and_false,Bool.false_and,Bool.and_true,Bool.true_and]
  have hk5:(r1)=false:=by simpa using hc
  replace H:=zN hc H
  refine rg zA ?_
  simp only [go_sem]
  refine zH ?_
  refine sq zA ?_
  simp only [go_sem]
  refine yE rfl trivial (fun hc=>?_) (fun hc=>?_)
  ·have hk7:(r3)=true:=by simpa using hc
   replace H:=zO hc H
   refine sq zA ?_
   simp only [go_sem]
   refine rg zA ?_
   simp only [go_sem]
   obtain rfl:=Option.some.inj H
   first|rfl|simp only [Bool.and_false,Bool.false_and,Bool.and_true,Bool.true_and]
  have hk7:(r3)=false:=by simpa using hc
  replace H:=zN hc H
  refine rg zA ?_
  simp only [go_sem]
  refine zH ?_
  refine sq zA ?_
  simp only [go_sem]
  refine yE rfl trivial (fun hc=>?_) (fun hc=>?_)
  ·have hk8:(bLt p0 p1)=true:=by simpa using hc
   replace H:=zO hc H
   refine sq zA ?_
   simp only [go_sem]
   refine rg zA ?_
   simp only [go_sem]
   obtain rfl:=Option.some.inj H
   first|rfl|simp only [Bool.and_false,Bool.false_and,Bool.and_true,Bool.true_and]
  have hk8:(bLt p0 p1)=false:=by simpa using hc
  replace H:=zN hc H
  refine rg zA ?_
  simp only [go_sem]
  refine zH ?_
  refine sq zA ?_
  simp only [go_sem]
  refine yE rfl trivial (fun hc=>?_) (fun hc=>?_)
  ·have hk9:(bLt p1 p0)=true:=by simpa using hc
   replace H:=zO hc H
   refine sq zA ?_
   simp only [go_sem]
   refine rg zA ?_
   simp only [go_sem]
   obtain rfl:=Option.some.inj H
   first|rfl|simp only [Bool.and_false,Bool.false_and,Bool.and_true,Bool.true_and]
  have hk9:(bLt p1 p0)=false:=by simpa using hc
  replace H:=zN hc H
  refine rg zA ?_
  simp only [go_sem]
  refine sq zA ?_
  simp only [go_sem]
  refine rg zA ?_
  simp only [go_sem]
  obtain rfl:=Option.some.inj H
  first|rfl|simp only [Bool.and_false,Bool.false_and,Bool.and_true,Bool.true_and]
 ·cases hb
noncomputable def ct49t0:Ct:=tab [(34,zV body34)]
theorem ct49t0_ok:yU Try.prog ct49t0:=zP ok34 <| zX
theorem ct49t0_34 (l:List AV) (h:List ABlk):ct49t0 34 l h=zV body34 l h:=rfl
noncomputable def F49 (p0:TStored) (p1:TStored):Option (Int) :=
 (F34 p0.Cat p1.Cat).bind fun r1=>some r1
noncomputable def body49:List AV->AR
 | [v0,v1]=>.pure (aK 43 xD v0/\aK 43 xD v1/\(F49 (yA (aL v0)) (yA (aL v1))).isSome=true) (.int .i64 (gt (F49 (yA (aL v0)) (yA (aL v1)))))
 | _=>.fail
theorem ok49:xZ Try.prog 49 (zV body49):=by
 refine xC body49 (rs:=[.tmp 4]) Try.func49 (by kernel_rfl) rfl rfl ?_
 intro l ob v hb hob
 unfold body49 at hb
 split at hb
 ·rename_i v0 v1
  injection hb with q1 q2;subst q1 q2
  obtain ⟨hk0_0,hk1_0,hob⟩:=hob
  obtain ⟨r,H⟩:=oE.1 hob
  rw [H,yD]
  have hw0:=wA_TStored hk0_0
  have hw1:=wA_TStored hk1_0
  generalize yA (aL v0)=p0 at H hw0
  generalize yA (aL v1)=p1 at H hw1
  refine ⟨[.agg (.int .u8 p0.Cat::.int .i64 p0.At::.int .u8 p0.Frame.Head.Kind::.int .u8 p0.Frame.Head.Sub::.bool p0.Frame.Head.ToDs::.bool p0.Frame.Head.FromDs::.bool p0.Frame.Head.More::.bool p0.Frame.Head.Retry::.bool p0.Frame.Head.Sleep::.bool p0.Frame.Head.MoreData::.bool p0.Frame.Head.Protected::.int .i64 p0.Frame.Head.Duration::.int .u8 p0.Frame.Head.A1.x0::.int .u8 p0.Frame.Head.A1.x1::.int .u8 p0.Frame.Head.A1.x2::.int .u8 p0.Frame.Head.A1.x3::.int .u8 p0.Frame.Head.A1.x4::.int .u8 p0.Frame.Head.A1.x5::.int .u8 p0.Frame.Head.A2.x0::.int .u8 p0.Frame.Head.A2.x1::.int .u8 p0.Frame.Head.A2.x2::.int .u8 p0.Frame.Head.A2.x3::.int .u8 p0.Frame.Head.A2.x4::.int .u8 p0.Frame.Head.A2.x5::.int .u8 p0.Frame.Head.A3.x0::.int .u8 p0.Frame.Head.A3.x1::.int .u8 p0.Frame.Head.A3.x2::.int .u8 p0.Frame.Head.A3.x3::.int .u8 p0.Frame.Head.A3.x4::.int .u8 p0.Frame.Head.A3.x5::.int .u8 p0.Frame.Head.A4.x0::.int .u8 p0.Frame.Head.A4.x1::.int .u8 p0.Frame.Head.A4.x2::.int .u8 p0.Frame.Head.A4.x3::.int .u8 p0.Frame.Head.A4.x4::.int .u8 p0.Frame.Head.A4.x5::.int .i64 p0.Frame.Head.Seq::.int .i64 p0.Frame.Head.Frag::.int .i64 p0.Frame.Head.Tid::.int .u8 p0.Frame.Head.Ack::.bool p0.Frame.Head.Amsdu::.bool p0.Frame.Head.Eosp::.ro 1 p0.Frame.Body.length false (enR yG p0.Frame.Body)::[]),.agg (.int .u8 p1.Cat::.int .i64 p1.At::.int .u8 p1.Frame.Head.Kind::.int .u8 p1.Frame.Head.Sub::.bool p1.Frame.Head.ToDs::.bool p1.Frame.Head.FromDs::.bool p1.Frame.Head.More::.bool p1.Frame.Head.Retry::.bool p1.Frame.Head.Sleep::.bool p1.Frame.Head.MoreData::.bool p1.Frame.Head.Protected::.int .i64 p1.Frame.Head.Duration::.int .u8 p1.Frame.Head.A1.x0::.int .u8 p1.Frame.Head.A1.x1::.int .u8 p1.Frame.Head.A1.x2::.int .u8 p1.Frame.Head.A1.x3::.int .u8 p1.Frame.Head.A1.x4::.int .u8 p1.Frame.Head.A1.x5::.int .u8 p1.Frame.Head.A2.x0::.int .u8 p1.Frame.Head.A2.x1::.int .u8 p1.Frame.Head.A2.x2::.int .u8 p1.Frame.Head.A2.x3::.int .u8 p1.Frame.Head.A2.x4::.int .u8 p1.Frame.Head.A2.x5::.int .u8 p1.Frame.Head.A3.x0::.int .u8 p1.Frame.Head.A3.x1::.int .u8 p1.Frame.Head.A3.x2::.int .u8 p1.Frame.Head.A3.x3::.int .u8 p1.Frame.Head.A3.x4::.int .u8 p1.Frame.Head.A3.x5::.int .u8 p1.Frame.Head.A4.x0::.int .u8 p1.Frame.Head.A4.x1::.int .u8 p1.Frame.Head.A4.x2::.int .u8 p1.Frame.Head.A4.x3::.int .u8 p1.Frame.Head.A4.x4::.int .u8 p1.Frame.Head.A4.x5::.int .i64 p1.Frame.Head.Seq::.int .i64 p1.Frame.Head.Frag::.int .i64 p1.Frame.Head.Tid::.int .u8 p1.Frame.Head.Ack::.bool p1.Frame.Head.Amsdu::.bool p1.Frame.Head.Eosp::.ro 1 p1.Frame.Body.length false (enR yG p1.Frame.Body)::[])],_,(fun E vs F=>yL hw0.1 F (fun vs F=>yL hw1.1 F (fun vs F=>F))),rfl,rfl,?_⟩
  rw [Try.ntmps49]
  simp only [lC,lN,Nat.reduceAdd,Nat.reduceSub,rS,rZ,aC,aN]
  unfold F49 at H
  try dsimp only at H
  refine sq zA ?_
  simp only [go_sem]
  refine zH ?_
  obtain ⟨r1,e2,H⟩:=bsi H
  refine rg ct49t0_ok ?_
  simp only [go_sem,Nat.reduceLeDiff,Nat.reduceLT,Nat.reduceAdd,ct49t0_34,body34,e2]
  repeat ((with_reducible refine aI ?_ ?_);exact an0)
  refine rg zA ?_
  simp only [go_sem]
  obtain rfl:=Option.some.inj H
  first|rfl|simp only [Bool.and_false,Bool.false_and,Bool.and_true,Bool.true_and]
 ·cases hb
noncomputable def F50_0 (p0:TStored) (p1:Int):Option (Bool) :=
 some (bEq p0.Cat p1)
noncomputable def body50_0:List AV->AR
 | [v0,v1]=>.pure (aK 43 xD v0/\rK 1 k_u8 v1/\(F50_0 (yA (aL v0)) (vJ (rG v1))).isSome=true) (.bool (gt (F50_0 (yA (aL v0)) (vJ (rG v1)))))
 | _=>.fail
theorem ok50_0:xZ Try.prog 50 (zV body50_0):=by
 refine xC body50_0 (rs:=[.tmp 3]) Try.func50 (by kernel_rfl) rfl rfl ?_
 intro l ob v hb hob
 unfold body50_0 at hb
 split at hb
 ·rename_i v0 v1
  injection hb with q1 q2;subst q1 q2
  obtain ⟨hk0_0,hk1_0,hob⟩:=hob
  obtain ⟨r,H⟩:=oE.1 hob
  rw [H,yD]
  have hw0:=wA_TStored hk0_0
  have hw1:=rK_wk (f:=yG) (g:=vJ) (fun r h=>w_u8 h) hk1_0
  generalize yA (aL v0)=p0 at H hw0
  generalize vJ (rG v1)=p1 at H hw1
  refine ⟨[.agg (.int .u8 p0.Cat::.int .i64 p0.At::.int .u8 p0.Frame.Head.Kind::.int .u8 p0.Frame.Head.Sub::.bool p0.Frame.Head.ToDs::.bool p0.Frame.Head.FromDs::.bool p0.Frame.Head.More::.bool p0.Frame.Head.Retry::.bool p0.Frame.Head.Sleep::.bool p0.Frame.Head.MoreData::.bool p0.Frame.Head.Protected::.int .i64 p0.Frame.Head.Duration::.int .u8 p0.Frame.Head.A1.x0::.int .u8 p0.Frame.Head.A1.x1::.int .u8 p0.Frame.Head.A1.x2::.int .u8 p0.Frame.Head.A1.x3::.int .u8 p0.Frame.Head.A1.x4::.int .u8 p0.Frame.Head.A1.x5::.int .u8 p0.Frame.Head.A2.x0::.int .u8 p0.Frame.Head.A2.x1::.int .u8 p0.Frame.Head.A2.x2::.int .u8 p0.Frame.Head.A2.x3::.int .u8 p0.Frame.Head.A2.x4::.int .u8 p0.Frame.Head.A2.x5::.int .u8 p0.Frame.Head.A3.x0::.int .u8 p0.Frame.Head.A3.x1::.int .u8 p0.Frame.Head.A3.x2::.int .u8 p0.Frame.Head.A3.x3::.int .u8 p0.Frame.Head.A3.x4::.int .u8 p0.Frame.Head.A3.x5::.int .u8 p0.Frame.Head.A4.x0::.int .u8 p0.Frame.Head.A4.x1::.int .u8 p0.Frame.Head.A4.x2::.int .u8 p0.Frame.Head.A4.x3::.int .u8 p0.Frame.Head.A4.x4::.int .u8 p0.Frame.Head.A4.x5::.int .i64 p0.Frame.Head.Seq::.int .i64 p0.Frame.Head.Frag::.int .i64 p0.Frame.Head.Tid::.int .u8 p0.Frame.Head.Ack::.bool p0.Frame.Head.Amsdu::.bool p0.Frame.Head.Eosp::.ro 1 p0.Frame.Body.length false (enR yG p0.Frame.Body)::[]),.rptr 1 1 0 0 (enR yG [p1])],_,(fun E vs F=>yL hw0.1 F (fun vs F=>yL hw1.1 F (fun vs F=>F))),rfl,rfl,?_⟩
  rw [Try.ntmps50]
  simp only [lC,lN,Nat.reduceAdd,Nat.reduceSub,rS,rZ,aC,aN]
  unfold F50_0 at H
  try dsimp only at H
  refine sq zA ?_
  simp only [go_sem]
  refine sq zA ?_
  simp only [go_sem,Nat.reduceLeDiff,Nat.reduceLT,Nat.reduceAdd]
  repeat ((with_reducible refine aI ?_ ?_);exact an4)
  refine rg zA ?_
  simp only [go_sem]
  obtain rfl:=Option.some.inj H
  first|rfl|simp only [Bool.and_false,Bool.false_and,Bool.and_true,Bool.true_and]
 ·cases hb
noncomputable def ct35_0t0:Ct:=tab [(50,zV body50_0)]
theorem ct35_0t0_ok:yU Try.prog ct35_0t0:=zP ok50_0 <| zX
theorem ct35_0t0_50 (l:List AV) (h:List ABlk):ct35_0t0 50 l h=zV body50_0 l h:=rfl
noncomputable def F35_0_L1 (p0:List TStored) (p1:Int) (v1_1:Int):Option (Lp (Int) ((Unit) ⊕ (Int))) :=
 bif (bLt v1_1 (p0.length:Nat)) then (need (inb v1_1 p0.length) <| (F50_0 (TStored.mk ((gd p0 v1_1.toNat).Cat) ((gd p0 v1_1.toNat).At) (eF ((gd p0 v1_1.toNat).Frame))) p1).bind fun r3=>bif r3 then (some (.done (.inr v1_1))) else (some (.next (wr .i64 (v1_1+1))))) else (some (.done (.inl ())))
noncomputable def F35_0 (p0:List TStored) (p1:Int):Option (Int) :=
 lp (yN (fun s=>F35_0_L1 p0 p1 s) 0) (fun _=>some (-1)) some
noncomputable def body35_0:List AV->AR
 | [v0,.fn 50 [v1]]=>.pure (lK xD 43 v0/\rK 1 k_u8 v1/\(F35_0 (lA yA v0) (vJ (rG v1))).isSome=true) (.int .i64 (gt (F35_0 (lA yA v0) (vJ (rG v1)))))
 | _=>.fail
theorem ok35_0:xZ Try.prog 35 (zV body35_0):=by
 refine xC body35_0 (rs:=[.tmp 4]) Try.func35 (by kernel_rfl) rfl rfl ?_
 intro l ob v hb hob
 unfold body35_0 at hb
 split at hb
 ·rename_i v0 v1
  injection hb with q1 q2;subst q1 q2
  obtain ⟨hk0_0,hk1_0,hob⟩:=hob
  obtain ⟨r,H⟩:=oE.1 hob
  rw [H,yD]
  have hw0:=uP (fun r h=>eA h) hk0_0
  have hw1:=rK_wk (f:=yG) (g:=vJ) (fun r h=>w_u8 h) hk1_0
  generalize lA yA v0=p0 at H hw0
  generalize vJ (rG v1)=p1 at H hw1
  refine ⟨[.ro 43 p0.length false (enR zD p0),.fn 50 [.rptr 1 1 0 0 (enR yG [p1])]],_,(fun E vs F=>yL hw0.1 F (fun vs F=>yL (fn_wk (LW_cons hw1.1 LW_nil)) F (fun vs F=>F))),rfl,rfl,?_⟩
  rw [Try.ntmps35]
  simp only [lC,lN,Nat.reduceAdd,Nat.reduceSub,rS,rZ,aC,aN]
  unfold F35_0 at H
  try dsimp only at H
  refine sq zA ?_
  simp only [go_sem]
  refine zH ?_
  refine sq zA ?_
  simp only [go_sem]
  repeat ((with_reducible refine aI ?_ ?_);exact an0)
  refine xI ?_
  refine xA (fun s:Int=>(.ro 43 p0.length false (enR zD p0)::.fn 50 [.rptr 1 1 0 0 (enR yG [p1])]::tp 5 (.int .i64 (p0.length:Nat)::.int .i64 s::tp 10 []))) (fun s=>[]) (fun e:Unit=>(tp 19 [])) (fun e=>[]) H ?_ (fun v1_1 o H hn1_1 hn2_1=>?_) (fun e H=>?_)
  ·refine zI ⟨[],?_,?_,by rfl,by rfl⟩
   ·simp [CvL,Cv,tp]
   ·trivial
  ·unfold F35_0_L1 at H
   try dsimp only at H ⊢
   try simp only [tp]
   refine sq zA ?_
   simp only [go_sem]
   refine zH ?_
   refine condM' rfl trivial (fun hc=>?_) (fun hc=>?_)
   ·have hk1:(bLt v1_1 (p0.length:Nat))=false:=by simpa using hc
    replace H:=zN hc H
    refine rg zA ?_
    simp only [go_sem]
    refine ⟨_,(Option.some.inj H).symm,?_⟩
    refine zI ⟨[],?_,?_,by rfl,by rfl⟩
    ·simp [CvL,Cv]
    ·trivial
   have hk1:(bLt v1_1 (p0.length:Nat))=true:=by simpa using hc
   replace H:=zO hc H
   refine rg zA ?_
   simp only [go_sem]
   refine zH ?_
   refine xI ?_
   refine sq zA ?_
   simp only [go_sem]
   refine zH ?_
   obtain ⟨f2,H⟩:=nI H
   obtain ⟨r3,e4,H⟩:=bsi H
   refine rg ct35_0t0_ok ?_
   simp only [go_sem,Nat.reduceLT,Nat.reduceAdd,ct35_0t0_50,body50_0,f2,e4]
   repeat ((with_reducible refine aI ?_ ?_);exact an0)
   refine yE rfl trivial (fun hc=>?_) (fun hc=>?_)
   ·have hk5:(r3)=true:=by simpa using hc
    replace H:=zO hc H
    refine sq zA ?_
    simp only [go_sem]
    refine rg zA ?_
    simp only [go_sem]
    have H:=hn2_1 _ (Option.some.inj H).symm
    obtain rfl:=Option.some.inj H
    first|rfl|simp only [Bool.and_false,Bool.false_and,Bool.and_true,Bool.true_and]
   have hk5:(r3)=false:=by simpa using hc
   replace H:=zN hc H
   refine rg zA ?_
   simp only [go_sem]
   refine rg zA ?_
   simp only [go_sem]
   refine ⟨_,(Option.some.inj H).symm,?_⟩
   refine zI ⟨[],?_,?_,by rfl,by rfl⟩
   ·simp [CvL,Cv]
   ·trivial
  ·try dsimp only at H ⊢
   try simp only [tp]
   try simp only [yR]
   refine sq zA ?_
   simp only [go_sem]
   refine rg zA ?_
   simp only [go_sem]
   obtain rfl:=Option.some.inj H
   first|rfl|simp only [Bool.and_false,Bool.false_and,Bool.and_true,Bool.true_and]
 ·cases hb
theorem tik37_0:tintk Try.prog 2=true:=by kernel_rfl
theorem tik37_1:tintk Try.prog 29=false:=by kernel_rfl
theorem okF37:xZ Try.prog 37 (delF 82 43):=by
 refine edit1_fn (sh:=fun _=>none) (fun _ _ h=>by cases h) zA (delF 82 43) (rs:=[.tmp 6]) Try.func37 (by kernel_rfl) rfl rfl delF_np ?_
 intro E h l vs ob v h' H F hc hob
 unfold delF at hc
 split at hc
 ·rename_i b es' i n nl p q
  split at hc
  ·rename_i e' es2 NN c hb
   injection hc with q1 q2 q3
   subst q1 q2 q3
   obtain ⟨rfl,rfl,rfl,hN,hpq,hqn,hfl⟩:=hob
   have hx:=F
   obtain ⟨vs⟩:=vs
   match vs,F.1 with
   | [u1,u2,u3],_ =>
    obtain ⟨cap,hcap,hV⟩:=csl_of_sl (only_sl (F.2 0 _ u1 rfl rfl))
    have g2:=F.2 1 _ u2 rfl rfl
    have g3:=F.2 2 _ u3 rfl rfl
    obtain rfl:=vU g2
    obtain rfl:=vU g3
    refine ⟨b,82,43,NN,c,n - (q - p),delA i p (q - p) c,[.csl 0 43 i n cap,.int .i64 p,.int .i64 q],hb,fun x y hx hy=>(hfl x y hx hy).1,fun x y hx hy=>?_,rfl,rfl,?_,?_⟩
    ·unfold delA
     split<;>exact hfl _ _ (by omega) hy
    ·refine ⟨rfl,fun j a w ha hw=>?_⟩
     match j with
     | 0=>simp at ha hw;subst ha hw;exact hV
     | 1=>simp at ha hw;subst ha hw;exact .int _ _
     | 2=>simp at ha hw;subst ha hw;exact .int _ _
     | j+3=>simp at ha
    ·rw [Try.ntmps37]
     show wpC _ _ _ _ _ (.csl 0 43 i n cap::.int .i64 p::.int .i64 q::.top::.top::.top::.top::.top::.top::.top::.top::.top::.top::.top::.top::.top::.top::.top::.top::.top::.top::.top::.top::.top::.top::.top::.top::.top::.top::.top::.top::.top::.top::[]) _
     have hpq':((p:Int) == (q:Int))=false:=by simp;omega
     simp only [go_sem,bEq,Option.isSome_some,Option.isNone_some,Int.toNat_natCast,hpq']
     refine ⟨by omega,?_⟩
     refine yZ (sh:=fun _=>none) (fun _ _ h=>by cases h) zA 0 (by kernel_rfl) (by kernel_rfl) ?_
     intro an han
     have hdc:decide (p+(n - q) <= cap)=true:=by simp;omega
     simp only [go_sem,Nat.reduceLeDiff,Nat.reduceAdd,Nat.reduceSub,tC,tK,evAppZ,tik37_1,Option.isNone_some,Option.isSome_none,Option.isNone_none,Int.toNat_natCast,hdc,Nat.sub_zero,uC,wM,eG,xK,refs,uI,mask,wT,place,xU,wV,wA,hit,inL,xM,ren,rnN,nrH,nrB,rZ,Bool.or_false,Bool.or_true,Bool.true_or,Bool.and_false,Bool.false_and,Nat.sub_self,Nat.add_zero,Nat.zero_add,Nat.reduceSub,Nat.lt_add_one]
     have hm:p+(n - q)=n - (q - p):=by omega
     refine ⟨by omega,by omega,by omega,by omega,by omega,?_⟩
     rw [hm]
     refine conv_move (b:=0) rfl (by omega) (by omega) fun x y hx hy=>?_
     unfold ovwC delA wR
     rw [if_neg (by omega)]
     by_cases hxp:x < p
     ·rw [if_neg (by omega),if_pos hxp]
     ·rw [if_pos (by omega),if_neg hxp]
      congr 1
      omega
  ·cases hc
 ·cases hc
theorem ok37:xZ Try.prog 37 (delN 82 43):=delN_ok okF37
noncomputable def F28_0_L1 (p0:List TFrame) (v1_1:List TFrame) (v1_2:Int):Option (Lp ((List TFrame) × Int) ((List TFrame) ⊕ (List TFrame))) :=
 bif (bLt v1_2 (p0.length:Nat)) then (need (inb v1_2 v1_1.length) <| some (.next ((v1_1.set v1_2.toNat (TFrame.mk (THeader.mk (((gd v1_1 v1_2.toNat).Head).Kind) (((gd v1_1 v1_2.toNat).Head).Sub) (((gd v1_1 v1_2.toNat).Head).ToDs) (((gd v1_1 v1_2.toNat).Head).FromDs) (((gd v1_1 v1_2.toNat).Head).More) (((gd v1_1 v1_2.toNat).Head).Retry) (((gd v1_1 v1_2.toNat).Head).Sleep) (bLt (wr .i64 (v1_2+1)) (v1_1.length:Nat)) (((gd v1_1 v1_2.toNat).Head).Protected) (((gd v1_1 v1_2.toNat).Head).Duration) (A6u8.mk ((((gd v1_1 v1_2.toNat).Head).A1).x0) ((((gd v1_1 v1_2.toNat).Head).A1).x1) ((((gd v1_1 v1_2.toNat).Head).A1).x2) ((((gd v1_1 v1_2.toNat).Head).A1).x3) ((((gd v1_1 v1_2.toNat).Head).A1).x4) ((((gd v1_1 v1_2.toNat).Head).A1).x5)) (A6u8.mk ((((gd v1_1 v1_2.toNat).Head).A2).x0) ((((gd v1_1 v1_2.toNat).Head).A2).x1) ((((gd v1_1 v1_2.toNat).Head).A2).x2) ((((gd v1_1 v1_2.toNat).Head).A2).x3) ((((gd v1_1 v1_2.toNat).Head).A2).x4) ((((gd v1_1 v1_2.toNat).Head).A2).x5)) (A6u8.mk ((((gd v1_1 v1_2.toNat).Head).A3).x0) ((((gd v1_1 v1_2.toNat).Head).A3).x1) ((((gd v1_1 v1_2.toNat).Head).A3).x2) ((((gd v1_1 v1_2.toNat).Head).A3).x3) ((((gd v1_1 v1_2.toNat).Head).A3).x4) ((((gd v1_1 v1_2.toNat).Head).A3).x5)) (A6u8.mk ((((gd v1_1 v1_2.toNat).Head).A4).x0) ((((gd v1_1 v1_2.toNat).Head).A4).x1) ((((gd v1_1 v1_2.toNat).Head).A4).x2) ((((gd v1_1 v1_2.toNat).Head).A4).x3) ((((gd v1_1 v1_2.toNat).Head).A4).x4) ((((gd v1_1 v1_2.toNat).Head).A4).x5)) (((gd v1_1 v1_2.toNat).Head).Seq) (((gd v1_1 v1_2.toNat).Head).Frag) (((gd v1_1 v1_2.toNat).Head).Tid) (((gd v1_1 v1_2.toNat).Head).Ack) (((gd v1_1 v1_2.toNat).Head).Amsdu) (((gd v1_1 v1_2.toNat).Head).Eosp)) ((gd v1_1 v1_2.toNat).Body))),wr .i64 (v1_2+1)))) else (some (.done (.inl v1_1)))
noncomputable def F28_0 (p0:List TFrame):Option (List TFrame) :=
 lp (yN (fun s=>F28_0_L1 p0 s.1 s.2) (p0,0)) (fun w1_3=>some w1_3) some
noncomputable def body28_0:List AV->List ABlk->ED
 | [v0],h=>.ed [slN v0] (oS 54 41 h v0/\lK vK 41 (roW h v0)/\(F28_0 (lA zT (roW h v0))).isSome=true) (.sl 1 41 0 ((gt (F28_0 (lA zT (roW h v0)))).length) false) [.dead,.row 54 41 ((gt (F28_0 (lA zT (roW h v0)))).length) (enR zM (gt (F28_0 (lA zT (roW h v0)))))]
 | _,_=>.fail
theorem ok28_0:xZ Try.prog 28 (edC body28_0):=by
 refine edit_fnM body28_0 (rs:=[.tmp 2]) Try.func28 (by kernel_rfl) rfl rfl ?_
 intro l h bs ob q0 g0 hb hob
 unfold body28_0 at hb
 split at hb
 ·rename_i v0
  injection hb with q1 q2 q3 q4;subst q1 q2 q3 q4
  obtain ⟨hk0_0,hk0_1,hob⟩:=hob
  obtain ⟨r,H⟩:=oE.1 hob
  rw [H,yD]
  obtain ⟨p0,hp0⟩:∃ p0,p0=lA zT (roW h v0):=⟨_,rfl⟩
  rw [← hp0] at H
  obtain ⟨ev0,eb0⟩:=own_row2 (f:=zM) (g:=zT) (bs:=[slN v0]) (i:=0) (fun hr=>w_TFrame hr) hk0_0 hk0_1 (L:=p0) (by rw [hp0]) rfl
  refine ⟨[.sl 0 41 0 p0.length false],[.row 54 41 p0.length (enR zM p0)],rfl,⟨ev0,trivial⟩,⟨eb0,trivial⟩,⟨trivial,⟨(nfB_en xP),trivial⟩⟩,?_⟩
  rw [Try.ntmps28]
  simp only [lC,lN,Nat.reduceAdd,Nat.reduceSub,rS,rZ,aC,aN]
  unfold F28_0 at H
  try dsimp only at H
  refine sq zA ?_
  simp only [go_sem]
  refine zH ?_
  refine sq zA ?_
  simp only [go_sem]
  repeat ((with_reducible refine aI ?_ ?_);exact an0)
  refine xI ?_
  refine xA (fun s:(List TFrame) × Int=>(.sl 1 41 0 s.1.length false::tp 4 (.int .i64 (p0.length:Nat)::.int .i64 s.2::tp 14 []))) (fun s=>[.dead,.row 54 41 s.1.length (enR zM s.1)]) (fun e:List TFrame=>(.sl 1 41 0 e.length false::tp 20 [])) (fun e=>[.dead,.row 54 41 e.length (enR zM e)]) H ?_ (fun s o H hn1_1 hn2_1=>?_) (fun w1_3 H=>?_)
  ·refine zI ⟨[some 0,some 0],?_,?_,by rfl,by rfl⟩
   ·simp [CvL,Cv,yB,tp]
   ·exact ⟨zB,zK xP cl (fun _ _ _ _=>rfl),trivial⟩
  ·obtain ⟨v1_1,v1_2⟩:=s
   unfold F28_0_L1 at H
   try dsimp only at H ⊢
   try simp only [tp]
   refine sq zA ?_
   simp only [go_sem]
   refine zH ?_
   refine condM' rfl trivial (fun hc=>?_) (fun hc=>?_)
   ·have hk1:(bLt v1_2 (p0.length:Nat))=false:=by simpa using hc
    replace H:=zN hc H
    refine rg zA ?_
    simp only [go_sem]
    refine ⟨_,(Option.some.inj H).symm,?_⟩
    refine zI ⟨[some 0,some 1],?_,?_,by rfl,by rfl⟩
    ·simp [CvL,Cv,yB]
    ·exact ⟨zB,zK xP cl (fun _ _ _ _=>rfl),trivial⟩
   have hk1:(bLt v1_2 (p0.length:Nat))=true:=by simpa using hc
   replace H:=zO hc H
   refine rg zA ?_
   simp only [go_sem]
   refine zH ?_
   refine xI ?_
   refine sq zA ?_
   simp only [go_sem]
   obtain ⟨f2,H⟩:=nI H
   refine rg zA ?_
   simp only [go_sem,Nat.reduceLeDiff,Nat.reduceAdd,reduceCtorEq,f2]
   repeat ((with_reducible refine aI ?_ ?_);exact an0)
   refine rg zA ?_
   simp only [go_sem]
   refine ⟨_,(Option.some.inj H).symm,?_⟩
   refine zI ⟨[some 0,some 1],?_,?_,by rfl,by rfl⟩
   ·simp [CvL,Cv,yB]
   ·exact ⟨zB,zK xP cl (fZ (f:=zM) v1_1 v1_2.toNat 7 (TFrame.mk (THeader.mk (((gd v1_1 v1_2.toNat).Head).Kind) (((gd v1_1 v1_2.toNat).Head).Sub) (((gd v1_1 v1_2.toNat).Head).ToDs) (((gd v1_1 v1_2.toNat).Head).FromDs) (((gd v1_1 v1_2.toNat).Head).More) (((gd v1_1 v1_2.toNat).Head).Retry) (((gd v1_1 v1_2.toNat).Head).Sleep) (bLt (wr .i64 (v1_2+1)) (v1_1.length:Nat)) (((gd v1_1 v1_2.toNat).Head).Protected) (((gd v1_1 v1_2.toNat).Head).Duration) (A6u8.mk ((((gd v1_1 v1_2.toNat).Head).A1).x0) ((((gd v1_1 v1_2.toNat).Head).A1).x1) ((((gd v1_1 v1_2.toNat).Head).A1).x2) ((((gd v1_1 v1_2.toNat).Head).A1).x3) ((((gd v1_1 v1_2.toNat).Head).A1).x4) ((((gd v1_1 v1_2.toNat).Head).A1).x5)) (A6u8.mk ((((gd v1_1 v1_2.toNat).Head).A2).x0) ((((gd v1_1 v1_2.toNat).Head).A2).x1) ((((gd v1_1 v1_2.toNat).Head).A2).x2) ((((gd v1_1 v1_2.toNat).Head).A2).x3) ((((gd v1_1 v1_2.toNat).Head).A2).x4) ((((gd v1_1 v1_2.toNat).Head).A2).x5)) (A6u8.mk ((((gd v1_1 v1_2.toNat).Head).A3).x0) ((((gd v1_1 v1_2.toNat).Head).A3).x1) ((((gd v1_1 v1_2.toNat).Head).A3).x2) ((((gd v1_1 v1_2.toNat).Head).A3).x3) ((((gd v1_1 v1_2.toNat).Head).A3).x4) ((((gd v1_1 v1_2.toNat).Head).A3).x5)) (A6u8.mk ((((gd v1_1 v1_2.toNat).Head).A4).x0) ((((gd v1_1 v1_2.toNat).Head).A4).x1) ((((gd v1_1 v1_2.toNat).Head).A4).x2) ((((gd v1_1 v1_2.toNat).Head).A4).x3) ((((gd v1_1 v1_2.toNat).Head).A4).x4) ((((gd v1_1 v1_2.toNat).Head).A4).x5)) (((gd v1_1 v1_2.toNat).Head).Seq) (((gd v1_1 v1_2.toNat).Head).Frag) (((gd v1_1 v1_2.toNat).Head).Tid) (((gd v1_1 v1_2.toNat).Head).Ack) (((gd v1_1 v1_2.toNat).Head).Amsdu) (((gd v1_1 v1_2.toNat).Head).Eosp)) ((gd v1_1 v1_2.toNat).Body)) (fun _ _ _ _=>rfl) (fun y hy=>match y,hy with|0,_=>rfl|1,_=>rfl|2,_=>rfl|3,_=>rfl|4,_=>rfl|5,_=>rfl|6,_=>rfl|7,_=>rfl|8,_=>rfl|9,_=>rfl|10,_=>rfl|11,_=>rfl|12,_=>rfl|13,_=>rfl|14,_=>rfl|15,_=>rfl|16,_=>rfl|17,_=>rfl|18,_=>rfl|19,_=>rfl|20,_=>rfl|21,_=>rfl|22,_=>rfl|23,_=>rfl|24,_=>rfl|25,_=>rfl|26,_=>rfl|27,_=>rfl|28,_=>rfl|29,_=>rfl|30,_=>rfl|31,_=>rfl|32,_=>rfl|33,_=>rfl|34,_=>rfl|35,_=>rfl|36,_=>rfl|37,_=>rfl|38,_=>rfl|39,_=>rfl|40,_=>rfl|(y+41),h=>absurd h nlt)),trivial⟩
  ·try dsimp only at H ⊢
   try simp only [tp]
   try simp only [yR]
   refine sq zA ?_
   simp only [go_sem]
   refine rg zA ?_
   simp only [go_sem]
   obtain rfl:=Option.some.inj H
   refine vH [] [some 0,some 1] ?_ ?_ ?_ ?_ (by rfl) (by rfl)
   ·simp only [go_sem]
    try exact at0
   ·simp only [go_sem]
    try exact at0
   ·simp only [go_sem]
    exact (by first|(simp [Cv,yB];done)|(simp [Cv,CvL,yB,yD];omega))
   ·simp only [go_sem,CvH]
    first|exact ⟨zB,zK xP cl (fun _ _ _ _=>rfl)⟩|trivial
 ·cases hb
end Go.Proofs.Ytooepgpfaaddbaa
