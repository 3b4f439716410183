/-
  What TopSleep reaches.
-/
import Derived.Test.YtooepgpfaaddbaaY3p2
namespace Go.Proofs.Ytooepgpfaaddbaa
open Go.Am
set_option maxHeartbeats 4000000
set_option maxRecDepth 20000
set_option linter.unusedVariables false
set_option linter.unusedSimpArgs false
attribute [local go_sem] w_skip w_label w_goto w_scope k_goto b_goto l_goto s_normal s_exit s_ret s_goto w_region w_draw w_seq w_cond w_block w_exit w_ret w_loop k_normal k_exit k_ret b_normal b_exit b_ret l_normal l_exit l_ret yR m_exit m_ret m_goto kL_normal kL_exit kL_ret kJ_normal kJ_exit kJ_ret kJR_normal kJR_ret kS_normal kS_exit kS_ret kS_goto vD r_ret o_nil o_cons q_nil q_cons nxt gval gvd gvl gvw dstOf evO vG ogC og ogL ogP ogO rho rhoO strip optOk zR setL wQ absC absV absL pO hO qS ldB geth seth evStore stRes stB evBox evAlloc wS eL xJ eQ binI binB binNR binU fW nilR_t nilR_0 nilR_s evInt evStr evUn evConv cvO evPick mrg fM evNil evCall eJ qG evLen2 vcells vcOk atom tabF cnd retK resFin resL resA resC resCons fL tJ eR qX fillA fillOk putL getP nxtQ pureC_eq pureR genC_eq genR roV roL wN eB roW roWL roWOb roWObL nref nrefL binA binN eqSh eqRes qP evIndex2 evIndexS evSlice evSlice2 qT yM evConv2 cvS vB eN tO evMake wZ repL evFn evMin evMax freshC freshR sub_enR0 tC tK uT uA lenS cutS Bool.or_false Bool.false_or Bool.or_true Bool.true_or Bool.and_false Bool.false_and Option.map_some Option.map_none Option.getD_some Option.getD_none Option.bind_some Option.bind_none Option.or_some Option.or_none Option.none_or Option.isSome_none Option.isNone_none Option.isNone_some aN aC List.append_nil cond_true cond_false lC lN beq_self_eq_true Bool.and_true Bool.true_and Bool.not_true Bool.not_false true_and and_true and_self true_implies implies_true ne_eq not_false_eq_true Bool.false_eq_true Bool.true_eq_false false_implies Nat.lt_irrefl Nat.le_refl Nat.succ_ne_self imp_self Bool.cond_false_right Bool.cond_true_left decide_true decide_false Bool.not_eq_true' Bool.not_eq_false' Bool.not_not Nat.zero_mul Nat.zero_add Nat.add_zero Nat.mul_one Nat.one_mul Bool.cond_self tsz3 tby3 tagg3 tslice3 tarr3 tzero3 tzn3 tplaces3 tint3 tstr3 tnoint3 tbool3 tany3 tintk3 tbytes3 tsz4 tby4 tagg4 tslice4 tarr4 tzero4 tzn4 tplaces4 tint4 tstr4 tnoint4 tbool4 tany4 tintk4 tbytes4 tsz5 tby5 tagg5 tslice5 tarr5 tzero5 tzn5 tplaces5 tint5 tstr5 tnoint5 tbool5 tany5 tintk5 tbytes5 tsz23 tby23 tagg23 tslice23 tarr23 tzero23 tzn23 tplaces23 tint23 tstr23 tnoint23 tbool23 tany23 tintk23 tbytes23 tfld23_0 tfld23_1 tfld23_2 tfld23_3 tfld23_4 tsz24 tby24 tagg24 tslice24 tarr24 tzero24 tzn24 tplaces24 tint24 tstr24 tnoint24 tbool24 tany24 tintk24 tbytes24 tsz26 tby26 tagg26 tslice26 tarr26 tzero26 tzn26 tplaces26 tint26 tstr26 tnoint26 tbool26 tany26 tintk26 tbytes26 tsz28 tby28 tagg28 tslice28 tarr28 tzero28 tzn28 tplaces28 tint28 tstr28 tnoint28 tbool28 tany28 tintk28 tbytes28 tsz29 tby29 tagg29 tslice29 tarr29 tzero29 tzn29 tplaces29 tint29 tstr29 tnoint29 tbool29 tany29 tintk29 tbytes29 tsz31 tby31 tagg31 tslice31 tarr31 tzero31 tzn31 tplaces31 tint31 tstr31 tnoint31 tbool31 tany31 tintk31 tbytes31 tfld31_0 tfld31_1 tfld31_2 tfld31_3 tsz35 tby35 tagg35 tslice35 tarr35 tzero35 tzn35 tplaces35 tint35 tstr35 tnoint35 tbool35 tany35 tintk35 tbytes35 tsz36 tby36 tagg36 tslice36 tarr36 tzero36 tzn36 tplaces36 tint36 tstr36 tnoint36 tbool36 tany36 tintk36 tbytes36 tsz37 tby37 tagg37 tslice37 tarr37 tzero37 tzn37 tplaces37 tint37 tstr37 tnoint37 tbool37 tany37 tintk37 tbytes37 tsz38 tby38 tagg38 tslice38 tarr38 tzero38 tzn38 tplaces38 tint38 tstr38 tnoint38 tbool38 tany38 tintk38 tbytes38 tsz40 tby40 tagg40 tslice40 tarr40 tzero40 tzn40 tplaces40 tint40 tstr40 tnoint40 tbool40 tany40 tintk40 tbytes40 tfld40_0 tfld40_1 tfld40_2 tfld40_3 tfld40_4 tfld40_5 tfld40_6 tsz42 tby42 tagg42 tslice42 tarr42 tzero42 tzn42 tplaces42 tint42 tstr42 tnoint42 tbool42 tany42 tintk42 tbytes42 tfld42_0 tfld42_1 tsz46 tby46 tagg46 tslice46 tarr46 tzero46 tzn46 tplaces46 tint46 tstr46 tnoint46 tbool46 tany46 tintk46 tbytes46 tsz49 tby49 tagg49 tslice49 tarr49 tzero49 tzn49 tplaces49 tint49 tstr49 tnoint49 tbool49 tany49 tintk49 tbytes49 tfld49_0 tfld49_1 tfld49_2 tfld49_3 tfld49_4 tfld49_5 tfld49_6 tfld49_7 tfld49_8 tfld49_9 tfld49_10 tfld49_11 tfld49_12 tfld49_13 tfld49_14 tfld49_15 tfld49_16 tfld49_17 tfld49_18 tfld49_19 tsz50 tby50 tagg50 tslice50 tarr50 tzero50 tzn50 tplaces50 tint50 tstr50 tnoint50 tbool50 tany50 tintk50 tbytes50 tsz54 tby54 tagg54 tslice54 tarr54 tzero54 tzn54 tplaces54 tint54 tstr54 tnoint54 tbool54 tany54 tintk54 tbytes54 tfld54_0 tfld54_1 tsz61 tby61 tagg61 tslice61 tarr61 tzero61 tzn61 tplaces61 tint61 tstr61 tnoint61 tbool61 tany61 tintk61 tbytes61 tfld61_0 tfld61_1 tsz72 tby72 tagg72 tslice72 tarr72 tzero72 tzn72 tplaces72 tint72 tstr72 tnoint72 tbool72 tany72 tintk72 tbytes72 tfld72_0 tfld72_1 tfld72_2 tsz73 tby73 tagg73 tslice73 tarr73 tzero73 tzn73 tplaces73 tint73 tstr73 tnoint73 tbool73 tany73 tintk73 tbytes73 tsz74 tby74 tagg74 tslice74 tarr74 tzero74 tzn74 tplaces74 tint74 tstr74 tnoint74 tbool74 tany74 tintk74 tbytes74 tsz80 tby80 tagg80 tslice80 tarr80 tzero80 tzn80 tplaces80 tint80 tstr80 tnoint80 tbool80 tany80 tintk80 tbytes80 tsz82 tby82 tagg82 tslice82 tarr82 tzero82 tzn82 tplaces82 tint82 tstr82 tnoint82 tbool82 tany82 tintk82 tbytes82 tfld82_0 tfld82_1 tfld82_2 tsz91 tby91 tagg91 tslice91 tarr91 tzero91 tzn91 tplaces91 tint91 tstr91 tnoint91 tbool91 tany91 tintk91 tbytes91 tsz93 tby93 tagg93 tslice93 tarr93 tzero93 tzn93 tplaces93 tint93 tstr93 tnoint93 tbool93 tany93 tintk93 tbytes93 tsz100 tby100 tagg100 tslice100 tarr100 tzero100 tzn100 tplaces100 tint100 tstr100 tnoint100 tbool100 tany100 tintk100 tbytes100 tsz106 tby106 tagg106 tslice106 tarr106 tzero106 tzn106 tplaces106 tint106 tstr106 tnoint106 tbool106 tany106 tintk106 tbytes106 tsz115 tby115 tagg115 tslice115 tarr115 tzero115 tzn115 tplaces115 tint115 tstr115 tnoint115 tbool115 tany115 tintk115 tbytes115 tsz116 tby116 tagg116 tslice116 tarr116 tzero116 tzn116 tplaces116 tint116 tstr116 tnoint116 tbool116 tany116 tintk116 tbytes116 tsz117 tby117 tagg117 tslice117 tarr117 tzero117 tzn117 tplaces117 tint117 tstr117 tnoint117 tbool117 tany117 tintk117 tbytes117 tsz118 tby118 tagg118 tslice118 tarr118 tzero118 tzn118 tplaces118 tint118 tstr118 tnoint118 tbool118 tany118 tintk118 tbytes118 tsz121 tby121 tagg121 tslice121 tarr121 tzero121 tzn121 tplaces121 tint121 tstr121 tnoint121 tbool121 tany121 tintk121 tbytes121 tsz123 tby123 tagg123 tslice123 tarr123 tzero123 tzn123 tplaces123 tint123 tstr123 tnoint123 tbool123 tany123 tintk123 tbytes123 tsz124 tby124 tagg124 tslice124 tarr124 tzero124 tzn124 tplaces124 tint124 tstr124 tnoint124 tbool124 tany124 tintk124 tbytes124 e_u8_0 fit_u8 de_u8 vJ k_u8 e_i64_0 fit_i64 de_i64 wO k_i64 e_b_0 fit_b de_b g_b k_b tQ tR tT tU tV qH kA g_TWakeRule wG qF dF dG bV de_TComing g_TComing vR bP fG fQ eY tE uL e_A6u8_0 e_A6u8_1 e_A6u8_2 e_A6u8_3 e_A6u8_4 e_A6u8_5 fit_A6u8 de_A6u8 g_A6u8 k_A6u8 eta_A6u8 cO cP cQ cR cS cT cU cV cW cX kD kE kF kG kH kI kK kN kP kQ kR kT kU kV kW kX kY kZ jA jB jC jD jE jF jG jH jI jJ jK jL bW de_THeader fS qL bQ e_lu8_0 fit_lu8 de_lu8 g_lu8 k_lu8 e_TFrame_0 e_TFrame_1 e_TFrame_2 e_TFrame_3 e_TFrame_4 e_TFrame_5 e_TFrame_6 e_TFrame_7 e_TFrame_8 e_TFrame_9 dH dI dJ dK dL dM dN dO dP dQ dR dT dU dV dW dX dY cA cB cC cD cE cF cG cH cI cJ cK cL cM cN fit_TFrame de_TFrame zT vK eta_TFrame cY cZ bC bD bE bF bG bH bI bJ jP jQ jR jS jT jU jV jW jX jY jZ hU hZ gA gB gC gD gE gF gG gH gI gJ gK gL gM gN gO gP gQ gR gS gT bX de_TStored yA xD bR fH fR eZ tF uM jM jN jO fN eU yI xL fI qE qI kB uF vQ dB dC dD dE bU de_TBuffer zG xS bM e_li64_0 fit_li64 de_li64 g_li64 k_li64 e_A4i64_0 e_A4i64_1 e_A4i64_2 e_A4i64_3 fit_A4i64 de_A4i64 g_A4i64 k_A4i64 eta_A4i64 gW gX gY gZ fA fB fC fD fE fF tW tX tY qA qB qC qD fP eW tD uK fK bL bY de_lTFrame fT qM gU gV fO eV yO wF fJ e_u64_0 fit_u64 de_u64 g_u64 k_u64 e_A32u8_0 e_A32u8_1 e_A32u8_2 e_A32u8_3 e_A32u8_4 e_A32u8_5 e_A32u8_6 e_A32u8_7 e_A32u8_8 e_A32u8_9 e_A32u8_10 e_A32u8_11 e_A32u8_12 e_A32u8_13 e_A32u8_14 e_A32u8_15 e_A32u8_16 e_A32u8_17 e_A32u8_18 e_A32u8_19 e_A32u8_20 e_A32u8_21 e_A32u8_22 e_A32u8_23 e_A32u8_24 e_A32u8_25 e_A32u8_26 e_A32u8_27 e_A32u8_28 e_A32u8_29 e_A32u8_30 e_A32u8_31 fit_A32u8 de_A32u8 g_A32u8 k_A32u8 eta_A32u8 deR_0 deR_1 deR_2 deR_3 deR_4 deR_5 deR_6 deR_7 deR_8 deR_9 deR_10 deR_11 deR_12 litC_x0 litC_x1 litC_x2 litC_x3 litC_x4 litC_x5 litC_x6 litC_x7 litC_x8 litC_x9 litC_x10 litC_x11 strE_u8 Fit_0 Option.isSome_some yD gd_one evCopyL eH evLk_mp evLk_val evLkM bT findMb_lit findMb_row bS mapC_nil tabR sub_enR dZ xrD xoD tN vS rK rM rG aL aK iK bK sK lK iA bA sA lA or_true true_or Int.toNat_natCast shT_23 shT_37 shT_42 shT_46 shT_49 shT_121 Int.toNat_zero Int.cast_ofNat_Int kSP_normal kOP_normal kLP_exit pcC_lt upc_ii aLs roD roDOb yF edC edR eE rnm rnmL rnmB rnmC_en rnmC_upc rnmH rnm_bif rnmB_bif putH dA rhoN ptB slN litL celL pK isLit oS isRow inL fzV fzL wK tL fzH fzHF fzB fzObB eI rowOb
noncomputable def ct17t0:Ct:=tab [(19,zV vM)]
theorem ct17t0_ok:yU Try.prog ct17t0:=zP ok19 <| zX
theorem ct17t0_19 (l:List AV) (h:List ABlk):ct17t0 19 l h=zV vM l h:=rfl
noncomputable def ct17t1:Ct:=tab [(20,zV eP)]
theorem ct17t1_ok:yU Try.prog ct17t1:=zP ok20 <| zX
theorem ct17t1_20 (l:List AV) (h:List ABlk):ct17t1 20 l h=zV eP l h:=rfl
noncomputable def ct17t2:Ct:=tab [(44,wE uZ)]
theorem ct17t2_ok:yU Try.prog ct17t2:=zP ok44 <| zX
theorem ct17t2_44 (l:List AV) (h:List ABlk):ct17t2 44 l h=wE uZ l h:=rfl
noncomputable def ct17t3:Ct:=tab [(45,wE vV)]
theorem ct17t3_ok:yU Try.prog ct17t3:=zP ok45 <| zX
theorem ct17t3_45 (l:List AV) (h:List ABlk):ct17t3 45 l h=wE vV l h:=rfl
noncomputable def ct17t4:Ct:=tab [(33,zV body33)]
theorem ct17t4_ok:yU Try.prog ct17t4:=zP ok33 <| zX
theorem ct17t4_33 (l:List AV) (h:List ABlk):ct17t4 33 l h=zV body33 l h:=rfl
noncomputable def ct17t5:Ct:=tab [(35,zV body35_1)]
theorem ct17t5_ok:yU Try.prog ct17t5:=zP ok35_1 <| zX
theorem ct17t5_35 (l:List AV) (h:List ABlk):ct17t5 35 l h=zV body35_1 l h:=rfl
noncomputable def ct17t6:Ct:=tab [(37,delN 82 43)]
theorem ct17t6_ok:yU Try.prog ct17t6:=zP ok37 <| zX
theorem ct17t6_37 (l:List AV) (h:List ABlk):ct17t6 37 l h=delN 82 43 l h:=rfl
noncomputable def F17_L1 (r13:List TStored) (v1_1:Int) (v1_2:TStored):Option (Lp (Int × TStored) ((TStored) ⊕ (TFrame × TBuffer × Int))) :=
 bif (bLt v1_1 (r13.length:Nat)) then (need (inb v1_1 r13.length) <| (F33 (TStored.mk ((gd r13 v1_1.toNat).Cat) ((gd r13 v1_1.toNat).At) (eF ((gd r13 v1_1.toNat).Frame))) v1_2).bind fun r26=>bif (bLt 0 r26) then (need (inb v1_1 r13.length) <| some (.next (wr .i64 (v1_1+1),(TStored.mk ((gd r13 v1_1.toNat).Cat) ((gd r13 v1_1.toNat).At) (eF ((gd r13 v1_1.toNat).Frame)))))) else (some (.next (wr .i64 (v1_1+1),v1_2)))) else (some (.done (.inl v1_2)))
noncomputable def F17 (p0:TBuffer) (p1:Int):Option (TFrame × TBuffer × Int) :=
 (F19 p0).bind fun r1=>bif (!bEq r1 0) then (some ((TFrame.mk (THeader.mk 0 0 false false false false false false false 0 (A6u8.mk 0 0 0 0 0 0) (A6u8.mk 0 0 0 0 0 0) (A6u8.mk 0 0 0 0 0 0) (A6u8.mk 0 0 0 0 0 0) 0 0 0 0 false false) []),(TBuffer.mk 0 0 [] []),r1)) else (bif ((bLt p1 1) || (bLt 255 p1)) then (some ((TFrame.mk (THeader.mk 0 0 false false false false false false false 0 (A6u8.mk 0 0 0 0 0 0) (A6u8.mk 0 0 0 0 0 0) (A6u8.mk 0 0 0 0 0 0) (A6u8.mk 0 0 0 0 0 0) 0 0 0 0 false false) []),(TBuffer.mk 0 0 [] []),2)) else ((F20 p0 p1).bind fun r5=>bif (!r5.2) then (some ((TFrame.mk (THeader.mk 0 0 false false false false false false false 0 (A6u8.mk 0 0 0 0 0 0) (A6u8.mk 0 0 0 0 0 0) (A6u8.mk 0 0 0 0 0 0) (A6u8.mk 0 0 0 0 0 0) 0 0 0 0 false false) []),(TBuffer.mk 0 0 [] []),6)) else ((F44 p0.List).bind fun r8=>need (decide (r8.length=1)) <| need (inb 0 1) <| (F45 ((gd r8 0).Held)).bind fun r13=>need (inb 0 1) <| (F45 p0.Group).bind fun r16=>bif bEq r5.1 0 then (need (inb 0 1) <| bif (!((gd r8 0).Asleep)) then (some ((TFrame.mk (THeader.mk 0 0 false false false false false false false 0 (A6u8.mk 0 0 0 0 0 0) (A6u8.mk 0 0 0 0 0 0) (A6u8.mk 0 0 0 0 0 0) (A6u8.mk 0 0 0 0 0 0) 0 0 0 0 false false) []),(TBuffer.mk 0 0 [] []),20)) else (bif (bEq (r13.length:Nat) 0) then (some ((TFrame.mk (THeader.mk 0 0 false false false false false false false 0 (A6u8.mk 0 0 0 0 0 0) (A6u8.mk 0 0 0 0 0 0) (A6u8.mk 0 0 0 0 0 0) (A6u8.mk 0 0 0 0 0 0) 0 0 0 0 false false) []),(TBuffer.mk 0 0 [] []),6)) else (bif (bLt (r13.length:Nat) 1) then (none) else (need (inb 0 r13.length) <| lp (yN (fun s=>F17_L1 r13 s.1 s.2) (1,(TStored.mk ((gd r13 0).Cat) ((gd r13 0).At) (eF ((gd r13 0).Frame))))) (fun w1_5=>(F35_1 r13 w1_5.Cat).bind fun r30=>need (inb r30 r13.length) <| need (delb r30 (wr .i64 (r30+1)) r13.length) <| (some (delL r13 r30 (wr .i64 (r30+1)))).bind fun w34=>some ((TFrame.mk (THeader.mk ((((gd r13 r30.toNat).Frame).Head).Kind) ((((gd r13 r30.toNat).Frame).Head).Sub) ((((gd r13 r30.toNat).Frame).Head).ToDs) ((((gd r13 r30.toNat).Frame).Head).FromDs) ((((gd r13 r30.toNat).Frame).Head).More) ((((gd r13 r30.toNat).Frame).Head).Retry) ((((gd r13 r30.toNat).Frame).Head).Sleep) (bLt 0 (w34.length:Nat)) ((((gd r13 r30.toNat).Frame).Head).Protected) ((((gd r13 r30.toNat).Frame).Head).Duration) (A6u8.mk (((((gd r13 r30.toNat).Frame).Head).A1).x0) (((((gd r13 r30.toNat).Frame).Head).A1).x1) (((((gd r13 r30.toNat).Frame).Head).A1).x2) (((((gd r13 r30.toNat).Frame).Head).A1).x3) (((((gd r13 r30.toNat).Frame).Head).A1).x4) (((((gd r13 r30.toNat).Frame).Head).A1).x5)) (A6u8.mk (((((gd r13 r30.toNat).Frame).Head).A2).x0) (((((gd r13 r30.toNat).Frame).Head).A2).x1) (((((gd r13 r30.toNat).Frame).Head).A2).x2) (((((gd r13 r30.toNat).Frame).Head).A2).x3) (((((gd r13 r30.toNat).Frame).Head).A2).x4) (((((gd r13 r30.toNat).Frame).Head).A2).x5)) (A6u8.mk (((((gd r13 r30.toNat).Frame).Head).A3).x0) (((((gd r13 r30.toNat).Frame).Head).A3).x1) (((((gd r13 r30.toNat).Frame).Head).A3).x2) (((((gd r13 r30.toNat).Frame).Head).A3).x3) (((((gd r13 r30.toNat).Frame).Head).A3).x4) (((((gd r13 r30.toNat).Frame).Head).A3).x5)) (A6u8.mk (((((gd r13 r30.toNat).Frame).Head).A4).x0) (((((gd r13 r30.toNat).Frame).Head).A4).x1) (((((gd r13 r30.toNat).Frame).Head).A4).x2) (((((gd r13 r30.toNat).Frame).Head).A4).x3) (((((gd r13 r30.toNat).Frame).Head).A4).x4) (((((gd r13 r30.toNat).Frame).Head).A4).x5)) ((((gd r13 r30.toNat).Frame).Head).Seq) ((((gd r13 r30.toNat).Frame).Head).Frag) ((((gd r13 r30.toNat).Frame).Head).Tid) ((((gd r13 r30.toNat).Frame).Head).Ack) ((((gd r13 r30.toNat).Frame).Head).Amsdu) ((((gd r13 r30.toNat).Frame).Head).Eosp)) (((gd r13 r30.toNat).Frame).Body)),(TBuffer.mk p0.Limit p0.Stay [(TSleeper.mk ((gd r8 0).Aid) ((gd r8 0).Asleep) w34)] r16),0)) some)))) else (none))))
noncomputable def body17:List AV->Nat->AR
 | [v0,v1],_=>.pure (aK 4 xS v0/\iK .i64 v1/\(F17 (zG (aL v0)) (iA v1)).isSome=true) (.tup [.agg (.int .u8 ((((gt (F17 (zG (aL v0)) (iA v1))).1).Head).Kind)::.int .u8 ((((gt (F17 (zG (aL v0)) (iA v1))).1).Head).Sub)::.bool ((((gt (F17 (zG (aL v0)) (iA v1))).1).Head).ToDs)::.bool ((((gt (F17 (zG (aL v0)) (iA v1))).1).Head).FromDs)::.bool ((((gt (F17 (zG (aL v0)) (iA v1))).1).Head).More)::.bool ((((gt (F17 (zG (aL v0)) (iA v1))).1).Head).Retry)::.bool ((((gt (F17 (zG (aL v0)) (iA v1))).1).Head).Sleep)::.bool ((((gt (F17 (zG (aL v0)) (iA v1))).1).Head).MoreData)::.bool ((((gt (F17 (zG (aL v0)) (iA v1))).1).Head).Protected)::.int .i64 ((((gt (F17 (zG (aL v0)) (iA v1))).1).Head).Duration)::.int .u8 (((((gt (F17 (zG (aL v0)) (iA v1))).1).Head).A1).x0)::.int .u8 (((((gt (F17 (zG (aL v0)) (iA v1))).1).Head).A1).x1)::.int .u8 (((((gt (F17 (zG (aL v0)) (iA v1))).1).Head).A1).x2)::.int .u8 (((((gt (F17 (zG (aL v0)) (iA v1))).1).Head).A1).x3)::.int .u8 (((((gt (F17 (zG (aL v0)) (iA v1))).1).Head).A1).x4)::.int .u8 (((((gt (F17 (zG (aL v0)) (iA v1))).1).Head).A1).x5)::.int .u8 (((((gt (F17 (zG (aL v0)) (iA v1))).1).Head).A2).x0)::.int .u8 (((((gt (F17 (zG (aL v0)) (iA v1))).1).Head).A2).x1)::.int .u8 (((((gt (F17 (zG (aL v0)) (iA v1))).1).Head).A2).x2)::.int .u8 (((((gt (F17 (zG (aL v0)) (iA v1))).1).Head).A2).x3)::.int .u8 (((((gt (F17 (zG (aL v0)) (iA v1))).1).Head).A2).x4)::.int .u8 (((((gt (F17 (zG (aL v0)) (iA v1))).1).Head).A2).x5)::.int .u8 (((((gt (F17 (zG (aL v0)) (iA v1))).1).Head).A3).x0)::.int .u8 (((((gt (F17 (zG (aL v0)) (iA v1))).1).Head).A3).x1)::.int .u8 (((((gt (F17 (zG (aL v0)) (iA v1))).1).Head).A3).x2)::.int .u8 (((((gt (F17 (zG (aL v0)) (iA v1))).1).Head).A3).x3)::.int .u8 (((((gt (F17 (zG (aL v0)) (iA v1))).1).Head).A3).x4)::.int .u8 (((((gt (F17 (zG (aL v0)) (iA v1))).1).Head).A3).x5)::.int .u8 (((((gt (F17 (zG (aL v0)) (iA v1))).1).Head).A4).x0)::.int .u8 (((((gt (F17 (zG (aL v0)) (iA v1))).1).Head).A4).x1)::.int .u8 (((((gt (F17 (zG (aL v0)) (iA v1))).1).Head).A4).x2)::.int .u8 (((((gt (F17 (zG (aL v0)) (iA v1))).1).Head).A4).x3)::.int .u8 (((((gt (F17 (zG (aL v0)) (iA v1))).1).Head).A4).x4)::.int .u8 (((((gt (F17 (zG (aL v0)) (iA v1))).1).Head).A4).x5)::.int .i64 ((((gt (F17 (zG (aL v0)) (iA v1))).1).Head).Seq)::.int .i64 ((((gt (F17 (zG (aL v0)) (iA v1))).1).Head).Frag)::.int .i64 ((((gt (F17 (zG (aL v0)) (iA v1))).1).Head).Tid)::.int .u8 ((((gt (F17 (zG (aL v0)) (iA v1))).1).Head).Ack)::.bool ((((gt (F17 (zG (aL v0)) (iA v1))).1).Head).Amsdu)::.bool ((((gt (F17 (zG (aL v0)) (iA v1))).1).Head).Eosp)::.ro 1 ((((gt (F17 (zG (aL v0)) (iA v1))).1).Body).length) false (enR yG (((gt (F17 (zG (aL v0)) (iA v1))).1).Body))::[]),.agg [.int .i64 (((gt (F17 (zG (aL v0)) (iA v1))).2.1).Limit),.int .i64 (((gt (F17 (zG (aL v0)) (iA v1))).2.1).Stay),.ro 3 ((((gt (F17 (zG (aL v0)) (iA v1))).2.1).List).length) false (enR zF (((gt (F17 (zG (aL v0)) (iA v1))).2.1).List)),.ro 43 ((((gt (F17 (zG (aL v0)) (iA v1))).2.1).Group).length) false (enR zD (((gt (F17 (zG (aL v0)) (iA v1))).2.1).Group))],.int .i64 ((gt (F17 (zG (aL v0)) (iA v1))).2.2)])
 | _,_=>.fail
theorem ok17:xZ Try.prog 17 (wE body17):=by
 refine gen_fn body17 (rs:=[.cell 4 54,.cell 5 31,.tmp 6]) Try.func17 (by kernel_rfl) rfl rfl ?_
 intro l s ob v ns hb hob
 rcases hb with ⟨hb,rfl⟩|hb
 ·unfold body17 at hb
  split at hb
  ·rename_i v0 v1
   injection hb with q1 q2;subst q1 q2
   obtain ⟨hk0_0,hk1_0,hob⟩:=hob
   obtain ⟨r,H⟩:=oE.1 hob
   rw [H,yD]
   have hw0:=uO hk0_0
   have hw1:=yJ hk1_0
   generalize zG (aL v0)=p0 at H hw0
   generalize iA v1=p1 at H hw1
   refine ⟨[.agg [.int .i64 p0.Limit,.int .i64 p0.Stay,.ro 3 p0.List.length false (enR zF p0.List),.ro 43 p0.Group.length false (enR zD p0.Group)],.int .i64 p1],.tup [.agg (.int .u8 r.1.Head.Kind::.int .u8 r.1.Head.Sub::.bool r.1.Head.ToDs::.bool r.1.Head.FromDs::.bool r.1.Head.More::.bool r.1.Head.Retry::.bool r.1.Head.Sleep::.bool r.1.Head.MoreData::.bool r.1.Head.Protected::.int .i64 r.1.Head.Duration::.int .u8 r.1.Head.A1.x0::.int .u8 r.1.Head.A1.x1::.int .u8 r.1.Head.A1.x2::.int .u8 r.1.Head.A1.x3::.int .u8 r.1.Head.A1.x4::.int .u8 r.1.Head.A1.x5::.int .u8 r.1.Head.A2.x0::.int .u8 r.1.Head.A2.x1::.int .u8 r.1.Head.A2.x2::.int .u8 r.1.Head.A2.x3::.int .u8 r.1.Head.A2.x4::.int .u8 r.1.Head.A2.x5::.int .u8 r.1.Head.A3.x0::.int .u8 r.1.Head.A3.x1::.int .u8 r.1.Head.A3.x2::.int .u8 r.1.Head.A3.x3::.int .u8 r.1.Head.A3.x4::.int .u8 r.1.Head.A3.x5::.int .u8 r.1.Head.A4.x0::.int .u8 r.1.Head.A4.x1::.int .u8 r.1.Head.A4.x2::.int .u8 r.1.Head.A4.x3::.int .u8 r.1.Head.A4.x4::.int .u8 r.1.Head.A4.x5::.int .i64 r.1.Head.Seq::.int .i64 r.1.Head.Frag::.int .i64 r.1.Head.Tid::.int .u8 r.1.Head.Ack::.bool r.1.Head.Amsdu::.bool r.1.Head.Eosp::.ro 1 r.1.Body.length false (enR yG r.1.Body)::[]),.agg [.int .i64 r.2.1.Limit,.int .i64 r.2.1.Stay,.ro 3 r.2.1.List.length false (enR zF r.2.1.List),.ro 43 r.2.1.Group.length false (enR zD r.2.1.Group)],.int .i64 r.2.2],[],(fun E vs F=>yL hw0.1 F (fun vs F=>yL hw1.1 F (fun vs F=>F))),by simp only [ren,eS],trivial,?_⟩
   rw [Try.ntmps17]
   simp only [lC,lN,Nat.reduceAdd,Nat.reduceSub,rS,rZ,aC,aN]
   unfold F17 at H
   delta eF at H
   try dsimp only at H
   refine sq zA ?_
   simp only [go_sem,Nat.reduceAdd]
   refine zH ?_
   refine tM ?_
   refine xE zL zA 2 ?_
   simp only [zJ,tS,tZ,dS,dZ,go_sem,Nat.reduceLT,Nat.reduceAdd]
   repeat ((with_reducible refine aI ?_ ?_);exact an0)
   refine inlO (rs:=[.tmp 4,.tmp 5,.tmp 6]) Try.func23 (by kernel_rfl) rfl rfl Try.ntmps23 (caps:=[]) (tc:=[.agg [.int .i64 p0.Limit,.int .i64 p0.Stay,.ro 3 p0.List.length false (enR zF p0.List),.ro 43 p0.Group.length false (enR zD p0.Group)],.int .i64 p1]) rfl (by simp only [go_sem]) rfl ?_
   simp only [lC,lN,Nat.reduceAdd,Nat.reduceSub,rS,rZ,aC,aN]
   refine sq zA ?_
   simp only [go_sem,Nat.reduceAdd]
   refine zH ?_
   refine zH ?_
   obtain ⟨r1,e2,H⟩:=bsi H
   refine rg ct17t0_ok ?_
   simp only [go_sem,Nat.reduceLT,Nat.reduceAdd,ct17t0_19,vM,e2]
   repeat ((with_reducible refine aI ?_ ?_);exact an0)
   refine sq zA ?_
   simp only [go_sem]
   refine yE rfl trivial (fun hc=>?_) (fun hc=>?_)
   ·have hk3:(bEq r1 0)=false:=by simpa using hc
    replace H:=zO hc H
    refine sq zA ?_
    simp only [go_sem]
    refine rg zA ?_
    simp only [go_sem]
    refine xE zL zA 7 ?_
    simp only [zJ,tS,tZ,dS,dZ,go_sem,Nat.reduceLT,Nat.reduceAdd]
    repeat ((with_reducible refine aI ?_ ?_);exact an0)
    refine wX ?_
    refine zH ?_
    refine xI ?_
    refine sq zA ?_
    simp only [go_sem]
    refine yE rfl trivial (fun hc=>?_) (fun hc=>?_)
    rotate_left
    ·simp [hk3] at hc
    refine sq zA ?_
    simp only [go_sem,Nat.reduceAdd]
    repeat ((with_reducible refine aI ?_ ?_);exact an4)
    refine rg zA ?_
    simp only [go_sem,Nat.reduceLT,Nat.reduceAdd]
    obtain rfl:=Option.some.inj H
    refine ⟨[0,1,2,3],?_,?_,[],?_,?_,rfl⟩
    ·simp only [go_sem]
     try exact at0
    ·simp only [go_sem]
     try exact at0
    ·simp only [go_sem]
     exact xF (zC (xO (zC zE (zC zE (zC yK (zC yK (zC yK (zC yK (zC yK (zC yK (zC yK (zC zE (zC zE (zC zE (zC zE (zC zE (zC zE (zC zE (zC zE (zC zE (zC zE (zC zE (zC zE (zC zE (zC zE (zC zE (zC zE (zC zE (zC zE (zC zE (zC zE (zC zE (zC zE (zC zE (zC zE (zC zE (zC zE (zC zE (zC zE (zC zE (zC yK (zC yK (zC (zZ (α:=Int)) zW)))))))))))))))))))))))))))))))))))))))))) (zC (xO (zC zE (zC zE (zC (zZ (α:=TSleeper)) (zC (zZ (α:=TStored)) zW))))) (zC zE zW)))
    ·simp only [go_sem,CvH]
   have hk3:(bEq r1 0)=true:=by simpa using hc
   replace H:=zN hc H
   refine rg zA ?_
   simp only [go_sem]
   refine zH ?_
   refine sq zA ?_
   simp only [go_sem]
   repeat ((with_reducible refine aI ?_ ?_);exact an4)
   refine yE rfl trivial (fun hc=>?_) (fun hc=>?_)
   ·have hk4:((bLt p1 1) || (bLt 255 p1))=true:=by simpa using hc
    replace H:=zO hc H
    refine sq zA ?_
    simp only [go_sem]
    refine rg zA ?_
    simp only [go_sem]
    refine xE zL zA 7 ?_
    simp only [zJ,tS,tZ,dS,dZ,go_sem,Nat.reduceLT,Nat.reduceAdd]
    repeat ((with_reducible refine aI ?_ ?_);exact an0)
    refine wX ?_
    refine zH ?_
    refine xI ?_
    refine sq zA ?_
    simp only [go_sem,(by decide:bEq (2) (0)=false)]
    refine yE rfl trivial (fun hc=>?_) (fun hc=>?_)
    rotate_left
    ·cases hc
    refine sq zA ?_
    simp only [go_sem,Nat.reduceAdd]
    repeat ((with_reducible refine aI ?_ ?_);exact an4)
    refine rg zA ?_
    simp only [go_sem,Nat.reduceLT,Nat.reduceAdd]
    obtain rfl:=Option.some.inj H
    refine ⟨[0,1,2,3],?_,?_,[],?_,?_,rfl⟩
    ·simp only [go_sem]
     try exact at0
    ·simp only [go_sem]
     try exact at0
    ·simp only [go_sem]
     exact xF (zC (xO (zC zE (zC zE (zC yK (zC yK (zC yK (zC yK (zC yK (zC yK (zC yK (zC zE (zC zE (zC zE (zC zE (zC zE (zC zE (zC zE (zC zE (zC zE (zC zE (zC zE (zC zE (zC zE (zC zE (zC zE (zC zE (zC zE (zC zE (zC zE (zC zE (zC zE (zC zE (zC zE (zC zE (zC zE (zC zE (zC zE (zC zE (zC zE (zC yK (zC yK (zC (zZ (α:=Int)) zW)))))))))))))))))))))))))))))))))))))))))) (zC (xO (zC zE (zC zE (zC (zZ (α:=TSleeper)) (zC (zZ (α:=TStored)) zW))))) (zC zE zW)))
    ·simp only [go_sem,CvH]
   have hk4:((bLt p1 1) || (bLt 255 p1))=false:=by simpa using hc
   replace H:=zN hc H
   refine rg zA ?_
   simp only [go_sem]
   refine zH ?_
   obtain ⟨r5,e6,H⟩:=bsi H
   refine rg ct17t1_ok ?_
   simp only [go_sem,Nat.reduceLT,Nat.reduceAdd,ct17t1_20,eP,e6]
   repeat ((with_reducible refine aI ?_ ?_);exact an0)
   refine zH ?_
   refine sq zA ?_
   simp only [go_sem]
   refine yE rfl trivial (fun hc=>?_) (fun hc=>?_)
   ·have hk7:(r5.2)=false:=by simpa using hc
    replace H:=zO hc H
    refine sq zA ?_
    simp only [go_sem]
    refine rg zA ?_
    simp only [go_sem]
    refine xE zL zA 7 ?_
    simp only [zJ,tS,tZ,dS,dZ,go_sem,Nat.reduceLT,Nat.reduceAdd]
    repeat ((with_reducible refine aI ?_ ?_);exact an0)
    refine wX ?_
    refine zH ?_
    refine xI ?_
    refine sq zA ?_
    simp only [go_sem,(by decide:bEq (6) (0)=false)]
    refine yE rfl trivial (fun hc=>?_) (fun hc=>?_)
    rotate_left
    ·cases hc
    refine sq zA ?_
    simp only [go_sem,Nat.reduceAdd]
    repeat ((with_reducible refine aI ?_ ?_);exact an4)
    refine rg zA ?_
    simp only [go_sem,Nat.reduceLT,Nat.reduceAdd]
    obtain rfl:=Option.some.inj H
    refine ⟨[0,1,2,3],?_,?_,[],?_,?_,rfl⟩
    ·simp only [go_sem]
     try exact at0
    ·simp only [go_sem]
     try exact at0
    ·simp only [go_sem]
     exact xF (zC (xO (zC zE (zC zE (zC yK (zC yK (zC yK (zC yK (zC yK (zC yK (zC yK (zC zE (zC zE (zC zE (zC zE (zC zE (zC zE (zC zE (zC zE (zC zE (zC zE (zC zE (zC zE (zC zE (zC zE (zC zE (zC zE (zC zE (zC zE (zC zE (zC zE (zC zE (zC zE (zC zE (zC zE (zC zE (zC zE (zC zE (zC zE (zC zE (zC yK (zC yK (zC (zZ (α:=Int)) zW)))))))))))))))))))))))))))))))))))))))))) (zC (xO (zC zE (zC zE (zC (zZ (α:=TSleeper)) (zC (zZ (α:=TStored)) zW))))) (zC zE zW)))
    ·simp only [go_sem,CvH]
   have hk7:(r5.2)=true:=by simpa using hc
   replace H:=zN hc H
   refine rg zA ?_
   simp only [go_sem]
   refine zH ?_
   refine tM ?_
   refine xE zL zA 1 ?_
   simp only [zJ,tS,tZ,dS,dZ,go_sem,Nat.reduceLT,Nat.reduceAdd]
   repeat ((with_reducible refine aI ?_ ?_);exact an0)
   refine inlO (rs:=[.cell 2 31]) Try.func21 (by kernel_rfl) rfl rfl Try.ntmps21 (caps:=[]) (tc:=[.agg [.int .i64 p0.Limit,.int .i64 p0.Stay,.ro 3 p0.List.length false (enR zF p0.List),.ro 43 p0.Group.length false (enR zD p0.Group)]]) rfl (by simp only [go_sem]) rfl ?_
   simp only [lC,lN,Nat.reduceAdd,Nat.reduceSub,rS,rZ,aC,aN]
   refine sq zA ?_
   simp only [go_sem,Nat.reduceAdd]
   refine zH ?_
   obtain ⟨r8,e9,H⟩:=bsi H
   refine rg ct17t2_ok ?_
   simp only [go_sem,Nat.reduceLeDiff,Nat.reduceLT,Nat.reduceAdd,ct17t2_44,uZ,e9]
   repeat ((with_reducible refine aI ?_ ?_);exact an0)
   refine zH ?_
   refine zH ?_
   obtain ⟨f10,H⟩:=yH.1 H
   replace f10:=decide_eq_true_iff.1 f10
   refine toLitM 6 (z:=3) (n:=1) [.int .i64 ((gd r8 0).Aid),.bool ((gd r8 0).Asleep),.ro 43 (((gd r8 0).Held).length) false (enR zD ((gd r8 0).Held))] rfl f10 rfl (by decide) (fun x y hx hy=>(flat_get (f:=fun x=>zF (gd r8 x)) (n:=1) (fun _=>rfl) x y (by omega) hy).symm) ?_
   simp only [go_sem]
   rw [f10]
   refine rg zA ?_
   simp only [go_sem,Nat.reduceLeDiff,Nat.reduceLT,Nat.reduceAdd]
   repeat ((with_reducible refine aI ?_ ?_);exact an0)
   refine xI ?_
   refine loop_roundsM 2 ?_
   refine rndM ?_
   refine sq zA ?_
   simp only [go_sem,(by decide:bLt (0) (1)=true)]
   refine zH ?_
   refine yE rfl trivial (fun hc=>?_) (fun hc=>?_)
   rotate_left
   ·cases hc
   refine rg zA ?_
   simp only [go_sem]
   refine zH ?_
   refine xI ?_
   refine sq zA ?_
   simp only [go_sem]
   obtain ⟨f12,H⟩:=nI H
   obtain ⟨r13,e14,H⟩:=bsi H
   obtain ⟨f15,H⟩:=nI H
   refine yZ zL ct17t3_ok 1 (by kernel_rfl) (by kernel_rfl) ?_
   intro an han
   simp only [uC,wM,eG,xrD,xoD,tN,vS,List.append_nil,xK,refs,uI,mask,wT,place,xU,wV,wA,hit,inL,xM,ren,rnN,nrH,nrB,nrL,nr,rZ,rS,Nat.sub_self,Nat.add_zero,Nat.zero_add,Nat.reduceSub,Nat.lt_add_one,go_sem,Nat.reduceLeDiff,Nat.reduceLT,Nat.reduceAdd,Nat.reduceSub,Nat.reduceBEq,ct17t3_45,vV,f12,e14]
   repeat ((with_reducible refine aI ?_ ?_);exact an6)
   refine rg zA ?_
   simp only [go_sem,(by decide:wr IntKind.i64 ((0:Int)+1)=1)]
   refine rndM ?_
   refine sq zA ?_
   simp only [go_sem,(by decide:bLt (1) (1)=false)]
   refine zH ?_
   refine yE rfl trivial (fun hc=>?_) (fun hc=>?_)
   ·cases hc
   refine rg zA ?_
   simp only [go_sem]
   refine zH ?_
   obtain ⟨r16,e17,H⟩:=bsi H
   refine rg ct17t3_ok ?_
   simp only [go_sem,Nat.reduceLT,Nat.reduceAdd,ct17t3_45,vV,e17]
   repeat ((with_reducible refine aI ?_ ?_);exact an0)
   refine sq zA ?_
   simp only [go_sem,Nat.reduceLT,Nat.reduceAdd]
   repeat ((with_reducible refine aI ?_ ?_);exact an4)
   refine rg zA ?_
   simp only [go_sem,Nat.reduceLT,Nat.reduceAdd]
   refine xE zL zA 1 ?_
   simp only [zJ,tS,tZ,dS,dZ,go_sem,Nat.reduceAdd]
   repeat ((with_reducible refine aI ?_ ?_);exact an0)
   refine wX ?_
   refine zH ?_
   refine wY (c:=(bEq r5.1 0)) (fun hv18=>?_) (fun hv18=>?_)
   ·replace H:=zO hv18 H
    have hv18_:r5.1=0:=of_decide_eq_true hv18
    rw [hv18_]
    obtain ⟨f19,H⟩:=nI H
    refine vY zL zA (by kernel_rfl) (by kernel_rfl) ?_
    simp only [go_sem,Nat.reduceLeDiff,Nat.reduceLT,Nat.reduceAdd,f19]
    repeat ((with_reducible refine aI ?_ ?_);exact an4)
    refine rg zA ?_
    simp only [go_sem]
    refine xE zL zA 7 ?_
    simp only [zJ,tS,tZ,dS,dZ,go_sem,Nat.reduceLT,Nat.reduceAdd]
    repeat ((with_reducible refine aI ?_ ?_);exact an0)
    refine wX ?_
    refine zH ?_
    refine xI ?_
    refine sq zA ?_
    simp only [go_sem,(by decide:bEq (0) (0)=true)]
    refine yE rfl trivial (fun hc=>?_) (fun hc=>?_)
    ·cases hc
    refine sq zA ?_
    simp only [go_sem,Nat.reduceLeDiff,Nat.reduceLT,Nat.reduceAdd]
    repeat ((with_reducible refine aI ?_ ?_);exact an4)
    refine yE rfl trivial (fun hc=>?_) (fun hc=>?_)
    ·have hk20:((gd r8 0).Asleep)=false:=by simpa using hc
     replace H:=zO hc H
     refine sq zA ?_
     simp only [go_sem,Nat.reduceAdd]
     repeat ((with_reducible refine aI ?_ ?_);exact an4)
     refine rg zA ?_
     simp only [go_sem,Nat.reduceLT,Nat.reduceAdd]
     obtain rfl:=Option.some.inj H
     refine ⟨[0,1,2,3,4,5,6],?_,?_,[],?_,?_,rfl⟩
     ·simp only [go_sem]
      try exact at0
     ·simp only [go_sem,Nat.reduceBEq]
      try exact at0
     ·simp only [go_sem]
      exact xF (zC (xO (zC zE (zC zE (zC yK (zC yK (zC yK (zC yK (zC yK (zC yK (zC yK (zC zE (zC zE (zC zE (zC zE (zC zE (zC zE (zC zE (zC zE (zC zE (zC zE (zC zE (zC zE (zC zE (zC zE (zC zE (zC zE (zC zE (zC zE (zC zE (zC zE (zC zE (zC zE (zC zE (zC zE (zC zE (zC zE (zC zE (zC zE (zC zE (zC yK (zC yK (zC (zZ (α:=Int)) zW)))))))))))))))))))))))))))))))))))))))))) (zC (xO (zC zE (zC zE (zC (zZ (α:=TSleeper)) (zC (zZ (α:=TStored)) zW))))) (zC zE zW)))
     ·simp only [go_sem,CvH]
    have hk20:((gd r8 0).Asleep)=true:=by simpa using hc
    replace H:=zN hc H
    refine sq zA ?_
    simp only [go_sem,Nat.reduceLT,Nat.reduceAdd]
    repeat ((with_reducible refine aI ?_ ?_);exact an0)
    refine yE rfl trivial (fun hc=>?_) (fun hc=>?_)
    ·have hk21:(bEq (r13.length:Nat) 0)=true:=by simpa using hc
     replace H:=zO hc H
     refine sq zA ?_
     simp only [go_sem,Nat.reduceAdd]
     repeat ((with_reducible refine aI ?_ ?_);exact an4)
     refine rg zA ?_
     simp only [go_sem,Nat.reduceLT,Nat.reduceAdd]
     obtain rfl:=Option.some.inj H
     refine ⟨[0,1,2,3,4,5,6],?_,?_,[],?_,?_,rfl⟩
     ·simp only [go_sem]
      try exact at0
     ·simp only [go_sem,Nat.reduceBEq]
      try exact at0
     ·simp only [go_sem]
      exact xF (zC (xO (zC zE (zC zE (zC yK (zC yK (zC yK (zC yK (zC yK (zC yK (zC yK (zC zE (zC zE (zC zE (zC zE (zC zE (zC zE (zC zE (zC zE (zC zE (zC zE (zC zE (zC zE (zC zE (zC zE (zC zE (zC zE (zC zE (zC zE (zC zE (zC zE (zC zE (zC zE (zC zE (zC zE (zC zE (zC zE (zC zE (zC zE (zC zE (zC yK (zC yK (zC (zZ (α:=Int)) zW)))))))))))))))))))))))))))))))))))))))))) (zC (xO (zC zE (zC zE (zC (zZ (α:=TSleeper)) (zC (zZ (α:=TStored)) zW))))) (zC zE zW)))
     ·simp only [go_sem,CvH]
    have hk21:(bEq (r13.length:Nat) 0)=false:=by simpa using hc
    replace H:=zN hc H
    refine rg zA ?_
    simp only [go_sem]
    refine zH ?_
    refine tM ?_
    refine xE zL zA 4 ?_
    simp only [zJ,tS,tZ,dS,dZ,go_sem,Nat.reduceLT,Nat.reduceAdd]
    repeat ((with_reducible refine aI ?_ ?_);exact an0)
    refine inlO (rs:=[.cell 4 82]) Try.func32 (by kernel_rfl) rfl rfl Try.ntmps32 (caps:=[]) (tc:=[.sl 7 43 0 r13.length false,.fn 33 []]) rfl (by simp only [go_sem]) rfl ?_
    simp only [lC,lN,Nat.reduceAdd,Nat.reduceSub,rS,rZ,aC,aN]
    refine sq zA ?_
    simp only [go_sem,Nat.reduceAdd]
    refine zH ?_
    refine sq zA ?_
    simp only [go_sem]
    repeat ((with_reducible refine aI ?_ ?_);exact an0)
    refine yE rfl trivial (fun hc=>?_) (fun hc=>?_)
    ·have hk22:(bLt (r13.length:Nat) 1)=true:=by simpa using hc
     replace H:=zO hc H
     cases H
    have hk22:(bLt (r13.length:Nat) 1)=false:=by simpa using hc
    replace H:=zN hc H
    refine rg zA ?_
    simp only [go_sem]
    refine zH ?_
    obtain ⟨f23,H⟩:=nI H
    refine rg zA ?_
    simp only [go_sem,Nat.reduceLT,Nat.reduceAdd,f23]
    repeat ((with_reducible refine aI ?_ ?_);exact an4)
    refine zH ?_
    refine sq zA ?_
    simp only [go_sem]
    refine xI ?_
    refine xA (fun s:Int × TStored=>(.sl 7 43 0 r13.length false::.fn 33 []::.top::.top::.ptr 9 0 0 0::.ptr 10 0 0 0::.int .i64 s.1::tp 26 [])) (fun s=>[.dead,.lit 54 (.int .u8 0::.int .u8 0::.bool false::.bool false::.bool false::.bool false::.bool false::.bool false::.bool false::.int .i64 0::.int .u8 0::.int .u8 0::.int .u8 0::.int .u8 0::.int .u8 0::.int .u8 0::.int .u8 0::.int .u8 0::.int .u8 0::.int .u8 0::.int .u8 0::.int .u8 0::.int .u8 0::.int .u8 0::.int .u8 0::.int .u8 0::.int .u8 0::.int .u8 0::.int .u8 0::.int .u8 0::.int .u8 0::.int .u8 0::.int .u8 0::.int .u8 0::.int .i64 0::.int .i64 0::.int .i64 0::.int .u8 0::.bool false::.bool false::.ro 0 0 true (fun _ _=>.top)::[]),.lit 31 [.int .i64 0,.int .i64 0,.ro 0 0 true (fun _ _=>.top),.ro 0 0 true (fun _ _=>.top)],.lit 31 [.int .i64 p0.Limit,.int .i64 p0.Stay,.sl 6 3 0 1 false,.sl 8 43 0 r16.length false],.dead,.dead,.lit 72 [.int .i64 ((gd r8 0).Aid),.bool ((gd r8 0).Asleep),.sl 7 43 0 r13.length false],.row 82 43 r13.length (enR zD r13),.row 82 43 r16.length (enR zD r16),.lit 82 (.int .u8 0::.int .i64 0::.int .u8 0::.int .u8 0::.bool false::.bool false::.bool false::.bool false::.bool false::.bool false::.bool false::.int .i64 0::.int .u8 0::.int .u8 0::.int .u8 0::.int .u8 0::.int .u8 0::.int .u8 0::.int .u8 0::.int .u8 0::.int .u8 0::.int .u8 0::.int .u8 0::.int .u8 0::.int .u8 0::.int .u8 0::.int .u8 0::.int .u8 0::.int .u8 0::.int .u8 0::.int .u8 0::.int .u8 0::.int .u8 0::.int .u8 0::.int .u8 0::.int .u8 0::.int .i64 0::.int .i64 0::.int .i64 0::.int .u8 0::.bool false::.bool false::.ro 0 0 true (fun _ _=>.top)::[]),.lit 82 (.int .u8 s.2.Cat::.int .i64 s.2.At::.int .u8 s.2.Frame.Head.Kind::.int .u8 s.2.Frame.Head.Sub::.bool s.2.Frame.Head.ToDs::.bool s.2.Frame.Head.FromDs::.bool s.2.Frame.Head.More::.bool s.2.Frame.Head.Retry::.bool s.2.Frame.Head.Sleep::.bool s.2.Frame.Head.MoreData::.bool s.2.Frame.Head.Protected::.int .i64 s.2.Frame.Head.Duration::.int .u8 s.2.Frame.Head.A1.x0::.int .u8 s.2.Frame.Head.A1.x1::.int .u8 s.2.Frame.Head.A1.x2::.int .u8 s.2.Frame.Head.A1.x3::.int .u8 s.2.Frame.Head.A1.x4::.int .u8 s.2.Frame.Head.A1.x5::.int .u8 s.2.Frame.Head.A2.x0::.int .u8 s.2.Frame.Head.A2.x1::.int .u8 s.2.Frame.Head.A2.x2::.int .u8 s.2.Frame.Head.A2.x3::.int .u8 s.2.Frame.Head.A2.x4::.int .u8 s.2.Frame.Head.A2.x5::.int .u8 s.2.Frame.Head.A3.x0::.int .u8 s.2.Frame.Head.A3.x1::.int .u8 s.2.Frame.Head.A3.x2::.int .u8 s.2.Frame.Head.A3.x3::.int .u8 s.2.Frame.Head.A3.x4::.int .u8 s.2.Frame.Head.A3.x5::.int .u8 s.2.Frame.Head.A4.x0::.int .u8 s.2.Frame.Head.A4.x1::.int .u8 s.2.Frame.Head.A4.x2::.int .u8 s.2.Frame.Head.A4.x3::.int .u8 s.2.Frame.Head.A4.x4::.int .u8 s.2.Frame.Head.A4.x5::.int .i64 s.2.Frame.Head.Seq::.int .i64 s.2.Frame.Head.Frag::.int .i64 s.2.Frame.Head.Tid::.int .u8 s.2.Frame.Head.Ack::.bool s.2.Frame.Head.Amsdu::.bool s.2.Frame.Head.Eosp::.ro 1 s.2.Frame.Body.length false (enR yG s.2.Frame.Body)::[])]) (fun e:TStored=>(tp 4 (.ptr 9 0 0 0::.ptr 10 0 0 0::tp 27 []))) (fun e=>[.dead,.lit 54 (.int .u8 0::.int .u8 0::.bool false::.bool false::.bool false::.bool false::.bool false::.bool false::.bool false::.int .i64 0::.int .u8 0::.int .u8 0::.int .u8 0::.int .u8 0::.int .u8 0::.int .u8 0::.int .u8 0::.int .u8 0::.int .u8 0::.int .u8 0::.int .u8 0::.int .u8 0::.int .u8 0::.int .u8 0::.int .u8 0::.int .u8 0::.int .u8 0::.int .u8 0::.int .u8 0::.int .u8 0::.int .u8 0::.int .u8 0::.int .u8 0::.int .u8 0::.int .i64 0::.int .i64 0::.int .i64 0::.int .u8 0::.bool false::.bool false::.ro 0 0 true (fun _ _=>.top)::[]),.lit 31 [.int .i64 0,.int .i64 0,.ro 0 0 true (fun _ _=>.top),.ro 0 0 true (fun _ _=>.top)],.lit 31 [.int .i64 p0.Limit,.int .i64 p0.Stay,.sl 6 3 0 1 false,.sl 8 43 0 r16.length false],.dead,.dead,.lit 72 [.int .i64 ((gd r8 0).Aid),.bool ((gd r8 0).Asleep),.sl 7 43 0 r13.length false],.row 82 43 r13.length (enR zD r13),.row 82 43 r16.length (enR zD r16),.lit 82 (.int .u8 0::.int .i64 0::.int .u8 0::.int .u8 0::.bool false::.bool false::.bool false::.bool false::.bool false::.bool false::.bool false::.int .i64 0::.int .u8 0::.int .u8 0::.int .u8 0::.int .u8 0::.int .u8 0::.int .u8 0::.int .u8 0::.int .u8 0::.int .u8 0::.int .u8 0::.int .u8 0::.int .u8 0::.int .u8 0::.int .u8 0::.int .u8 0::.int .u8 0::.int .u8 0::.int .u8 0::.int .u8 0::.int .u8 0::.int .u8 0::.int .u8 0::.int .u8 0::.int .u8 0::.int .i64 0::.int .i64 0::.int .i64 0::.int .u8 0::.bool false::.bool false::.ro 0 0 true (fun _ _=>.top)::[]),.lit 82 (.int .u8 e.Cat::.int .i64 e.At::.int .u8 e.Frame.Head.Kind::.int .u8 e.Frame.Head.Sub::.bool e.Frame.Head.ToDs::.bool e.Frame.Head.FromDs::.bool e.Frame.Head.More::.bool e.Frame.Head.Retry::.bool e.Frame.Head.Sleep::.bool e.Frame.Head.MoreData::.bool e.Frame.Head.Protected::.int .i64 e.Frame.Head.Duration::.int .u8 e.Frame.Head.A1.x0::.int .u8 e.Frame.Head.A1.x1::.int .u8 e.Frame.Head.A1.x2::.int .u8 e.Frame.Head.A1.x3::.int .u8 e.Frame.Head.A1.x4::.int .u8 e.Frame.Head.A1.x5::.int .u8 e.Frame.Head.A2.x0::.int .u8 e.Frame.Head.A2.x1::.int .u8 e.Frame.Head.A2.x2::.int .u8 e.Frame.Head.A2.x3::.int .u8 e.Frame.Head.A2.x4::.int .u8 e.Frame.Head.A2.x5::.int .u8 e.Frame.Head.A3.x0::.int .u8 e.Frame.Head.A3.x1::.int .u8 e.Frame.Head.A3.x2::.int .u8 e.Frame.Head.A3.x3::.int .u8 e.Frame.Head.A3.x4::.int .u8 e.Frame.Head.A3.x5::.int .u8 e.Frame.Head.A4.x0::.int .u8 e.Frame.Head.A4.x1::.int .u8 e.Frame.Head.A4.x2::.int .u8 e.Frame.Head.A4.x3::.int .u8 e.Frame.Head.A4.x4::.int .u8 e.Frame.Head.A4.x5::.int .i64 e.Frame.Head.Seq::.int .i64 e.Frame.Head.Frag::.int .i64 e.Frame.Head.Tid::.int .u8 e.Frame.Head.Ack::.bool e.Frame.Head.Amsdu::.bool e.Frame.Head.Eosp::.ro 1 e.Frame.Body.length false (enR yG e.Frame.Body)::[])]) H ?_ (fun s o H hn1_1 hn2_1=>?_) (fun w1_5 H=>?_)
    ·refine zI ⟨[some 0,some 1,some 2,some 3,some 4,some 5,some 6,some 7,some 8,some 9,some 10],?_,?_,by rfl,by rfl⟩
     ·simp [CvL,Cv,yB,tp]
     ·exact ⟨zB,cv,cv,cv,zB,zB,cv,(zQ nfA),(zQ nfA),cv,cv,trivial⟩
    ·obtain ⟨v1_1,v1_2⟩:=s
     unfold F17_L1 at H
     delta eF at H
     try dsimp only at H ⊢
     try simp only [tp]
     refine zH ?_
     refine sq zA ?_
     simp only [go_sem,Nat.reduceAdd]
     repeat ((with_reducible refine aI ?_ ?_);exact an0)
     refine condM' rfl trivial (fun hc=>?_) (fun hc=>?_)
     ·have hk24:(bLt v1_1 (r13.length:Nat))=false:=by simpa using hc
      replace H:=zN hc H
      refine rg zA ?_
      simp only [go_sem]
      refine ⟨_,(Option.some.inj H).symm,?_⟩
      refine zI ⟨[some 0,some 1,some 2,some 3,some 4,some 5,some 6,some 7,some 8,some 9,some 10],?_,?_,by rfl,by rfl⟩
      ·simp [CvL,Cv,yB]
      ·exact ⟨zB,cv,cv,cv,zB,zB,cv,(zQ nfA),(zQ nfA),cv,cv,trivial⟩
     have hk24:(bLt v1_1 (r13.length:Nat))=true:=by simpa using hc
     replace H:=zO hc H
     refine rg zA ?_
     simp only [go_sem]
     refine zH ?_
     refine xI ?_
     refine zH ?_
     obtain ⟨f25,H⟩:=nI H
     obtain ⟨r26,e27,H⟩:=bsi H
     refine vY zL ct17t4_ok (by kernel_rfl) (by kernel_rfl) ?_
     simp only [go_sem,Nat.reduceLT,Nat.reduceAdd,ct17t4_33,body33,f25,e27]
     repeat ((with_reducible refine aI ?_ ?_);exact an0)
     refine condM' rfl trivial (fun hc=>?_) (fun hc=>?_)
     ·have hk28:(bLt 0 r26)=false:=by simpa using hc
      replace H:=zN hc H
      refine rg zA ?_
      simp only [go_sem]
      refine rg zA ?_
      simp only [go_sem]
      refine ⟨_,(Option.some.inj H).symm,?_⟩
      refine zI ⟨[some 0,some 1,some 2,some 3,some 4,some 5,some 6,some 7,some 8,some 9,some 10],?_,?_,by rfl,by rfl⟩
      ·simp [CvL,Cv,yB]
      ·exact ⟨zB,cv,cv,cv,zB,zB,cv,(zQ nfA),(zQ nfA),cv,cv,trivial⟩
     have hk28:(bLt 0 r26)=true:=by simpa using hc
     replace H:=zO hc H
     obtain ⟨f29,H⟩:=nI H
     refine rg zA ?_
     simp only [go_sem,Nat.reduceLT,Nat.reduceAdd,f29]
     repeat ((with_reducible refine aI ?_ ?_);exact an4)
     refine rg zA ?_
     simp only [go_sem]
     refine ⟨_,(Option.some.inj H).symm,?_⟩
     refine zI ⟨[some 0,some 1,some 2,some 3,some 4,some 5,some 6,some 7,some 8,some 9,some 10],?_,?_,by rfl,by rfl⟩
     ·simp [CvL,Cv,yB]
     ·exact ⟨zB,cv,cv,cv,zB,zB,cv,(zQ nfA),(zQ nfA),cv,cv,trivial⟩
    ·try dsimp only at H ⊢
     try simp only [tp]
     try simp only [yR]
     refine sq zA ?_
     simp only [go_sem,Nat.reduceLT,Nat.reduceAdd]
     repeat ((with_reducible refine aI ?_ ?_);exact an4)
     refine rg zA ?_
     simp only [go_sem,Nat.reduceLT,Nat.reduceAdd]
     refine xE zL zA 3 ?_
     simp only [zJ,tS,tZ,dS,dZ,go_sem,Nat.reduceLeDiff,Nat.reduceLT,Nat.reduceAdd]
     repeat ((with_reducible refine aI ?_ ?_);exact an0)
     refine wX ?_
     refine zH ?_
     obtain ⟨r30,e31,H⟩:=bsi H
     refine rg ct17t5_ok ?_
     simp only [go_sem,Nat.reduceLT,Nat.reduceAdd,ct17t5_35,body35_1,e31]
     repeat ((with_reducible refine aI ?_ ?_);exact an0)
     refine zH ?_
     obtain ⟨f32,H⟩:=nI H
     refine rg zA ?_
     simp only [go_sem,Nat.reduceLT,Nat.reduceAdd,reduceCtorEq,f32]
     repeat ((with_reducible refine aI ?_ ?_);exact an4)
     refine zH ?_
     obtain ⟨f33,H⟩:=yH.1 H
     replace f33:=delb_iff.1 f33
     refine rg ct17t6_ok ?_
     simp only [go_sem,Nat.reduceLT,Nat.reduceAdd,ct17t6_37,delN,f33]
     repeat ((with_reducible refine aI ?_ ?_);exact an0)
     refine zH ?_
     obtain ⟨w34,hw35,H⟩:=bsj H
     have lhw35:w34.length=r13.length - ((wr .i64 (r30+1)).toNat - r30.toNat):=by rw [← hw35];exact (del_len f33 cl)
     refine fY (t2:=(tp 4 (.ptr 1 0 0 0::.ptr 2 0 0 0::.top::.ptr 3 0 0 0::.ptr 6 3 0 0::tp 75 []))) (h2:=[.dead,.lit 54 (.int .u8 ((((gd r13 r30.toNat).Frame).Head).Kind)::.int .u8 ((((gd r13 r30.toNat).Frame).Head).Sub)::.bool ((((gd r13 r30.toNat).Frame).Head).ToDs)::.bool ((((gd r13 r30.toNat).Frame).Head).FromDs)::.bool ((((gd r13 r30.toNat).Frame).Head).More)::.bool ((((gd r13 r30.toNat).Frame).Head).Retry)::.bool ((((gd r13 r30.toNat).Frame).Head).Sleep)::.bool ((((gd r13 r30.toNat).Frame).Head).MoreData)::.bool ((((gd r13 r30.toNat).Frame).Head).Protected)::.int .i64 ((((gd r13 r30.toNat).Frame).Head).Duration)::.int .u8 (((((gd r13 r30.toNat).Frame).Head).A1).x0)::.int .u8 (((((gd r13 r30.toNat).Frame).Head).A1).x1)::.int .u8 (((((gd r13 r30.toNat).Frame).Head).A1).x2)::.int .u8 (((((gd r13 r30.toNat).Frame).Head).A1).x3)::.int .u8 (((((gd r13 r30.toNat).Frame).Head).A1).x4)::.int .u8 (((((gd r13 r30.toNat).Frame).Head).A1).x5)::.int .u8 (((((gd r13 r30.toNat).Frame).Head).A2).x0)::.int .u8 (((((gd r13 r30.toNat).Frame).Head).A2).x1)::.int .u8 (((((gd r13 r30.toNat).Frame).Head).A2).x2)::.int .u8 (((((gd r13 r30.toNat).Frame).Head).A2).x3)::.int .u8 (((((gd r13 r30.toNat).Frame).Head).A2).x4)::.int .u8 (((((gd r13 r30.toNat).Frame).Head).A2).x5)::.int .u8 (((((gd r13 r30.toNat).Frame).Head).A3).x0)::.int .u8 (((((gd r13 r30.toNat).Frame).Head).A3).x1)::.int .u8 (((((gd r13 r30.toNat).Frame).Head).A3).x2)::.int .u8 (((((gd r13 r30.toNat).Frame).Head).A3).x3)::.int .u8 (((((gd r13 r30.toNat).Frame).Head).A3).x4)::.int .u8 (((((gd r13 r30.toNat).Frame).Head).A3).x5)::.int .u8 (((((gd r13 r30.toNat).Frame).Head).A4).x0)::.int .u8 (((((gd r13 r30.toNat).Frame).Head).A4).x1)::.int .u8 (((((gd r13 r30.toNat).Frame).Head).A4).x2)::.int .u8 (((((gd r13 r30.toNat).Frame).Head).A4).x3)::.int .u8 (((((gd r13 r30.toNat).Frame).Head).A4).x4)::.int .u8 (((((gd r13 r30.toNat).Frame).Head).A4).x5)::.int .i64 ((((gd r13 r30.toNat).Frame).Head).Seq)::.int .i64 ((((gd r13 r30.toNat).Frame).Head).Frag)::.int .i64 ((((gd r13 r30.toNat).Frame).Head).Tid)::.int .u8 ((((gd r13 r30.toNat).Frame).Head).Ack)::.bool ((((gd r13 r30.toNat).Frame).Head).Amsdu)::.bool ((((gd r13 r30.toNat).Frame).Head).Eosp)::.ro 1 ((((gd r13 r30.toNat).Frame).Body).length) false (enR yG (((gd r13 r30.toNat).Frame).Body))::[]),.lit 31 [.int .i64 0,.int .i64 0,.ro 0 0 true (fun _ _=>.top),.ro 0 0 true (fun _ _=>.top)],.lit 31 [.int .i64 p0.Limit,.int .i64 p0.Stay,.sl 6 3 0 1 false,.sl 8 43 0 r16.length false],.dead,.dead,.lit 72 [.int .i64 ((gd r8 0).Aid),.bool ((gd r8 0).Asleep),.sl 12 43 0 w34.length false],.dead,.row 82 43 r16.length (enR zD r16),.lit 82 (.int .u8 w1_5.Cat::.int .i64 w1_5.At::.int .u8 w1_5.Frame.Head.Kind::.int .u8 w1_5.Frame.Head.Sub::.bool w1_5.Frame.Head.ToDs::.bool w1_5.Frame.Head.FromDs::.bool w1_5.Frame.Head.More::.bool w1_5.Frame.Head.Retry::.bool w1_5.Frame.Head.Sleep::.bool w1_5.Frame.Head.MoreData::.bool w1_5.Frame.Head.Protected::.int .i64 w1_5.Frame.Head.Duration::.int .u8 w1_5.Frame.Head.A1.x0::.int .u8 w1_5.Frame.Head.A1.x1::.int .u8 w1_5.Frame.Head.A1.x2::.int .u8 w1_5.Frame.Head.A1.x3::.int .u8 w1_5.Frame.Head.A1.x4::.int .u8 w1_5.Frame.Head.A1.x5::.int .u8 w1_5.Frame.Head.A2.x0::.int .u8 w1_5.Frame.Head.A2.x1::.int .u8 w1_5.Frame.Head.A2.x2::.int .u8 w1_5.Frame.Head.A2.x3::.int .u8 w1_5.Frame.Head.A2.x4::.int .u8 w1_5.Frame.Head.A2.x5::.int .u8 w1_5.Frame.Head.A3.x0::.int .u8 w1_5.Frame.Head.A3.x1::.int .u8 w1_5.Frame.Head.A3.x2::.int .u8 w1_5.Frame.Head.A3.x3::.int .u8 w1_5.Frame.Head.A3.x4::.int .u8 w1_5.Frame.Head.A3.x5::.int .u8 w1_5.Frame.Head.A4.x0::.int .u8 w1_5.Frame.Head.A4.x1::.int .u8 w1_5.Frame.Head.A4.x2::.int .u8 w1_5.Frame.Head.A4.x3::.int .u8 w1_5.Frame.Head.A4.x4::.int .u8 w1_5.Frame.Head.A4.x5::.int .i64 w1_5.Frame.Head.Seq::.int .i64 w1_5.Frame.Head.Frag::.int .i64 w1_5.Frame.Head.Tid::.int .u8 w1_5.Frame.Head.Ack::.bool w1_5.Frame.Head.Amsdu::.bool w1_5.Frame.Head.Eosp::.ro 1 w1_5.Frame.Body.length false (enR yG w1_5.Frame.Body)::[]),.lit 82 (.int .u8 w1_5.Cat::.int .i64 w1_5.At::.int .u8 w1_5.Frame.Head.Kind::.int .u8 w1_5.Frame.Head.Sub::.bool w1_5.Frame.Head.ToDs::.bool w1_5.Frame.Head.FromDs::.bool w1_5.Frame.Head.More::.bool w1_5.Frame.Head.Retry::.bool w1_5.Frame.Head.Sleep::.bool w1_5.Frame.Head.MoreData::.bool w1_5.Frame.Head.Protected::.int .i64 w1_5.Frame.Head.Duration::.int .u8 w1_5.Frame.Head.A1.x0::.int .u8 w1_5.Frame.Head.A1.x1::.int .u8 w1_5.Frame.Head.A1.x2::.int .u8 w1_5.Frame.Head.A1.x3::.int .u8 w1_5.Frame.Head.A1.x4::.int .u8 w1_5.Frame.Head.A1.x5::.int .u8 w1_5.Frame.Head.A2.x0::.int .u8 w1_5.Frame.Head.A2.x1::.int .u8 w1_5.Frame.Head.A2.x2::.int .u8 w1_5.Frame.Head.A2.x3::.int .u8 w1_5.Frame.Head.A2.x4::.int .u8 w1_5.Frame.Head.A2.x5::.int .u8 w1_5.Frame.Head.A3.x0::.int .u8 w1_5.Frame.Head.A3.x1::.int .u8 w1_5.Frame.Head.A3.x2::.int .u8 w1_5.Frame.Head.A3.x3::.int .u8 w1_5.Frame.Head.A3.x4::.int .u8 w1_5.Frame.Head.A3.x5::.int .u8 w1_5.Frame.Head.A4.x0::.int .u8 w1_5.Frame.Head.A4.x1::.int .u8 w1_5.Frame.Head.A4.x2::.int .u8 w1_5.Frame.Head.A4.x3::.int .u8 w1_5.Frame.Head.A4.x4::.int .u8 w1_5.Frame.Head.A4.x5::.int .i64 w1_5.Frame.Head.Seq::.int .i64 w1_5.Frame.Head.Frag::.int .i64 w1_5.Frame.Head.Tid::.int .u8 w1_5.Frame.Head.Ack::.bool w1_5.Frame.Head.Amsdu::.bool w1_5.Frame.Head.Eosp::.ro 1 w1_5.Frame.Body.length false (enR yG w1_5.Frame.Body)::[]),.lit 5 [.int .u8 w1_5.Cat],.row 82 43 w34.length (enR zD w34)]) ?_ ?_
     ·refine zI ⟨[some 0,some 1,some 2,some 3,some 4,some 5,some 6,some 7,some 8,some 9,some 10,some 11,some 12],?_,?_,by rfl,by rfl⟩
      ·simp [CvL,Cv,yB,tp]
      ·exact ⟨zB,(by simp [CvB,CvL,Cv,wB,geth]),(by simp [CvB,CvL,Cv,wB,geth]),(by simp [CvB,CvL,Cv,wB,geth,yB]),zB,zB,(by simp [CvB,CvL,Cv,wB,geth,yB,lhw35]),zB,zK yP rfl (fun _ _ _ _=>rfl),(by simp [CvB,CvL,Cv,wB,geth]),(by simp [CvB,CvL,Cv,wB,geth]),(by simp [CvB,CvL,Cv,wB,geth]),zK yP lhw35 (hw35 ▸ (del_row f33 cl (fun _ _ _ _=>rfl))),trivial⟩
     simp only [tp]
     refine rg zA ?_
     simp only [go_sem,Nat.reduceLeDiff,Nat.reduceLT,Nat.reduceAdd,reduceCtorEq]
     repeat ((with_reducible refine aI ?_ ?_);exact an0)
     refine zH ?_
     refine yZ zL zA 0 (by kernel_rfl) (by kernel_rfl) ?_
     intro an han
     simp only [uC,wM,eG,xrD,xoD,tN,vS,List.append_nil,xK,refs,mask,wT,place,xU,wV,wA,hit,inL,xM,nrH,nrB,nrL,nr,rZ,Nat.sub_self,Nat.add_zero,Nat.zero_add,Nat.reduceSub,Nat.lt_add_one,go_sem,Nat.reduceLeDiff,Nat.reduceLT,Nat.reduceAdd,Nat.reduceSub,Nat.reduceBEq]
     repeat ((with_reducible refine aI ?_ ?_);exact an6)
     refine eM [12] ?_ ?_
     ·simp only [go_sem,Nat.reduceBEq]
      try exact at0
     simp only [go_sem,Nat.reduceBEq,Nat.reduceAdd]
     refine ofLitM 6 3 1 1 (litC 3 [.int .i64 ((gd r8 0).Aid),.bool ((gd r8 0).Asleep),.ro 43 w34.length false (enR zD w34)]) [.int .i64 ((gd r8 0).Aid),.bool ((gd r8 0).Asleep),.ro 43 w34.length false (enR zD w34)] rfl rfl rfl (fun x y hx hy=>rfl) ?_
     simp only [go_sem]
     refine rg zA ?_
     simp only [go_sem,Nat.reduceLT,Nat.reduceAdd]
     obtain rfl:=Option.some.inj H
     refine ⟨[6,8,1,2,3,9,10,11],?_,?_,[],?_,?_,rfl⟩
     ·simp only [go_sem,Nat.reduceBEq]
      try exact at0
     ·simp only [go_sem,Nat.reduceBEq]
      try exact at0
     ·simp only [go_sem,Nat.reduceBEq]
      exact xF (zC (xO (zC zE (zC zE (zC yK (zC yK (zC yK (zC yK (zC yK (zC yK (zC yK (zC zE (zC zE (zC zE (zC zE (zC zE (zC zE (zC zE (zC zE (zC zE (zC zE (zC zE (zC zE (zC zE (zC zE (zC zE (zC zE (zC zE (zC zE (zC zE (zC zE (zC zE (zC zE (zC zE (zC zE (zC zE (zC zE (zC zE (zC zE (zC zE (zC yK (zC yK (zC (Cv_nf (by simp only [nref])) zW)))))))))))))))))))))))))))))))))))))))))) (zC (xO (zC zE (zC zE (zC (uD (by first|rfl|simp) (yY (f:=zF) [(TSleeper.mk ((gd r8 0).Aid) ((gd r8 0).Asleep) w34)] (fun _ _=>rfl) rfl)) (zC (uD (by first|rfl|simp) (fun _ _ _ _=>rfl)) zW))))) (zC zE zW)))
     ·simp only [go_sem,CvH]
   replace H:=zN hv18 H
   cases H
  ·cases hb
 ·unfold body17 at hb
  split at hb<;>cases hb
noncomputable def F5 (p0:TWakeRule):Option (Int) :=
 bif ((((!((((bLe 0 p0.Id) && (bLe p0.Id 255)) && (bLe 0 p0.Group)) && (bLe p0.Group 255))) || (!(((((bLe 0 p0.Every) && (bLe p0.Every 4294967296)) && (bLe 1 p0.Length)) && (bLe p0.Length 4294967296)) && ((bEq p0.Every 0) || (bLe p0.Length p0.Every))))) || (bLt p0.Start 0)) || (bLt 1099511627776 p0.Start)) then (some 8) else (some 0)
noncomputable def body5:List AV->AR
 | [v0]=>.pure (aK 5 wG v0/\(F5 (g_TWakeRule (aL v0))).isSome=true) (.int .i64 (gt (F5 (g_TWakeRule (aL v0)))))
 | _=>.fail
theorem ok5:xZ Try.prog 5 (zV body5):=by
 refine xC body5 (rs:=[.tmp 2]) Try.func5 (by kernel_rfl) rfl rfl ?_
 intro l ob v hb hob
 unfold body5 at hb
 split at hb
 ·rename_i v0
  injection hb with q1 q2;subst q1 q2
  obtain ⟨hk0_0,hob⟩:=hob
  obtain ⟨r,H⟩:=oE.1 hob
  rw [H,yD]
  have hw0:=wA_TWakeRule hk0_0
  generalize g_TWakeRule (aL v0)=p0 at H hw0
  refine ⟨[.agg [.int .i64 p0.Id,.int .i64 p0.Start,.int .i64 p0.Every,.int .i64 p0.Length,.int .i64 p0.Group]],_,(fun E vs F=>yL hw0.1 F (fun vs F=>F)),rfl,rfl,?_⟩
  rw [Try.ntmps5]
  simp only [lC,lN,Nat.reduceAdd,Nat.reduceSub,rS,rZ,aC,aN]
  unfold F5 at H
  try dsimp only at H
  refine sq zA ?_
  simp only [go_sem]
  refine sq zA ?_
  simp only [go_sem,Nat.reduceLeDiff,Nat.reduceLT,Nat.reduceAdd]
  repeat ((with_reducible refine aI ?_ ?_);exact an4)
  refine sq zA ?_
  simp only [go_sem,Nat.reduceLeDiff,Nat.reduceLT,Nat.reduceAdd]
  repeat ((with_reducible refine aI ?_ ?_);exact an4)
  refine zH ?_
  refine sq zA ?_
  simp only [go_sem,Nat.reduceLeDiff,Nat.reduceLT,Nat.reduceAdd]
  repeat ((with_reducible refine aI ?_ ?_);exact an4)
  refine yE rfl trivial (fun hc=>?_) (fun hc=>?_)
  ·have hk1:((((!((((bLe 0 p0.Id) && (bLe p0.Id 255)) && (bLe 0 p0.Group)) && (bLe p0.Group 255))) || (!(((((bLe 0 p0.Every) && (bLe p0.Every 4294967296)) && (bLe 1 p0.Length)) && (bLe p0.Length 4294967296)) && ((bEq p0.Every 0) || (bLe p0.Length p0.Every))))) || (bLt p0.Start 0)) || (bLt 1099511627776 p0.Start))=true:=by first|simpa using hc|simpa only [Bool.not_eq_true',Bool.not_eq_false'] using hc
   replace H:=zO hc H
   refine sq zA ?_
   simp only [go_sem]
   refine rg zA ?_
   simp only [go_sem]
   obtain rfl:=Option.some.inj H
   first|rfl|simp only [Bool.and_false,Bool.false_and,Bool.and_true,Bool.true_and]
  have hk1:((((!((((bLe 0 p0.Id) && (bLe p0.Id 255)) && (bLe 0 p0.Group)) && (bLe p0.Group 255))) || (!(((((bLe 0 p0.Every) && (bLe p0.Every 4294967296)) && (bLe 1 p0.Length)) && (bLe p0.Length 4294967296)) && ((bEq p0.Every 0) || (bLe p0.Length p0.Every))))) || (bLt p0.Start 0)) || (bLt 1099511627776 p0.Start))=false:=by first|simpa using hc|simpa only [Bool.not_eq_true',Bool.not_eq_false'] using hc
  replace H:=zN hc H
  refine rg zA ?_
  simp only [go_sem]
  refine sq zA ?_
  simp only [go_sem]
  refine rg zA ?_
  simp only [go_sem]
  obtain rfl:=Option.some.inj H
  first|rfl|simp only [Bool.and_false,Bool.false_and,Bool.and_true,Bool.true_and]
 ·cases hb
noncomputable def ct14t0:Ct:=tab [(5,zV body5)]
theorem ct14t0_ok:yU Try.prog ct14t0:=zP ok5 <| zX
theorem ct14t0_5 (l:List AV) (h:List ABlk):ct14t0 5 l h=zV body5 l h:=rfl
noncomputable def F14 (p0:TWakeRule) (p1:Int):Option (Int × Bool) :=
 (F5 p0).bind fun r1=>bif (!bEq r1 0) then (some (0,false)) else (bif (bLe p0.Start p1) then (bif ((bEq p0.Every 0) || (bLt 1099511627776 p1)) then (some (0,false)) else (need (!(bEq p0.Every 0)) <| bif (bLt 1099511627776 (wr .i64 (p0.Start+(wr .i64 ((wr .i64 ((wr .i64 ((wr .i64 (p1 - p0.Start)).tdiv p0.Every))+1)) * p0.Every))))) then (some (0,false)) else (some (wr .i64 (p0.Start+(wr .i64 ((wr .i64 ((wr .i64 ((wr .i64 (p1 - p0.Start)).tdiv p0.Every))+1)) * p0.Every))),true)))) else (bif (bLt 1099511627776 p0.Start) then (some (0,false)) else (some (p0.Start,true))))
noncomputable def body14:List AV->AR
 | [v0,v1]=>.pure (aK 5 wG v0/\iK .i64 v1/\(F14 (g_TWakeRule (aL v0)) (iA v1)).isSome=true) (.tup [.int .i64 ((gt (F14 (g_TWakeRule (aL v0)) (iA v1))).1),.bool ((gt (F14 (g_TWakeRule (aL v0)) (iA v1))).2)])
 | _=>.fail
theorem ok14:xZ Try.prog 14 (zV body14):=by
 refine xC body14 (rs:=[.tmp 4,.tmp 5]) Try.func14 (by kernel_rfl) rfl rfl ?_
 intro l ob v hb hob
 unfold body14 at hb
 split at hb
 ·rename_i v0 v1
  injection hb with q1 q2;subst q1 q2
  obtain ⟨hk0_0,hk1_0,hob⟩:=hob
  obtain ⟨r,H⟩:=oE.1 hob
  rw [H,yD]
  have hw0:=wA_TWakeRule hk0_0
  have hw1:=yJ hk1_0
  generalize g_TWakeRule (aL v0)=p0 at H hw0
  generalize iA v1=p1 at H hw1
  refine ⟨[.agg [.int .i64 p0.Id,.int .i64 p0.Start,.int .i64 p0.Every,.int .i64 p0.Length,.int .i64 p0.Group],.int .i64 p1],_,(fun E vs F=>yL hw0.1 F (fun vs F=>yL hw1.1 F (fun vs F=>F))),rfl,rfl,?_⟩
  rw [Try.ntmps14]
  simp only [lC,lN,Nat.reduceAdd,Nat.reduceSub,rS,rZ,aC,aN]
  unfold F14 at H
  try dsimp only at H
  refine sq zA ?_
  simp only [go_sem]
  refine zH ?_
  refine zH ?_
  obtain ⟨r1,e2,H⟩:=bsi H
  refine rg ct14t0_ok ?_
  simp only [go_sem,Nat.reduceLT,Nat.reduceAdd,ct14t0_5,body5,e2]
  repeat ((with_reducible refine aI ?_ ?_);exact an0)
  refine yE rfl trivial (fun hc=>?_) (fun hc=>?_)
  ·have hk3:(bEq r1 0)=false:=by simpa using hc
   replace H:=zO hc H
   refine sq zA ?_
   simp only [go_sem]
   refine rg zA ?_
   simp only [go_sem]
   obtain rfl:=Option.some.inj H
   first|rfl|simp only [Bool.and_false,Bool.false_and,Bool.and_true,Bool.true_and]
  have hk3:(bEq r1 0)=true:=by simpa using hc
  replace H:=zN hc H
  refine rg zA ?_
  simp only [go_sem]
  refine sq zA ?_
  simp only [go_sem,Nat.reduceLeDiff,Nat.reduceLT,Nat.reduceAdd]
  repeat ((with_reducible refine aI ?_ ?_);exact an4)
  refine zH ?_
  refine sq zA ?_
  simp only [go_sem]
  refine condM' rfl trivial (fun hc=>?_) (fun hc=>?_)
  ·have hk4:(bLe p0.Start p1)=false:=by simpa using hc
   replace H:=zN hc H
   refine rg zA ?_
   simp only [go_sem]
   refine zH ?_
   refine sq zA ?_
   simp only [go_sem]
   refine yE rfl trivial (fun hc=>?_) (fun hc=>?_)
   ·have hk8:(bLt 1099511627776 p0.Start)=true:=by simpa using hc
    replace H:=zO hc H
    refine sq zA ?_
    simp only [go_sem]
    refine rg zA ?_
    simp only [go_sem]
    obtain rfl:=Option.some.inj H
    first|rfl|simp only [Bool.and_false,Bool.false_and,Bool.and_true,Bool.true_and]
   have hk8:(bLt 1099511627776 p0.Start)=false:=by simpa using hc
   replace H:=zN hc H
   refine rg zA ?_
   simp only [go_sem]
   refine sq zA ?_
   simp only [go_sem]
   refine rg zA ?_
   simp only [go_sem]
   obtain rfl:=Option.some.inj H
   first|rfl|simp only [Bool.and_false,Bool.false_and,Bool.and_true,Bool.true_and]
  have hk4:(bLe p0.Start p1)=true:=by simpa using hc
  replace H:=zO hc H
  refine zH ?_
  refine sq zA ?_
  simp only [go_sem,Nat.reduceLeDiff,Nat.reduceLT,Nat.reduceAdd]
  repeat ((with_reducible refine aI ?_ ?_);exact an4)
  refine yE rfl trivial (fun hc=>?_) (fun hc=>?_)
  ·have hk5:((bEq p0.Every 0) || (bLt 1099511627776 p1))=true:=by simpa using hc
   replace H:=zO hc H
   refine sq zA ?_
   simp only [go_sem]
   refine rg zA ?_
   simp only [go_sem]
   obtain rfl:=Option.some.inj H
   first|rfl|simp only [Bool.and_false,Bool.false_and,Bool.and_true,Bool.true_and]
  have hk5:((bEq p0.Every 0) || (bLt 1099511627776 p1))=false:=by simpa using hc
  replace H:=zN hc H
  refine rg zA ?_
  simp only [go_sem]
  obtain ⟨f6,H⟩:=yH.1 H
  replace f6:=ne0_iff.1 f6
  refine vY zL zA (by kernel_rfl) (by kernel_rfl) ?_
  simp only [go_sem,Nat.reduceLeDiff,Nat.reduceLT,Nat.reduceAdd,f6]
  repeat ((with_reducible refine aI ?_ ?_);exact an4)
  refine zH ?_
  refine sq zA ?_
  simp only [go_sem]
  refine yE rfl trivial (fun hc=>?_) (fun hc=>?_)
  ·have hk7:(bLt 1099511627776 (wr .i64 (p0.Start+(wr .i64 ((wr .i64 ((wr .i64 ((wr .i64 (p1 - p0.Start)).tdiv p0.Every))+1)) * p0.Every)))))=true:=by simpa using hc
   replace H:=zO hc H
   refine sq zA ?_
   simp only [go_sem]
   refine rg zA ?_
   simp only [go_sem]
   obtain rfl:=Option.some.inj H
   first|rfl|simp only [Bool.and_false,Bool.false_and,Bool.and_true,Bool.true_and]
  have hk7:(bLt 1099511627776 (wr .i64 (p0.Start+(wr .i64 ((wr .i64 ((wr .i64 ((wr .i64 (p1 - p0.Start)).tdiv p0.Every))+1)) * p0.Every)))))=false:=by simpa using hc
  replace H:=zN hc H
  refine rg zA ?_
  simp only [go_sem]
  refine sq zA ?_
  simp only [go_sem]
  refine rg zA ?_
  simp only [go_sem]
  obtain rfl:=Option.some.inj H
  first|rfl|simp only [Bool.and_false,Bool.false_and,Bool.and_true,Bool.true_and]
 ·cases hb
noncomputable def F59_L1 (p0:TTraffic) (v1_1:Int) (v1_2:Int):Option (Lp (Int × Int) ((Unit) ⊕ (Int))) :=
 bif (bLt v1_2 (p0.Aids.length:Nat)) then (need (inb v1_2 p0.Aids.length) <| bif ((bLe (gd p0.Aids v1_2.toNat) v1_1) || (bLt 255 (gd p0.Aids v1_2.toNat))) then (some (.done (.inr 8))) else (some (.next ((gd p0.Aids v1_2.toNat),wr .i64 (v1_2+1))))) else (some (.done (.inl ())))
noncomputable def F59 (p0:TTraffic):Option (Int) :=
 lp (yN (fun s=>F59_L1 p0 s.1 s.2) (0,0)) (fun _=>some 0) some
noncomputable def body59:List AV->AR
 | [v0]=>.pure (aK 2 wF v0/\(F59 (yO (aL v0))).isSome=true) (.int .i64 (gt (F59 (yO (aL v0)))))
 | _=>.fail
theorem ok59:xZ Try.prog 59 (zV body59):=by
 refine xC body59 (rs:=[.tmp 2]) Try.func59 (by kernel_rfl) rfl rfl ?_
 intro l ob v hb hob
 unfold body59 at hb
 split at hb
 ·rename_i v0
  injection hb with q1 q2;subst q1 q2
  obtain ⟨hk0_0,hob⟩:=hob
  obtain ⟨r,H⟩:=oE.1 hob
  rw [H,yD]
  have hw0:=wA_TTraffic hk0_0
  generalize yO (aL v0)=p0 at H hw0
  refine ⟨[.agg [.bool p0.Group,.ro 1 p0.Aids.length false (enR yQ p0.Aids)]],_,(fun E vs F=>yL hw0.1 F (fun vs F=>F)),rfl,rfl,?_⟩
  rw [Try.ntmps59]
  simp only [lC,lN,Nat.reduceAdd,Nat.reduceSub,rS,rZ,aC,aN]
  unfold F59 at H
  try dsimp only at H
  refine sq zA ?_
  simp only [go_sem]
  refine sq zA ?_
  simp only [go_sem]
  refine zH ?_
  refine sq zA ?_
  simp only [go_sem,Nat.reduceLT,Nat.reduceAdd]
  repeat ((with_reducible refine aI ?_ ?_);exact an0)
  refine xI ?_
  refine xA (fun s:Int × Int=>(.top::.top::.top::.int .i64 s.1::.top::.top::.top::.ro 1 p0.Aids.length false (enR yQ p0.Aids)::.int .i64 (p0.Aids.length:Nat)::.int .i64 s.2::tp 12 [])) (fun s=>[.dead]) (fun e:Unit=>(tp 22 [])) (fun e=>[.dead]) H ?_ (fun s o H hn1_1 hn2_1=>?_) (fun e H=>?_)
  ·refine zI ⟨[some 0],?_,?_,by rfl,by rfl⟩
   ·simp [CvL,Cv,tp]
   ·exact ⟨zB,trivial⟩
  ·obtain ⟨v1_1,v1_2⟩:=s
   unfold F59_L1 at H
   try dsimp only at H ⊢
   try simp only [tp]
   refine sq zA ?_
   simp only [go_sem]
   refine zH ?_
   refine condM' rfl trivial (fun hc=>?_) (fun hc=>?_)
   ·have hk1:(bLt v1_2 (p0.Aids.length:Nat))=false:=by simpa using hc
    replace H:=zN hc H
    refine rg zA ?_
    simp only [go_sem]
    refine ⟨_,(Option.some.inj H).symm,?_⟩
    refine zI ⟨[some 0],?_,?_,by rfl,by rfl⟩
    ·simp [CvL,Cv]
    ·exact ⟨zB,trivial⟩
   have hk1:(bLt v1_2 (p0.Aids.length:Nat))=true:=by simpa using hc
   replace H:=zO hc H
   refine rg zA ?_
   simp only [go_sem]
   refine zH ?_
   refine xI ?_
   refine zH ?_
   obtain ⟨f2,H⟩:=nI H
   refine rg zA ?_
   simp only [go_sem,Nat.reduceLT,f2]
   repeat ((with_reducible refine aI ?_ ?_);exact an4)
   refine zH ?_
   refine sq zA ?_
   simp only [go_sem]
   repeat ((with_reducible refine aI ?_ ?_);exact an4)
   refine yE rfl trivial (fun hc=>?_) (fun hc=>?_)
   ·have hk3:((bLe (gd p0.Aids v1_2.toNat) v1_1) || (bLt 255 (gd p0.Aids v1_2.toNat)))=true:=by simpa using hc
    replace H:=zO hc H
    refine sq zA ?_
    simp only [go_sem]
    refine rg zA ?_
    simp only [go_sem]
    have H:=hn2_1 _ (Option.some.inj H).symm
    obtain rfl:=Option.some.inj H
    first|rfl|simp only [Bool.and_false,Bool.false_and,Bool.and_true,Bool.true_and]
   have hk3:((bLe (gd p0.Aids v1_2.toNat) v1_1) || (bLt 255 (gd p0.Aids v1_2.toNat)))=false:=by simpa using hc
   replace H:=zN hc H
   refine rg zA ?_
   simp only [go_sem]
   refine rg zA ?_
   simp only [go_sem]
   refine rg zA ?_
   simp only [go_sem]
   refine ⟨_,(Option.some.inj H).symm,?_⟩
   refine zI ⟨[some 0],?_,?_,by rfl,by rfl⟩
   ·simp [CvL,Cv]
   ·exact ⟨zB,trivial⟩
  ·try dsimp only at H ⊢
   try simp only [tp]
   try simp only [yR]
   refine sq zA ?_
   simp only [go_sem]
   refine rg zA ?_
   simp only [go_sem]
   obtain rfl:=Option.some.inj H
   first|rfl|simp only [Bool.and_false,Bool.false_and,Bool.and_true,Bool.true_and]
 ·cases hb
noncomputable def ct38t0:Ct:=tab [(59,zV body59)]
theorem ct38t0_ok:yU Try.prog ct38t0:=zP ok59 <| zX
theorem ct38t0_59 (l:List AV) (h:List ABlk):ct38t0 59 l h=zV body59 l h:=rfl
noncomputable def F38 (p0:TTraffic) (p1:Int):Option (Int) :=
 (F59 p0).bind fun r1=>bif (!bEq r1 0) then (some r1) else (bif ((bLt p1 0) || (bLt 255 p1)) then (some 2) else (some 0))
noncomputable def body38:List AV->AR
 | [v0,v1]=>.pure (aK 2 wF v0/\iK .i64 v1/\(F38 (yO (aL v0)) (iA v1)).isSome=true) (.int .i64 (gt (F38 (yO (aL v0)) (iA v1))))
 | _=>.fail
theorem ok38:xZ Try.prog 38 (zV body38):=by
 refine xC body38 (rs:=[.tmp 4]) Try.func38 (by kernel_rfl) rfl rfl ?_
 intro l ob v hb hob
 unfold body38 at hb
 split at hb
 ·rename_i v0 v1
  injection hb with q1 q2;subst q1 q2
  obtain ⟨hk0_0,hk1_0,hob⟩:=hob
  obtain ⟨r,H⟩:=oE.1 hob
  rw [H,yD]
  have hw0:=wA_TTraffic hk0_0
  have hw1:=yJ hk1_0
  generalize yO (aL v0)=p0 at H hw0
  generalize iA v1=p1 at H hw1
  refine ⟨[.agg [.bool p0.Group,.ro 1 p0.Aids.length false (enR yQ p0.Aids)],.int .i64 p1],_,(fun E vs F=>yL hw0.1 F (fun vs F=>yL hw1.1 F (fun vs F=>F))),rfl,rfl,?_⟩
  rw [Try.ntmps38]
  simp only [lC,lN,Nat.reduceAdd,Nat.reduceSub,rS,rZ,aC,aN]
  unfold F38 at H
  try dsimp only at H
  refine sq zA ?_
  simp only [go_sem]
  refine zH ?_
  refine zH ?_
  obtain ⟨r1,e2,H⟩:=bsi H
  refine rg ct38t0_ok ?_
  simp only [go_sem,Nat.reduceLT,Nat.reduceAdd,ct38t0_59,body59,e2]
  repeat ((with_reducible refine aI ?_ ?_);exact an0)
  refine sq zA ?_
  simp only [go_sem]
  refine yE rfl trivial (fun hc=>?_) (fun hc=>?_)
  ·have hk3:(bEq r1 0)=false:=by simpa using hc
   replace H:=zO hc H
   refine sq zA ?_
   simp only [go_sem]
   refine rg zA ?_
   simp only [go_sem]
   obtain rfl:=Option.some.inj H
   first|rfl|simp only [Bool.and_false,Bool.false_and,Bool.and_true,Bool.true_and]
  have hk3:(bEq r1 0)=true:=by simpa using hc
  replace H:=zN hc H
  refine rg zA ?_
  simp only [go_sem]
  refine zH ?_
  refine sq zA ?_
  simp only [go_sem]
  repeat ((with_reducible refine aI ?_ ?_);exact an4)
  refine yE rfl trivial (fun hc=>?_) (fun hc=>?_)
  ·have hk4:((bLt p1 0) || (bLt 255 p1))=true:=by simpa using hc
   replace H:=zO hc H
   refine sq zA ?_
   simp only [go_sem]
   refine rg zA ?_
   simp only [go_sem]
   obtain rfl:=Option.some.inj H
   first|rfl|simp only [Bool.and_false,Bool.false_and,Bool.and_true,Bool.true_and]
  have hk4:((bLt p1 0) || (bLt 255 p1))=false:=by simpa using hc
  replace H:=zN hc H
  refine rg zA ?_
  simp only [go_sem]
  refine sq zA ?_
  simp only [go_sem]
  refine rg zA ?_
  simp only [go_sem]
  obtain rfl:=Option.some.inj H
  first|rfl|simp only [Bool.and_false,Bool.false_and,Bool.and_true,Bool.true_and]
 ·cases hb
noncomputable def F60_L1 (p0:List Int) (p1:Int) (v1_1:Int):Option (Lp (Int) ((Unit) ⊕ (Int))) :=
 bif (bLt v1_1 (p0.length:Nat)) then (need (inb v1_1 p0.length) <| bif (bEq p1 (gd p0 v1_1.toNat)) then (some (.done (.inr v1_1))) else (some (.next (wr .i64 (v1_1+1))))) else (some (.done (.inl ())))
noncomputable def F60 (p0:List Int) (p1:Int):Option (Int) :=
 lp (yN (fun s=>F60_L1 p0 p1 s) 0) (fun _=>some (-1)) some
noncomputable def body60:List AV->AR
 | [v0,v1]=>.pure (lK k_i64 1 v0/\iK .i64 v1/\(F60 (lA wO v0) (iA v1)).isSome=true) (.int .i64 (gt (F60 (lA wO v0) (iA v1))))
 | _=>.fail
theorem ok60:xZ Try.prog 60 (zV body60):=by
 refine xC body60 (rs:=[.tmp 4]) Try.func60 (by kernel_rfl) rfl rfl ?_
 intro l ob v hb hob
 unfold body60 at hb
 split at hb
 ·rename_i v0 v1
  injection hb with q1 q2;subst q1 q2
  obtain ⟨hk0_0,hk1_0,hob⟩:=hob
  obtain ⟨r,H⟩:=oE.1 hob
  rw [H,yD]
  have hw0:=uP (fun r h=>w_i64 h) hk0_0
  have hw1:=yJ hk1_0
  generalize lA wO v0=p0 at H hw0
  generalize iA v1=p1 at H hw1
  refine ⟨[.ro 1 p0.length false (enR yQ p0),.int .i64 p1],_,(fun E vs F=>yL hw0.1 F (fun vs F=>yL hw1.1 F (fun vs F=>F))),rfl,rfl,?_⟩
  rw [Try.ntmps60]
  simp only [lC,lN,Nat.reduceAdd,Nat.reduceSub,rS,rZ,aC,aN]
  unfold F60 at H
  try dsimp only at H
  refine sq zA ?_
  simp only [go_sem]
  refine zH ?_
  refine sq zA ?_
  simp only [go_sem]
  repeat ((with_reducible refine aI ?_ ?_);exact an0)
  refine xI ?_
  refine xA (fun s:Int=>(.ro 1 p0.length false (enR yQ p0)::.int .i64 p1::tp 5 (.int .i64 (p0.length:Nat)::.int .i64 s::tp 10 []))) (fun s=>[]) (fun e:Unit=>(tp 19 [])) (fun e=>[]) H ?_ (fun v1_1 o H hn1_1 hn2_1=>?_) (fun e H=>?_)
  ·refine zI ⟨[],?_,?_,by rfl,by rfl⟩
   ·simp [CvL,Cv,tp]
   ·trivial
  ·unfold F60_L1 at H
   try dsimp only at H ⊢
   try simp only [tp]
   refine sq zA ?_
   simp only [go_sem]
   refine zH ?_
   refine condM' rfl trivial (fun hc=>?_) (fun hc=>?_)
   ·have hk1:(bLt v1_1 (p0.length:Nat))=false:=by simpa using hc
    replace H:=zN hc H
    refine rg zA ?_
    simp only [go_sem]
    refine ⟨_,(Option.some.inj H).symm,?_⟩
    refine zI ⟨[],?_,?_,by rfl,by rfl⟩
    ·simp [CvL,Cv]
    ·trivial
   have hk1:(bLt v1_1 (p0.length:Nat))=true:=by simpa using hc
   replace H:=zO hc H
   refine rg zA ?_
   simp only [go_sem]
   refine zH ?_
   refine xI ?_
   refine sq zA ?_
   simp only [go_sem]
   refine zH ?_
   obtain ⟨f2,H⟩:=nI H
   refine rg zA ?_
   simp only [go_sem,Nat.reduceLT,f2]
   repeat ((with_reducible refine aI ?_ ?_);exact an4)
   refine yE rfl trivial (fun hc=>?_) (fun hc=>?_)
   ·have hk3:(bEq p1 (gd p0 v1_1.toNat))=true:=by simpa using hc
    replace H:=zO hc H
    refine sq zA ?_
    simp only [go_sem]
    refine rg zA ?_
    simp only [go_sem]
    have H:=hn2_1 _ (Option.some.inj H).symm
    obtain rfl:=Option.some.inj H
    first|rfl|simp only [Bool.and_false,Bool.false_and,Bool.and_true,Bool.true_and]
   have hk3:(bEq p1 (gd p0 v1_1.toNat))=false:=by simpa using hc
   replace H:=zN hc H
   refine rg zA ?_
   simp only [go_sem]
   refine rg zA ?_
   simp only [go_sem]
   refine ⟨_,(Option.some.inj H).symm,?_⟩
   refine zI ⟨[],?_,?_,by rfl,by rfl⟩
   ·simp [CvL,Cv]
   ·trivial
  ·try dsimp only at H ⊢
   try simp only [tp]
   try simp only [yR]
   refine sq zA ?_
   simp only [go_sem]
   refine rg zA ?_
   simp only [go_sem]
   obtain rfl:=Option.some.inj H
   first|rfl|simp only [Bool.and_false,Bool.false_and,Bool.and_true,Bool.true_and]
 ·cases hb
noncomputable def ct39t0:Ct:=tab [(60,zV body60)]
theorem ct39t0_ok:yU Try.prog ct39t0:=zP ok60 <| zX
theorem ct39t0_60 (l:List AV) (h:List ABlk):ct39t0 60 l h=zV body60 l h:=rfl
noncomputable def F39 (p0:List Int) (p1:Int):Option (Bool) :=
 (F60 p0 p1).bind fun r1=>some (bLe 0 r1)
noncomputable def body39:List AV->AR
 | [v0,v1]=>.pure (lK k_i64 1 v0/\iK .i64 v1/\(F39 (lA wO v0) (iA v1)).isSome=true) (.bool (gt (F39 (lA wO v0) (iA v1))))
 | _=>.fail
theorem ok39:xZ Try.prog 39 (zV body39):=by
 refine xC body39 (rs:=[.tmp 4]) Try.func39 (by kernel_rfl) rfl rfl ?_
 intro l ob v hb hob
 unfold body39 at hb
 split at hb
 ·rename_i v0 v1
  injection hb with q1 q2;subst q1 q2
  obtain ⟨hk0_0,hk1_0,hob⟩:=hob
  obtain ⟨r,H⟩:=oE.1 hob
  rw [H,yD]
  have hw0:=uP (fun r h=>w_i64 h) hk0_0
  have hw1:=yJ hk1_0
  generalize lA wO v0=p0 at H hw0
  generalize iA v1=p1 at H hw1
  refine ⟨[.ro 1 p0.length false (enR yQ p0),.int .i64 p1],_,(fun E vs F=>yL hw0.1 F (fun vs F=>yL hw1.1 F (fun vs F=>F))),rfl,rfl,?_⟩
  rw [Try.ntmps39]
  simp only [lC,lN,Nat.reduceAdd,Nat.reduceSub,rS,rZ,aC,aN]
  unfold F39 at H
  try dsimp only at H
  refine sq zA ?_
  simp only [go_sem]
  refine zH ?_
  obtain ⟨r1,e2,H⟩:=bsi H
  refine rg ct39t0_ok ?_
  simp only [go_sem,ct39t0_60,body60,e2]
  repeat ((with_reducible refine aI ?_ ?_);exact an0)
  refine rg zA ?_
  simp only [go_sem]
  obtain rfl:=Option.some.inj H
  first|rfl|simp only [Bool.and_false,Bool.false_and,Bool.and_true,Bool.true_and]
 ·cases hb
noncomputable def ct18t0:Ct:=tab [(38,zV body38)]
theorem ct18t0_ok:yU Try.prog ct18t0:=zP ok38 <| zX
theorem ct18t0_38 (l:List AV) (h:List ABlk):ct18t0 38 l h=zV body38 l h:=rfl
noncomputable def ct18t1:Ct:=tab [(39,zV body39)]
theorem ct18t1_ok:yU Try.prog ct18t1:=zP ok39 <| zX
theorem ct18t1_39 (l:List AV) (h:List ABlk):ct18t1 39 l h=zV body39 l h:=rfl
noncomputable def F18 (p0:TTraffic) (p1:Int):Option (Bool) :=
 (F38 p0 p1).bind fun r1=>bif (!bEq r1 0) then (some false) else (need (bif ((!((bEq p1 0) && p0.Group)) && (bLt 0 p1)) then ((F39 p0.Aids p1).isSome) else true) <| some (((bEq p1 0) && p0.Group) || ((bLt 0 p1) && (gt (F39 p0.Aids p1)))))
noncomputable def body18:List AV->AR
 | [v0,v1]=>.pure (aK 2 wF v0/\iK .i64 v1/\(F18 (yO (aL v0)) (iA v1)).isSome=true) (.bool (gt (F18 (yO (aL v0)) (iA v1))))
 | _=>.fail
theorem ok18:xZ Try.prog 18 (zV body18):=by
 refine xC body18 (rs:=[.tmp 4]) Try.func18 (by kernel_rfl) rfl rfl ?_
 intro l ob v hb hob
 unfold body18 at hb
 split at hb
 ·rename_i v0 v1
  injection hb with q1 q2;subst q1 q2
  obtain ⟨hk0_0,hk1_0,hob⟩:=hob
  obtain ⟨r,H⟩:=oE.1 hob
  rw [H,yD]
  have hw0:=wA_TTraffic hk0_0
  have hw1:=yJ hk1_0
  generalize yO (aL v0)=p0 at H hw0
  generalize iA v1=p1 at H hw1
  refine ⟨[.agg [.bool p0.Group,.ro 1 p0.Aids.length false (enR yQ p0.Aids)],.int .i64 p1],_,(fun E vs F=>yL hw0.1 F (fun vs F=>yL hw1.1 F (fun vs F=>F))),rfl,rfl,?_⟩
  rw [Try.ntmps18]
  simp only [lC,lN,Nat.reduceAdd,Nat.reduceSub,rS,rZ,aC,aN]
  unfold F18 at H
  try dsimp only at H
  refine sq zA ?_
  simp only [go_sem]
  refine zH ?_
  refine zH ?_
  obtain ⟨r1,e2,H⟩:=bsi H
  refine rg ct18t0_ok ?_
  simp only [go_sem,Nat.reduceLT,Nat.reduceAdd,ct18t0_38,body38,e2]
  repeat ((with_reducible refine aI ?_ ?_);exact an0)
  refine yE rfl trivial (fun hc=>?_) (fun hc=>?_)
  ·have hk3:(bEq r1 0)=false:=by simpa using hc
   replace H:=zO hc H
   refine sq zA ?_
   simp only [go_sem]
   refine rg zA ?_
   simp only [go_sem]
   obtain rfl:=Option.some.inj H
   first|rfl|simp only [Bool.and_false,Bool.false_and,Bool.and_true,Bool.true_and]
  have hk3:(bEq r1 0)=true:=by simpa using hc
  replace H:=zN hc H
  refine rg zA ?_
  simp only [go_sem]
  refine zH ?_
  obtain ⟨f4,H⟩:=yH.1 H
  replace f4:=bZ.1 f4
  refine rg ct18t1_ok ?_
  simp only [go_sem,Nat.reduceLeDiff,Nat.reduceLT,Nat.reduceAdd,ct18t1_39,body39]
  repeat ((with_reducible refine And.intro ?_ ?_);focus (first|(with_reducible trivial)|omega|exact f4|(intro g;have q:=f4 (by first|exact g|(rw [g];rfl)|simpa using g);first|exact q|exact ⟨q.1,q.2.1⟩|exact q.2.2|omega|exact ⟨g,q⟩|exact ⟨trivial,q⟩|exact ⟨g,q.1,q.2.1⟩|exact ⟨g,q.2.2⟩)|(intro g;(try have q0:=f4 (by first|exact g|(rw [g];rfl)|simpa using g));and_intros<;>first|(with_reducible trivial)|assumption|exact nfc|(intro g2;rw [g,g2];rfl)|(intro g2;assumption)|(simp only [g,Bool.true_and,Bool.and_true,Bool.not_false,Bool.not_true];assumption)|grind)|(and_intros<;>first|(with_reducible trivial)|omega|assumption|exact nfc|first|exact rfl|exact trivial|exact uV|exact .inr rfl|exact .inl rfl|exact fun x hx=>absurd hx (by omega))|grind))
  refine rg zA ?_
  simp only [go_sem]
  obtain rfl:=Option.some.inj H
  first|rfl|simp only [Bool.and_false,Bool.false_and,Bool.and_true,Bool.true_and]
 ·cases hb
noncomputable def ct4t0:Ct:=tab [(6,wE body6)]
theorem ct4t0_ok:yU Try.prog ct4t0:=zP ok6 <| zX
theorem ct4t0_6 (l:List AV) (h:List ABlk):ct4t0 6 l h=wE body6 l h:=rfl
noncomputable def ct4t1:Ct:=tab [(7,wE body7)]
theorem ct4t1_ok:yU Try.prog ct4t1:=zP ok7 <| zX
theorem ct4t1_7 (l:List AV) (h:List ABlk):ct4t1 7 l h=wE body7 l h:=rfl
noncomputable def ct4t2:Ct:=tab [(8,wE body8)]
theorem ct4t2_ok:yU Try.prog ct4t2:=zP ok8 <| zX
theorem ct4t2_8 (l:List AV) (h:List ABlk):ct4t2 8 l h=wE body8 l h:=rfl
noncomputable def ct4t3:Ct:=tab [(10,zV body10),(11,zV body11)]
theorem ct4t3_ok:yU Try.prog ct4t3:=zP ok10 <| zP ok11 <| zX
theorem ct4t3_10 (l:List AV) (h:List ABlk):ct4t3 10 l h=zV body10 l h:=rfl
theorem ct4t3_11 (l:List AV) (h:List ABlk):ct4t3 11 l h=zV body11 l h:=rfl
noncomputable def ct4t4:Ct:=tab [(12,wE body12)]
theorem ct4t4_ok:yU Try.prog ct4t4:=zP ok12 <| zX
theorem ct4t4_12 (l:List AV) (h:List ABlk):ct4t4 12 l h=wE body12 l h:=rfl
noncomputable def ct4t5:Ct:=tab [(16,edC body16)]
theorem ct4t5_ok:yU Try.prog ct4t5:=zP ok16 <| zX
theorem ct4t5_16 (l:List AV) (h:List ABlk):ct4t5 16 l h=edC body16 l h:=rfl
noncomputable def ct4t6:Ct:=tab [(17,wE body17)]
theorem ct4t6_ok:yU Try.prog ct4t6:=zP ok17 <| zX
theorem ct4t6_17 (l:List AV) (h:List ABlk):ct4t6 17 l h=wE body17 l h:=rfl
noncomputable def ct4t7:Ct:=tab [(14,zV body14)]
theorem ct4t7_ok:yU Try.prog ct4t7:=zP ok14 <| zX
theorem ct4t7_14 (l:List AV) (h:List ABlk):ct4t7 14 l h=zV body14 l h:=rfl
noncomputable def ct4t8:Ct:=tab [(18,zV body18)]
theorem ct4t8_ok:yU Try.prog ct4t8:=zP ok18 <| zX
theorem ct4t8_18 (l:List AV) (h:List ABlk):ct4t8 18 l h=zV body18 l h:=rfl
noncomputable def F4:Option (Bool) :=
 (F6 2 1000000).bind fun r1=>(F7 r1.1 9).bind fun r3=>(F8 r3.1 9).bind fun r5=>(F10).bind fun r7=>(F11).bind fun r9=>(F12 r5.1 9 1 (TFrame.mk (THeader.mk 2 8 false true false false false false false 0 (A6u8.mk r7.x0 r7.x1 r7.x2 r7.x3 r7.x4 r7.x5) (A6u8.mk r9.x0 r9.x1 r9.x2 r9.x3 r9.x4 r9.x5) (A6u8.mk r9.x0 r9.x1 r9.x2 r9.x3 r9.x4 r9.x5) (A6u8.mk 0 0 0 0 0 0) 3 0 0 0 false false) []) 5).bind fun r11=>(F16 r11.2.2.1).bind fun r13=>(F17 r11.2.2.1 9).bind fun r15=>(F14 (TWakeRule.mk 0 0 1000 10 0) 5).bind fun r17=>need (bif (((((((bEq r1.2 0) && (bEq r3.2 0)) && (bEq r5.2 0)) && (bEq r11.2.2.2 0)) && (bEq r13.2 0)) && (bEq r15.2.2 0)) && (bEq (r11.1.length:Nat) 0)) then ((F18 (TTraffic.mk r13.1.Group r13.1.Aids) 9).isSome) else true) <| some (((((((((((bEq r1.2 0) && (bEq r3.2 0)) && (bEq r5.2 0)) && (bEq r11.2.2.2 0)) && (bEq r13.2 0)) && (bEq r15.2.2 0)) && (bEq (r11.1.length:Nat) 0)) && (gt (F18 (TTraffic.mk r13.1.Group r13.1.Aids) 9))) && (bEq r15.1.Head.Kind 2 && (bEq r15.1.Head.Sub 8 && (bB r15.1.Head.ToDs false && (bB r15.1.Head.FromDs true && (bB r15.1.Head.More false && (bB r15.1.Head.Retry false && (bB r15.1.Head.Sleep false && (bB r15.1.Head.MoreData false && (bB r15.1.Head.Protected false && (bEq r15.1.Head.Duration 0 && (bEq r15.1.Head.A1.x0 r7.x0 && (bEq r15.1.Head.A1.x1 r7.x1 && (bEq r15.1.Head.A1.x2 r7.x2 && (bEq r15.1.Head.A1.x3 r7.x3 && (bEq r15.1.Head.A1.x4 r7.x4 && (bEq r15.1.Head.A1.x5 r7.x5 && (bEq r15.1.Head.A2.x0 r9.x0 && (bEq r15.1.Head.A2.x1 r9.x1 && (bEq r15.1.Head.A2.x2 r9.x2 && (bEq r15.1.Head.A2.x3 r9.x3 && (bEq r15.1.Head.A2.x4 r9.x4 && (bEq r15.1.Head.A2.x5 r9.x5 && (bEq r15.1.Head.A3.x0 r9.x0 && (bEq r15.1.Head.A3.x1 r9.x1 && (bEq r15.1.Head.A3.x2 r9.x2 && (bEq r15.1.Head.A3.x3 r9.x3 && (bEq r15.1.Head.A3.x4 r9.x4 && (bEq r15.1.Head.A3.x5 r9.x5 && (bEq r15.1.Head.A4.x0 0 && (bEq r15.1.Head.A4.x1 0 && (bEq r15.1.Head.A4.x2 0 && (bEq r15.1.Head.A4.x3 0 && (bEq r15.1.Head.A4.x4 0 && (bEq r15.1.Head.A4.x5 0 && (bEq r15.1.Head.Seq 3 && (bEq r15.1.Head.Frag 0 && (bEq r15.1.Head.Tid 0 && (bEq r15.1.Head.Ack 0 && (bB r15.1.Head.Amsdu false && (bB r15.1.Head.Eosp false))))))))))))))))))))))))))))))))))))))))) && r17.2) && (bEq r17.1 1000))
noncomputable def body4:List AV->AR
 | []=>.pure ((F4).isSome=true) (.bool (gt F4))
 | _=>.fail
theorem ok4:xZ Try.prog 4 (zV body4):=by
 refine xC body4 (rs:=[.tmp 0]) Try.func4 (by kernel_rfl) rfl rfl ?_
 intro l ob v hb hob
 unfold body4 at hb
 split at hb
 ·injection hb with q1 q2;subst q1 q2
  obtain ⟨r,H⟩:=oE.1 hob
  rw [H,yD]
  refine ⟨[],_,(fun E vs F=>F),rfl,rfl,?_⟩
  rw [Try.ntmps4]
  simp only [lN,Nat.reduceSub,rS,rZ,aN]
  unfold F4 at H
  try dsimp only at H
  refine sq zA ?_
  simp only [go_sem]
  refine zH ?_
  obtain ⟨r1,e2,H⟩:=bsi H
  refine rg ct4t0_ok ?_
  simp only [go_sem,Nat.reduceLT,Nat.reduceAdd,ct4t0_6,body6,e2]
  repeat ((with_reducible refine aI ?_ ?_);exact an0)
  refine zH ?_
  obtain ⟨r3,e4,H⟩:=bsi H
  refine rg ct4t1_ok ?_
  simp only [go_sem,Nat.reduceLT,Nat.reduceAdd,ct4t1_7,body7,e4]
  repeat ((with_reducible refine aI ?_ ?_);exact an0)
  refine zH ?_
  obtain ⟨r5,e6,H⟩:=bsi H
  refine rg ct4t2_ok ?_
  simp only [go_sem,Nat.reduceLT,Nat.reduceAdd,ct4t2_8,body8,e6]
  repeat ((with_reducible refine aI ?_ ?_);exact an0)
  refine zH ?_
  obtain ⟨r7,e8,H⟩:=bsi H
  obtain ⟨r9,e10,H⟩:=bsi H
  refine rg ct4t3_ok ?_
  simp only [go_sem,Nat.reduceLeDiff,Nat.reduceAdd,ct4t3_10,body10,ct4t3_11,body11,e8,e10]
  repeat ((with_reducible refine aI ?_ ?_);exact an0)
  refine zH ?_
  obtain ⟨r11,e12,H⟩:=bsi H
  refine rg ct4t4_ok ?_
  simp only [go_sem,Nat.reduceLT,Nat.reduceAdd,reduceCtorEq,ct4t4_12,body12,e12]
  repeat ((with_reducible refine aI ?_ ?_);exact an0)
  refine zH ?_
  obtain ⟨r13,e14,H⟩:=bsi H
  refine rg ct4t5_ok ?_
  simp only [go_sem,Nat.reduceLT,Nat.reduceAdd,ct4t5_16,body16,e14]
  repeat ((with_reducible refine aI ?_ ?_);exact an0)
  refine zH ?_
  obtain ⟨r15,e16,H⟩:=bsi H
  refine rg ct4t6_ok ?_
  simp only [go_sem,Nat.reduceLT,Nat.reduceAdd,ct4t6_17,body17,e16]
  repeat ((with_reducible refine aI ?_ ?_);exact an0)
  refine zH ?_
  obtain ⟨r17,e18,H⟩:=bsi H
  refine rg ct4t7_ok ?_
  simp only [go_sem,Nat.reduceLeDiff,Nat.reduceLT,Nat.reduceAdd,ct4t7_14,body14,e18]
  repeat ((with_reducible refine aI ?_ ?_);exact an0)
  refine sq zA ?_
  simp only [go_sem]
  repeat ((with_reducible refine aI ?_ ?_);exact an4)
  refine zH ?_
  obtain ⟨f19,H⟩:=yH.1 H
  replace f19:=bZ.1 f19
  refine rg ct4t8_ok ?_
  simp only [go_sem,Nat.reduceLeDiff,Nat.reduceLT,Nat.reduceAdd,reduceCtorEq,ct4t8_18,body18]
  repeat ((with_reducible refine And.intro ?_ ?_);focus (first|(with_reducible trivial)|omega|exact f19|(intro g;have q:=f19 (by first|exact g|(rw [g];rfl)|simpa using g);first|exact q|exact ⟨q.1,q.2.1⟩|exact q.2.2|omega|exact ⟨g,q⟩|exact ⟨trivial,q⟩|exact ⟨g,q.1,q.2.1⟩|exact ⟨g,q.2.2⟩)|(intro g;(try have q0:=f19 (by first|exact g|(rw [g];rfl)|simpa using g));and_intros<;>first|(with_reducible trivial)|assumption|exact nfc|(intro g2;rw [g,g2];rfl)|(intro g2;assumption)|(simp only [g,Bool.true_and,Bool.and_true,Bool.not_false,Bool.not_true];assumption)|grind)|(and_intros<;>first|(with_reducible trivial)|omega|assumption|exact nfc|first|exact rfl|exact trivial|exact uV|exact .inr rfl|exact .inl rfl|exact fun x hx=>absurd hx (by omega))|grind))
  refine rg zA ?_
  simp only [go_sem]
  obtain rfl:=Option.some.inj H
  first|rfl|simp only [Bool.and_false,Bool.false_and,Bool.and_true,Bool.true_and]
 ·cases hb
end Go.Proofs.Ytooepgpfaaddbaa
