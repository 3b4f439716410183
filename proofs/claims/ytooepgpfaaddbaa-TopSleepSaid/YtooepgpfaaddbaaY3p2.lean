/-
  What TopSleep reaches.
-/
import Derived.Test.YtooepgpfaaddbaaY3p1
namespace Go.Proofs.Ytooepgpfaaddbaa
open Go.Am
set_option maxHeartbeats 4000000
set_option maxRecDepth 20000
set_option linter.unusedVariables false
set_option linter.unusedSimpArgs false
attribute [local go_sem] w_skip w_label w_goto w_scope k_goto b_goto l_goto s_normal s_exit s_ret s_goto w_region w_draw w_seq w_cond w_block w_exit w_ret w_loop k_normal k_exit k_ret b_normal b_exit b_ret l_normal l_exit l_ret yR m_exit m_ret m_goto kL_normal kL_exit kL_ret kJ_normal kJ_exit kJ_ret kJR_normal kJR_ret kS_normal kS_exit kS_ret kS_goto vD r_ret o_nil o_cons q_nil q_cons nxt gval gvd gvl gvw dstOf evO vG ogC og ogL ogP ogO rho rhoO strip optOk zR setL wQ absC absV absL pO hO qS ldB geth seth evStore stRes stB evBox evAlloc wS eL xJ eQ binI binB binNR binU fW nilR_t nilR_0 nilR_s evInt evStr evUn evConv cvO evPick mrg fM evNil evCall eJ qG evLen2 vcells vcOk atom tabF cnd retK resFin resL resA resC resCons fL tJ eR qX fillA fillOk putL getP nxtQ pureC_eq pureR genC_eq genR roV roL wN eB roW roWL roWOb roWObL nref nrefL binA binN eqSh eqRes qP evIndex2 evIndexS evSlice evSlice2 qT yM evConv2 cvS vB eN tO evMake wZ repL evFn evMin evMax freshC freshR sub_enR0 tC tK uT uA lenS cutS Bool.or_false Bool.false_or Bool.or_true Bool.true_or Bool.and_false Bool.false_and Option.map_some Option.map_none Option.getD_some Option.getD_none Option.bind_some Option.bind_none Option.or_some Option.or_none Option.none_or Option.isSome_none Option.isNone_none Option.isNone_some aN aC List.append_nil cond_true cond_false lC lN beq_self_eq_true Bool.and_true Bool.true_and Bool.not_true Bool.not_false true_and and_true and_self true_implies implies_true ne_eq not_false_eq_true Bool.false_eq_true Bool.true_eq_false false_implies Nat.lt_irrefl Nat.le_refl Nat.succ_ne_self imp_self Bool.cond_false_right Bool.cond_true_left decide_true decide_false Bool.not_eq_true' Bool.not_eq_false' Bool.not_not Nat.zero_mul Nat.zero_add Nat.add_zero Nat.mul_one Nat.one_mul Bool.cond_self tsz3 tby3 tagg3 tslice3 tarr3 tzero3 tzn3 tplaces3 tint3 tstr3 tnoint3 tbool3 tany3 tintk3 tbytes3 tsz4 tby4 tagg4 tslice4 tarr4 tzero4 tzn4 tplaces4 tint4 tstr4 tnoint4 tbool4 tany4 tintk4 tbytes4 tsz5 tby5 tagg5 tslice5 tarr5 tzero5 tzn5 tplaces5 tint5 tstr5 tnoint5 tbool5 tany5 tintk5 tbytes5 tsz23 tby23 tagg23 tslice23 tarr23 tzero23 tzn23 tplaces23 tint23 tstr23 tnoint23 tbool23 tany23 tintk23 tbytes23 tfld23_0 tfld23_1 tfld23_2 tfld23_3 tfld23_4 tsz24 tby24 tagg24 tslice24 tarr24 tzero24 tzn24 tplaces24 tint24 tstr24 tnoint24 tbool24 tany24 tintk24 tbytes24 tsz26 tby26 tagg26 tslice26 tarr26 tzero26 tzn26 tplaces26 tint26 tstr26 tnoint26 tbool26 tany26 tintk26 tbytes26 tsz28 tby28 tagg28 tslice28 tarr28 tzero28 tzn28 tplaces28 tint28 tstr28 tnoint28 tbool28 tany28 tintk28 tbytes28 tsz29 tby29 tagg29 tslice29 tarr29 tzero29 tzn29 tplaces29 tint29 tstr29 tnoint29 tbool29 tany29 tintk29 tbytes29 tsz31 tby31 tagg31 tslice31 tarr31 tzero31 tzn31 tplaces31 tint31 tstr31 tnoint31 tbool31 tany31 tintk31 tbytes31 tfld31_0 tfld31_1 tfld31_2 tfld31_3 tsz35 tby35 tagg35 tslice35 tarr35 tzero35 tzn35 tplaces35 tint35 tstr35 tnoint35 tbool35 tany35 tintk35 tbytes35 tsz36 tby36 tagg36 tslice36 tarr36 tzero36 tzn36 tplaces36 tint36 tstr36 tnoint36 tbool36 tany36 tintk36 tbytes36 tsz37 tby37 tagg37 tslice37 tarr37 tzero37 tzn37 tplaces37 tint37 tstr37 tnoint37 tbool37 tany37 tintk37 tbytes37 tsz38 tby38 tagg38 tslice38 tarr38 tzero38 tzn38 tplaces38 tint38 tstr38 tnoint38 tbool38 tany38 tintk38 tbytes38 tsz40 tby40 tagg40 tslice40 tarr40 tzero40 tzn40 tplaces40 tint40 tstr40 tnoint40 tbool40 tany40 tintk40 tbytes40 tfld40_0 tfld40_1 tfld40_2 tfld40_3 tfld40_4 tfld40_5 tfld40_6 tsz42 tby42 tagg42 tslice42 tarr42 tzero42 tzn42 tplaces42 tint42 tstr42 tnoint42 tbool42 tany42 tintk42 tbytes42 tfld42_0 tfld42_1 tsz46 tby46 tagg46 tslice46 tarr46 tzero46 tzn46 tplaces46 tint46 tstr46 tnoint46 tbool46 tany46 tintk46 tbytes46 tsz49 tby49 tagg49 tslice49 tarr49 tzero49 tzn49 tplaces49 tint49 tstr49 tnoint49 tbool49 tany49 tintk49 tbytes49 tfld49_0 tfld49_1 tfld49_2 tfld49_3 tfld49_4 tfld49_5 tfld49_6 tfld49_7 tfld49_8 tfld49_9 tfld49_10 tfld49_11 tfld49_12 tfld49_13 tfld49_14 tfld49_15 tfld49_16 tfld49_17 tfld49_18 tfld49_19 tsz50 tby50 tagg50 tslice50 tarr50 tzero50 tzn50 tplaces50 tint50 tstr50 tnoint50 tbool50 tany50 tintk50 tbytes50 tsz54 tby54 tagg54 tslice54 tarr54 tzero54 tzn54 tplaces54 tint54 tstr54 tnoint54 tbool54 tany54 tintk54 tbytes54 tfld54_0 tfld54_1 tsz61 tby61 tagg61 tslice61 tarr61 tzero61 tzn61 tplaces61 tint61 tstr61 tnoint61 tbool61 tany61 tintk61 tbytes61 tfld61_0 tfld61_1 tsz72 tby72 tagg72 tslice72 tarr72 tzero72 tzn72 tplaces72 tint72 tstr72 tnoint72 tbool72 tany72 tintk72 tbytes72 tfld72_0 tfld72_1 tfld72_2 tsz73 tby73 tagg73 tslice73 tarr73 tzero73 tzn73 tplaces73 tint73 tstr73 tnoint73 tbool73 tany73 tintk73 tbytes73 tsz74 tby74 tagg74 tslice74 tarr74 tzero74 tzn74 tplaces74 tint74 tstr74 tnoint74 tbool74 tany74 tintk74 tbytes74 tsz80 tby80 tagg80 tslice80 tarr80 tzero80 tzn80 tplaces80 tint80 tstr80 tnoint80 tbool80 tany80 tintk80 tbytes80 tsz82 tby82 tagg82 tslice82 tarr82 tzero82 tzn82 tplaces82 tint82 tstr82 tnoint82 tbool82 tany82 tintk82 tbytes82 tfld82_0 tfld82_1 tfld82_2 tsz91 tby91 tagg91 tslice91 tarr91 tzero91 tzn91 tplaces91 tint91 tstr91 tnoint91 tbool91 tany91 tintk91 tbytes91 tsz93 tby93 tagg93 tslice93 tarr93 tzero93 tzn93 tplaces93 tint93 tstr93 tnoint93 tbool93 tany93 tintk93 tbytes93 tsz100 tby100 tagg100 tslice100 tarr100 tzero100 tzn100 tplaces100 tint100 tstr100 tnoint100 tbool100 tany100 tintk100 tbytes100 tsz106 tby106 tagg106 tslice106 tarr106 tzero106 tzn106 tplaces106 tint106 tstr106 tnoint106 tbool106 tany106 tintk106 tbytes106 tsz115 tby115 tagg115 tslice115 tarr115 tzero115 tzn115 tplaces115 tint115 tstr115 tnoint115 tbool115 tany115 tintk115 tbytes115 tsz116 tby116 tagg116 tslice116 tarr116 tzero116 tzn116 tplaces116 tint116 tstr116 tnoint116 tbool116 tany116 tintk116 tbytes116 tsz117 tby117 tagg117 tslice117 tarr117 tzero117 tzn117 tplaces117 tint117 tstr117 tnoint117 tbool117 tany117 tintk117 tbytes117 tsz118 tby118 tagg118 tslice118 tarr118 tzero118 tzn118 tplaces118 tint118 tstr118 tnoint118 tbool118 tany118 tintk118 tbytes118 tsz121 tby121 tagg121 tslice121 tarr121 tzero121 tzn121 tplaces121 tint121 tstr121 tnoint121 tbool121 tany121 tintk121 tbytes121 tsz123 tby123 tagg123 tslice123 tarr123 tzero123 tzn123 tplaces123 tint123 tstr123 tnoint123 tbool123 tany123 tintk123 tbytes123 tsz124 tby124 tagg124 tslice124 tarr124 tzero124 tzn124 tplaces124 tint124 tstr124 tnoint124 tbool124 tany124 tintk124 tbytes124 e_u8_0 fit_u8 de_u8 vJ k_u8 e_i64_0 fit_i64 de_i64 wO k_i64 e_b_0 fit_b de_b g_b k_b tQ tR tT tU tV qH kA g_TWakeRule wG qF dF dG bV de_TComing g_TComing vR bP fG fQ eY tE uL e_A6u8_0 e_A6u8_1 e_A6u8_2 e_A6u8_3 e_A6u8_4 e_A6u8_5 fit_A6u8 de_A6u8 g_A6u8 k_A6u8 eta_A6u8 cO cP cQ cR cS cT cU cV cW cX kD kE kF kG kH kI kK kN kP kQ kR kT kU kV kW kX kY kZ jA jB jC jD jE jF jG jH jI jJ jK jL bW de_THeader fS qL bQ e_lu8_0 fit_lu8 de_lu8 g_lu8 k_lu8 e_TFrame_0 e_TFrame_1 e_TFrame_2 e_TFrame_3 e_TFrame_4 e_TFrame_5 e_TFrame_6 e_TFrame_7 e_TFrame_8 e_TFrame_9 dH dI dJ dK dL dM dN dO dP dQ dR dT dU dV dW dX dY cA cB cC cD cE cF cG cH cI cJ cK cL cM cN fit_TFrame de_TFrame zT vK eta_TFrame cY cZ bC bD bE bF bG bH bI bJ jP jQ jR jS jT jU jV jW jX jY jZ hU hZ gA gB gC gD gE gF gG gH gI gJ gK gL gM gN gO gP gQ gR gS gT bX de_TStored yA xD bR fH fR eZ tF uM jM jN jO fN eU yI xL fI qE qI kB uF vQ dB dC dD dE bU de_TBuffer zG xS bM e_li64_0 fit_li64 de_li64 g_li64 k_li64 e_A4i64_0 e_A4i64_1 e_A4i64_2 e_A4i64_3 fit_A4i64 de_A4i64 g_A4i64 k_A4i64 eta_A4i64 gW gX gY gZ fA fB fC fD fE fF tW tX tY qA qB qC qD fP eW tD uK fK bL bY de_lTFrame fT qM gU gV fO eV yO wF fJ e_u64_0 fit_u64 de_u64 g_u64 k_u64 e_A32u8_0 e_A32u8_1 e_A32u8_2 e_A32u8_3 e_A32u8_4 e_A32u8_5 e_A32u8_6 e_A32u8_7 e_A32u8_8 e_A32u8_9 e_A32u8_10 e_A32u8_11 e_A32u8_12 e_A32u8_13 e_A32u8_14 e_A32u8_15 e_A32u8_16 e_A32u8_17 e_A32u8_18 e_A32u8_19 e_A32u8_20 e_A32u8_21 e_A32u8_22 e_A32u8_23 e_A32u8_24 e_A32u8_25 e_A32u8_26 e_A32u8_27 e_A32u8_28 e_A32u8_29 e_A32u8_30 e_A32u8_31 fit_A32u8 de_A32u8 g_A32u8 k_A32u8 eta_A32u8 deR_0 deR_1 deR_2 deR_3 deR_4 deR_5 deR_6 deR_7 deR_8 deR_9 deR_10 deR_11 deR_12 litC_x0 litC_x1 litC_x2 litC_x3 litC_x4 litC_x5 litC_x6 litC_x7 litC_x8 litC_x9 litC_x10 litC_x11 strE_u8 Fit_0 Option.isSome_some yD gd_one evCopyL eH evLk_mp evLk_val evLkM bT findMb_lit findMb_row bS mapC_nil tabR sub_enR dZ xrD xoD tN vS rK rM rG aL aK iK bK sK lK iA bA sA lA or_true true_or Int.toNat_natCast shT_23 shT_37 shT_42 shT_46 shT_49 shT_121 Int.toNat_zero Int.cast_ofNat_Int kSP_normal kOP_normal kLP_exit pcC_lt upc_ii aLs roD roDOb yF edC edR eE rnm rnmL rnmB rnmC_en rnmC_upc rnmH rnm_bif rnmB_bif putH dA rhoN ptB slN litL celL pK isLit oS isRow inL fzV fzL wK tL fzH fzHF fzB fzObB eI rowOb
noncomputable def ct12t0:Ct:=tab [(19,zV vM)]
theorem ct12t0_ok:yU Try.prog ct12t0:=zP ok19 <| zX
theorem ct12t0_19 (l:List AV) (h:List ABlk):ct12t0 19 l h=zV vM l h:=rfl
noncomputable def ct12t1:Ct:=tab [(20,zV eP)]
theorem ct12t1_ok:yU Try.prog ct12t1:=zP ok20 <| zX
theorem ct12t1_20 (l:List AV) (h:List ABlk):ct12t1 20 l h=zV eP l h:=rfl
noncomputable def ct12t2:Ct:=tab [(44,wE uZ)]
theorem ct12t2_ok:yU Try.prog ct12t2:=zP ok44 <| zX
theorem ct12t2_44 (l:List AV) (h:List ABlk):ct12t2 44 l h=wE uZ l h:=rfl
noncomputable def ct12t3:Ct:=tab [(45,wE vV)]
theorem ct12t3_ok:yU Try.prog ct12t3:=zP ok45 <| zX
theorem ct12t3_45 (l:List AV) (h:List ABlk):ct12t3 45 l h=wE vV l h:=rfl
noncomputable def ct12t4:Ct:=tab [(24,zV body24)]
theorem ct12t4_ok:yU Try.prog ct12t4:=zP ok24 <| zX
theorem ct12t4_24 (l:List AV) (h:List ABlk):ct12t4 24 l h=zV body24 l h:=rfl
noncomputable def ct12t5:Ct:=tab [(25,zV body25)]
theorem ct12t5_ok:yU Try.prog ct12t5:=zP ok25 <| zX
theorem ct12t5_25 (l:List AV) (h:List ABlk):ct12t5 25 l h=zV body25 l h:=rfl
noncomputable def ct12t6:Ct:=tab [(26,edC body26)]
theorem ct12t6_ok:yU Try.prog ct12t6:=zP ok26 <| zX
theorem ct12t6_26 (l:List AV) (h:List ABlk):ct12t6 26 l h=edC body26 l h:=rfl
noncomputable def ct12t7:Ct:=tab [(49,zV body49)]
theorem ct12t7_ok:yU Try.prog ct12t7:=zP ok49 <| zX
theorem ct12t7_49 (l:List AV) (h:List ABlk):ct12t7 49 l h=zV body49 l h:=rfl
noncomputable def ct12t8:Ct:=tab [(35,zV body35_0)]
theorem ct12t8_ok:yU Try.prog ct12t8:=zP ok35_0 <| zX
theorem ct12t8_35 (l:List AV) (h:List ABlk):ct12t8 35 l h=zV body35_0 l h:=rfl
noncomputable def ct12t9:Ct:=tab [(37,delN 82 43)]
theorem ct12t9_ok:yU Try.prog ct12t9:=zP ok37 <| zX
theorem ct12t9_37 (l:List AV) (h:List ABlk):ct12t9 37 l h=delN 82 43 l h:=rfl
noncomputable def ct12t10:Ct:=tab [(28,edC body28_0)]
theorem ct12t10_ok:yU Try.prog ct12t10:=zP ok28_0 <| zX
theorem ct12t10_28 (l:List AV) (h:List ABlk):ct12t10 28 l h=edC body28_0 l h:=rfl
noncomputable def F12_L1 (r13:List TStored) (v1_1:Int) (v1_2:TStored):Option (Lp (Int × TStored) ((TStored) ⊕ ((List TFrame) × (List TFrame) × TBuffer × Int))) :=
 bif (bLt v1_1 (r13.length:Nat)) then (need (inb v1_1 r13.length) <| (F49 (TStored.mk ((gd r13 v1_1.toNat).Cat) ((gd r13 v1_1.toNat).At) (eF ((gd r13 v1_1.toNat).Frame))) v1_2).bind fun r33=>bif (bLt r33 0) then (need (inb v1_1 r13.length) <| some (.next (wr .i64 (v1_1+1),(TStored.mk ((gd r13 v1_1.toNat).Cat) ((gd r13 v1_1.toNat).At) (eF ((gd r13 v1_1.toNat).Frame)))))) else (some (.next (wr .i64 (v1_1+1),v1_2)))) else (some (.done (.inl v1_2)))
noncomputable def F12 (p0:TBuffer) (p1:Int) (p2:Int) (p3:TFrame) (p4:Int):Option ((List TFrame) × (List TFrame) × TBuffer × Int) :=
 (F19 p0).bind fun r1=>bif (!bEq r1 0) then (some ([],[],(TBuffer.mk 0 0 [] []),r1)) else (bif ((bLt p1 1) || (bLt 255 p1)) then (some ([],[],(TBuffer.mk 0 0 [] []),2)) else ((F20 p0 p1).bind fun r5=>bif (!r5.2) then (some ([],[],(TBuffer.mk 0 0 [] []),6)) else ((F44 p0.List).bind fun r8=>need (decide (r8.length=1)) <| need (inb 0 1) <| (F45 ((gd r8 0).Held)).bind fun r13=>need (inb 0 1) <| (F45 p0.Group).bind fun r16=>bif bEq r5.1 0 then (need (inb 0 1) <| need (bif (!(bLt 3 p2)) then ((F24 p4).isSome) else true) <| bif ((bLt 3 p2) || (!(gt (F24 p4)))) then (some ([],[],(TBuffer.mk 0 0 [] []),2)) else ((F25 r13 p4).bind fun r22=>bif r22 then (some ([],[],(TBuffer.mk 0 0 [] []),20)) else ((F26 p3).bind fun r25=>bif (gd r8 0).Asleep then (bif (bEq (r13.length:Nat) p0.Limit) then (bif (bLt (r13.length:Nat) 1) then (none) else (need (inb 0 r13.length) <| lp (yN (fun s=>F12_L1 r13 s.1 s.2) (1,(TStored.mk ((gd r13 0).Cat) ((gd r13 0).At) (eF ((gd r13 0).Frame))))) (fun w1_6=>bif (bLt p2 w1_6.Cat) then (some ([],[r25],(TBuffer.mk p0.Limit p0.Stay [(TSleeper.mk ((gd r8 0).Aid) ((gd r8 0).Asleep) r13)] r16),0)) else ((F35_0 r13 w1_6.Cat).bind fun r38=>need (inb r38 r13.length) <| need (delb r38 (wr .i64 (r38+1)) r13.length) <| (some [(eF ((gd r13 r38.toNat).Frame))]).bind fun w42=>(some (delL r13 r38 (wr .i64 (r38+1)))).bind fun w44=>need (capb 120 (w44.length+1)) <| (some [(TStored.mk p2 p4 (eF r25))]).bind fun w47=>(some (w44 ++ [(TStored.mk p2 p4 (eF r25))])).bind fun w49=>some ([],w42,(TBuffer.mk p0.Limit p0.Stay [(TSleeper.mk ((gd r8 0).Aid) ((gd r8 0).Asleep) w49)] r16),0))) some)) else (need (capb 120 (r13.length+1)) <| (some [(TStored.mk p2 p4 (eF r25))]).bind fun w52=>(some (r13 ++ [(TStored.mk p2 p4 (eF r25))])).bind fun w54=>some ([],[],(TBuffer.mk p0.Limit p0.Stay [(TSleeper.mk ((gd r8 0).Aid) ((gd r8 0).Asleep) w54)] r16),0))) else ((F28_0 [r25]).bind fun r56=>some (r56,[],(TBuffer.mk p0.Limit p0.Stay [(TSleeper.mk ((gd r8 0).Aid) ((gd r8 0).Asleep) r13)] r16),0))))) else (none))))
noncomputable def body12:List AV->Nat->AR
 | [v0,v1,v2,v3,v4],_=>.pure (aK 4 xS v0/\iK .i64 v1/\iK .u8 v2/\aK 41 vK v3/\iK .i64 v4/\(F12 (zG (aL v0)) (iA v1) (iA v2) (zT (aL v3)) (iA v4)).isSome=true) (.tup [.ro 41 (((gt (F12 (zG (aL v0)) (iA v1) (iA v2) (zT (aL v3)) (iA v4))).1).length) false (enR zM ((gt (F12 (zG (aL v0)) (iA v1) (iA v2) (zT (aL v3)) (iA v4))).1)),.ro 41 (((gt (F12 (zG (aL v0)) (iA v1) (iA v2) (zT (aL v3)) (iA v4))).2.1).length) false (enR zM ((gt (F12 (zG (aL v0)) (iA v1) (iA v2) (zT (aL v3)) (iA v4))).2.1)),.agg [.int .i64 (((gt (F12 (zG (aL v0)) (iA v1) (iA v2) (zT (aL v3)) (iA v4))).2.2.1).Limit),.int .i64 (((gt (F12 (zG (aL v0)) (iA v1) (iA v2) (zT (aL v3)) (iA v4))).2.2.1).Stay),.ro 3 ((((gt (F12 (zG (aL v0)) (iA v1) (iA v2) (zT (aL v3)) (iA v4))).2.2.1).List).length) false (enR zF (((gt (F12 (zG (aL v0)) (iA v1) (iA v2) (zT (aL v3)) (iA v4))).2.2.1).List)),.ro 43 ((((gt (F12 (zG (aL v0)) (iA v1) (iA v2) (zT (aL v3)) (iA v4))).2.2.1).Group).length) false (enR zD (((gt (F12 (zG (aL v0)) (iA v1) (iA v2) (zT (aL v3)) (iA v4))).2.2.1).Group))],.int .i64 ((gt (F12 (zG (aL v0)) (iA v1) (iA v2) (zT (aL v3)) (iA v4))).2.2.2)])
 | _,_=>.fail
theorem ok12:xZ Try.prog 12 (wE body12):=by
 refine gen_fn body12 (rs:=[.tmp 10,.tmp 11,.cell 12 31,.tmp 13]) Try.func12 (by kernel_rfl) rfl rfl ?_
 intro l s ob v ns hb hob
 rcases hb with ⟨hb,rfl⟩|hb
 ·unfold body12 at hb
  split at hb
  ·rename_i v0 v1 v2 v3 v4
   injection hb with q1 q2;subst q1 q2
   obtain ⟨hk0_0,hk1_0,hk2_0,hk3_0,hk4_0,hob⟩:=hob
   obtain ⟨r,H⟩:=oE.1 hob
   rw [H,yD]
   have hw0:=uO hk0_0
   have hw1:=yJ hk1_0
   have hw2:=yJ hk2_0
   have hw3:=wA_TFrame hk3_0
   have hw4:=yJ hk4_0
   generalize zG (aL v0)=p0 at H hw0
   generalize iA v1=p1 at H hw1
   generalize iA v2=p2 at H hw2
   generalize zT (aL v3)=p3 at H hw3
   generalize iA v4=p4 at H hw4
   refine ⟨[.agg [.int .i64 p0.Limit,.int .i64 p0.Stay,.ro 3 p0.List.length false (enR zF p0.List),.ro 43 p0.Group.length false (enR zD p0.Group)],.int .i64 p1,.int .u8 p2,.agg (.int .u8 p3.Head.Kind::.int .u8 p3.Head.Sub::.bool p3.Head.ToDs::.bool p3.Head.FromDs::.bool p3.Head.More::.bool p3.Head.Retry::.bool p3.Head.Sleep::.bool p3.Head.MoreData::.bool p3.Head.Protected::.int .i64 p3.Head.Duration::.int .u8 p3.Head.A1.x0::.int .u8 p3.Head.A1.x1::.int .u8 p3.Head.A1.x2::.int .u8 p3.Head.A1.x3::.int .u8 p3.Head.A1.x4::.int .u8 p3.Head.A1.x5::.int .u8 p3.Head.A2.x0::.int .u8 p3.Head.A2.x1::.int .u8 p3.Head.A2.x2::.int .u8 p3.Head.A2.x3::.int .u8 p3.Head.A2.x4::.int .u8 p3.Head.A2.x5::.int .u8 p3.Head.A3.x0::.int .u8 p3.Head.A3.x1::.int .u8 p3.Head.A3.x2::.int .u8 p3.Head.A3.x3::.int .u8 p3.Head.A3.x4::.int .u8 p3.Head.A3.x5::.int .u8 p3.Head.A4.x0::.int .u8 p3.Head.A4.x1::.int .u8 p3.Head.A4.x2::.int .u8 p3.Head.A4.x3::.int .u8 p3.Head.A4.x4::.int .u8 p3.Head.A4.x5::.int .i64 p3.Head.Seq::.int .i64 p3.Head.Frag::.int .i64 p3.Head.Tid::.int .u8 p3.Head.Ack::.bool p3.Head.Amsdu::.bool p3.Head.Eosp::.ro 1 p3.Body.length false (enR yG p3.Body)::[]),.int .i64 p4],.tup [.ro 41 r.1.length false (enR zM r.1),.ro 41 r.2.1.length false (enR zM r.2.1),.agg [.int .i64 r.2.2.1.Limit,.int .i64 r.2.2.1.Stay,.ro 3 r.2.2.1.List.length false (enR zF r.2.2.1.List),.ro 43 r.2.2.1.Group.length false (enR zD r.2.2.1.Group)],.int .i64 r.2.2.2],[],(fun E vs F=>yL hw0.1 F (fun vs F=>yL hw1.1 F (fun vs F=>yL hw2.1 F (fun vs F=>yL hw3.1 F (fun vs F=>yL hw4.1 F (fun vs F=>F)))))),by simp only [ren,eS],trivial,?_⟩
   rw [Try.ntmps12]
   simp only [lC,lN,Nat.reduceAdd,Nat.reduceSub,rS,rZ,aC,aN]
   unfold F12 at H
   delta eF at H
   try dsimp only at H
   refine sq zA ?_
   simp only [go_sem,Nat.reduceAdd]
   refine zH ?_
   refine tM ?_
   refine xE zL zA 2 ?_
   simp only [zJ,tS,tZ,dS,dZ,go_sem,Nat.reduceLT,Nat.reduceAdd]
   repeat ((with_reducible refine aI ?_ ?_);exact an0)
   refine inlO (rs:=[.tmp 4,.tmp 5,.tmp 6]) Try.func23 (by kernel_rfl) rfl rfl Try.ntmps23 (caps:=[]) (tc:=[.agg [.int .i64 p0.Limit,.int .i64 p0.Stay,.ro 3 p0.List.length false (enR zF p0.List),.ro 43 p0.Group.length false (enR zD p0.Group)],.int .i64 p1]) rfl (by simp only [go_sem]) rfl ?_
   simp only [lC,lN,Nat.reduceAdd,Nat.reduceSub,rS,rZ,aC,aN]
   refine sq zA ?_
   simp only [go_sem,Nat.reduceAdd]
   refine zH ?_
   refine zH ?_
   obtain ⟨r1,e2,H⟩:=bsi H
   refine rg ct12t0_ok ?_
   simp only [go_sem,Nat.reduceLT,Nat.reduceAdd,ct12t0_19,vM,e2]
   repeat ((with_reducible refine aI ?_ ?_);exact an0)
   refine sq zA ?_
   simp only [go_sem]
   refine yE rfl trivial (fun hc=>?_) (fun hc=>?_)
   ·have hk3:(bEq r1 0)=false:=by simpa using hc
    replace H:=zO hc H
    refine sq zA ?_
    simp only [go_sem]
    refine rg zA ?_
    simp only [go_sem]
    refine xE zL zA 7 ?_
    simp only [zJ,tS,tZ,dS,dZ,go_sem,Nat.reduceLT,Nat.reduceAdd]
    repeat ((with_reducible refine aI ?_ ?_);exact an0)
    refine wX ?_
    refine zH ?_
    refine xI ?_
    refine sq zA ?_
    simp only [go_sem]
    refine yE rfl trivial (fun hc=>?_) (fun hc=>?_)
    rotate_left
    ·simp [hk3] at hc
    refine sq zA ?_
    simp only [go_sem,Nat.reduceAdd]
    repeat ((with_reducible refine aI ?_ ?_);exact an4)
    refine rg zA ?_
    simp only [go_sem,Nat.reduceLT,Nat.reduceAdd]
    obtain rfl:=Option.some.inj H
    refine ⟨[0,1,2,3],?_,?_,[],?_,?_,rfl⟩
    ·simp only [go_sem]
     try exact at0
    ·simp only [go_sem]
     try exact at0
    ·simp only [go_sem]
     exact xF (zC (zZ (α:=TFrame)) (zC (zZ (α:=TFrame)) (zC (xO (zC zE (zC zE (zC (zZ (α:=TSleeper)) (zC (zZ (α:=TStored)) zW))))) (zC zE zW))))
    ·simp only [go_sem,CvH]
   have hk3:(bEq r1 0)=true:=by simpa using hc
   replace H:=zN hc H
   refine rg zA ?_
   simp only [go_sem]
   refine zH ?_
   refine sq zA ?_
   simp only [go_sem]
   repeat ((with_reducible refine aI ?_ ?_);exact an4)
   refine yE rfl trivial (fun hc=>?_) (fun hc=>?_)
   ·have hk4:((bLt p1 1) || (bLt 255 p1))=true:=by simpa using hc
    replace H:=zO hc H
    refine sq zA ?_
    simp only [go_sem]
    refine rg zA ?_
    simp only [go_sem]
    refine xE zL zA 7 ?_
    simp only [zJ,tS,tZ,dS,dZ,go_sem,Nat.reduceLT,Nat.reduceAdd]
    repeat ((with_reducible refine aI ?_ ?_);exact an0)
    refine wX ?_
    refine zH ?_
    refine xI ?_
    refine sq zA ?_
    simp only [go_sem,(by decide:bEq (2) (0)=false)]
    refine yE rfl trivial (fun hc=>?_) (fun hc=>?_)
    rotate_left
    ·cases hc
    refine sq zA ?_
    simp only [go_sem,Nat.reduceAdd]
    repeat ((with_reducible refine aI ?_ ?_);exact an4)
    refine rg zA ?_
    simp only [go_sem,Nat.reduceLT,Nat.reduceAdd]
    obtain rfl:=Option.some.inj H
    refine ⟨[0,1,2,3],?_,?_,[],?_,?_,rfl⟩
    ·simp only [go_sem]
     try exact at0
    ·simp only [go_sem]
     try exact at0
    ·simp only [go_sem]
     exact xF (zC (zZ (α:=TFrame)) (zC (zZ (α:=TFrame)) (zC (xO (zC zE (zC zE (zC (zZ (α:=TSleeper)) (zC (zZ (α:=TStored)) zW))))) (zC zE zW))))
    ·simp only [go_sem,CvH]
   have hk4:((bLt p1 1) || (bLt 255 p1))=false:=by simpa using hc
   replace H:=zN hc H
   refine rg zA ?_
   simp only [go_sem]
   refine zH ?_
   obtain ⟨r5,e6,H⟩:=bsi H
   refine rg ct12t1_ok ?_
   simp only [go_sem,Nat.reduceLT,Nat.reduceAdd,ct12t1_20,eP,e6]
   repeat ((with_reducible refine aI ?_ ?_);exact an0)
   refine zH ?_
   refine sq zA ?_
   simp only [go_sem]
   refine yE rfl trivial (fun hc=>?_) (fun hc=>?_)
   ·have hk7:(r5.2)=false:=by simpa using hc
    replace H:=zO hc H
    refine sq zA ?_
    simp only [go_sem]
    refine rg zA ?_
    simp only [go_sem]
    refine xE zL zA 7 ?_
    simp only [zJ,tS,tZ,dS,dZ,go_sem,Nat.reduceLT,Nat.reduceAdd]
    repeat ((with_reducible refine aI ?_ ?_);exact an0)
    refine wX ?_
    refine zH ?_
    refine xI ?_
    refine sq zA ?_
    simp only [go_sem,(by decide:bEq (6) (0)=false)]
    refine yE rfl trivial (fun hc=>?_) (fun hc=>?_)
    rotate_left
    ·cases hc
    refine sq zA ?_
    simp only [go_sem,Nat.reduceAdd]
    repeat ((with_reducible refine aI ?_ ?_);exact an4)
    refine rg zA ?_
    simp only [go_sem,Nat.reduceLT,Nat.reduceAdd]
    obtain rfl:=Option.some.inj H
    refine ⟨[0,1,2,3],?_,?_,[],?_,?_,rfl⟩
    ·simp only [go_sem]
     try exact at0
    ·simp only [go_sem]
     try exact at0
    ·simp only [go_sem]
     exact xF (zC (zZ (α:=TFrame)) (zC (zZ (α:=TFrame)) (zC (xO (zC zE (zC zE (zC (zZ (α:=TSleeper)) (zC (zZ (α:=TStored)) zW))))) (zC zE zW))))
    ·simp only [go_sem,CvH]
   have hk7:(r5.2)=true:=by simpa using hc
   replace H:=zN hc H
   refine rg zA ?_
   simp only [go_sem]
   refine zH ?_
   refine tM ?_
   refine xE zL zA 1 ?_
   simp only [zJ,tS,tZ,dS,dZ,go_sem,Nat.reduceLT,Nat.reduceAdd]
   repeat ((with_reducible refine aI ?_ ?_);exact an0)
   refine inlO (rs:=[.cell 2 31]) Try.func21 (by kernel_rfl) rfl rfl Try.ntmps21 (caps:=[]) (tc:=[.agg [.int .i64 p0.Limit,.int .i64 p0.Stay,.ro 3 p0.List.length false (enR zF p0.List),.ro 43 p0.Group.length false (enR zD p0.Group)]]) rfl (by simp only [go_sem]) rfl ?_
   simp only [lC,lN,Nat.reduceAdd,Nat.reduceSub,rS,rZ,aC,aN]
   refine sq zA ?_
   simp only [go_sem,Nat.reduceAdd]
   refine zH ?_
   obtain ⟨r8,e9,H⟩:=bsi H
   refine rg ct12t2_ok ?_
   simp only [go_sem,Nat.reduceLeDiff,Nat.reduceLT,Nat.reduceAdd,ct12t2_44,uZ,e9]
   repeat ((with_reducible refine aI ?_ ?_);exact an0)
   refine zH ?_
   refine zH ?_
   obtain ⟨f10,H⟩:=yH.1 H
   replace f10:=decide_eq_true_iff.1 f10
   refine toLitM 6 (z:=3) (n:=1) [.int .i64 ((gd r8 0).Aid),.bool ((gd r8 0).Asleep),.ro 43 (((gd r8 0).Held).length) false (enR zD ((gd r8 0).Held))] rfl f10 rfl (by decide) (fun x y hx hy=>(flat_get (f:=fun x=>zF (gd r8 x)) (n:=1) (fun _=>rfl) x y (by omega) hy).symm) ?_
   simp only [go_sem]
   rw [f10]
   refine rg zA ?_
   simp only [go_sem,Nat.reduceLeDiff,Nat.reduceLT,Nat.reduceAdd]
   repeat ((with_reducible refine aI ?_ ?_);exact an0)
   refine xI ?_
   refine loop_roundsM 2 ?_
   refine rndM ?_
   refine sq zA ?_
   simp only [go_sem,(by decide:bLt (0) (1)=true)]
   refine zH ?_
   refine yE rfl trivial (fun hc=>?_) (fun hc=>?_)
   rotate_left
   ·cases hc
   refine rg zA ?_
   simp only [go_sem]
   refine zH ?_
   refine xI ?_
   refine sq zA ?_
   simp only [go_sem]
   obtain ⟨f12,H⟩:=nI H
   obtain ⟨r13,e14,H⟩:=bsi H
   obtain ⟨f15,H⟩:=nI H
   refine yZ zL ct12t3_ok 1 (by kernel_rfl) (by kernel_rfl) ?_
   intro an han
   simp only [uC,wM,eG,xrD,xoD,tN,vS,List.append_nil,xK,refs,uI,mask,wT,place,xU,wV,wA,hit,inL,xM,ren,rnN,nrH,nrB,nrL,nr,rZ,rS,Nat.sub_self,Nat.add_zero,Nat.zero_add,Nat.reduceSub,Nat.lt_add_one,go_sem,Nat.reduceLeDiff,Nat.reduceLT,Nat.reduceAdd,Nat.reduceSub,Nat.reduceBEq,ct12t3_45,vV,f12,e14]
   repeat ((with_reducible refine aI ?_ ?_);exact an6)
   refine rg zA ?_
   simp only [go_sem,(by decide:wr IntKind.i64 ((0:Int)+1)=1)]
   refine rndM ?_
   refine sq zA ?_
   simp only [go_sem,(by decide:bLt (1) (1)=false)]
   refine zH ?_
   refine yE rfl trivial (fun hc=>?_) (fun hc=>?_)
   ·cases hc
   refine rg zA ?_
   simp only [go_sem]
   refine zH ?_
   obtain ⟨r16,e17,H⟩:=bsi H
   refine rg ct12t3_ok ?_
   simp only [go_sem,Nat.reduceLT,Nat.reduceAdd,ct12t3_45,vV,e17]
   repeat ((with_reducible refine aI ?_ ?_);exact an0)
   refine sq zA ?_
   simp only [go_sem,Nat.reduceLT,Nat.reduceAdd]
   repeat ((with_reducible refine aI ?_ ?_);exact an4)
   refine rg zA ?_
   simp only [go_sem,Nat.reduceLT,Nat.reduceAdd]
   refine xE zL zA 1 ?_
   simp only [zJ,tS,tZ,dS,dZ,go_sem,Nat.reduceAdd]
   repeat ((with_reducible refine aI ?_ ?_);exact an0)
   refine wX ?_
   refine zH ?_
   refine wY (c:=(bEq r5.1 0)) (fun hv18=>?_) (fun hv18=>?_)
   ·replace H:=zO hv18 H
    have hv18_:r5.1=0:=of_decide_eq_true hv18
    rw [hv18_]
    obtain ⟨f19,H⟩:=nI H
    refine vY zL zA (by kernel_rfl) (by kernel_rfl) ?_
    simp only [go_sem,Nat.reduceLeDiff,Nat.reduceLT,Nat.reduceAdd,f19]
    repeat ((with_reducible refine aI ?_ ?_);exact an4)
    refine rg zA ?_
    simp only [go_sem]
    refine xE zL zA 7 ?_
    simp only [zJ,tS,tZ,dS,dZ,go_sem,Nat.reduceLT,Nat.reduceAdd]
    repeat ((with_reducible refine aI ?_ ?_);exact an0)
    refine wX ?_
    refine zH ?_
    refine xI ?_
    refine sq zA ?_
    simp only [go_sem,(by decide:bEq (0) (0)=true)]
    refine yE rfl trivial (fun hc=>?_) (fun hc=>?_)
    ·cases hc
    refine zH ?_
    obtain ⟨f20,H⟩:=yH.1 H
    replace f20:=bZ.1 f20
    refine rg ct12t4_ok ?_
    simp only [go_sem,ct12t4_24,body24]
    repeat ((with_reducible refine And.intro ?_ ?_);focus (first|(with_reducible trivial)|omega|exact f20|(intro g;have q:=f20 (by first|exact g|(rw [g];rfl)|simpa using g);first|exact q|exact ⟨q.1,q.2.1⟩|exact q.2.2|omega|exact ⟨g,q⟩|exact ⟨trivial,q⟩|exact ⟨g,q.1,q.2.1⟩|exact ⟨g,q.2.2⟩)|(intro g;(try have q0:=f20 (by first|exact g|(rw [g];rfl)|simpa using g));and_intros<;>first|(with_reducible trivial)|assumption|exact nfc|(intro g2;rw [g,g2];rfl)|(intro g2;assumption)|(simp only [g,Bool.true_and,Bool.and_true,Bool.not_false,Bool.not_true];assumption)|grind)|(and_intros<;>first|(with_reducible trivial)|omega|assumption|exact nfc|first|exact rfl|exact trivial|exact uV|exact .inr rfl|exact .inl rfl|exact fun x hx=>absurd hx (by omega))|grind))
    refine yE rfl trivial (fun hc=>?_) (fun hc=>?_)
    ·have hk21:((bLt 3 p2) || (!(gt (F24 p4))))=true:=by simpa using hc
     replace H:=zO hc H
     refine sq zA ?_
     simp only [go_sem,Nat.reduceAdd]
     repeat ((with_reducible refine aI ?_ ?_);exact an4)
     refine rg zA ?_
     simp only [go_sem,Nat.reduceLT,Nat.reduceAdd]
     obtain rfl:=Option.some.inj H
     refine ⟨[0,1,2,3,4,5,6],?_,?_,[],?_,?_,rfl⟩
     ·simp only [go_sem]
      try exact at0
     ·simp only [go_sem,Nat.reduceBEq]
      try exact at0
     ·simp only [go_sem]
      exact xF (zC (zZ (α:=TFrame)) (zC (zZ (α:=TFrame)) (zC (xO (zC zE (zC zE (zC (zZ (α:=TSleeper)) (zC (zZ (α:=TStored)) zW))))) (zC zE zW))))
     ·simp only [go_sem,CvH]
    have hk21:((bLt 3 p2) || (!(gt (F24 p4))))=false:=by simpa using hc
    replace H:=zN hc H
    refine zH ?_
    obtain ⟨r22,e23,H⟩:=bsi H
    refine rg ct12t5_ok ?_
    simp only [go_sem,Nat.reduceLT,Nat.reduceAdd,ct12t5_25,body25,e23]
    repeat ((with_reducible refine aI ?_ ?_);exact an0)
    refine yE rfl trivial (fun hc=>?_) (fun hc=>?_)
    ·have hk24:(r22)=true:=by simpa using hc
     replace H:=zO hc H
     refine sq zA ?_
     simp only [go_sem,Nat.reduceAdd]
     repeat ((with_reducible refine aI ?_ ?_);exact an4)
     refine rg zA ?_
     simp only [go_sem,Nat.reduceLT,Nat.reduceAdd]
     obtain rfl:=Option.some.inj H
     refine ⟨[0,1,2,3,4,5,6],?_,?_,[],?_,?_,rfl⟩
     ·simp only [go_sem]
      try exact at0
     ·simp only [go_sem,Nat.reduceBEq]
      try exact at0
     ·simp only [go_sem]
      exact xF (zC (zZ (α:=TFrame)) (zC (zZ (α:=TFrame)) (zC (xO (zC zE (zC zE (zC (zZ (α:=TSleeper)) (zC (zZ (α:=TStored)) zW))))) (zC zE zW))))
     ·simp only [go_sem,CvH]
    have hk24:(r22)=false:=by simpa using hc
    replace H:=zN hc H
    refine rg zA ?_
    simp only [go_sem]
    refine zH ?_
    obtain ⟨r25,e26,H⟩:=bsi H
    refine rg ct12t6_ok ?_
    simp only [go_sem,Nat.reduceLT,Nat.reduceAdd,ct12t6_26,body26,e26]
    repeat ((with_reducible refine aI ?_ ?_);exact an0)
    refine zH ?_
    refine sq zA ?_
    simp only [go_sem,Nat.reduceLeDiff,Nat.reduceLT,Nat.reduceAdd]
    repeat ((with_reducible refine aI ?_ ?_);exact an4)
    refine condM' rfl trivial (fun hc=>?_) (fun hc=>?_)
    ·have hk27:((gd r8 0).Asleep)=false:=by simpa using hc
     replace H:=zN hc H
     refine tM ?_
     refine xE zL zA 1 ?_
     simp only [zJ,tS,tZ,dS,dZ,go_sem,Nat.reduceLT,Nat.reduceAdd]
     repeat ((with_reducible refine aI ?_ ?_);exact an3)
     refine fzO [9] ?_ ?_
     ·simp only [go_sem,Nat.reduceBEq]
      try exact at0
     simp only [go_sem,Nat.reduceBEq,Nat.reduceAdd]
     obtain ⟨r56,e57,H⟩:=bsi H
     refine xE zL ct12t10_ok 3 ?_
     simp only [zJ,tS,tZ,dS,dZ,go_sem,Nat.reduceLeDiff,Nat.reduceAdd,ct12t10_28,body28_0,e57]
     repeat ((with_reducible refine aI ?_ ?_);exact an3)
     refine wX ?_
     refine zH ?_
     refine yZ zL zA 0 (by kernel_rfl) (by kernel_rfl) ?_
     intro an han
     simp only [uC,wM,eG,xrD,xoD,tN,vS,List.append_nil,xK,refs,mask,wT,place,xU,wV,wA,hit,inL,xM,nrH,nrB,nrL,nr,rZ,Nat.sub_self,Nat.add_zero,Nat.zero_add,Nat.reduceSub,Nat.lt_add_one,go_sem,Nat.reduceLeDiff,Nat.reduceLT,Nat.reduceAdd,Nat.reduceSub,Nat.reduceBEq]
     repeat ((with_reducible refine aI ?_ ?_);exact an6)
     refine eM [7] ?_ ?_
     ·simp only [go_sem,Nat.reduceBEq]
      try exact at0
     simp only [go_sem,Nat.reduceBEq,Nat.reduceAdd]
     refine ofLitM 6 3 1 1 (litC 3 [.int .i64 ((gd r8 0).Aid),.bool ((gd r8 0).Asleep),.ro 43 r13.length false (enR zD r13)]) [.int .i64 ((gd r8 0).Aid),.bool ((gd r8 0).Asleep),.ro 43 r13.length false (enR zD r13)] rfl rfl rfl (fun x y hx hy=>rfl) ?_
     simp only [go_sem]
     refine rg zA ?_
     simp only [go_sem,Nat.reduceLT,Nat.reduceAdd]
     obtain rfl:=Option.some.inj H
     refine ⟨[11,6,8,0,1,2,3,4,5],?_,?_,[],?_,?_,rfl⟩
     ·simp only [go_sem,Nat.reduceBEq]
      try exact at0
     ·simp only [go_sem,Nat.reduceBEq]
      try exact at0
     ·simp only [go_sem,Nat.reduceBEq]
      exact xF (zC (uD (by first|rfl|simp) (fun _ _ _ _=>rfl)) (zC (zZ (α:=TFrame)) (zC (xO (zC zE (zC zE (zC (uD (by first|rfl|simp) (yY (f:=zF) [(TSleeper.mk ((gd r8 0).Aid) ((gd r8 0).Asleep) r13)] (fun _ _=>rfl) rfl)) (zC (uD (by first|rfl|simp) (fun _ _ _ _=>rfl)) zW))))) (zC zE zW))))
     ·simp only [go_sem,CvH]
    have hk27:((gd r8 0).Asleep)=true:=by simpa using hc
    replace H:=zO hc H
    refine draw_tail zL zA 11 (by kernel_rfl) (by kernel_rfl) (by kernel_rfl) ?_
    simp only [zJ,tS,tZ,dS,dZ,go_sem,Nat.reduceLeDiff,Nat.reduceLT,Nat.reduceAdd]
    repeat ((with_reducible refine aI ?_ ?_);exact an0)
    refine inlO (rs:=[.tmp 6]) Try.func27 (by kernel_rfl) rfl rfl Try.ntmps27 (caps:=[]) (tc:=[.ptr 6 3 0 2,.int .i64 p0.Limit,.agg (.int .u8 p2::.int .i64 p4::.int .u8 r25.Head.Kind::.int .u8 r25.Head.Sub::.bool r25.Head.ToDs::.bool r25.Head.FromDs::.bool r25.Head.More::.bool r25.Head.Retry::.bool r25.Head.Sleep::.bool r25.Head.MoreData::.bool r25.Head.Protected::.int .i64 r25.Head.Duration::.int .u8 r25.Head.A1.x0::.int .u8 r25.Head.A1.x1::.int .u8 r25.Head.A1.x2::.int .u8 r25.Head.A1.x3::.int .u8 r25.Head.A1.x4::.int .u8 r25.Head.A1.x5::.int .u8 r25.Head.A2.x0::.int .u8 r25.Head.A2.x1::.int .u8 r25.Head.A2.x2::.int .u8 r25.Head.A2.x3::.int .u8 r25.Head.A2.x4::.int .u8 r25.Head.A2.x5::.int .u8 r25.Head.A3.x0::.int .u8 r25.Head.A3.x1::.int .u8 r25.Head.A3.x2::.int .u8 r25.Head.A3.x3::.int .u8 r25.Head.A3.x4::.int .u8 r25.Head.A3.x5::.int .u8 r25.Head.A4.x0::.int .u8 r25.Head.A4.x1::.int .u8 r25.Head.A4.x2::.int .u8 r25.Head.A4.x3::.int .u8 r25.Head.A4.x4::.int .u8 r25.Head.A4.x5::.int .i64 r25.Head.Seq::.int .i64 r25.Head.Frag::.int .i64 r25.Head.Tid::.int .u8 r25.Head.Ack::.bool r25.Head.Amsdu::.bool r25.Head.Eosp::.sl 9 1 0 r25.Body.length false::[])]) rfl (by simp only [go_sem]) rfl ?_
    simp only [lC,lN,Nat.reduceAdd,Nat.reduceSub,rS,rZ,aC,aN]
    refine sq zA ?_
    simp only [go_sem,Nat.reduceAdd]
    refine zH ?_
    refine sq zA ?_
    simp only [go_sem,Nat.reduceLT,Nat.reduceAdd]
    repeat ((with_reducible refine aI ?_ ?_);exact an0)
    refine condM' rfl trivial (fun hc=>?_) (fun hc=>?_)
    ·have hk28:(bEq (r13.length:Nat) p0.Limit)=false:=by simpa using hc
     replace H:=zN hc H
     refine rg zA ?_
     simp only [go_sem]
     refine zH ?_
     refine eM [9] ?_ ?_
     ·simp only [go_sem,Nat.reduceBEq]
      try exact at0
     simp only [go_sem,Nat.reduceBEq,Nat.reduceAdd]
     obtain ⟨f51,H⟩:=nC H
     refine yZ zL zA 2 (by kernel_rfl) (by kernel_rfl) ?_
     intro an han
     simp only [uC,wM,eG,xrD,xoD,tN,vS,List.append_nil,xK,refs,uI,mask,wT,place,xU,wV,wA,hit,inL,xM,ren,rnN,nrH,nrB,nrL,nr,rZ,rS,Nat.sub_self,Nat.add_zero,Nat.zero_add,Nat.reduceSub,Nat.lt_add_one,go_sem,Nat.reduceLeDiff,Nat.reduceLT,Nat.reduceAdd,Nat.reduceSub,Nat.reduceBEq,f51]
     repeat ((with_reducible refine aI ?_ ?_);exact an2)
     refine sq zA ?_
     simp only [go_sem]
     refine rg zA ?_
     simp only [go_sem]
     refine xE zL zA 1 ?_
     simp only [zJ,tS,tZ,dS,dZ,go_sem]
     repeat ((with_reducible refine aI ?_ ?_);exact an1)
     refine wX ?_
     refine zH ?_
     refine yZ zL zA 0 (by kernel_rfl) (by kernel_rfl) ?_
     intro an han
     simp only [uC,wM,eG,xrD,xoD,tN,vS,List.append_nil,xK,refs,mask,wT,place,xU,wV,wA,hit,inL,xM,nrH,nrB,nrL,nr,rZ,Nat.sub_self,Nat.add_zero,Nat.zero_add,Nat.reduceSub,Nat.lt_add_one,go_sem,Nat.reduceLeDiff,Nat.reduceLT,Nat.reduceAdd,Nat.reduceSub,Nat.reduceBEq]
     repeat ((with_reducible refine aI ?_ ?_);exact an2)
     obtain ⟨w52,hw53,H⟩:=bsj H
     have lhw53:w52.length=1:=by rw [← hw53];exact cl
     obtain ⟨w54,hw55,H⟩:=bsj H
     have lhw55:w54.length=r13.length+1:=by rw [← hw55];exact cl
     refine fY (t2:=(tp 10 (.ro 0 0 true (fun _ _=>.top)::.ro 0 0 true (fun _ _=>.top)::.ptr 2 0 0 0::.int .i64 0::tp 57 []))) (h2:=[.lit 31 [.int .i64 p0.Limit,.int .i64 p0.Stay,.ro 3 p0.List.length false (enR zF p0.List),.ro 43 p0.Group.length false (enR zD p0.Group)],.lit 54 (.int .u8 r25.Head.Kind::.int .u8 r25.Head.Sub::.bool r25.Head.ToDs::.bool r25.Head.FromDs::.bool r25.Head.More::.bool r25.Head.Retry::.bool r25.Head.Sleep::.bool r25.Head.MoreData::.bool r25.Head.Protected::.int .i64 r25.Head.Duration::.int .u8 r25.Head.A1.x0::.int .u8 r25.Head.A1.x1::.int .u8 r25.Head.A1.x2::.int .u8 r25.Head.A1.x3::.int .u8 r25.Head.A1.x4::.int .u8 r25.Head.A1.x5::.int .u8 r25.Head.A2.x0::.int .u8 r25.Head.A2.x1::.int .u8 r25.Head.A2.x2::.int .u8 r25.Head.A2.x3::.int .u8 r25.Head.A2.x4::.int .u8 r25.Head.A2.x5::.int .u8 r25.Head.A3.x0::.int .u8 r25.Head.A3.x1::.int .u8 r25.Head.A3.x2::.int .u8 r25.Head.A3.x3::.int .u8 r25.Head.A3.x4::.int .u8 r25.Head.A3.x5::.int .u8 r25.Head.A4.x0::.int .u8 r25.Head.A4.x1::.int .u8 r25.Head.A4.x2::.int .u8 r25.Head.A4.x3::.int .u8 r25.Head.A4.x4::.int .u8 r25.Head.A4.x5::.int .i64 r25.Head.Seq::.int .i64 r25.Head.Frag::.int .i64 r25.Head.Tid::.int .u8 r25.Head.Ack::.bool r25.Head.Amsdu::.bool r25.Head.Eosp::.ro 1 r25.Body.length false (enR yG r25.Body)::[]),.lit 31 [.int .i64 p0.Limit,.int .i64 p0.Stay,.sl 6 3 0 1 false,.sl 8 43 0 r16.length false],.lit 31 [.int .i64 p0.Limit,.int .i64 p0.Stay,.sl 6 3 0 1 false,.sl 8 43 0 r16.length false],.lit 31 [.int .i64 p0.Limit,.int .i64 p0.Stay,.sl 6 3 0 1 false,.sl 8 43 0 r16.length false],.lit 31 [.int .i64 p0.Limit,.int .i64 p0.Stay,.sl 6 3 0 1 false,.sl 8 43 0 r16.length false],.lit 72 [.int .i64 ((gd r8 0).Aid),.bool ((gd r8 0).Asleep),.sl 12 43 0 w54.length false],.dead,.row 82 43 r16.length (enR zD r16),.dead,.lit 82 (.int .u8 p2::.int .i64 p4::.int .u8 r25.Head.Kind::.int .u8 r25.Head.Sub::.bool r25.Head.ToDs::.bool r25.Head.FromDs::.bool r25.Head.More::.bool r25.Head.Retry::.bool r25.Head.Sleep::.bool r25.Head.MoreData::.bool r25.Head.Protected::.int .i64 r25.Head.Duration::.int .u8 r25.Head.A1.x0::.int .u8 r25.Head.A1.x1::.int .u8 r25.Head.A1.x2::.int .u8 r25.Head.A1.x3::.int .u8 r25.Head.A1.x4::.int .u8 r25.Head.A1.x5::.int .u8 r25.Head.A2.x0::.int .u8 r25.Head.A2.x1::.int .u8 r25.Head.A2.x2::.int .u8 r25.Head.A2.x3::.int .u8 r25.Head.A2.x4::.int .u8 r25.Head.A2.x5::.int .u8 r25.Head.A3.x0::.int .u8 r25.Head.A3.x1::.int .u8 r25.Head.A3.x2::.int .u8 r25.Head.A3.x3::.int .u8 r25.Head.A3.x4::.int .u8 r25.Head.A3.x5::.int .u8 r25.Head.A4.x0::.int .u8 r25.Head.A4.x1::.int .u8 r25.Head.A4.x2::.int .u8 r25.Head.A4.x3::.int .u8 r25.Head.A4.x4::.int .u8 r25.Head.A4.x5::.int .i64 r25.Head.Seq::.int .i64 r25.Head.Frag::.int .i64 r25.Head.Tid::.int .u8 r25.Head.Ack::.bool r25.Head.Amsdu::.bool r25.Head.Eosp::.ro 1 r25.Body.length false (enR yG r25.Body)::[]),.row 82 43 w52.length (enR zD w52),.row 82 43 w54.length (enR zD w54)]) ?_ ?_
     ·refine zI ⟨[some 0,some 1,some 2,some 3,some 4,some 5,some 6,some 7,some 8,some 9,some 10,some 11,some 12],?_,?_,by rfl,by rfl⟩
      ·simp [CvL,Cv,yB,tp]
      ·exact ⟨(by simp [CvB,CvL,Cv,wB,geth]),(by simp [CvB,CvL,Cv,wB,geth]),(by simp [CvB,CvL,Cv,wB,geth,yB]),(by simp [CvB,CvL,Cv,wB,geth,yB]),(by simp [CvB,CvL,Cv,wB,geth,yB]),(by simp [CvB,CvL,Cv,wB,geth,yB]),(by simp [CvB,CvL,Cv,wB,geth,yB,lhw55]),zB,zK yP rfl (fun _ _ _ _=>rfl),zB,(by simp [CvB,CvL,Cv,wB,geth]),zK yP lhw53 (hw53 ▸ (yY (f:=zD) [(TStored.mk p2 p4 (eF r25))] (fun _ _=>rfl) rfl)),zK yP lhw55 (hw55 ▸ (wW (f:=zD) r13 [(TStored.mk p2 p4 (eF r25))] (fun _ _ _ _=>rfl) (yY (f:=zD) [(TStored.mk p2 p4 (eF r25))] (fun _ _=>rfl) rfl))),trivial⟩
     simp only [tp]
     refine eM [12] ?_ ?_
     ·simp only [go_sem,Nat.reduceBEq]
      try exact at0
     simp only [go_sem,Nat.reduceBEq,Nat.reduceAdd]
     refine ofLitM 6 3 1 1 (litC 3 [.int .i64 ((gd r8 0).Aid),.bool ((gd r8 0).Asleep),.ro 43 w54.length false (enR zD w54)]) [.int .i64 ((gd r8 0).Aid),.bool ((gd r8 0).Asleep),.ro 43 w54.length false (enR zD w54)] rfl rfl rfl (fun x y hx hy=>rfl) ?_
     simp only [go_sem]
     refine rg zA ?_
     simp only [go_sem,Nat.reduceLT,Nat.reduceAdd]
     obtain rfl:=Option.some.inj H
     refine ⟨[6,8,0,1,2,3,4,5,10],?_,?_,[],?_,?_,rfl⟩
     ·simp only [go_sem,Nat.reduceBEq]
      try exact at0
     ·simp only [go_sem,Nat.reduceBEq]
      try exact at0
     ·simp only [go_sem,Nat.reduceBEq]
      exact xF (zC (zZ (α:=TFrame)) (zC (zZ (α:=TFrame)) (zC (xO (zC zE (zC zE (zC (uD (by first|rfl|simp) (yY (f:=zF) [(TSleeper.mk ((gd r8 0).Aid) ((gd r8 0).Asleep) w54)] (fun _ _=>rfl) rfl)) (zC (uD (by first|rfl|simp) (fun _ _ _ _=>rfl)) zW))))) (zC zE zW))))
     ·simp only [go_sem,CvH]
    have hk28:(bEq (r13.length:Nat) p0.Limit)=true:=by simpa using hc
    replace H:=zO hc H
    refine zH ?_
    refine tM ?_
    refine xE zL zA 3 ?_
    simp only [zJ,tS,tZ,dS,dZ,go_sem,Nat.reduceLT,Nat.reduceAdd]
    repeat ((with_reducible refine aI ?_ ?_);exact an0)
    refine inlO (rs:=[.cell 4 82]) Try.func48 (by kernel_rfl) rfl rfl Try.ntmps48 (caps:=[]) (tc:=[.sl 7 43 0 r13.length false,.fn 49 []]) rfl (by simp only [go_sem]) rfl ?_
    simp only [lC,lN,Nat.reduceAdd,Nat.reduceSub,rS,rZ,aC,aN]
    refine sq zA ?_
    simp only [go_sem,Nat.reduceAdd]
    refine zH ?_
    refine sq zA ?_
    simp only [go_sem]
    repeat ((with_reducible refine aI ?_ ?_);exact an0)
    refine yE rfl trivial (fun hc=>?_) (fun hc=>?_)
    ·have hk29:(bLt (r13.length:Nat) 1)=true:=by simpa using hc
     replace H:=zO hc H
     cases H
    have hk29:(bLt (r13.length:Nat) 1)=false:=by simpa using hc
    replace H:=zN hc H
    refine rg zA ?_
    simp only [go_sem]
    refine zH ?_
    obtain ⟨f30,H⟩:=nI H
    refine rg zA ?_
    simp only [go_sem,Nat.reduceLT,Nat.reduceAdd,f30]
    repeat ((with_reducible refine aI ?_ ?_);exact an4)
    refine zH ?_
    refine sq zA ?_
    simp only [go_sem]
    refine xI ?_
    refine xA (fun s:Int × TStored=>(.sl 7 43 0 r13.length false::.fn 49 []::.top::.top::.ptr 11 0 0 0::.ptr 12 0 0 0::.int .i64 s.1::tp 26 [])) (fun s=>[.dead,.dead,.lit 31 [.int .i64 0,.int .i64 0,.ro 0 0 true (fun _ _=>.top),.ro 0 0 true (fun _ _=>.top)],.lit 31 [.int .i64 p0.Limit,.int .i64 p0.Stay,.sl 6 3 0 1 false,.sl 8 43 0 r16.length false],.dead,.dead,.lit 72 [.int .i64 ((gd r8 0).Aid),.bool ((gd r8 0).Asleep),.sl 7 43 0 r13.length false],.row 82 43 r13.length (enR zD r13),.row 82 43 r16.length (enR zD r16),.row 5 1 r25.Body.length (enR yG r25.Body),.lit 82 (.int .u8 p2::.int .i64 p4::.int .u8 r25.Head.Kind::.int .u8 r25.Head.Sub::.bool r25.Head.ToDs::.bool r25.Head.FromDs::.bool r25.Head.More::.bool r25.Head.Retry::.bool r25.Head.Sleep::.bool r25.Head.MoreData::.bool r25.Head.Protected::.int .i64 r25.Head.Duration::.int .u8 r25.Head.A1.x0::.int .u8 r25.Head.A1.x1::.int .u8 r25.Head.A1.x2::.int .u8 r25.Head.A1.x3::.int .u8 r25.Head.A1.x4::.int .u8 r25.Head.A1.x5::.int .u8 r25.Head.A2.x0::.int .u8 r25.Head.A2.x1::.int .u8 r25.Head.A2.x2::.int .u8 r25.Head.A2.x3::.int .u8 r25.Head.A2.x4::.int .u8 r25.Head.A2.x5::.int .u8 r25.Head.A3.x0::.int .u8 r25.Head.A3.x1::.int .u8 r25.Head.A3.x2::.int .u8 r25.Head.A3.x3::.int .u8 r25.Head.A3.x4::.int .u8 r25.Head.A3.x5::.int .u8 r25.Head.A4.x0::.int .u8 r25.Head.A4.x1::.int .u8 r25.Head.A4.x2::.int .u8 r25.Head.A4.x3::.int .u8 r25.Head.A4.x4::.int .u8 r25.Head.A4.x5::.int .i64 r25.Head.Seq::.int .i64 r25.Head.Frag::.int .i64 r25.Head.Tid::.int .u8 r25.Head.Ack::.bool r25.Head.Amsdu::.bool r25.Head.Eosp::.sl 9 1 0 r25.Body.length false::[]),.lit 82 (.int .u8 0::.int .i64 0::.int .u8 0::.int .u8 0::.bool false::.bool false::.bool false::.bool false::.bool false::.bool false::.bool false::.int .i64 0::.int .u8 0::.int .u8 0::.int .u8 0::.int .u8 0::.int .u8 0::.int .u8 0::.int .u8 0::.int .u8 0::.int .u8 0::.int .u8 0::.int .u8 0::.int .u8 0::.int .u8 0::.int .u8 0::.int .u8 0::.int .u8 0::.int .u8 0::.int .u8 0::.int .u8 0::.int .u8 0::.int .u8 0::.int .u8 0::.int .u8 0::.int .u8 0::.int .i64 0::.int .i64 0::.int .i64 0::.int .u8 0::.bool false::.bool false::.ro 0 0 true (fun _ _=>.top)::[]),.lit 82 (.int .u8 s.2.Cat::.int .i64 s.2.At::.int .u8 s.2.Frame.Head.Kind::.int .u8 s.2.Frame.Head.Sub::.bool s.2.Frame.Head.ToDs::.bool s.2.Frame.Head.FromDs::.bool s.2.Frame.Head.More::.bool s.2.Frame.Head.Retry::.bool s.2.Frame.Head.Sleep::.bool s.2.Frame.Head.MoreData::.bool s.2.Frame.Head.Protected::.int .i64 s.2.Frame.Head.Duration::.int .u8 s.2.Frame.Head.A1.x0::.int .u8 s.2.Frame.Head.A1.x1::.int .u8 s.2.Frame.Head.A1.x2::.int .u8 s.2.Frame.Head.A1.x3::.int .u8 s.2.Frame.Head.A1.x4::.int .u8 s.2.Frame.Head.A1.x5::.int .u8 s.2.Frame.Head.A2.x0::.int .u8 s.2.Frame.Head.A2.x1::.int .u8 s.2.Frame.Head.A2.x2::.int .u8 s.2.Frame.Head.A2.x3::.int .u8 s.2.Frame.Head.A2.x4::.int .u8 s.2.Frame.Head.A2.x5::.int .u8 s.2.Frame.Head.A3.x0::.int .u8 s.2.Frame.Head.A3.x1::.int .u8 s.2.Frame.Head.A3.x2::.int .u8 s.2.Frame.Head.A3.x3::.int .u8 s.2.Frame.Head.A3.x4::.int .u8 s.2.Frame.Head.A3.x5::.int .u8 s.2.Frame.Head.A4.x0::.int .u8 s.2.Frame.Head.A4.x1::.int .u8 s.2.Frame.Head.A4.x2::.int .u8 s.2.Frame.Head.A4.x3::.int .u8 s.2.Frame.Head.A4.x4::.int .u8 s.2.Frame.Head.A4.x5::.int .i64 s.2.Frame.Head.Seq::.int .i64 s.2.Frame.Head.Frag::.int .i64 s.2.Frame.Head.Tid::.int .u8 s.2.Frame.Head.Ack::.bool s.2.Frame.Head.Amsdu::.bool s.2.Frame.Head.Eosp::.ro 1 s.2.Frame.Body.length false (enR yG s.2.Frame.Body)::[])]) (fun e:TStored=>(tp 4 (.ptr 11 0 0 0::.ptr 12 0 0 0::tp 27 []))) (fun e=>[.dead,.dead,.lit 31 [.int .i64 0,.int .i64 0,.ro 0 0 true (fun _ _=>.top),.ro 0 0 true (fun _ _=>.top)],.lit 31 [.int .i64 p0.Limit,.int .i64 p0.Stay,.sl 6 3 0 1 false,.sl 8 43 0 r16.length false],.dead,.dead,.lit 72 [.int .i64 ((gd r8 0).Aid),.bool ((gd r8 0).Asleep),.sl 7 43 0 r13.length false],.row 82 43 r13.length (enR zD r13),.row 82 43 r16.length (enR zD r16),.row 5 1 r25.Body.length (enR yG r25.Body),.lit 82 (.int .u8 p2::.int .i64 p4::.int .u8 r25.Head.Kind::.int .u8 r25.Head.Sub::.bool r25.Head.ToDs::.bool r25.Head.FromDs::.bool r25.Head.More::.bool r25.Head.Retry::.bool r25.Head.Sleep::.bool r25.Head.MoreData::.bool r25.Head.Protected::.int .i64 r25.Head.Duration::.int .u8 r25.Head.A1.x0::.int .u8 r25.Head.A1.x1::.int .u8 r25.Head.A1.x2::.int .u8 r25.Head.A1.x3::.int .u8 r25.Head.A1.x4::.int .u8 r25.Head.A1.x5::.int .u8 r25.Head.A2.x0::.int .u8 r25.Head.A2.x1::.int .u8 r25.Head.A2.x2::.int .u8 r25.Head.A2.x3::.int .u8 r25.Head.A2.x4::.int .u8 r25.Head.A2.x5::.int .u8 r25.Head.A3.x0::.int .u8 r25.Head.A3.x1::.int .u8 r25.Head.A3.x2::.int .u8 r25.Head.A3.x3::.int .u8 r25.Head.A3.x4::.int .u8 r25.Head.A3.x5::.int .u8 r25.Head.A4.x0::.int .u8 r25.Head.A4.x1::.int .u8 r25.Head.A4.x2::.int .u8 r25.Head.A4.x3::.int .u8 r25.Head.A4.x4::.int .u8 r25.Head.A4.x5::.int .i64 r25.Head.Seq::.int .i64 r25.Head.Frag::.int .i64 r25.Head.Tid::.int .u8 r25.Head.Ack::.bool r25.Head.Amsdu::.bool r25.Head.Eosp::.sl 9 1 0 r25.Body.length false::[]),.lit 82 (.int .u8 0::.int .i64 0::.int .u8 0::.int .u8 0::.bool false::.bool false::.bool false::.bool false::.bool false::.bool false::.bool false::.int .i64 0::.int .u8 0::.int .u8 0::.int .u8 0::.int .u8 0::.int .u8 0::.int .u8 0::.int .u8 0::.int .u8 0::.int .u8 0::.int .u8 0::.int .u8 0::.int .u8 0::.int .u8 0::.int .u8 0::.int .u8 0::.int .u8 0::.int .u8 0::.int .u8 0::.int .u8 0::.int .u8 0::.int .u8 0::.int .u8 0::.int .u8 0::.int .u8 0::.int .i64 0::.int .i64 0::.int .i64 0::.int .u8 0::.bool false::.bool false::.ro 0 0 true (fun _ _=>.top)::[]),.lit 82 (.int .u8 e.Cat::.int .i64 e.At::.int .u8 e.Frame.Head.Kind::.int .u8 e.Frame.Head.Sub::.bool e.Frame.Head.ToDs::.bool e.Frame.Head.FromDs::.bool e.Frame.Head.More::.bool e.Frame.Head.Retry::.bool e.Frame.Head.Sleep::.bool e.Frame.Head.MoreData::.bool e.Frame.Head.Protected::.int .i64 e.Frame.Head.Duration::.int .u8 e.Frame.Head.A1.x0::.int .u8 e.Frame.Head.A1.x1::.int .u8 e.Frame.Head.A1.x2::.int .u8 e.Frame.Head.A1.x3::.int .u8 e.Frame.Head.A1.x4::.int .u8 e.Frame.Head.A1.x5::.int .u8 e.Frame.Head.A2.x0::.int .u8 e.Frame.Head.A2.x1::.int .u8 e.Frame.Head.A2.x2::.int .u8 e.Frame.Head.A2.x3::.int .u8 e.Frame.Head.A2.x4::.int .u8 e.Frame.Head.A2.x5::.int .u8 e.Frame.Head.A3.x0::.int .u8 e.Frame.Head.A3.x1::.int .u8 e.Frame.Head.A3.x2::.int .u8 e.Frame.Head.A3.x3::.int .u8 e.Frame.Head.A3.x4::.int .u8 e.Frame.Head.A3.x5::.int .u8 e.Frame.Head.A4.x0::.int .u8 e.Frame.Head.A4.x1::.int .u8 e.Frame.Head.A4.x2::.int .u8 e.Frame.Head.A4.x3::.int .u8 e.Frame.Head.A4.x4::.int .u8 e.Frame.Head.A4.x5::.int .i64 e.Frame.Head.Seq::.int .i64 e.Frame.Head.Frag::.int .i64 e.Frame.Head.Tid::.int .u8 e.Frame.Head.Ack::.bool e.Frame.Head.Amsdu::.bool e.Frame.Head.Eosp::.ro 1 e.Frame.Body.length false (enR yG e.Frame.Body)::[])]) H ?_ (fun s o H hn1_1 hn2_1=>?_) (fun w1_6 H=>?_)
    ·refine zI ⟨[some 0,some 1,some 2,some 3,some 4,some 5,some 6,some 7,some 8,some 9,some 10,some 11,some 12],?_,?_,by rfl,by rfl⟩
     ·simp [CvL,Cv,yB,tp]
     ·exact ⟨zB,zB,cv,cv,zB,zB,cv,(zQ nfA),(zQ nfA),(zQ nfA),cv,cv,cv,trivial⟩
    ·obtain ⟨v1_1,v1_2⟩:=s
     unfold F12_L1 at H
     delta eF at H
     try dsimp only at H ⊢
     try simp only [tp]
     refine zH ?_
     refine sq zA ?_
     simp only [go_sem,Nat.reduceAdd]
     repeat ((with_reducible refine aI ?_ ?_);exact an0)
     refine condM' rfl trivial (fun hc=>?_) (fun hc=>?_)
     ·have hk31:(bLt v1_1 (r13.length:Nat))=false:=by simpa using hc
      replace H:=zN hc H
      refine rg zA ?_
      simp only [go_sem]
      refine ⟨_,(Option.some.inj H).symm,?_⟩
      refine zI ⟨[some 0,some 1,some 2,some 3,some 4,some 5,some 6,some 7,some 8,some 9,some 10,some 11,some 12],?_,?_,by rfl,by rfl⟩
      ·simp [CvL,Cv,yB]
      ·exact ⟨zB,zB,cv,cv,zB,zB,cv,(zQ nfA),(zQ nfA),(zQ nfA),cv,cv,cv,trivial⟩
     have hk31:(bLt v1_1 (r13.length:Nat))=true:=by simpa using hc
     replace H:=zO hc H
     refine rg zA ?_
     simp only [go_sem]
     refine zH ?_
     refine xI ?_
     refine zH ?_
     obtain ⟨f32,H⟩:=nI H
     obtain ⟨r33,e34,H⟩:=bsi H
     refine vY zL ct12t7_ok (by kernel_rfl) (by kernel_rfl) ?_
     simp only [go_sem,Nat.reduceLT,Nat.reduceAdd,ct12t7_49,body49,f32,e34]
     repeat ((with_reducible refine aI ?_ ?_);exact an0)
     refine condM' rfl trivial (fun hc=>?_) (fun hc=>?_)
     ·have hk35:(bLt r33 0)=false:=by simpa using hc
      replace H:=zN hc H
      refine rg zA ?_
      simp only [go_sem]
      refine rg zA ?_
      simp only [go_sem]
      refine ⟨_,(Option.some.inj H).symm,?_⟩
      refine zI ⟨[some 0,some 1,some 2,some 3,some 4,some 5,some 6,some 7,some 8,some 9,some 10,some 11,some 12],?_,?_,by rfl,by rfl⟩
      ·simp [CvL,Cv,yB]
      ·exact ⟨zB,zB,cv,cv,zB,zB,cv,(zQ nfA),(zQ nfA),(zQ nfA),cv,cv,cv,trivial⟩
     have hk35:(bLt r33 0)=true:=by simpa using hc
     replace H:=zO hc H
     obtain ⟨f36,H⟩:=nI H
     refine rg zA ?_
     simp only [go_sem,Nat.reduceLT,Nat.reduceAdd,f36]
     repeat ((with_reducible refine aI ?_ ?_);exact an4)
     refine rg zA ?_
     simp only [go_sem]
     refine ⟨_,(Option.some.inj H).symm,?_⟩
     refine zI ⟨[some 0,some 1,some 2,some 3,some 4,some 5,some 6,some 7,some 8,some 9,some 10,some 11,some 12],?_,?_,by rfl,by rfl⟩
     ·simp [CvL,Cv,yB]
     ·exact ⟨zB,zB,cv,cv,zB,zB,cv,(zQ nfA),(zQ nfA),(zQ nfA),cv,cv,cv,trivial⟩
    ·try dsimp only at H ⊢
     try simp only [tp]
     try simp only [yR]
     refine sq zA ?_
     simp only [go_sem,Nat.reduceLT,Nat.reduceAdd]
     repeat ((with_reducible refine aI ?_ ?_);exact an4)
     refine rg zA ?_
     simp only [go_sem,Nat.reduceLT,Nat.reduceAdd]
     refine xE zL zA 3 ?_
     simp only [zJ,tS,tZ,dS,dZ,go_sem,Nat.reduceLeDiff,Nat.reduceLT,Nat.reduceAdd]
     repeat ((with_reducible refine aI ?_ ?_);exact an0)
     refine wX ?_
     refine zH ?_
     refine sq zA ?_
     simp only [go_sem,Nat.reduceLeDiff,Nat.reduceLT,Nat.reduceAdd]
     repeat ((with_reducible refine aI ?_ ?_);exact an4)
     refine yE rfl trivial (fun hc=>?_) (fun hc=>?_)
     ·have hk37:(bLt p2 w1_6.Cat)=true:=by simpa using hc
      replace H:=zO hc H
      refine zH ?_
      refine tM ?_
      refine xE zL zA 2 ?_
      simp only [zJ,tS,tZ,dS,dZ,go_sem,Nat.reduceLT,Nat.reduceAdd,reduceCtorEq]
      repeat ((with_reducible refine aI ?_ ?_);exact an4)
      refine fzO [9] ?_ ?_
      ·simp only [go_sem,Nat.reduceBEq]
       try exact at0
      simp only [go_sem,Nat.reduceBEq,Nat.reduceAdd]
      refine xE zL zA 2 ?_
      simp only [zJ,tS,tZ,dS,dZ,go_sem,Nat.reduceLeDiff,Nat.reduceAdd]
      repeat ((with_reducible refine aI ?_ ?_);exact an4)
      refine wX ?_
      refine rg zA ?_
      simp only [go_sem]
      refine xE zL zA 1 ?_
      simp only [zJ,tS,tZ,dS,dZ,go_sem]
      repeat ((with_reducible refine aI ?_ ?_);exact an3)
      refine wX ?_
      refine zH ?_
      refine yZ zL zA 0 (by kernel_rfl) (by kernel_rfl) ?_
      intro an han
      simp only [uC,wM,eG,xrD,xoD,tN,vS,List.append_nil,xK,refs,mask,wT,place,xU,wV,wA,hit,inL,xM,nrH,nrB,nrL,nr,rZ,Nat.sub_self,Nat.add_zero,Nat.zero_add,Nat.reduceSub,Nat.lt_add_one,go_sem,Nat.reduceLeDiff,Nat.reduceLT,Nat.reduceAdd,Nat.reduceSub,Nat.reduceBEq]
      repeat ((with_reducible refine And.intro ?_ ?_);focus (and_intros<;>first|(with_reducible trivial)|(show anB _ _ _=true;subst han;kernel_rfl)|(show (anB _ _ _ && _)=true;subst han;kernel_rfl)|omega|assumption|exact nrc|exact nfc|first|exact rfl|exact trivial|exact uV|exact .inr rfl|exact .inl rfl|exact fun x hx=>absurd hx (by omega)|(intro x hx;(repeat (first|(and_intros<;>(first|exact rfl|exact trivial|exact uV|exact .inr rfl|exact .inl rfl|exact fun x hx=>absurd hx (by omega)))|(exfalso;omega)|(rcases x with _|x)));done)))
      refine eM [7] ?_ ?_
      ·simp only [go_sem,Nat.reduceBEq]
       try exact at0
      simp only [go_sem,Nat.reduceBEq,Nat.reduceAdd]
      refine ofLitM 6 3 1 1 (litC 3 [.int .i64 ((gd r8 0).Aid),.bool ((gd r8 0).Asleep),.ro 43 r13.length false (enR zD r13)]) [.int .i64 ((gd r8 0).Aid),.bool ((gd r8 0).Asleep),.ro 43 r13.length false (enR zD r13)] rfl rfl rfl (fun x y hx hy=>rfl) ?_
      simp only [go_sem]
      refine rg zA ?_
      simp only [go_sem,Nat.reduceLT,Nat.reduceAdd]
      obtain rfl:=Option.some.inj H
      refine ⟨[14,6,8,2,3,10,11,12,13],?_,?_,[],?_,?_,rfl⟩
      ·simp only [go_sem,Nat.reduceBEq]
       try exact at0
      ·simp only [go_sem,Nat.reduceBEq]
       try exact at0
      ·simp only [go_sem,Nat.reduceBEq]
       exact xF (zC (zZ (α:=TFrame)) (zC (uD (by first|rfl|simp) (yY (f:=zM) [r25] (fun _ _=>rfl) rfl)) (zC (xO (zC zE (zC zE (zC (uD (by first|rfl|simp) (yY (f:=zF) [(TSleeper.mk ((gd r8 0).Aid) ((gd r8 0).Asleep) r13)] (fun _ _=>rfl) rfl)) (zC (uD (by first|rfl|simp) (fun _ _ _ _=>rfl)) zW))))) (zC zE zW))))
      ·simp only [go_sem,CvH]
     have hk37:(bLt p2 w1_6.Cat)=false:=by simpa using hc
     replace H:=zN hc H
     refine rg zA ?_
     simp only [go_sem]
     refine zH ?_
     obtain ⟨r38,e39,H⟩:=bsi H
     refine rg ct12t8_ok ?_
     simp only [go_sem,Nat.reduceLT,Nat.reduceAdd,ct12t8_35,body35_0,e39]
     repeat ((with_reducible refine aI ?_ ?_);exact an0)
     refine zH ?_
     obtain ⟨f40,H⟩:=nI H
     refine rg zA ?_
     simp only [go_sem,Nat.reduceLeDiff,Nat.reduceLT,Nat.reduceAdd,reduceCtorEq,f40]
     repeat ((with_reducible refine aI ?_ ?_);exact an4)
     obtain ⟨f41,H⟩:=yH.1 H
     replace f41:=delb_iff.1 f41
     refine rg ct12t9_ok ?_
     simp only [go_sem,Nat.reduceLT,Nat.reduceAdd,ct12t9_37,delN,f41]
     repeat ((with_reducible refine aI ?_ ?_);exact an3)
     refine zH ?_
     obtain ⟨w42,hw43,H⟩:=bsj H
     have lhw43:w42.length=1:=by rw [← hw43];exact cl
     obtain ⟨w44,hw45,H⟩:=bsj H
     have lhw45:w44.length=r13.length - ((wr .i64 (r38+1)).toNat - r38.toNat):=by rw [← hw45];exact (del_len f41 cl)
     refine fY (t2:=(.ptr 6 3 0 2::tp 4 (.ptr 10 0 0 0::.sl 14 41 0 w42.length false::tp 51 []))) (h2:=[.dead,.dead,.lit 31 [.int .i64 0,.int .i64 0,.ro 0 0 true (fun _ _=>.top),.ro 0 0 true (fun _ _=>.top)],.lit 31 [.int .i64 p0.Limit,.int .i64 p0.Stay,.sl 6 3 0 1 false,.sl 8 43 0 r16.length false],.dead,.dead,.lit 72 [.int .i64 ((gd r8 0).Aid),.bool ((gd r8 0).Asleep),.sl 15 43 0 w44.length false],.dead,.row 82 43 r16.length (enR zD r16),.row 5 1 r25.Body.length (enR yG r25.Body),.lit 82 (.int .u8 p2::.int .i64 p4::.int .u8 r25.Head.Kind::.int .u8 r25.Head.Sub::.bool r25.Head.ToDs::.bool r25.Head.FromDs::.bool r25.Head.More::.bool r25.Head.Retry::.bool r25.Head.Sleep::.bool r25.Head.MoreData::.bool r25.Head.Protected::.int .i64 r25.Head.Duration::.int .u8 r25.Head.A1.x0::.int .u8 r25.Head.A1.x1::.int .u8 r25.Head.A1.x2::.int .u8 r25.Head.A1.x3::.int .u8 r25.Head.A1.x4::.int .u8 r25.Head.A1.x5::.int .u8 r25.Head.A2.x0::.int .u8 r25.Head.A2.x1::.int .u8 r25.Head.A2.x2::.int .u8 r25.Head.A2.x3::.int .u8 r25.Head.A2.x4::.int .u8 r25.Head.A2.x5::.int .u8 r25.Head.A3.x0::.int .u8 r25.Head.A3.x1::.int .u8 r25.Head.A3.x2::.int .u8 r25.Head.A3.x3::.int .u8 r25.Head.A3.x4::.int .u8 r25.Head.A3.x5::.int .u8 r25.Head.A4.x0::.int .u8 r25.Head.A4.x1::.int .u8 r25.Head.A4.x2::.int .u8 r25.Head.A4.x3::.int .u8 r25.Head.A4.x4::.int .u8 r25.Head.A4.x5::.int .i64 r25.Head.Seq::.int .i64 r25.Head.Frag::.int .i64 r25.Head.Tid::.int .u8 r25.Head.Ack::.bool r25.Head.Amsdu::.bool r25.Head.Eosp::.sl 9 1 0 r25.Body.length false::[]),.lit 82 (.int .u8 w1_6.Cat::.int .i64 w1_6.At::.int .u8 w1_6.Frame.Head.Kind::.int .u8 w1_6.Frame.Head.Sub::.bool w1_6.Frame.Head.ToDs::.bool w1_6.Frame.Head.FromDs::.bool w1_6.Frame.Head.More::.bool w1_6.Frame.Head.Retry::.bool w1_6.Frame.Head.Sleep::.bool w1_6.Frame.Head.MoreData::.bool w1_6.Frame.Head.Protected::.int .i64 w1_6.Frame.Head.Duration::.int .u8 w1_6.Frame.Head.A1.x0::.int .u8 w1_6.Frame.Head.A1.x1::.int .u8 w1_6.Frame.Head.A1.x2::.int .u8 w1_6.Frame.Head.A1.x3::.int .u8 w1_6.Frame.Head.A1.x4::.int .u8 w1_6.Frame.Head.A1.x5::.int .u8 w1_6.Frame.Head.A2.x0::.int .u8 w1_6.Frame.Head.A2.x1::.int .u8 w1_6.Frame.Head.A2.x2::.int .u8 w1_6.Frame.Head.A2.x3::.int .u8 w1_6.Frame.Head.A2.x4::.int .u8 w1_6.Frame.Head.A2.x5::.int .u8 w1_6.Frame.Head.A3.x0::.int .u8 w1_6.Frame.Head.A3.x1::.int .u8 w1_6.Frame.Head.A3.x2::.int .u8 w1_6.Frame.Head.A3.x3::.int .u8 w1_6.Frame.Head.A3.x4::.int .u8 w1_6.Frame.Head.A3.x5::.int .u8 w1_6.Frame.Head.A4.x0::.int .u8 w1_6.Frame.Head.A4.x1::.int .u8 w1_6.Frame.Head.A4.x2::.int .u8 w1_6.Frame.Head.A4.x3::.int .u8 w1_6.Frame.Head.A4.x4::.int .u8 w1_6.Frame.Head.A4.x5::.int .i64 w1_6.Frame.Head.Seq::.int .i64 w1_6.Frame.Head.Frag::.int .i64 w1_6.Frame.Head.Tid::.int .u8 w1_6.Frame.Head.Ack::.bool w1_6.Frame.Head.Amsdu::.bool w1_6.Frame.Head.Eosp::.ro 1 w1_6.Frame.Body.length false (enR yG w1_6.Frame.Body)::[]),.lit 82 (.int .u8 w1_6.Cat::.int .i64 w1_6.At::.int .u8 w1_6.Frame.Head.Kind::.int .u8 w1_6.Frame.Head.Sub::.bool w1_6.Frame.Head.ToDs::.bool w1_6.Frame.Head.FromDs::.bool w1_6.Frame.Head.More::.bool w1_6.Frame.Head.Retry::.bool w1_6.Frame.Head.Sleep::.bool w1_6.Frame.Head.MoreData::.bool w1_6.Frame.Head.Protected::.int .i64 w1_6.Frame.Head.Duration::.int .u8 w1_6.Frame.Head.A1.x0::.int .u8 w1_6.Frame.Head.A1.x1::.int .u8 w1_6.Frame.Head.A1.x2::.int .u8 w1_6.Frame.Head.A1.x3::.int .u8 w1_6.Frame.Head.A1.x4::.int .u8 w1_6.Frame.Head.A1.x5::.int .u8 w1_6.Frame.Head.A2.x0::.int .u8 w1_6.Frame.Head.A2.x1::.int .u8 w1_6.Frame.Head.A2.x2::.int .u8 w1_6.Frame.Head.A2.x3::.int .u8 w1_6.Frame.Head.A2.x4::.int .u8 w1_6.Frame.Head.A2.x5::.int .u8 w1_6.Frame.Head.A3.x0::.int .u8 w1_6.Frame.Head.A3.x1::.int .u8 w1_6.Frame.Head.A3.x2::.int .u8 w1_6.Frame.Head.A3.x3::.int .u8 w1_6.Frame.Head.A3.x4::.int .u8 w1_6.Frame.Head.A3.x5::.int .u8 w1_6.Frame.Head.A4.x0::.int .u8 w1_6.Frame.Head.A4.x1::.int .u8 w1_6.Frame.Head.A4.x2::.int .u8 w1_6.Frame.Head.A4.x3::.int .u8 w1_6.Frame.Head.A4.x4::.int .u8 w1_6.Frame.Head.A4.x5::.int .i64 w1_6.Frame.Head.Seq::.int .i64 w1_6.Frame.Head.Frag::.int .i64 w1_6.Frame.Head.Tid::.int .u8 w1_6.Frame.Head.Ack::.bool w1_6.Frame.Head.Amsdu::.bool w1_6.Frame.Head.Eosp::.ro 1 w1_6.Frame.Body.length false (enR yG w1_6.Frame.Body)::[]),.lit 5 [.int .u8 w1_6.Cat],.row 54 41 w42.length (enR zM w42),.row 82 43 w44.length (enR zD w44)]) ?_ ?_
     ·refine zI ⟨[some 0,some 1,some 2,some 3,some 4,some 5,some 6,some 7,some 8,some 9,some 10,some 11,some 12,some 13,some 14,some 15],?_,?_,by rfl,by rfl⟩
      ·simp [CvL,Cv,yB,tp,lhw43]
      ·exact ⟨zB,zB,(by simp [CvB,CvL,Cv,wB,geth]),(by simp [CvB,CvL,Cv,wB,geth,yB]),zB,zB,(by simp [CvB,CvL,Cv,wB,geth,yB,lhw45]),zB,zK yP rfl (fun _ _ _ _=>rfl),zK xT rfl (fun _ _ _ _=>rfl),(by simp [CvB,CvL,Cv,wB,geth,yB]),(by simp [CvB,CvL,Cv,wB,geth]),(by simp [CvB,CvL,Cv,wB,geth]),(by simp [CvB,CvL,Cv,wB,geth]),zK xP lhw43 (hw43 ▸ (yY (f:=zM) [(eF ((gd r13 r38.toNat).Frame))] (fun _ _=>rfl) rfl)),zK yP lhw45 (hw45 ▸ (del_row f41 cl (fun _ _ _ _=>rfl))),trivial⟩
     simp only [tp]
     refine eM [9] ?_ ?_
     ·simp only [go_sem,Nat.reduceBEq]
      try exact at0
     simp only [go_sem,Nat.reduceBEq,Nat.reduceAdd]
     obtain ⟨f46,H⟩:=nC H
     refine yZ zL zA 2 (by kernel_rfl) (by kernel_rfl) ?_
     intro an han
     simp only [uC,wM,eG,xrD,xoD,tN,vS,List.append_nil,xK,refs,uI,mask,wT,place,xU,wV,wA,hit,inL,xM,ren,rnN,nrH,nrB,nrL,nr,rZ,rS,Nat.sub_self,Nat.add_zero,Nat.zero_add,Nat.reduceSub,Nat.lt_add_one,go_sem,Nat.reduceLeDiff,Nat.reduceLT,Nat.reduceAdd,Nat.reduceSub,Nat.reduceBEq,f46]
     repeat ((with_reducible refine aI ?_ ?_);exact an2)
     refine sq zA ?_
     simp only [go_sem]
     refine rg zA ?_
     simp only [go_sem]
     refine xE zL zA 1 ?_
     simp only [zJ,tS,tZ,dS,dZ,go_sem]
     repeat ((with_reducible refine aI ?_ ?_);exact an1)
     refine wX ?_
     refine zH ?_
     refine yZ zL zA 0 (by kernel_rfl) (by kernel_rfl) ?_
     intro an han
     simp only [uC,wM,eG,xrD,xoD,tN,vS,List.append_nil,xK,refs,mask,wT,place,xU,wV,wA,hit,inL,xM,nrH,nrB,nrL,nr,rZ,Nat.sub_self,Nat.add_zero,Nat.zero_add,Nat.reduceSub,Nat.lt_add_one,go_sem,Nat.reduceLeDiff,Nat.reduceLT,Nat.reduceAdd,Nat.reduceSub,Nat.reduceBEq]
     repeat ((with_reducible refine aI ?_ ?_);exact an2)
     obtain ⟨w47,hw48,H⟩:=bsj H
     have lhw48:w47.length=1:=by rw [← hw48];exact cl
     obtain ⟨w49,hw50,H⟩:=bsj H
     have lhw50:w49.length=w44.length+1:=by rw [← hw50];exact cl
     refine fY (t2:=(tp 10 (.ro 0 0 true (fun _ _=>.top)::.sl 14 41 0 w42.length false::.ptr 2 0 0 0::.int .i64 0::tp 57 []))) (h2:=[.dead,.dead,.lit 31 [.int .i64 p0.Limit,.int .i64 p0.Stay,.sl 6 3 0 1 false,.sl 8 43 0 r16.length false],.lit 31 [.int .i64 p0.Limit,.int .i64 p0.Stay,.sl 6 3 0 1 false,.sl 8 43 0 r16.length false],.dead,.dead,.lit 72 [.int .i64 ((gd r8 0).Aid),.bool ((gd r8 0).Asleep),.sl 17 43 0 w49.length false],.dead,.row 82 43 r16.length (enR zD r16),.dead,.lit 82 (.int .u8 p2::.int .i64 p4::.int .u8 r25.Head.Kind::.int .u8 r25.Head.Sub::.bool r25.Head.ToDs::.bool r25.Head.FromDs::.bool r25.Head.More::.bool r25.Head.Retry::.bool r25.Head.Sleep::.bool r25.Head.MoreData::.bool r25.Head.Protected::.int .i64 r25.Head.Duration::.int .u8 r25.Head.A1.x0::.int .u8 r25.Head.A1.x1::.int .u8 r25.Head.A1.x2::.int .u8 r25.Head.A1.x3::.int .u8 r25.Head.A1.x4::.int .u8 r25.Head.A1.x5::.int .u8 r25.Head.A2.x0::.int .u8 r25.Head.A2.x1::.int .u8 r25.Head.A2.x2::.int .u8 r25.Head.A2.x3::.int .u8 r25.Head.A2.x4::.int .u8 r25.Head.A2.x5::.int .u8 r25.Head.A3.x0::.int .u8 r25.Head.A3.x1::.int .u8 r25.Head.A3.x2::.int .u8 r25.Head.A3.x3::.int .u8 r25.Head.A3.x4::.int .u8 r25.Head.A3.x5::.int .u8 r25.Head.A4.x0::.int .u8 r25.Head.A4.x1::.int .u8 r25.Head.A4.x2::.int .u8 r25.Head.A4.x3::.int .u8 r25.Head.A4.x4::.int .u8 r25.Head.A4.x5::.int .i64 r25.Head.Seq::.int .i64 r25.Head.Frag::.int .i64 r25.Head.Tid::.int .u8 r25.Head.Ack::.bool r25.Head.Amsdu::.bool r25.Head.Eosp::.ro 1 r25.Body.length false (enR yG r25.Body)::[]),.lit 82 (.int .u8 w1_6.Cat::.int .i64 w1_6.At::.int .u8 w1_6.Frame.Head.Kind::.int .u8 w1_6.Frame.Head.Sub::.bool w1_6.Frame.Head.ToDs::.bool w1_6.Frame.Head.FromDs::.bool w1_6.Frame.Head.More::.bool w1_6.Frame.Head.Retry::.bool w1_6.Frame.Head.Sleep::.bool w1_6.Frame.Head.MoreData::.bool w1_6.Frame.Head.Protected::.int .i64 w1_6.Frame.Head.Duration::.int .u8 w1_6.Frame.Head.A1.x0::.int .u8 w1_6.Frame.Head.A1.x1::.int .u8 w1_6.Frame.Head.A1.x2::.int .u8 w1_6.Frame.Head.A1.x3::.int .u8 w1_6.Frame.Head.A1.x4::.int .u8 w1_6.Frame.Head.A1.x5::.int .u8 w1_6.Frame.Head.A2.x0::.int .u8 w1_6.Frame.Head.A2.x1::.int .u8 w1_6.Frame.Head.A2.x2::.int .u8 w1_6.Frame.Head.A2.x3::.int .u8 w1_6.Frame.Head.A2.x4::.int .u8 w1_6.Frame.Head.A2.x5::.int .u8 w1_6.Frame.Head.A3.x0::.int .u8 w1_6.Frame.Head.A3.x1::.int .u8 w1_6.Frame.Head.A3.x2::.int .u8 w1_6.Frame.Head.A3.x3::.int .u8 w1_6.Frame.Head.A3.x4::.int .u8 w1_6.Frame.Head.A3.x5::.int .u8 w1_6.Frame.Head.A4.x0::.int .u8 w1_6.Frame.Head.A4.x1::.int .u8 w1_6.Frame.Head.A4.x2::.int .u8 w1_6.Frame.Head.A4.x3::.int .u8 w1_6.Frame.Head.A4.x4::.int .u8 w1_6.Frame.Head.A4.x5::.int .i64 w1_6.Frame.Head.Seq::.int .i64 w1_6.Frame.Head.Frag::.int .i64 w1_6.Frame.Head.Tid::.int .u8 w1_6.Frame.Head.Ack::.bool w1_6.Frame.Head.Amsdu::.bool w1_6.Frame.Head.Eosp::.ro 1 w1_6.Frame.Body.length false (enR yG w1_6.Frame.Body)::[]),.lit 82 (.int .u8 w1_6.Cat::.int .i64 w1_6.At::.int .u8 w1_6.Frame.Head.Kind::.int .u8 w1_6.Frame.Head.Sub::.bool w1_6.Frame.Head.ToDs::.bool w1_6.Frame.Head.FromDs::.bool w1_6.Frame.Head.More::.bool w1_6.Frame.Head.Retry::.bool w1_6.Frame.Head.Sleep::.bool w1_6.Frame.Head.MoreData::.bool w1_6.Frame.Head.Protected::.int .i64 w1_6.Frame.Head.Duration::.int .u8 w1_6.Frame.Head.A1.x0::.int .u8 w1_6.Frame.Head.A1.x1::.int .u8 w1_6.Frame.Head.A1.x2::.int .u8 w1_6.Frame.Head.A1.x3::.int .u8 w1_6.Frame.Head.A1.x4::.int .u8 w1_6.Frame.Head.A1.x5::.int .u8 w1_6.Frame.Head.A2.x0::.int .u8 w1_6.Frame.Head.A2.x1::.int .u8 w1_6.Frame.Head.A2.x2::.int .u8 w1_6.Frame.Head.A2.x3::.int .u8 w1_6.Frame.Head.A2.x4::.int .u8 w1_6.Frame.Head.A2.x5::.int .u8 w1_6.Frame.Head.A3.x0::.int .u8 w1_6.Frame.Head.A3.x1::.int .u8 w1_6.Frame.Head.A3.x2::.int .u8 w1_6.Frame.Head.A3.x3::.int .u8 w1_6.Frame.Head.A3.x4::.int .u8 w1_6.Frame.Head.A3.x5::.int .u8 w1_6.Frame.Head.A4.x0::.int .u8 w1_6.Frame.Head.A4.x1::.int .u8 w1_6.Frame.Head.A4.x2::.int .u8 w1_6.Frame.Head.A4.x3::.int .u8 w1_6.Frame.Head.A4.x4::.int .u8 w1_6.Frame.Head.A4.x5::.int .i64 w1_6.Frame.Head.Seq::.int .i64 w1_6.Frame.Head.Frag::.int .i64 w1_6.Frame.Head.Tid::.int .u8 w1_6.Frame.Head.Ack::.bool w1_6.Frame.Head.Amsdu::.bool w1_6.Frame.Head.Eosp::.ro 1 w1_6.Frame.Body.length false (enR yG w1_6.Frame.Body)::[]),.lit 5 [.int .u8 w1_6.Cat],.row 54 41 w42.length (enR zM w42),.dead,.row 82 43 w47.length (enR zD w47),.row 82 43 w49.length (enR zD w49)]) ?_ ?_
     ·refine zI ⟨[some 0,some 1,some 2,some 3,some 4,some 5,some 6,some 7,some 8,some 9,some 10,some 11,some 12,some 13,some 14,some 15,some 16,some 17],?_,?_,by rfl,by rfl⟩
      ·simp [CvL,Cv,yB,tp]
      ·exact ⟨zB,zB,(by simp [CvB,CvL,Cv,wB,geth,yB]),(by simp [CvB,CvL,Cv,wB,geth,yB]),zB,zB,(by simp [CvB,CvL,Cv,wB,geth,yB,lhw50]),zB,zK yP rfl (fun _ _ _ _=>rfl),zB,(by simp [CvB,CvL,Cv,wB,geth]),(by simp [CvB,CvL,Cv,wB,geth]),(by simp [CvB,CvL,Cv,wB,geth]),(by simp [CvB,CvL,Cv,wB,geth]),zK xP rfl (fun _ _ _ _=>rfl),zB,zK yP lhw48 (hw48 ▸ (yY (f:=zD) [(TStored.mk p2 p4 (eF r25))] (fun _ _=>rfl) rfl)),zK yP lhw50 (hw50 ▸ (wW (f:=zD) w44 [(TStored.mk p2 p4 (eF r25))] (fun _ _ _ _=>rfl) (yY (f:=zD) [(TStored.mk p2 p4 (eF r25))] (fun _ _=>rfl) rfl))),trivial⟩
     simp only [tp]
     refine eM [17] ?_ ?_
     ·simp only [go_sem,Nat.reduceBEq]
      try exact at0
     simp only [go_sem,Nat.reduceBEq,Nat.reduceAdd]
     refine ofLitM 6 3 1 1 (litC 3 [.int .i64 ((gd r8 0).Aid),.bool ((gd r8 0).Asleep),.ro 43 w49.length false (enR zD w49)]) [.int .i64 ((gd r8 0).Aid),.bool ((gd r8 0).Asleep),.ro 43 w49.length false (enR zD w49)] rfl rfl rfl (fun x y hx hy=>rfl) ?_
     simp only [go_sem]
     refine rg zA ?_
     simp only [go_sem,Nat.reduceLT,Nat.reduceAdd]
     obtain rfl:=Option.some.inj H
     refine ⟨[14,6,8,2,3,10,11,12,13],?_,?_,[],?_,?_,rfl⟩
     ·simp only [go_sem,Nat.reduceBEq]
      try exact at0
     ·simp only [go_sem,Nat.reduceBEq]
      try exact at0
     ·simp only [go_sem,Nat.reduceBEq]
      exact xF (zC (zZ (α:=TFrame)) (zC (uD (by first|rfl|simp) (fun _ _ _ _=>rfl)) (zC (xO (zC zE (zC zE (zC (uD (by first|rfl|simp) (yY (f:=zF) [(TSleeper.mk ((gd r8 0).Aid) ((gd r8 0).Asleep) w49)] (fun _ _=>rfl) rfl)) (zC (uD (by first|rfl|simp) (fun _ _ _ _=>rfl)) zW))))) (zC zE zW))))
     ·simp only [go_sem,CvH]
   replace H:=zN hv18 H
   cases H
  ·cases hb
 ·unfold body12 at hb
  split at hb<;>cases hb
noncomputable def ct16t0:Ct:=tab [(19,zV vM)]
theorem ct16t0_ok:yU Try.prog ct16t0:=zP ok19 <| zX
theorem ct16t0_19 (l:List AV) (h:List ABlk):ct16t0 19 l h=zV vM l h:=rfl
noncomputable def F16_L1 (p0:TBuffer) (v1_1:Int) (v1_2:List Int):Option (Lp (Int × (List Int)) ((List Int) ⊕ (TTraffic × Int))) :=
 bif (bLt v1_1 (p0.List.length:Nat)) then (need (inb v1_1 p0.List.length) <| bif (bLt 0 (((gd p0.List v1_1.toNat).Held).length:Nat)) then (need (capb 8 (v1_2.length+1)) <| some (.next (wr .i64 (v1_1+1),(v1_2 ++ [(gd p0.List v1_1.toNat).Aid])))) else (some (.next (wr .i64 (v1_1+1),v1_2)))) else (some (.done (.inl v1_2)))
noncomputable def F16 (p0:TBuffer):Option (TTraffic × Int) :=
 (F19 p0).bind fun r1=>bif (!bEq r1 0) then (some ((TTraffic.mk false []),r1)) else (lp (yN (fun s=>F16_L1 p0 s.1 s.2) (0,[])) (fun w1_3=>some ((TTraffic.mk (bLt 0 (p0.Group.length:Nat)) w1_3),0)) some)
noncomputable def body16:List AV->List ABlk->ED
 | [v0],h=>.ed [] (aK 4 xS (roD (yF h []) v0)/\roDOb (yF h []) v0/\(F16 (zG (aL (roD (yF h []) v0)))).isSome=true) (.tup [.agg [.bool (((gt (F16 (zG (aL (roD (yF h []) v0))))).1).Group),.sl 0 1 0 ((((gt (F16 (zG (aL (roD (yF h []) v0))))).1).Aids).length) false],.int .i64 ((gt (F16 (zG (aL (roD (yF h []) v0))))).2)]) [.row 3 1 ((((gt (F16 (zG (aL (roD (yF h []) v0))))).1).Aids).length) (enR yQ (((gt (F16 (zG (aL (roD (yF h []) v0))))).1).Aids))]
 | _,_=>.fail
theorem ok16:xZ Try.prog 16 (edC body16):=by
 refine edit_fnV body16 (rs:=[.cell 2 61,.tmp 3]) Try.func16 (by kernel_rfl) rfl rfl ?_
 intro l h bs ob q0 g0 hb hob
 unfold body16 at hb
 split at hb
 ·rename_i v0
  injection hb with q1 q2 q3 q4;subst q1 q2 q3 q4
  obtain ⟨hk0_0,hk0_1,hob⟩:=hob
  obtain ⟨r,H⟩:=oE.1 hob
  rw [H,yD]
  have hw0:=uO hk0_0
  obtain ⟨p0,hp_p0⟩:∃ p0,p0=zG (aL (roD (yF h []) v0)):=⟨_,rfl⟩
  rw [← hp_p0] at H hw0
  refine ⟨[.agg [.int .i64 p0.Limit,.int .i64 p0.Stay,.ro 3 p0.List.length false (enR zF p0.List),.ro 43 p0.Group.length false (enR zD p0.Group)]],[],rfl,⟨(EW_view hk0_1 hw0),trivial⟩,trivial,trivial,⟨(nfB_en xQ),trivial⟩,⟨noroB_en,trivial⟩,(by first|(simp only [noro,wP,and_self];done)|(simp only [noro,wP];and_intros<;>first|trivial|exact noro_bif (by simp only [noro]) (by simp only [noro])|(simp only [noro,wP,and_self]))),?_⟩
  rw [Try.ntmps16]
  simp only [lC,lN,Nat.reduceAdd,Nat.reduceSub,rS,rZ,aC,aN]
  unfold F16 at H
  try dsimp only at H
  refine sq zA ?_
  simp only [go_sem]
  refine zH ?_
  refine zH ?_
  obtain ⟨r1,e2,H⟩:=bsi H
  refine rg ct16t0_ok ?_
  simp only [go_sem,Nat.reduceLT,Nat.reduceAdd,ct16t0_19,vM,e2]
  repeat ((with_reducible refine aI ?_ ?_);exact an0)
  refine sq zA ?_
  simp only [go_sem]
  refine yE rfl trivial (fun hc=>?_) (fun hc=>?_)
  ·have hk3:(bEq r1 0)=false:=by simpa using hc
   replace H:=zO hc H
   refine sq zA ?_
   simp only [go_sem,Nat.reduceAdd]
   repeat ((with_reducible refine aI ?_ ?_);exact an4)
   refine rg zA ?_
   simp only [go_sem,Nat.reduceLT,Nat.reduceAdd]
   obtain rfl:=Option.some.inj H
   refine vH [] [none] ?_ ?_ ?_ ?_ (by rfl) (by rfl)
   ·simp only [go_sem]
    try exact at0
   ·simp only [go_sem]
    try exact at0
   ·simp only [go_sem]
    exact xF (zC (by first|(simp [Cv,CvL];done)|(simp [Cv,CvL,yB,yD];omega)) (zC (by simp [Cv]) zW))
   ·simp only [go_sem,CvH]
    exact uR
  have hk3:(bEq r1 0)=true:=by simpa using hc
  replace H:=zN hc H
  refine rg zA ?_
  simp only [go_sem]
  refine sq zA ?_
  simp only [go_sem,Nat.reduceLeDiff,Nat.reduceLT,Nat.reduceAdd]
  repeat ((with_reducible refine aI ?_ ?_);exact an0)
  refine zH ?_
  refine sq zA ?_
  simp only [go_sem,Nat.reduceLeDiff,Nat.reduceLT,Nat.reduceAdd]
  repeat ((with_reducible refine aI ?_ ?_);exact an0)
  refine xI ?_
  refine xA (fun s:Int × (List Int)=>(.top::.top::.ptr 1 0 0 0::.top::.top::.ptr 2 0 0 0::tp 14 (.ro 3 p0.List.length false (enR zF p0.List)::.int .i64 (p0.List.length:Nat)::.int .i64 s.1::tp 16 []))) (fun s=>[.dead,.lit 61 [.bool false,.ro 0 0 true (fun _ _=>.top)],.lit 61 [.bool (bLt 0 (p0.Group.length:Nat)),.sl 3 1 0 s.2.length false],.row 3 1 s.2.length (enR yQ s.2)]) (fun e:List Int=>(.top::.top::.ptr 1 0 0 0::.top::.top::.ptr 2 0 0 0::tp 33 [])) (fun e=>[.dead,.lit 61 [.bool false,.ro 0 0 true (fun _ _=>.top)],.lit 61 [.bool (bLt 0 (p0.Group.length:Nat)),.sl 3 1 0 e.length false],.row 3 1 e.length (enR yQ e)]) H ?_ (fun s o H hn1_1 hn2_1=>?_) (fun w1_3 H=>?_)
  ·refine zI ⟨[some 0,some 1,some 2,none],?_,?_,by rfl,by rfl⟩
   ·simp [CvL,Cv,yB,tp]
   ·exact ⟨zB,cv,cv,uR,trivial⟩
  ·obtain ⟨v1_1,v1_2⟩:=s
   unfold F16_L1 at H
   try dsimp only at H ⊢
   try simp only [tp]
   refine sq zA ?_
   simp only [go_sem,Nat.reduceAdd]
   refine zH ?_
   refine condM' rfl trivial (fun hc=>?_) (fun hc=>?_)
   ·have hk4:(bLt v1_1 (p0.List.length:Nat))=false:=by simpa using hc
    replace H:=zN hc H
    refine rg zA ?_
    simp only [go_sem]
    refine ⟨_,(Option.some.inj H).symm,?_⟩
    refine zI ⟨[some 0,some 1,some 2,some 3],?_,?_,by rfl,by rfl⟩
    ·simp [CvL,Cv,yB]
    ·exact ⟨zB,cv,cv,zK xQ cl (fun _ _ _ _=>rfl),trivial⟩
   have hk4:(bLt v1_1 (p0.List.length:Nat))=true:=by simpa using hc
   replace H:=zO hc H
   refine rg zA ?_
   simp only [go_sem]
   refine zH ?_
   refine xI ?_
   refine zH ?_
   obtain ⟨f5,H⟩:=nI H
   refine rg zA ?_
   simp only [go_sem,Nat.reduceLT,Nat.reduceAdd,f5]
   repeat ((with_reducible refine aI ?_ ?_);exact an4)
   refine sq zA ?_
   simp only [go_sem,Nat.reduceLT,Nat.reduceAdd]
   repeat ((with_reducible refine aI ?_ ?_);exact an0)
   refine condM' rfl trivial (fun hc=>?_) (fun hc=>?_)
   ·have hk6:(bLt 0 (((gd p0.List v1_1.toNat).Held).length:Nat))=false:=by simpa using hc
    replace H:=zN hc H
    refine rg zA ?_
    simp only [go_sem]
    refine rg zA ?_
    simp only [go_sem]
    refine ⟨_,(Option.some.inj H).symm,?_⟩
    refine zI ⟨[some 0,some 1,some 2,some 3],?_,?_,by rfl,by rfl⟩
    ·simp [CvL,Cv,yB]
    ·exact ⟨zB,cv,cv,zK xQ cl (fun _ _ _ _=>rfl),trivial⟩
   have hk6:(bLt 0 (((gd p0.List v1_1.toNat).Held).length:Nat))=true:=by simpa using hc
   replace H:=zO hc H
   obtain ⟨f7,H⟩:=nC H
   refine rg zA ?_
   simp only [go_sem,Nat.reduceLeDiff,Nat.reduceLT,Nat.reduceAdd,Nat.reduceBEq,f7]
   repeat ((with_reducible refine aI ?_ ?_);exact an1)
   refine rg zA ?_
   simp only [go_sem]
   refine ⟨_,(Option.some.inj H).symm,?_⟩
   refine zI ⟨[some 0,some 1,some 2,some 6],?_,?_,by rfl,by rfl⟩
   ·simp [CvL,Cv,yB]
   ·exact ⟨zB,cv,cv,zK xQ cl (wW (f:=yQ) v1_2 [(gd p0.List v1_1.toNat).Aid] (fun _ _ _ _=>rfl) (yY (f:=yQ) [(gd p0.List v1_1.toNat).Aid] (fun _ _=>rfl) rfl)),trivial⟩
  ·try dsimp only at H ⊢
   try simp only [tp]
   try simp only [yR]
   refine sq zA ?_
   simp only [go_sem,Nat.reduceLT,Nat.reduceAdd]
   repeat ((with_reducible refine aI ?_ ?_);exact an4)
   refine rg zA ?_
   simp only [go_sem,Nat.reduceLT,Nat.reduceAdd]
   obtain rfl:=Option.some.inj H
   refine vH [] [some 3] ?_ ?_ ?_ ?_ (by rfl) (by rfl)
   ·simp only [go_sem]
    try exact at0
   ·simp only [go_sem]
    try exact at0
   ·simp only [go_sem]
    exact xF (zC (by first|(simp [Cv,CvL,yB];done)|(simp [Cv,CvL,yB,yD];omega)) (zC (by simp [Cv]) zW))
   ·simp only [go_sem,CvH]
    exact zK xQ cl (fun _ _ _ _=>rfl)
 ·cases hb
noncomputable def ct33t0:Ct:=tab [(34,zV body34)]
theorem ct33t0_ok:yU Try.prog ct33t0:=zP ok34 <| zX
theorem ct33t0_34 (l:List AV) (h:List ABlk):ct33t0 34 l h=zV body34 l h:=rfl
noncomputable def F33 (p0:TStored) (p1:TStored):Option (Int) :=
 (F34 p0.Cat p1.Cat).bind fun r1=>some r1
noncomputable def body33:List AV->AR
 | [v0,v1]=>.pure (aK 43 xD v0/\aK 43 xD v1/\(F33 (yA (aL v0)) (yA (aL v1))).isSome=true) (.int .i64 (gt (F33 (yA (aL v0)) (yA (aL v1)))))
 | _=>.fail
theorem ok33:xZ Try.prog 33 (zV body33):=by
 refine xC body33 (rs:=[.tmp 4]) Try.func33 (by kernel_rfl) rfl rfl ?_
 intro l ob v hb hob
 unfold body33 at hb
 split at hb
 ·rename_i v0 v1
  injection hb with q1 q2;subst q1 q2
  obtain ⟨hk0_0,hk1_0,hob⟩:=hob
  obtain ⟨r,H⟩:=oE.1 hob
  rw [H,yD]
  have hw0:=wA_TStored hk0_0
  have hw1:=wA_TStored hk1_0
  generalize yA (aL v0)=p0 at H hw0
  generalize yA (aL v1)=p1 at H hw1
  refine ⟨[.agg (.int .u8 p0.Cat::.int .i64 p0.At::.int .u8 p0.Frame.Head.Kind::.int .u8 p0.Frame.Head.Sub::.bool p0.Frame.Head.ToDs::.bool p0.Frame.Head.FromDs::.bool p0.Frame.Head.More::.bool p0.Frame.Head.Retry::.bool p0.Frame.Head.Sleep::.bool p0.Frame.Head.MoreData::.bool p0.Frame.Head.Protected::.int .i64 p0.Frame.Head.Duration::.int .u8 p0.Frame.Head.A1.x0::.int .u8 p0.Frame.Head.A1.x1::.int .u8 p0.Frame.Head.A1.x2::.int .u8 p0.Frame.Head.A1.x3::.int .u8 p0.Frame.Head.A1.x4::.int .u8 p0.Frame.Head.A1.x5::.int .u8 p0.Frame.Head.A2.x0::.int .u8 p0.Frame.Head.A2.x1::.int .u8 p0.Frame.Head.A2.x2::.int .u8 p0.Frame.Head.A2.x3::.int .u8 p0.Frame.Head.A2.x4::.int .u8 p0.Frame.Head.A2.x5::.int .u8 p0.Frame.Head.A3.x0::.int .u8 p0.Frame.Head.A3.x1::.int .u8 p0.Frame.Head.A3.x2::.int .u8 p0.Frame.Head.A3.x3::.int .u8 p0.Frame.Head.A3.x4::.int .u8 p0.Frame.Head.A3.x5::.int .u8 p0.Frame.Head.A4.x0::.int .u8 p0.Frame.Head.A4.x1::.int .u8 p0.Frame.Head.A4.x2::.int .u8 p0.Frame.Head.A4.x3::.int .u8 p0.Frame.Head.A4.x4::.int .u8 p0.Frame.Head.A4.x5::.int .i64 p0.Frame.Head.Seq::.int .i64 p0.Frame.Head.Frag::.int .i64 p0.Frame.Head.Tid::.int .u8 p0.Frame.Head.Ack::.bool p0.Frame.Head.Amsdu::.bool p0.Frame.Head.Eosp::.ro 1 p0.Frame.Body.length false (enR yG p0.Frame.Body)::[]),.agg (.int .u8 p1.Cat::.int .i64 p1.At::.int .u8 p1.Frame.Head.Kind::.int .u8 p1.Frame.Head.Sub::.bool p1.Frame.Head.ToDs::.bool p1.Frame.Head.FromDs::.bool p1.Frame.Head.More::.bool p1.Frame.Head.Retry::.bool p1.Frame.Head.Sleep::.bool p1.Frame.Head.MoreData::.bool p1.Frame.Head.Protected::.int .i64 p1.Frame.Head.Duration::.int .u8 p1.Frame.Head.A1.x0::.int .u8 p1.Frame.Head.A1.x1::.int .u8 p1.Frame.Head.A1.x2::.int .u8 p1.Frame.Head.A1.x3::.int .u8 p1.Frame.Head.A1.x4::.int .u8 p1.Frame.Head.A1.x5::.int .u8 p1.Frame.Head.A2.x0::.int .u8 p1.Frame.Head.A2.x1::.int .u8 p1.Frame.Head.A2.x2::.int .u8 p1.Frame.Head.A2.x3::.int .u8 p1.Frame.Head.A2.x4::.int .u8 p1.Frame.Head.A2.x5::.int .u8 p1.Frame.Head.A3.x0::.int .u8 p1.Frame.Head.A3.x1::.int .u8 p1.Frame.Head.A3.x2::.int .u8 p1.Frame.Head.A3.x3::.int .u8 p1.Frame.Head.A3.x4::.int .u8 p1.Frame.Head.A3.x5::.int .u8 p1.Frame.Head.A4.x0::.int .u8 p1.Frame.Head.A4.x1::.int .u8 p1.Frame.Head.A4.x2::.int .u8 p1.Frame.Head.A4.x3::.int .u8 p1.Frame.Head.A4.x4::.int .u8 p1.Frame.Head.A4.x5::.int .i64 p1.Frame.Head.Seq::.int .i64 p1.Frame.Head.Frag::.int .i64 p1.Frame.Head.Tid::.int .u8 p1.Frame.Head.Ack::.bool p1.Frame.Head.Amsdu::.bool p1.Frame.Head.Eosp::.ro 1 p1.Frame.Body.length false (enR yG p1.Frame.Body)::[])],_,(fun E vs F=>yL hw0.1 F (fun vs F=>yL hw1.1 F (fun vs F=>F))),rfl,rfl,?_⟩
  rw [Try.ntmps33]
  simp only [lC,lN,Nat.reduceAdd,Nat.reduceSub,rS,rZ,aC,aN]
  unfold F33 at H
  try dsimp only at H
  refine sq zA ?_
  simp only [go_sem]
  refine zH ?_
  obtain ⟨r1,e2,H⟩:=bsi H
  refine rg ct33t0_ok ?_
  simp only [go_sem,Nat.reduceLeDiff,Nat.reduceLT,Nat.reduceAdd,ct33t0_34,body34,e2]
  repeat ((with_reducible refine aI ?_ ?_);exact an0)
  refine rg zA ?_
  simp only [go_sem]
  obtain rfl:=Option.some.inj H
  first|rfl|simp only [Bool.and_false,Bool.false_and,Bool.and_true,Bool.true_and]
 ·cases hb
noncomputable def F36_0 (p0:TStored) (p1:Int):Option (Bool) :=
 some (bEq p0.Cat p1)
noncomputable def body36_0:List AV->AR
 | [v0,v1]=>.pure (aK 43 xD v0/\rK 1 k_u8 v1/\(F36_0 (yA (aL v0)) (vJ (rG v1))).isSome=true) (.bool (gt (F36_0 (yA (aL v0)) (vJ (rG v1)))))
 | _=>.fail
theorem ok36_0:xZ Try.prog 36 (zV body36_0):=by
 refine xC body36_0 (rs:=[.tmp 3]) Try.func36 (by kernel_rfl) rfl rfl ?_
 intro l ob v hb hob
 unfold body36_0 at hb
 split at hb
 ·rename_i v0 v1
  injection hb with q1 q2;subst q1 q2
  obtain ⟨hk0_0,hk1_0,hob⟩:=hob
  obtain ⟨r,H⟩:=oE.1 hob
  rw [H,yD]
  have hw0:=wA_TStored hk0_0
  have hw1:=rK_wk (f:=yG) (g:=vJ) (fun r h=>w_u8 h) hk1_0
  generalize yA (aL v0)=p0 at H hw0
  generalize vJ (rG v1)=p1 at H hw1
  refine ⟨[.agg (.int .u8 p0.Cat::.int .i64 p0.At::.int .u8 p0.Frame.Head.Kind::.int .u8 p0.Frame.Head.Sub::.bool p0.Frame.Head.ToDs::.bool p0.Frame.Head.FromDs::.bool p0.Frame.Head.More::.bool p0.Frame.Head.Retry::.bool p0.Frame.Head.Sleep::.bool p0.Frame.Head.MoreData::.bool p0.Frame.Head.Protected::.int .i64 p0.Frame.Head.Duration::.int .u8 p0.Frame.Head.A1.x0::.int .u8 p0.Frame.Head.A1.x1::.int .u8 p0.Frame.Head.A1.x2::.int .u8 p0.Frame.Head.A1.x3::.int .u8 p0.Frame.Head.A1.x4::.int .u8 p0.Frame.Head.A1.x5::.int .u8 p0.Frame.Head.A2.x0::.int .u8 p0.Frame.Head.A2.x1::.int .u8 p0.Frame.Head.A2.x2::.int .u8 p0.Frame.Head.A2.x3::.int .u8 p0.Frame.Head.A2.x4::.int .u8 p0.Frame.Head.A2.x5::.int .u8 p0.Frame.Head.A3.x0::.int .u8 p0.Frame.Head.A3.x1::.int .u8 p0.Frame.Head.A3.x2::.int .u8 p0.Frame.Head.A3.x3::.int .u8 p0.Frame.Head.A3.x4::.int .u8 p0.Frame.Head.A3.x5::.int .u8 p0.Frame.Head.A4.x0::.int .u8 p0.Frame.Head.A4.x1::.int .u8 p0.Frame.Head.A4.x2::.int .u8 p0.Frame.Head.A4.x3::.int .u8 p0.Frame.Head.A4.x4::.int .u8 p0.Frame.Head.A4.x5::.int .i64 p0.Frame.Head.Seq::.int .i64 p0.Frame.Head.Frag::.int .i64 p0.Frame.Head.Tid::.int .u8 p0.Frame.Head.Ack::.bool p0.Frame.Head.Amsdu::.bool p0.Frame.Head.Eosp::.ro 1 p0.Frame.Body.length false (enR yG p0.Frame.Body)::[]),.rptr 1 1 0 0 (enR yG [p1])],_,(fun E vs F=>yL hw0.1 F (fun vs F=>yL hw1.1 F (fun vs F=>F))),rfl,rfl,?_⟩
  rw [Try.ntmps36]
  simp only [lC,lN,Nat.reduceAdd,Nat.reduceSub,rS,rZ,aC,aN]
  unfold F36_0 at H
  try dsimp only at H
  refine sq zA ?_
  simp only [go_sem]
  refine sq zA ?_
  simp only [go_sem,Nat.reduceLeDiff,Nat.reduceLT,Nat.reduceAdd]
  repeat ((with_reducible refine aI ?_ ?_);exact an4)
  refine rg zA ?_
  simp only [go_sem]
  obtain rfl:=Option.some.inj H
  first|rfl|simp only [Bool.and_false,Bool.false_and,Bool.and_true,Bool.true_and]
 ·cases hb
noncomputable def ct35_1t0:Ct:=tab [(36,zV body36_0)]
theorem ct35_1t0_ok:yU Try.prog ct35_1t0:=zP ok36_0 <| zX
theorem ct35_1t0_36 (l:List AV) (h:List ABlk):ct35_1t0 36 l h=zV body36_0 l h:=rfl
noncomputable def F35_1_L1 (p0:List TStored) (p1:Int) (v1_1:Int):Option (Lp (Int) ((Unit) ⊕ (Int))) :=
 bif (bLt v1_1 (p0.length:Nat)) then (need (inb v1_1 p0.length) <| (F36_0 (TStored.mk ((gd p0 v1_1.toNat).Cat) ((gd p0 v1_1.toNat).At) (eF ((gd p0 v1_1.toNat).Frame))) p1).bind fun r3=>bif r3 then (some (.done (.inr v1_1))) else (some (.next (wr .i64 (v1_1+1))))) else (some (.done (.inl ())))
noncomputable def F35_1 (p0:List TStored) (p1:Int):Option (Int) :=
 lp (yN (fun s=>F35_1_L1 p0 p1 s) 0) (fun _=>some (-1)) some
noncomputable def body35_1:List AV->AR
 | [v0,.fn 36 [v1]]=>.pure (lK xD 43 v0/\rK 1 k_u8 v1/\(F35_1 (lA yA v0) (vJ (rG v1))).isSome=true) (.int .i64 (gt (F35_1 (lA yA v0) (vJ (rG v1)))))
 | _=>.fail
theorem ok35_1:xZ Try.prog 35 (zV body35_1):=by
 refine xC body35_1 (rs:=[.tmp 4]) Try.func35 (by kernel_rfl) rfl rfl ?_
 intro l ob v hb hob
 unfold body35_1 at hb
 split at hb
 ·rename_i v0 v1
  injection hb with q1 q2;subst q1 q2
  obtain ⟨hk0_0,hk1_0,hob⟩:=hob
  obtain ⟨r,H⟩:=oE.1 hob
  rw [H,yD]
  have hw0:=uP (fun r h=>eA h) hk0_0
  have hw1:=rK_wk (f:=yG) (g:=vJ) (fun r h=>w_u8 h) hk1_0
  generalize lA yA v0=p0 at H hw0
  generalize vJ (rG v1)=p1 at H hw1
  refine ⟨[.ro 43 p0.length false (enR zD p0),.fn 36 [.rptr 1 1 0 0 (enR yG [p1])]],_,(fun E vs F=>yL hw0.1 F (fun vs F=>yL (fn_wk (LW_cons hw1.1 LW_nil)) F (fun vs F=>F))),rfl,rfl,?_⟩
  rw [Try.ntmps35]
  simp only [lC,lN,Nat.reduceAdd,Nat.reduceSub,rS,rZ,aC,aN]
  unfold F35_1 at H
  try dsimp only at H
  refine sq zA ?_
  simp only [go_sem]
  refine zH ?_
  refine sq zA ?_
  simp only [go_sem]
  repeat ((with_reducible refine aI ?_ ?_);exact an0)
  refine xI ?_
  refine xA (fun s:Int=>(.ro 43 p0.length false (enR zD p0)::.fn 36 [.rptr 1 1 0 0 (enR yG [p1])]::tp 5 (.int .i64 (p0.length:Nat)::.int .i64 s::tp 10 []))) (fun s=>[]) (fun e:Unit=>(tp 19 [])) (fun e=>[]) H ?_ (fun v1_1 o H hn1_1 hn2_1=>?_) (fun e H=>?_)
  ·refine zI ⟨[],?_,?_,by rfl,by rfl⟩
   ·simp [CvL,Cv,tp]
   ·trivial
  ·unfold F35_1_L1 at H
   try dsimp only at H ⊢
   try simp only [tp]
   refine sq zA ?_
   simp only [go_sem]
   refine zH ?_
   refine condM' rfl trivial (fun hc=>?_) (fun hc=>?_)
   ·have hk1:(bLt v1_1 (p0.length:Nat))=false:=by simpa using hc
    replace H:=zN hc H
    refine rg zA ?_
    simp only [go_sem]
    refine ⟨_,(Option.some.inj H).symm,?_⟩
    refine zI ⟨[],?_,?_,by rfl,by rfl⟩
    ·simp [CvL,Cv]
    ·trivial
   have hk1:(bLt v1_1 (p0.length:Nat))=true:=by simpa using hc
   replace H:=zO hc H
   refine rg zA ?_
   simp only [go_sem]
   refine zH ?_
   refine xI ?_
   refine sq zA ?_
   simp only [go_sem]
   refine zH ?_
   obtain ⟨f2,H⟩:=nI H
   obtain ⟨r3,e4,H⟩:=bsi H
   refine rg ct35_1t0_ok ?_
   simp only [go_sem,Nat.reduceLT,Nat.reduceAdd,ct35_1t0_36,body36_0,f2,e4]
   repeat ((with_reducible refine aI ?_ ?_);exact an0)
   refine yE rfl trivial (fun hc=>?_) (fun hc=>?_)
   ·have hk5:(r3)=true:=by simpa using hc
    replace H:=zO hc H
    refine sq zA ?_
    simp only [go_sem]
    refine rg zA ?_
    simp only [go_sem]
    have H:=hn2_1 _ (Option.some.inj H).symm
    obtain rfl:=Option.some.inj H
    first|rfl|simp only [Bool.and_false,Bool.false_and,Bool.and_true,Bool.true_and]
   have hk5:(r3)=false:=by simpa using hc
   replace H:=zN hc H
   refine rg zA ?_
   simp only [go_sem]
   refine rg zA ?_
   simp only [go_sem]
   refine ⟨_,(Option.some.inj H).symm,?_⟩
   refine zI ⟨[],?_,?_,by rfl,by rfl⟩
   ·simp [CvL,Cv]
   ·trivial
  ·try dsimp only at H ⊢
   try simp only [tp]
   try simp only [yR]
   refine sq zA ?_
   simp only [go_sem]
   refine rg zA ?_
   simp only [go_sem]
   obtain rfl:=Option.some.inj H
   first|rfl|simp only [Bool.and_false,Bool.false_and,Bool.and_true,Bool.true_and]
 ·cases hb
end Go.Proofs.Ytooepgpfaaddbaa
