/-
  What TopSleep reaches.
-/
import Derived.Test.YtooepgpfaaddbaaY3p3
namespace Go.Proofs.Ytooepgpfaaddbaa
open Go.Am
set_option maxHeartbeats 4000000
set_option maxRecDepth 20000
set_option linter.unusedVariables false
set_option linter.unusedSimpArgs false
attribute [local go_sem] w_skip w_label w_goto w_scope k_goto b_goto l_goto s_normal s_exit s_ret s_goto w_region w_draw w_seq w_cond w_block w_exit w_ret w_loop k_normal k_exit k_ret b_normal b_exit b_ret l_normal l_exit l_ret yR m_exit m_ret m_goto kL_normal kL_exit kL_ret kJ_normal kJ_exit kJ_ret kJR_normal kJR_ret kS_normal kS_exit kS_ret kS_goto vD r_ret o_nil o_cons q_nil q_cons nxt gval gvd gvl gvw dstOf evO vG ogC og ogL ogP ogO rho rhoO strip optOk zR setL wQ absC absV absL pO hO qS ldB geth seth evStore stRes stB evBox evAlloc wS eL xJ eQ binI binB binNR binU fW nilR_t nilR_0 nilR_s evInt evStr evUn evConv cvO evPick mrg fM evNil evCall eJ qG evLen2 vcells vcOk atom tabF cnd retK resFin resL resA resC resCons fL tJ eR qX fillA fillOk putL getP nxtQ pureC_eq pureR genC_eq genR roV roL wN eB roW roWL roWOb roWObL nref nrefL binA binN eqSh eqRes qP evIndex2 evIndexS evSlice evSlice2 qT yM evConv2 cvS vB eN tO evMake wZ repL evFn evMin evMax freshC freshR sub_enR0 tC tK uT uA lenS cutS Bool.or_false Bool.false_or Bool.or_true Bool.true_or Bool.and_false Bool.false_and Option.map_some Option.map_none Option.getD_some Option.getD_none Option.bind_some Option.bind_none Option.or_some Option.or_none Option.none_or Option.isSome_none Option.isNone_none Option.isNone_some aN aC List.append_nil cond_true cond_false lC lN beq_self_eq_true Bool.and_true Bool.true_and Bool.not_true Bool.not_false true_and and_true and_self true_implies implies_true ne_eq not_false_eq_true Bool.false_eq_true Bool.true_eq_false false_implies Nat.lt_irrefl Nat.le_refl Nat.succ_ne_self imp_self Bool.cond_false_right Bool.cond_true_left decide_true decide_false Bool.not_eq_true' Bool.not_eq_false' Bool.not_not Nat.zero_mul Nat.zero_add Nat.add_zero Nat.mul_one Nat.one_mul Bool.cond_self tsz3 tby3 tagg3 tslice3 tarr3 tzero3 tzn3 tplaces3 tint3 tstr3 tnoint3 tbool3 tany3 tintk3 tbytes3 tsz4 tby4 tagg4 tslice4 tarr4 tzero4 tzn4 tplaces4 tint4 tstr4 tnoint4 tbool4 tany4 tintk4 tbytes4 tsz5 tby5 tagg5 tslice5 tarr5 tzero5 tzn5 tplaces5 tint5 tstr5 tnoint5 tbool5 tany5 tintk5 tbytes5 tsz23 tby23 tagg23 tslice23 tarr23 tzero23 tzn23 tplaces23 tint23 tstr23 tnoint23 tbool23 tany23 tintk23 tbytes23 tfld23_0 tfld23_1 tfld23_2 tfld23_3 tfld23_4 tsz24 tby24 tagg24 tslice24 tarr24 tzero24 tzn24 tplaces24 tint24 tstr24 tnoint24 tbool24 tany24 tintk24 tbytes24 tsz26 tby26 tagg26 tslice26 tarr26 tzero26 tzn26 tplaces26 tint26 tstr26 tnoint26 tbool26 tany26 tintk26 tbytes26 tsz28 tby28 tagg28 tslice28 tarr28 tzero28 tzn28 tplaces28 tint28 tstr28 tnoint28 tbool28 tany28 tintk28 tbytes28 tsz29 tby29 tagg29 tslice29 tarr29 tzero29 tzn29 tplaces29 tint29 tstr29 tnoint29 tbool29 tany29 tintk29 tbytes29 tsz31 tby31 tagg31 tslice31 tarr31 tzero31 tzn31 tplaces31 tint31 tstr31 tnoint31 tbool31 tany31 tintk31 tbytes31 tfld31_0 tfld31_1 tfld31_2 tfld31_3 tsz35 tby35 tagg35 tslice35 tarr35 tzero35 tzn35 tplaces35 tint35 tstr35 tnoint35 tbool35 tany35 tintk35 tbytes35 tsz36 tby36 tagg36 tslice36 tarr36 tzero36 tzn36 tplaces36 tint36 tstr36 tnoint36 tbool36 tany36 tintk36 tbytes36 tsz37 tby37 tagg37 tslice37 tarr37 tzero37 tzn37 tplaces37 tint37 tstr37 tnoint37 tbool37 tany37 tintk37 tbytes37 tsz38 tby38 tagg38 tslice38 tarr38 tzero38 tzn38 tplaces38 tint38 tstr38 tnoint38 tbool38 tany38 tintk38 tbytes38 tsz40 tby40 tagg40 tslice40 tarr40 tzero40 tzn40 tplaces40 tint40 tstr40 tnoint40 tbool40 tany40 tintk40 tbytes40 tfld40_0 tfld40_1 tfld40_2 tfld40_3 tfld40_4 tfld40_5 tfld40_6 tsz42 tby42 tagg42 tslice42 tarr42 tzero42 tzn42 tplaces42 tint42 tstr42 tnoint42 tbool42 tany42 tintk42 tbytes42 tfld42_0 tfld42_1 tsz46 tby46 tagg46 tslice46 tarr46 tzero46 tzn46 tplaces46 tint46 tstr46 tnoint46 tbool46 tany46 tintk46 tbytes46 tsz49 tby49 tagg49 tslice49 tarr49 tzero49 tzn49 tplaces49 tint49 tstr49 tnoint49 tbool49 tany49 tintk49 tbytes49 tfld49_0 tfld49_1 tfld49_2 tfld49_3 tfld49_4 tfld49_5 tfld49_6 tfld49_7 tfld49_8 tfld49_9 tfld49_10 tfld49_11 tfld49_12 tfld49_13 tfld49_14 tfld49_15 tfld49_16 tfld49_17 tfld49_18 tfld49_19 tsz50 tby50 tagg50 tslice50 tarr50 tzero50 tzn50 tplaces50 tint50 tstr50 tnoint50 tbool50 tany50 tintk50 tbytes50 tsz54 tby54 tagg54 tslice54 tarr54 tzero54 tzn54 tplaces54 tint54 tstr54 tnoint54 tbool54 tany54 tintk54 tbytes54 tfld54_0 tfld54_1 tsz61 tby61 tagg61 tslice61 tarr61 tzero61 tzn61 tplaces61 tint61 tstr61 tnoint61 tbool61 tany61 tintk61 tbytes61 tfld61_0 tfld61_1 tsz72 tby72 tagg72 tslice72 tarr72 tzero72 tzn72 tplaces72 tint72 tstr72 tnoint72 tbool72 tany72 tintk72 tbytes72 tfld72_0 tfld72_1 tfld72_2 tsz73 tby73 tagg73 tslice73 tarr73 tzero73 tzn73 tplaces73 tint73 tstr73 tnoint73 tbool73 tany73 tintk73 tbytes73 tsz74 tby74 tagg74 tslice74 tarr74 tzero74 tzn74 tplaces74 tint74 tstr74 tnoint74 tbool74 tany74 tintk74 tbytes74 tsz80 tby80 tagg80 tslice80 tarr80 tzero80 tzn80 tplaces80 tint80 tstr80 tnoint80 tbool80 tany80 tintk80 tbytes80 tsz82 tby82 tagg82 tslice82 tarr82 tzero82 tzn82 tplaces82 tint82 tstr82 tnoint82 tbool82 tany82 tintk82 tbytes82 tfld82_0 tfld82_1 tfld82_2 tsz91 tby91 tagg91 tslice91 tarr91 tzero91 tzn91 tplaces91 tint91 tstr91 tnoint91 tbool91 tany91 tintk91 tbytes91 tsz93 tby93 tagg93 tslice93 tarr93 tzero93 tzn93 tplaces93 tint93 tstr93 tnoint93 tbool93 tany93 tintk93 tbytes93 tsz100 tby100 tagg100 tslice100 tarr100 tzero100 tzn100 tplaces100 tint100 tstr100 tnoint100 tbool100 tany100 tintk100 tbytes100 tsz106 tby106 tagg106 tslice106 tarr106 tzero106 tzn106 tplaces106 tint106 tstr106 tnoint106 tbool106 tany106 tintk106 tbytes106 tsz115 tby115 tagg115 tslice115 tarr115 tzero115 tzn115 tplaces115 tint115 tstr115 tnoint115 tbool115 tany115 tintk115 tbytes115 tsz116 tby116 tagg116 tslice116 tarr116 tzero116 tzn116 tplaces116 tint116 tstr116 tnoint116 tbool116 tany116 tintk116 tbytes116 tsz117 tby117 tagg117 tslice117 tarr117 tzero117 tzn117 tplaces117 tint117 tstr117 tnoint117 tbool117 tany117 tintk117 tbytes117 tsz118 tby118 tagg118 tslice118 tarr118 tzero118 tzn118 tplaces118 tint118 tstr118 tnoint118 tbool118 tany118 tintk118 tbytes118 tsz121 tby121 tagg121 tslice121 tarr121 tzero121 tzn121 tplaces121 tint121 tstr121 tnoint121 tbool121 tany121 tintk121 tbytes121 tsz123 tby123 tagg123 tslice123 tarr123 tzero123 tzn123 tplaces123 tint123 tstr123 tnoint123 tbool123 tany123 tintk123 tbytes123 tsz124 tby124 tagg124 tslice124 tarr124 tzero124 tzn124 tplaces124 tint124 tstr124 tnoint124 tbool124 tany124 tintk124 tbytes124 e_u8_0 fit_u8 de_u8 vJ k_u8 e_i64_0 fit_i64 de_i64 wO k_i64 e_b_0 fit_b de_b g_b k_b tQ tR tT tU tV qH kA g_TWakeRule wG qF dF dG bV de_TComing g_TComing vR bP fG fQ eY tE uL e_A6u8_0 e_A6u8_1 e_A6u8_2 e_A6u8_3 e_A6u8_4 e_A6u8_5 fit_A6u8 de_A6u8 g_A6u8 k_A6u8 eta_A6u8 cO cP cQ cR cS cT cU cV cW cX kD kE kF kG kH kI kK kN kP kQ kR kT kU kV kW kX kY kZ jA jB jC jD jE jF jG jH jI jJ jK jL bW de_THeader fS qL bQ e_lu8_0 fit_lu8 de_lu8 g_lu8 k_lu8 e_TFrame_0 e_TFrame_1 e_TFrame_2 e_TFrame_3 e_TFrame_4 e_TFrame_5 e_TFrame_6 e_TFrame_7 e_TFrame_8 e_TFrame_9 dH dI dJ dK dL dM dN dO dP dQ dR dT dU dV dW dX dY cA cB cC cD cE cF cG cH cI cJ cK cL cM cN fit_TFrame de_TFrame zT vK eta_TFrame cY cZ bC bD bE bF bG bH bI bJ jP jQ jR jS jT jU jV jW jX jY jZ hU hZ gA gB gC gD gE gF gG gH gI gJ gK gL gM gN gO gP gQ gR gS gT bX de_TStored yA xD bR fH fR eZ tF uM jM jN jO fN eU yI xL fI qE qI kB uF vQ dB dC dD dE bU de_TBuffer zG xS bM e_li64_0 fit_li64 de_li64 g_li64 k_li64 e_A4i64_0 e_A4i64_1 e_A4i64_2 e_A4i64_3 fit_A4i64 de_A4i64 g_A4i64 k_A4i64 eta_A4i64 gW gX gY gZ fA fB fC fD fE fF tW tX tY qA qB qC qD fP eW tD uK fK bL bY de_lTFrame fT qM gU gV fO eV yO wF fJ e_u64_0 fit_u64 de_u64 g_u64 k_u64 e_A32u8_0 e_A32u8_1 e_A32u8_2 e_A32u8_3 e_A32u8_4 e_A32u8_5 e_A32u8_6 e_A32u8_7 e_A32u8_8 e_A32u8_9 e_A32u8_10 e_A32u8_11 e_A32u8_12 e_A32u8_13 e_A32u8_14 e_A32u8_15 e_A32u8_16 e_A32u8_17 e_A32u8_18 e_A32u8_19 e_A32u8_20 e_A32u8_21 e_A32u8_22 e_A32u8_23 e_A32u8_24 e_A32u8_25 e_A32u8_26 e_A32u8_27 e_A32u8_28 e_A32u8_29 e_A32u8_30 e_A32u8_31 fit_A32u8 de_A32u8 g_A32u8 k_A32u8 eta_A32u8 deR_0 deR_1 deR_2 deR_3 deR_4 deR_5 deR_6 deR_7 deR_8 deR_9 deR_10 deR_11 deR_12 litC_x0 litC_x1 litC_x2 litC_x3 litC_x4 litC_x5 litC_x6 litC_x7 litC_x8 litC_x9 litC_x10 litC_x11 strE_u8 Fit_0 Option.isSome_some yD gd_one evCopyL eH evLk_mp evLk_val evLkM bT findMb_lit findMb_row bS mapC_nil tabR sub_enR dZ xrD xoD tN vS rK rM rG aL aK iK bK sK lK iA bA sA lA or_true true_or Int.toNat_natCast shT_23 shT_37 shT_42 shT_46 shT_49 shT_121 Int.toNat_zero Int.cast_ofNat_Int kSP_normal kOP_normal kLP_exit pcC_lt upc_ii aLs roD roDOb yF edC edR eE rnm rnmL rnmB rnmC_en rnmC_upc rnmH rnm_bif rnmB_bif putH dA rhoN ptB slN litL celL pK isLit oS isRow inL fzV fzL wK tL fzH fzHF fzB fzObB eI rowOb
noncomputable def ct29t0:Ct:=tab [(19,zV vM)]
theorem ct29t0_ok:yU Try.prog ct29t0:=zP ok19 <| zX
theorem ct29t0_19 (l:List AV) (h:List ABlk):ct29t0 19 l h=zV vM l h:=rfl
noncomputable def ct29t1:Ct:=tab [(24,zV body24)]
theorem ct29t1_ok:yU Try.prog ct29t1:=zP ok24 <| zX
theorem ct29t1_24 (l:List AV) (h:List ABlk):ct29t1 24 l h=zV body24 l h:=rfl
noncomputable def ct29t2:Ct:=tab [(44,wE uZ)]
theorem ct29t2_ok:yU Try.prog ct29t2:=zP ok44 <| zX
theorem ct29t2_44 (l:List AV) (h:List ABlk):ct29t2 44 l h=wE uZ l h:=rfl
noncomputable def ct29t3:Ct:=tab [(45,wE vV)]
theorem ct29t3_ok:yU Try.prog ct29t3:=zP ok45 <| zX
theorem ct29t3_45 (l:List AV) (h:List ABlk):ct29t3 45 l h=wE vV l h:=rfl
noncomputable def F29_L3 (p0:TBuffer) (p1:Int) (r12:List TStored) (v3_1:Int):Option (Lp (Int) ((Unit) ⊕ (Lp (Unit) ((Int × (List TFrame)) ⊕ ((List TFrame) × TBuffer × Int))))) :=
 bif (bLt v3_1 (r12.length:Nat)) then (need (inb v3_1 r12.length) <| bif (bLe (wr .i64 (((gd r12 v3_1.toNat).At)+p0.Stay)) p1) then (need (capb 104 1) <| (some (.done (.inl (v3_1,[(eF ((gd r12 v3_1.toNat).Frame))])))).bind fun q23=>some (.done (.inr q23))) else (some (.next (wr .i64 (v3_1+1))))) else (some (.done (.inl ())))
noncomputable def F29_L2 (p0:TBuffer) (p1:Int) (r12:List TStored):Option (Lp (Unit) ((Int × (List TFrame)) ⊕ ((List TFrame) × TBuffer × Int))) :=
 lp (yN (fun s=>F29_L3 p0 p1 r12 s) 0) (fun _=>some (.done (.inl ((-1),[])))) some
noncomputable def F29_L4 (p0:TBuffer) (p1:Int) (v4_1:Int) (v4_2:List TFrame) (v4_3:List TStored) (v4_4:Int):Option (Lp (Int × (List TFrame) × (List TStored) × Int) (((List TStored) × Int × (List TFrame)) ⊕ ((List TFrame) × TBuffer × Int))) :=
 bif (bLt v4_1 (v4_3.length:Nat)) then (need (inb v4_1 v4_3.length) <| bif (bLe (wr .i64 (((gd v4_3 v4_1.toNat).At)+p0.Stay)) p1) then (need (capb 104 (v4_2.length+1)) <| some (.next (wr .i64 (v4_1+1),(v4_2 ++ [(eF ((gd v4_3 v4_1.toNat).Frame))]),v4_3,v4_4))) else (need (inb v4_4 v4_3.length) <| some (.next (wr .i64 (v4_1+1),v4_2,(v4_3.set v4_4.toNat (TStored.mk ((gd v4_3 v4_1.toNat).Cat) ((gd v4_3 v4_1.toNat).At) (eF ((gd v4_3 v4_1.toNat).Frame)))),wr .i64 (v4_4+1))))) else (some (.done (.inl (v4_3,v4_4,v4_2))))
noncomputable def F29_L1 (p0:TBuffer) (p1:Int) (r12:List TStored):Option (Lp (Unit) (((List TFrame) × (List TStored)) ⊕ ((List TFrame) × TBuffer × Int))) :=
 lp (yN (fun s=>F29_L2 p0 p1 r12) ()) (fun e2=>bif (bEq e2.1 (-1)) then (some (.done (.inl (e2.2,r12)))) else (lp (yN (fun s=>F29_L4 p0 p1 s.1 s.2.1 s.2.2.1 s.2.2.2) (wr .i64 (e2.1+1),e2.2,r12,e2.1)) (fun e4=>need (slb e4.2.1 (e4.1.length:Nat) e4.1.length) <| need (slb 0 e4.2.1 e4.1.length) <| some (.done (.inl (e4.2.2,(List.take e4.2.1.toNat e4.1))))) (fun r=>some (.done (.inr r))))) (fun r=>some (.done (.inr r)))
noncomputable def F29_L7 (p0:TBuffer) (p1:Int) (r15:List TStored) (w1_2:List TFrame) (v7_1:Int):Option (Lp (Int) ((Unit) ⊕ (Lp (Unit) ((Int × (List TFrame)) ⊕ ((List TFrame) × TBuffer × Int))))) :=
 bif (bLt v7_1 (r15.length:Nat)) then (need (inb v7_1 r15.length) <| bif (bLe (wr .i64 (((gd r15 v7_1.toNat).At)+p0.Stay)) p1) then (need (capb 104 (w1_2.length+1)) <| (some (.done (.inl (v7_1,(w1_2 ++ [(eF ((gd r15 v7_1.toNat).Frame))]))))).bind fun q37=>some (.done (.inr q37))) else (some (.next (wr .i64 (v7_1+1))))) else (some (.done (.inl ())))
noncomputable def F29_L6 (p0:TBuffer) (p1:Int) (r15:List TStored) (w1_2:List TFrame):Option (Lp (Unit) ((Int × (List TFrame)) ⊕ ((List TFrame) × TBuffer × Int))) :=
 lp (yN (fun s=>F29_L7 p0 p1 r15 w1_2 s) 0) (fun _=>some (.done (.inl ((-1),w1_2)))) some
noncomputable def F29_L8 (p0:TBuffer) (p1:Int) (v8_1:Int) (v8_2:List TFrame) (v8_3:List TStored) (v8_4:Int):Option (Lp (Int × (List TFrame) × (List TStored) × Int) (((List TStored) × Int × (List TFrame)) ⊕ ((List TFrame) × TBuffer × Int))) :=
 bif (bLt v8_1 (v8_3.length:Nat)) then (need (inb v8_1 v8_3.length) <| bif (bLe (wr .i64 (((gd v8_3 v8_1.toNat).At)+p0.Stay)) p1) then (need (capb 104 (v8_2.length+1)) <| some (.next (wr .i64 (v8_1+1),(v8_2 ++ [(eF ((gd v8_3 v8_1.toNat).Frame))]),v8_3,v8_4))) else (need (inb v8_4 v8_3.length) <| some (.next (wr .i64 (v8_1+1),v8_2,(v8_3.set v8_4.toNat (TStored.mk ((gd v8_3 v8_1.toNat).Cat) ((gd v8_3 v8_1.toNat).At) (eF ((gd v8_3 v8_1.toNat).Frame)))),wr .i64 (v8_4+1))))) else (some (.done (.inl (v8_3,v8_4,v8_2))))
noncomputable def F29_L5 (p0:TBuffer) (p1:Int) (r15:List TStored) (w1_2:List TFrame):Option (Lp (Unit) (((List TStored) × (List TFrame)) ⊕ ((List TFrame) × TBuffer × Int))) :=
 lp (yN (fun s=>F29_L6 p0 p1 r15 w1_2) ()) (fun e6=>bif (bEq e6.1 (-1)) then (some (.done (.inl (r15,e6.2)))) else (lp (yN (fun s=>F29_L8 p0 p1 s.1 s.2.1 s.2.2.1 s.2.2.2) (wr .i64 (e6.1+1),e6.2,r15,e6.1)) (fun e8=>need (slb e8.2.1 (e8.1.length:Nat) e8.1.length) <| need (slb 0 e8.2.1 e8.1.length) <| some (.done (.inl ((List.take e8.2.1.toNat e8.1),e8.2.2)))) (fun r=>some (.done (.inr r))))) (fun r=>some (.done (.inr r)))
noncomputable def F29 (p0:TBuffer) (p1:Int):Option ((List TFrame) × TBuffer × Int) :=
 (F19 p0).bind fun r1=>bif (!bEq r1 0) then (some ([],(TBuffer.mk 0 0 [] []),r1)) else ((F24 p1).bind fun r4=>bif (!r4) then (some ([],(TBuffer.mk 0 0 [] []),2)) else ((F44 p0.List).bind fun r7=>need (decide (r7.length=1)) <| need (inb 0 1) <| (F45 ((gd r7 0).Held)).bind fun r12=>need (inb 0 1) <| (F45 p0.Group).bind fun r15=>need (inb 0 1) <| lp (yN (fun s=>F29_L1 p0 p1 r12) ()) (fun e1=>lp (yN (fun s=>F29_L5 p0 p1 r15 e1.1) ()) (fun e5=>some (e5.2,(TBuffer.mk p0.Limit p0.Stay [(TSleeper.mk ((gd r7 0).Aid) ((gd r7 0).Asleep) e1.2)] e5.1),0)) some) some))
noncomputable def body29:List AV->Nat->AR
 | [v0,v1],_=>.pure (aK 4 xS v0/\iK .i64 v1/\(F29 (zG (aL v0)) (iA v1)).isSome=true) (.tup [.ro 41 (((gt (F29 (zG (aL v0)) (iA v1))).1).length) false (enR zM ((gt (F29 (zG (aL v0)) (iA v1))).1)),.agg [.int .i64 (((gt (F29 (zG (aL v0)) (iA v1))).2.1).Limit),.int .i64 (((gt (F29 (zG (aL v0)) (iA v1))).2.1).Stay),.ro 3 ((((gt (F29 (zG (aL v0)) (iA v1))).2.1).List).length) false (enR zF (((gt (F29 (zG (aL v0)) (iA v1))).2.1).List)),.ro 43 ((((gt (F29 (zG (aL v0)) (iA v1))).2.1).Group).length) false (enR zD (((gt (F29 (zG (aL v0)) (iA v1))).2.1).Group))],.int .i64 ((gt (F29 (zG (aL v0)) (iA v1))).2.2)])
 | _,_=>.fail
theorem ok29:xZ Try.prog 29 (wE body29):=by
 refine gen_fn body29 (rs:=[.cell 4 50,.cell 5 31,.tmp 6]) Try.func29 (by kernel_rfl) rfl rfl ?_
 intro l s ob v ns hb hob
 rcases hb with ⟨hb,rfl⟩|hb
 ·unfold body29 at hb
  split at hb
  ·rename_i v0 v1
   injection hb with q1 q2;subst q1 q2
   obtain ⟨hk0_0,hk1_0,hob⟩:=hob
   obtain ⟨r,H⟩:=oE.1 hob
   rw [H,yD]
   have hw0:=uO hk0_0
   have hw1:=yJ hk1_0
   generalize zG (aL v0)=p0 at H hw0
   generalize iA v1=p1 at H hw1
   refine ⟨[.agg [.int .i64 p0.Limit,.int .i64 p0.Stay,.ro 3 p0.List.length false (enR zF p0.List),.ro 43 p0.Group.length false (enR zD p0.Group)],.int .i64 p1],.tup [.ro 41 r.1.length false (enR zM r.1),.agg [.int .i64 r.2.1.Limit,.int .i64 r.2.1.Stay,.ro 3 r.2.1.List.length false (enR zF r.2.1.List),.ro 43 r.2.1.Group.length false (enR zD r.2.1.Group)],.int .i64 r.2.2],[],(fun E vs F=>yL hw0.1 F (fun vs F=>yL hw1.1 F (fun vs F=>F))),by simp only [ren,eS],trivial,?_⟩
   rw [Try.ntmps29]
   simp only [lC,lN,Nat.reduceAdd,Nat.reduceSub,rS,rZ,aC,aN]
   unfold F29 at H
   try dsimp only at H
   refine sq zA ?_
   simp only [go_sem,Nat.reduceAdd]
   refine zH ?_
   refine zH ?_
   obtain ⟨r1,e2,H⟩:=bsi H
   refine rg ct29t0_ok ?_
   simp only [go_sem,Nat.reduceLT,Nat.reduceAdd,ct29t0_19,vM,e2]
   repeat ((with_reducible refine aI ?_ ?_);exact an0)
   refine sq zA ?_
   simp only [go_sem]
   refine yE rfl trivial (fun hc=>?_) (fun hc=>?_)
   ·have hk3:(bEq r1 0)=false:=by simpa using hc
    replace H:=zO hc H
    refine sq zA ?_
    simp only [go_sem,Nat.reduceAdd]
    repeat ((with_reducible refine aI ?_ ?_);exact an4)
    refine rg zA ?_
    simp only [go_sem,Nat.reduceLT,Nat.reduceAdd]
    obtain rfl:=Option.some.inj H
    refine ⟨[0,1,2,3],?_,?_,[],?_,?_,rfl⟩
    ·simp only [go_sem]
     try exact at0
    ·simp only [go_sem]
     try exact at0
    ·simp only [go_sem]
     exact xF (zC (zZ (α:=TFrame)) (zC (xO (zC zE (zC zE (zC (zZ (α:=TSleeper)) (zC (zZ (α:=TStored)) zW))))) (zC zE zW)))
    ·simp only [go_sem,CvH]
   have hk3:(bEq r1 0)=true:=by simpa using hc
   replace H:=zN hc H
   refine rg zA ?_
   simp only [go_sem]
   refine zH ?_
   refine zH ?_
   obtain ⟨r4,e5,H⟩:=bsi H
   refine rg ct29t1_ok ?_
   simp only [go_sem,Nat.reduceLT,ct29t1_24,body24,e5]
   repeat ((with_reducible refine aI ?_ ?_);exact an0)
   refine yE rfl trivial (fun hc=>?_) (fun hc=>?_)
   ·have hk6:(r4)=false:=by simpa using hc
    replace H:=zO hc H
    refine sq zA ?_
    simp only [go_sem,Nat.reduceAdd]
    repeat ((with_reducible refine aI ?_ ?_);exact an4)
    refine rg zA ?_
    simp only [go_sem,Nat.reduceLT,Nat.reduceAdd]
    obtain rfl:=Option.some.inj H
    refine ⟨[0,1,2,3],?_,?_,[],?_,?_,rfl⟩
    ·simp only [go_sem]
     try exact at0
    ·simp only [go_sem]
     try exact at0
    ·simp only [go_sem]
     exact xF (zC (zZ (α:=TFrame)) (zC (xO (zC zE (zC zE (zC (zZ (α:=TSleeper)) (zC (zZ (α:=TStored)) zW))))) (zC zE zW)))
    ·simp only [go_sem,CvH]
   have hk6:(r4)=true:=by simpa using hc
   replace H:=zN hc H
   refine rg zA ?_
   simp only [go_sem]
   refine zH ?_
   refine tM ?_
   refine xE zL zA 1 ?_
   simp only [zJ,tS,tZ,dS,dZ,go_sem,Nat.reduceLT,Nat.reduceAdd]
   repeat ((with_reducible refine aI ?_ ?_);exact an0)
   refine inlO (rs:=[.cell 2 31]) Try.func21 (by kernel_rfl) rfl rfl Try.ntmps21 (caps:=[]) (tc:=[.agg [.int .i64 p0.Limit,.int .i64 p0.Stay,.ro 3 p0.List.length false (enR zF p0.List),.ro 43 p0.Group.length false (enR zD p0.Group)]]) rfl (by simp only [go_sem]) rfl ?_
   simp only [lC,lN,Nat.reduceAdd,Nat.reduceSub,rS,rZ,aC,aN]
   refine sq zA ?_
   simp only [go_sem,Nat.reduceAdd]
   refine zH ?_
   obtain ⟨r7,e8,H⟩:=bsi H
   refine rg ct29t2_ok ?_
   simp only [go_sem,Nat.reduceLeDiff,Nat.reduceLT,Nat.reduceAdd,ct29t2_44,uZ,e8]
   repeat ((with_reducible refine aI ?_ ?_);exact an0)
   refine zH ?_
   refine zH ?_
   obtain ⟨f9,H⟩:=yH.1 H
   replace f9:=decide_eq_true_iff.1 f9
   refine toLitM 6 (z:=3) (n:=1) [.int .i64 ((gd r7 0).Aid),.bool ((gd r7 0).Asleep),.ro 43 (((gd r7 0).Held).length) false (enR zD ((gd r7 0).Held))] rfl f9 rfl (by decide) (fun x y hx hy=>(flat_get (f:=fun x=>zF (gd r7 x)) (n:=1) (fun _=>rfl) x y (by omega) hy).symm) ?_
   simp only [go_sem]
   rw [f9]
   refine rg zA ?_
   simp only [go_sem,Nat.reduceLeDiff,Nat.reduceLT,Nat.reduceAdd]
   repeat ((with_reducible refine aI ?_ ?_);exact an0)
   refine xI ?_
   refine loop_roundsM 2 ?_
   refine rndM ?_
   refine sq zA ?_
   simp only [go_sem,(by decide:bLt (0) (1)=true)]
   refine zH ?_
   refine yE rfl trivial (fun hc=>?_) (fun hc=>?_)
   rotate_left
   ·cases hc
   refine rg zA ?_
   simp only [go_sem]
   refine zH ?_
   refine xI ?_
   refine sq zA ?_
   simp only [go_sem]
   obtain ⟨f11,H⟩:=nI H
   obtain ⟨r12,e13,H⟩:=bsi H
   obtain ⟨f14,H⟩:=nI H
   refine yZ zL ct29t3_ok 1 (by kernel_rfl) (by kernel_rfl) ?_
   intro an han
   simp only [uC,wM,eG,xrD,xoD,tN,vS,List.append_nil,xK,refs,uI,mask,wT,place,xU,wV,wA,hit,inL,xM,ren,rnN,nrH,nrB,nrL,nr,rZ,rS,Nat.sub_self,Nat.add_zero,Nat.zero_add,Nat.reduceSub,Nat.lt_add_one,go_sem,Nat.reduceLeDiff,Nat.reduceLT,Nat.reduceAdd,Nat.reduceSub,Nat.reduceBEq,ct29t3_45,vV,f11,e13]
   repeat ((with_reducible refine aI ?_ ?_);exact an6)
   refine rg zA ?_
   simp only [go_sem,(by decide:wr IntKind.i64 ((0:Int)+1)=1)]
   refine rndM ?_
   refine sq zA ?_
   simp only [go_sem,(by decide:bLt (1) (1)=false)]
   refine zH ?_
   refine yE rfl trivial (fun hc=>?_) (fun hc=>?_)
   ·cases hc
   refine rg zA ?_
   simp only [go_sem]
   refine zH ?_
   obtain ⟨r15,e16,H⟩:=bsi H
   refine rg ct29t3_ok ?_
   simp only [go_sem,Nat.reduceLT,Nat.reduceAdd,ct29t3_45,vV,e16]
   repeat ((with_reducible refine aI ?_ ?_);exact an0)
   refine sq zA ?_
   simp only [go_sem,Nat.reduceLT,Nat.reduceAdd]
   repeat ((with_reducible refine aI ?_ ?_);exact an4)
   refine rg zA ?_
   simp only [go_sem,Nat.reduceLT,Nat.reduceAdd]
   refine xE zL zA 1 ?_
   simp only [zJ,tS,tZ,dS,dZ,go_sem,Nat.reduceAdd]
   repeat ((with_reducible refine aI ?_ ?_);exact an0)
   refine wX ?_
   refine sq zA ?_
   simp only [go_sem]
   refine zH ?_
   refine sq zA ?_
   simp only [go_sem,Nat.reduceLeDiff,Nat.reduceLT,Nat.reduceAdd]
   repeat ((with_reducible refine aI ?_ ?_);exact an0)
   refine xI ?_
   refine loop_roundsM 2 ?_
   refine rndM ?_
   refine sq zA ?_
   simp only [go_sem,(by decide:bLt (0) (1)=true)]
   refine zH ?_
   refine yE rfl trivial (fun hc=>?_) (fun hc=>?_)
   rotate_left
   ·cases hc
   refine rg zA ?_
   simp only [go_sem]
   refine zH ?_
   refine xI ?_
   refine sq zA ?_
   simp only [go_sem]
   refine tM ?_
   obtain ⟨f18,H⟩:=nI H
   refine xE zL zA 6 ?_
   simp only [zJ,tS,tZ,dS,dZ,go_sem,Nat.reduceLeDiff,Nat.reduceLT,Nat.reduceAdd,f18]
   repeat ((with_reducible refine aI ?_ ?_);exact an0)
   refine inlO (rs:=[]) Try.func51 (by kernel_rfl) rfl rfl Try.ntmps51 (caps:=[.ptr 0 0 0 0,.ptr 1 0 0 0,.ptr 2 0 0 0]) (tc:=[.ptr 6 3 0 2,.ptr 0 0 0 0,.ptr 1 0 0 0,.ptr 2 0 0 0]) rfl (by simp only [go_sem]) rfl ?_
   simp only [lC,lN,Nat.reduceAdd,Nat.reduceSub,rS,rZ,aC,aN]
   refine qK (fun e:(List TFrame) × (List TStored)=>(tp 12 [])) (fun e=>[.lit 31 [.int .i64 p0.Limit,.int .i64 p0.Stay,.sl 6 3 0 1 false,.sl 8 43 0 r15.length false],.lit 3 [.int .i64 p1],.lit 50 [.sl 9 41 0 e.1.length false],.lit 31 [.int .i64 0,.int .i64 0,.ro 0 0 true (fun _ _=>.top),.ro 0 0 true (fun _ _=>.top)],.dead,.dead,.lit 72 [.int .i64 ((gd r7 0).Aid),.bool ((gd r7 0).Asleep),.sl 10 43 0 e.2.length false],.dead,.row 82 43 r15.length (enR zD r15),.row 54 41 e.1.length (enR zM e.1),.row 82 43 e.2.length (enR zD e.2)]) H (fun o H hn1_1 hn2_1=>?_) (fun e H=>?_)
   ·unfold F29_L1 at H
    try dsimp only at H ⊢
    try simp only [tp]
    refine tM ?_
    refine xE zL zA 5 ?_
    simp only [zJ,tS,tZ,dS,dZ,go_sem,Nat.reduceLT,Nat.reduceAdd]
    repeat ((with_reducible refine aI ?_ ?_);exact an0)
    refine inlO (rs:=[.tmp 4]) Try.func52 (by kernel_rfl) rfl rfl Try.ntmps52 (caps:=[]) (tc:=[.sl 7 43 0 r12.length false,.fn 53 [.ptr 0 0 0 0,.ptr 1 0 0 0,.ptr 2 0 0 0]]) rfl (by simp only [go_sem]) rfl ?_
    simp only [lC,lN,Nat.reduceAdd,Nat.reduceSub,rS,rZ,aC,aN]
    refine sq zA ?_
    simp only [go_sem]
    refine zH ?_
    refine tM ?_
    refine xE zL zA 2 ?_
    simp only [zJ,tS,tZ,dS,dZ,go_sem]
    repeat ((with_reducible refine aI ?_ ?_);exact an0)
    refine inlO (rs:=[.tmp 4]) Try.func35 (by kernel_rfl) rfl rfl Try.ntmps35 (caps:=[]) (tc:=[.sl 7 43 0 r12.length false,.fn 53 [.ptr 0 0 0 0,.ptr 1 0 0 0,.ptr 2 0 0 0]]) rfl (by simp only [go_sem]) rfl ?_
    simp only [lC,lN,Nat.reduceAdd,Nat.reduceSub,rS,rZ,aC,aN]
    refine qK (fun e:Int × (List TFrame)=>(tp 4 (.int .i64 e.1::tp 14 []))) (fun e=>[.lit 31 [.int .i64 p0.Limit,.int .i64 p0.Stay,.sl 6 3 0 1 false,.sl 8 43 0 r15.length false],.lit 3 [.int .i64 p1],.lit 50 [.sl 9 41 0 e.2.length false],.lit 31 [.int .i64 0,.int .i64 0,.ro 0 0 true (fun _ _=>.top),.ro 0 0 true (fun _ _=>.top)],.dead,.dead,.lit 72 [.int .i64 ((gd r7 0).Aid),.bool ((gd r7 0).Asleep),.sl 7 43 0 r12.length false],.row 82 43 r12.length (enR zD r12),.row 82 43 r15.length (enR zD r15),.row 54 41 e.2.length (enR zM e.2)]) H (fun o H hn1_2 hn2_2=>?_) (fun e H=>?_)
    ·unfold F29_L2 at H
     try dsimp only at H ⊢
     try simp only [tp]
     refine sq zA ?_
     simp only [go_sem,Nat.reduceAdd]
     refine zH ?_
     refine sq zA ?_
     simp only [go_sem]
     repeat ((with_reducible refine aI ?_ ?_);exact an0)
     refine xI ?_
     refine xA (fun s:Int=>(.sl 7 43 0 r12.length false::.fn 53 [.ptr 0 0 0 0,.ptr 1 0 0 0,.ptr 2 0 0 0]::tp 5 (.int .i64 (r12.length:Nat)::.int .i64 s::tp 10 []))) (fun s=>[.lit 31 [.int .i64 p0.Limit,.int .i64 p0.Stay,.sl 6 3 0 1 false,.sl 8 43 0 r15.length false],.lit 3 [.int .i64 p1],.lit 50 [.ro 0 0 true (fun _ _=>.top)],.lit 31 [.int .i64 0,.int .i64 0,.ro 0 0 true (fun _ _=>.top),.ro 0 0 true (fun _ _=>.top)],.dead,.dead,.lit 72 [.int .i64 ((gd r7 0).Aid),.bool ((gd r7 0).Asleep),.sl 7 43 0 r12.length false],.row 82 43 r12.length (enR zD r12),.row 82 43 r15.length (enR zD r15)]) (fun e:Unit=>(tp 19 [])) (fun e=>[.lit 31 [.int .i64 p0.Limit,.int .i64 p0.Stay,.sl 6 3 0 1 false,.sl 8 43 0 r15.length false],.lit 3 [.int .i64 p1],.lit 50 [.ro 0 0 true (fun _ _=>.top)],.lit 31 [.int .i64 0,.int .i64 0,.ro 0 0 true (fun _ _=>.top),.ro 0 0 true (fun _ _=>.top)],.dead,.dead,.lit 72 [.int .i64 ((gd r7 0).Aid),.bool ((gd r7 0).Asleep),.sl 7 43 0 r12.length false],.row 82 43 r12.length (enR zD r12),.row 82 43 r15.length (enR zD r15)]) H ?_ (fun v3_1 o H hn1_3 hn2_3=>?_) (fun e H=>?_)
     ·refine zI ⟨[some 0,some 1,some 2,some 3,some 4,some 5,some 6,some 7,some 8],?_,?_,by rfl,by rfl⟩
      ·simp [CvL,Cv,yB,tp]
      ·exact ⟨cv,cv,cv,cv,zB,zB,cv,(zQ nfA),(zQ nfA),trivial⟩
     ·unfold F29_L3 at H
      try dsimp only at H ⊢
      try simp only [tp]
      refine sq zA ?_
      simp only [go_sem,Nat.reduceAdd]
      refine zH ?_
      refine condM' rfl trivial (fun hc=>?_) (fun hc=>?_)
      ·have hk19:(bLt v3_1 (r12.length:Nat))=false:=by simpa using hc
       replace H:=zN hc H
       refine rg zA ?_
       simp only [go_sem]
       refine ⟨_,(Option.some.inj H).symm,?_⟩
       refine zI ⟨[some 0,some 1,some 2,some 3,some 4,some 5,some 6,some 7,some 8],?_,?_,by rfl,by rfl⟩
       ·simp [CvL,Cv]
       ·exact ⟨cv,cv,cv,cv,zB,zB,cv,(zQ nfA),(zQ nfA),trivial⟩
      have hk19:(bLt v3_1 (r12.length:Nat))=true:=by simpa using hc
      replace H:=zO hc H
      refine rg zA ?_
      simp only [go_sem]
      refine zH ?_
      refine xI ?_
      refine sq zA ?_
      simp only [go_sem]
      refine zH ?_
      refine tM ?_
      obtain ⟨f20,H⟩:=nI H
      refine xE zL zA 5 ?_
      simp only [zJ,tS,tZ,dS,dZ,go_sem,Nat.reduceLT,Nat.reduceAdd,f20]
      repeat ((with_reducible refine aI ?_ ?_);exact an0)
      refine inlO (rs:=[.tmp 5]) Try.func53 (by kernel_rfl) rfl rfl Try.ntmps53 (caps:=[.ptr 0 0 0 0,.ptr 1 0 0 0,.ptr 2 0 0 0]) (tc:=[.agg (.int .u8 ((gd r12 v3_1.toNat).Cat)::.int .i64 ((gd r12 v3_1.toNat).At)::.int .u8 ((((gd r12 v3_1.toNat).Frame).Head).Kind)::.int .u8 ((((gd r12 v3_1.toNat).Frame).Head).Sub)::.bool ((((gd r12 v3_1.toNat).Frame).Head).ToDs)::.bool ((((gd r12 v3_1.toNat).Frame).Head).FromDs)::.bool ((((gd r12 v3_1.toNat).Frame).Head).More)::.bool ((((gd r12 v3_1.toNat).Frame).Head).Retry)::.bool ((((gd r12 v3_1.toNat).Frame).Head).Sleep)::.bool ((((gd r12 v3_1.toNat).Frame).Head).MoreData)::.bool ((((gd r12 v3_1.toNat).Frame).Head).Protected)::.int .i64 ((((gd r12 v3_1.toNat).Frame).Head).Duration)::.int .u8 (((((gd r12 v3_1.toNat).Frame).Head).A1).x0)::.int .u8 (((((gd r12 v3_1.toNat).Frame).Head).A1).x1)::.int .u8 (((((gd r12 v3_1.toNat).Frame).Head).A1).x2)::.int .u8 (((((gd r12 v3_1.toNat).Frame).Head).A1).x3)::.int .u8 (((((gd r12 v3_1.toNat).Frame).Head).A1).x4)::.int .u8 (((((gd r12 v3_1.toNat).Frame).Head).A1).x5)::.int .u8 (((((gd r12 v3_1.toNat).Frame).Head).A2).x0)::.int .u8 (((((gd r12 v3_1.toNat).Frame).Head).A2).x1)::.int .u8 (((((gd r12 v3_1.toNat).Frame).Head).A2).x2)::.int .u8 (((((gd r12 v3_1.toNat).Frame).Head).A2).x3)::.int .u8 (((((gd r12 v3_1.toNat).Frame).Head).A2).x4)::.int .u8 (((((gd r12 v3_1.toNat).Frame).Head).A2).x5)::.int .u8 (((((gd r12 v3_1.toNat).Frame).Head).A3).x0)::.int .u8 (((((gd r12 v3_1.toNat).Frame).Head).A3).x1)::.int .u8 (((((gd r12 v3_1.toNat).Frame).Head).A3).x2)::.int .u8 (((((gd r12 v3_1.toNat).Frame).Head).A3).x3)::.int .u8 (((((gd r12 v3_1.toNat).Frame).Head).A3).x4)::.int .u8 (((((gd r12 v3_1.toNat).Frame).Head).A3).x5)::.int .u8 (((((gd r12 v3_1.toNat).Frame).Head).A4).x0)::.int .u8 (((((gd r12 v3_1.toNat).Frame).Head).A4).x1)::.int .u8 (((((gd r12 v3_1.toNat).Frame).Head).A4).x2)::.int .u8 (((((gd r12 v3_1.toNat).Frame).Head).A4).x3)::.int .u8 (((((gd r12 v3_1.toNat).Frame).Head).A4).x4)::.int .u8 (((((gd r12 v3_1.toNat).Frame).Head).A4).x5)::.int .i64 ((((gd r12 v3_1.toNat).Frame).Head).Seq)::.int .i64 ((((gd r12 v3_1.toNat).Frame).Head).Frag)::.int .i64 ((((gd r12 v3_1.toNat).Frame).Head).Tid)::.int .u8 ((((gd r12 v3_1.toNat).Frame).Head).Ack)::.bool ((((gd r12 v3_1.toNat).Frame).Head).Amsdu)::.bool ((((gd r12 v3_1.toNat).Frame).Head).Eosp)::.ro 1 ((((gd r12 v3_1.toNat).Frame).Body).length) false (enR yG (((gd r12 v3_1.toNat).Frame).Body))::[]),.ptr 0 0 0 0,.ptr 1 0 0 0,.ptr 2 0 0 0]) rfl (by simp only [go_sem]) rfl ?_
      simp only [lC,lN,Nat.reduceAdd,Nat.reduceSub,rS,rZ,aC,aN]
      refine sq zA ?_
      simp only [go_sem,Nat.reduceAdd]
      refine sq zA ?_
      simp only [go_sem,Nat.reduceLeDiff,Nat.reduceLT,Nat.reduceAdd]
      repeat ((with_reducible refine aI ?_ ?_);exact an4)
      refine zH ?_
      refine sq zA ?_
      simp only [go_sem]
      refine condM' rfl trivial (fun hc=>?_) (fun hc=>?_)
      ·have hk21:(bLe (wr .i64 (((gd r12 v3_1.toNat).At)+p0.Stay)) p1)=false:=by simpa using hc
       replace H:=zN hc H
       refine rg zA ?_
       simp only [go_sem]
       refine sq zA ?_
       simp only [go_sem]
       refine rg zA ?_
       simp only [go_sem]
       refine xE zL zA 0 ?_
       simp only [zJ,tZ,dZ,go_sem]
       repeat ((with_reducible refine aI ?_ ?_);exact an0)
       refine wX ?_
       refine yE rfl trivial (fun hc=>?_) (fun hc=>?_)
       ·simp [hk21] at hc
       refine rg zA ?_
       simp only [go_sem]
       refine rg zA ?_
       simp only [go_sem]
       refine ⟨_,(Option.some.inj H).symm,?_⟩
       refine zI ⟨[some 0,some 1,some 2,some 3,some 4,some 5,some 6,some 7,some 8],?_,?_,by rfl,by rfl⟩
       ·simp [CvL,Cv,yB]
       ·exact ⟨cv,cv,cv,cv,zB,zB,cv,(zQ nfA),(zQ nfA),trivial⟩
      have hk21:(bLe (wr .i64 (((gd r12 v3_1.toNat).At)+p0.Stay)) p1)=true:=by simpa using hc
      replace H:=zO hc H
      obtain ⟨f22,H⟩:=nC H
      refine rg zA ?_
      simp only [go_sem,Nat.reduceLeDiff,Nat.reduceLT,Nat.reduceAdd,Nat.reduceBEq,reduceCtorEq,f22]
      repeat ((with_reducible refine aI ?_ ?_);exact an3)
      refine sq zA ?_
      simp only [go_sem]
      refine rg zA ?_
      simp only [go_sem]
      refine xE zL zA 0 ?_
      simp only [zJ,tZ,dZ,go_sem]
      repeat ((with_reducible refine aI ?_ ?_);exact an3)
      refine wX ?_
      refine yE rfl trivial (fun hc=>?_) (fun hc=>?_)
      rotate_left
      ·simp [hk21] at hc
      refine sq zA ?_
      simp only [go_sem]
      refine rg zA ?_
      simp only [go_sem]
      obtain ⟨q23,H,hq24⟩:=bsi H
      replace hq24:=hn2_3 _ (Option.some.inj hq24).symm
      obtain rfl:=(Option.some.inj hq24).symm
      refine ⟨_,(Option.some.inj H).symm,?_⟩
      refine zI ⟨[some 0,some 1,some 2,some 3,some 4,some 5,some 6,some 7,some 8,some 11],?_,?_,by rfl,by rfl⟩
      ·simp [CvL,Cv]
      ·exact ⟨cv,cv,cv,cv,zB,zB,cv,(zQ nfA),(zQ nfA),zK xP cl (yY (f:=zM) [(eF ((gd r12 v3_1.toNat).Frame))] (fun _ _=>rfl) rfl),trivial⟩
     ·try dsimp only at H ⊢
      try simp only [tp]
      try simp only [yR]
      refine sq zA ?_
      simp only [go_sem]
      refine rg zA ?_
      simp only [go_sem]
      refine ⟨_,(Option.some.inj H).symm,?_⟩
      refine zI ⟨[some 0,some 1,some 2,some 3,some 4,some 5,some 6,some 7,some 8,none],?_,?_,by rfl,by rfl⟩
      ·simp [CvL,Cv]
      ·exact ⟨cv,cv,cv,cv,zB,zB,cv,(zQ nfA),(zQ nfA),uR,trivial⟩
    ·obtain ⟨w2_1,w2_3⟩:=e
     try dsimp only at H ⊢
     try simp only [tp]
     try simp only [vD]
     try simp only [go_sem]
     refine xE zL zA 1 ?_
     simp only [zJ,tS,tZ,dS,dZ,go_sem]
     repeat ((with_reducible refine aI ?_ ?_);exact an0)
     refine wX ?_
     refine zH ?_
     refine sq zA ?_
     simp only [go_sem]
     refine yE rfl trivial (fun hc=>?_) (fun hc=>?_)
     ·have hk25:(bEq w2_1 (-1))=true:=by simpa using hc
      replace H:=zO hc H
      refine sq zA ?_
      simp only [go_sem]
      refine rg zA ?_
      simp only [go_sem]
      refine xE zL zA 2 ?_
      simp only [zJ,tS,tZ,dS,dZ,go_sem,Nat.reduceAdd]
      repeat ((with_reducible refine aI ?_ ?_);exact an0)
      refine wX ?_
      refine ⟨_,(Option.some.inj H).symm,?_⟩
      refine zI ⟨[some 0,some 1,some 2,some 3,some 4,some 5,some 6,some 7,some 8,some 9,some 7],?_,?_,by rfl,by rfl⟩
      ·simp [CvL,Cv]
      ·exact ⟨cv,cv,cv,cv,zB,zB,cv,zB,(zQ nfA),zK xP cl (fun _ _ _ _=>rfl),zK yP cl (fun _ _ _ _=>rfl),trivial⟩
     have hk25:(bEq w2_1 (-1))=false:=by simpa using hc
     replace H:=zN hc H
     refine rg zA ?_
     simp only [go_sem]
     refine zH ?_
     refine sq zA ?_
     simp only [go_sem]
     refine xI ?_
     refine xA (fun s:Int × (List TFrame) × (List TStored) × Int=>(.sl 11 43 0 s.2.2.1.length false::.fn 53 [.ptr 0 0 0 0,.ptr 1 0 0 0,.ptr 2 0 0 0]::.top::.top::.top::.int .i64 s.2.2.2::.int .i64 s.1::tp 35 [])) (fun s=>[.lit 31 [.int .i64 p0.Limit,.int .i64 p0.Stay,.sl 6 3 0 1 false,.sl 8 43 0 r15.length false],.lit 3 [.int .i64 p1],.lit 50 [.sl 10 41 0 s.2.1.length false],.lit 31 [.int .i64 0,.int .i64 0,.ro 0 0 true (fun _ _=>.top),.ro 0 0 true (fun _ _=>.top)],.dead,.dead,.lit 72 [.int .i64 ((gd r7 0).Aid),.bool ((gd r7 0).Asleep),.sl 11 43 0 s.2.2.1.length false],.dead,.row 82 43 r15.length (enR zD r15),.dead,.row 54 41 s.2.1.length (enR zM s.2.1),.row 82 43 s.2.2.1.length (enR zD s.2.2.1)]) (fun e:(List TStored) × Int × (List TFrame)=>(.sl 10 43 0 e.1.length false::tp 4 (.int .i64 e.2.1::tp 36 []))) (fun e=>[.lit 31 [.int .i64 p0.Limit,.int .i64 p0.Stay,.sl 6 3 0 1 false,.sl 8 43 0 r15.length false],.lit 3 [.int .i64 p1],.lit 50 [.sl 11 41 0 e.2.2.length false],.lit 31 [.int .i64 0,.int .i64 0,.ro 0 0 true (fun _ _=>.top),.ro 0 0 true (fun _ _=>.top)],.dead,.dead,.lit 72 [.int .i64 ((gd r7 0).Aid),.bool ((gd r7 0).Asleep),.sl 10 43 0 e.1.length false],.dead,.row 82 43 r15.length (enR zD r15),.dead,.row 82 43 e.1.length (enR zD e.1),.row 54 41 e.2.2.length (enR zM e.2.2)]) H ?_ (fun s o H hn1_4 hn2_4=>?_) (fun e H=>?_)
     ·refine zI ⟨[some 0,some 1,some 2,some 3,some 4,some 5,some 6,some 7,some 8,some 9,some 9,some 7],?_,?_,by rfl,by rfl⟩
      ·simp [CvL,Cv,yB,tp]
      ·exact ⟨cv,cv,cv,cv,zB,zB,cv,zB,(zQ nfA),zB,zK xP cl (fun _ _ _ _=>rfl),zK yP cl (fun _ _ _ _=>rfl),trivial⟩
     ·obtain ⟨v4_1,v4_2,v4_3,v4_4⟩:=s
      unfold F29_L4 at H
      delta eF at H
      try dsimp only at H ⊢
      try simp only [tp]
      refine zH ?_
      refine sq zA ?_
      simp only [go_sem,Nat.reduceAdd]
      repeat ((with_reducible refine aI ?_ ?_);exact an0)
      refine condM' rfl trivial (fun hc=>?_) (fun hc=>?_)
      ·have hk26:(bLt v4_1 (v4_3.length:Nat))=false:=by simpa using hc
       replace H:=zN hc H
       refine rg zA ?_
       simp only [go_sem]
       refine ⟨_,(Option.some.inj H).symm,?_⟩
       refine zI ⟨[some 0,some 1,some 2,some 3,some 4,some 5,some 6,some 7,some 8,some 9,some 11,some 10],?_,?_,by rfl,by rfl⟩
       ·simp [CvL,Cv,yB]
       ·exact ⟨cv,cv,cv,cv,zB,zB,cv,zB,(zQ nfA),zB,zK yP cl (fun _ _ _ _=>rfl),zK xP cl (fun _ _ _ _=>rfl),trivial⟩
      have hk26:(bLt v4_1 (v4_3.length:Nat))=true:=by simpa using hc
      replace H:=zO hc H
      refine rg zA ?_
      simp only [go_sem]
      refine zH ?_
      refine xI ?_
      refine zH ?_
      obtain ⟨f27,H⟩:=nI H
      refine rg zA ?_
      simp only [go_sem,Nat.reduceLT,Nat.reduceAdd,f27]
      repeat ((with_reducible refine aI ?_ ?_);exact an4)
      refine zH ?_
      refine tM ?_
      refine xE zL zA 2 ?_
      simp only [zJ,tS,tZ,dS,dZ,go_sem,Nat.reduceLT,Nat.reduceAdd]
      repeat ((with_reducible refine aI ?_ ?_);exact an0)
      refine inlO (rs:=[.tmp 5]) Try.func53 (by kernel_rfl) rfl rfl Try.ntmps53 (caps:=[.ptr 0 0 0 0,.ptr 1 0 0 0,.ptr 2 0 0 0]) (tc:=[.agg (.int .u8 ((gd v4_3 v4_1.toNat).Cat)::.int .i64 ((gd v4_3 v4_1.toNat).At)::.int .u8 ((((gd v4_3 v4_1.toNat).Frame).Head).Kind)::.int .u8 ((((gd v4_3 v4_1.toNat).Frame).Head).Sub)::.bool ((((gd v4_3 v4_1.toNat).Frame).Head).ToDs)::.bool ((((gd v4_3 v4_1.toNat).Frame).Head).FromDs)::.bool ((((gd v4_3 v4_1.toNat).Frame).Head).More)::.bool ((((gd v4_3 v4_1.toNat).Frame).Head).Retry)::.bool ((((gd v4_3 v4_1.toNat).Frame).Head).Sleep)::.bool ((((gd v4_3 v4_1.toNat).Frame).Head).MoreData)::.bool ((((gd v4_3 v4_1.toNat).Frame).Head).Protected)::.int .i64 ((((gd v4_3 v4_1.toNat).Frame).Head).Duration)::.int .u8 (((((gd v4_3 v4_1.toNat).Frame).Head).A1).x0)::.int .u8 (((((gd v4_3 v4_1.toNat).Frame).Head).A1).x1)::.int .u8 (((((gd v4_3 v4_1.toNat).Frame).Head).A1).x2)::.int .u8 (((((gd v4_3 v4_1.toNat).Frame).Head).A1).x3)::.int .u8 (((((gd v4_3 v4_1.toNat).Frame).Head).A1).x4)::.int .u8 (((((gd v4_3 v4_1.toNat).Frame).Head).A1).x5)::.int .u8 (((((gd v4_3 v4_1.toNat).Frame).Head).A2).x0)::.int .u8 (((((gd v4_3 v4_1.toNat).Frame).Head).A2).x1)::.int .u8 (((((gd v4_3 v4_1.toNat).Frame).Head).A2).x2)::.int .u8 (((((gd v4_3 v4_1.toNat).Frame).Head).A2).x3)::.int .u8 (((((gd v4_3 v4_1.toNat).Frame).Head).A2).x4)::.int .u8 (((((gd v4_3 v4_1.toNat).Frame).Head).A2).x5)::.int .u8 (((((gd v4_3 v4_1.toNat).Frame).Head).A3).x0)::.int .u8 (((((gd v4_3 v4_1.toNat).Frame).Head).A3).x1)::.int .u8 (((((gd v4_3 v4_1.toNat).Frame).Head).A3).x2)::.int .u8 (((((gd v4_3 v4_1.toNat).Frame).Head).A3).x3)::.int .u8 (((((gd v4_3 v4_1.toNat).Frame).Head).A3).x4)::.int .u8 (((((gd v4_3 v4_1.toNat).Frame).Head).A3).x5)::.int .u8 (((((gd v4_3 v4_1.toNat).Frame).Head).A4).x0)::.int .u8 (((((gd v4_3 v4_1.toNat).Frame).Head).A4).x1)::.int .u8 (((((gd v4_3 v4_1.toNat).Frame).Head).A4).x2)::.int .u8 (((((gd v4_3 v4_1.toNat).Frame).Head).A4).x3)::.int .u8 (((((gd v4_3 v4_1.toNat).Frame).Head).A4).x4)::.int .u8 (((((gd v4_3 v4_1.toNat).Frame).Head).A4).x5)::.int .i64 ((((gd v4_3 v4_1.toNat).Frame).Head).Seq)::.int .i64 ((((gd v4_3 v4_1.toNat).Frame).Head).Frag)::.int .i64 ((((gd v4_3 v4_1.toNat).Frame).Head).Tid)::.int .u8 ((((gd v4_3 v4_1.toNat).Frame).Head).Ack)::.bool ((((gd v4_3 v4_1.toNat).Frame).Head).Amsdu)::.bool ((((gd v4_3 v4_1.toNat).Frame).Head).Eosp)::.ro 1 ((((gd v4_3 v4_1.toNat).Frame).Body).length) false (enR yG (((gd v4_3 v4_1.toNat).Frame).Body))::[]),.ptr 0 0 0 0,.ptr 1 0 0 0,.ptr 2 0 0 0]) rfl (by simp only [go_sem]) rfl ?_
      simp only [lC,lN,Nat.reduceAdd,Nat.reduceSub,rS,rZ,aC,aN]
      refine sq zA ?_
      simp only [go_sem,Nat.reduceAdd]
      refine sq zA ?_
      simp only [go_sem,Nat.reduceLeDiff,Nat.reduceLT,Nat.reduceAdd]
      repeat ((with_reducible refine aI ?_ ?_);exact an4)
      refine zH ?_
      refine sq zA ?_
      simp only [go_sem]
      refine yE rfl trivial (fun hc=>?_) (fun hc=>?_)
      ·have hk28:(bLe (wr .i64 (((gd v4_3 v4_1.toNat).At)+p0.Stay)) p1)=true:=by simpa using hc
       replace H:=zO hc H
       obtain ⟨f29,H⟩:=nC H
       refine rg zA ?_
       simp only [go_sem,Nat.reduceLeDiff,Nat.reduceLT,Nat.reduceAdd,Nat.reduceBEq,reduceCtorEq,f29]
       repeat ((with_reducible refine aI ?_ ?_);exact an1)
       refine sq zA ?_
       simp only [go_sem]
       refine rg zA ?_
       simp only [go_sem]
       refine xE zL zA 1 ?_
       simp only [zJ,tS,tZ,dS,dZ,go_sem]
       repeat ((with_reducible refine aI ?_ ?_);exact an1)
       refine wX ?_
       refine yE rfl trivial (fun hc=>?_) (fun hc=>?_)
       ·simp [hk28] at hc
       refine rg zA ?_
       simp only [go_sem]
       refine rg zA ?_
       simp only [go_sem]
       refine ⟨_,(Option.some.inj H).symm,?_⟩
       refine zI ⟨[some 0,some 1,some 2,some 3,some 4,some 5,some 6,some 7,some 8,some 9,some 15,some 11],?_,?_,by rfl,by rfl⟩
       ·simp [CvL,Cv,yB]
       ·exact ⟨cv,cv,cv,cv,zB,zB,cv,zB,(zQ nfA),zB,zK xP cl (wW (f:=zM) v4_2 [(eF ((gd v4_3 v4_1.toNat).Frame))] (fun _ _ _ _=>rfl) (yY (f:=zM) [(eF ((gd v4_3 v4_1.toNat).Frame))] (fun _ _=>rfl) rfl)),zK yP cl (fun _ _ _ _=>rfl),trivial⟩
      have hk28:(bLe (wr .i64 (((gd v4_3 v4_1.toNat).At)+p0.Stay)) p1)=false:=by simpa using hc
      replace H:=zN hc H
      refine rg zA ?_
      simp only [go_sem]
      refine sq zA ?_
      simp only [go_sem]
      refine rg zA ?_
      simp only [go_sem]
      refine xE zL zA 1 ?_
      simp only [zJ,tS,tZ,dS,dZ,go_sem]
      repeat ((with_reducible refine aI ?_ ?_);exact an0)
      refine wX ?_
      refine yE rfl trivial (fun hc=>?_) (fun hc=>?_)
      rotate_left
      ·simp [hk28] at hc
      refine zH ?_
      obtain ⟨f30,H⟩:=nI H
      refine rg zA ?_
      simp only [go_sem,Nat.reduceLT,Nat.reduceAdd,f30]
      repeat ((with_reducible refine aI ?_ ?_);exact an4)
      refine rg zA ?_
      simp only [go_sem]
      refine rg zA ?_
      simp only [go_sem]
      refine ⟨_,(Option.some.inj H).symm,?_⟩
      refine zI ⟨[some 0,some 1,some 2,some 3,some 4,some 5,some 6,some 7,some 8,some 9,some 10,some 11],?_,?_,by rfl,by rfl⟩
      ·simp [CvL,Cv,yB]
      ·exact ⟨cv,cv,cv,cv,zB,zB,cv,zB,(zQ nfA),zB,zK xP cl (fun _ _ _ _=>rfl),zK yP cl (fZ (f:=zD) v4_3 v4_4.toNat 0 (TStored.mk ((gd v4_3 v4_1.toNat).Cat) ((gd v4_3 v4_1.toNat).At) (eF ((gd v4_3 v4_1.toNat).Frame))) (fun _ _ _ _=>rfl) (fun y hy=>match y,hy with|0,_=>rfl|1,_=>rfl|2,_=>rfl|3,_=>rfl|4,_=>rfl|5,_=>rfl|6,_=>rfl|7,_=>rfl|8,_=>rfl|9,_=>rfl|10,_=>rfl|11,_=>rfl|12,_=>rfl|13,_=>rfl|14,_=>rfl|15,_=>rfl|16,_=>rfl|17,_=>rfl|18,_=>rfl|19,_=>rfl|20,_=>rfl|21,_=>rfl|22,_=>rfl|23,_=>rfl|24,_=>rfl|25,_=>rfl|26,_=>rfl|27,_=>rfl|28,_=>rfl|29,_=>rfl|30,_=>rfl|31,_=>rfl|32,_=>rfl|33,_=>rfl|34,_=>rfl|35,_=>rfl|36,_=>rfl|37,_=>rfl|38,_=>rfl|39,_=>rfl|40,_=>rfl|41,_=>rfl|42,_=>rfl|(y+43),h=>absurd h nlt)),trivial⟩
     ·obtain ⟨w4_5,w4_6,w4_8⟩:=e
      try dsimp only at H ⊢
      try simp only [tp]
      try simp only [yR]
      refine zH ?_
      obtain ⟨f31,H⟩:=nS H
      refine rg zA ?_
      simp only [go_sem,Nat.reduceLeDiff,Nat.reduceAdd,f31]
      repeat ((with_reducible refine aI ?_ ?_);exact an3)
      refine zH ?_
      obtain ⟨f32,H⟩:=nS H
      refine rg zA ?_
      simp only [go_sem,f32]
      repeat ((with_reducible refine aI ?_ ?_);exact an4)
      refine rg zA ?_
      simp only [go_sem]
      refine xE zL zA 2 ?_
      simp only [zJ,tS,tZ,dS,dZ,go_sem,Nat.reduceAdd]
      repeat ((with_reducible refine aI ?_ ?_);exact an3)
      refine wX ?_
      refine ⟨_,(Option.some.inj H).symm,?_⟩
      refine zI ⟨[some 0,some 1,some 2,some 3,some 4,some 5,some 6,some 7,some 8,some 11,some 10],?_,?_,by rfl,by rfl⟩
      ·simp [CvL,Cv]
      ·exact ⟨cv,cv,(by simp [CvB,CvL,Cv,wB,geth,yB]),cv,zB,zB,(by simp [CvB,CvL,Cv,wB,geth,yB,(show (List.take w4_6.toNat w4_5).length=w4_6.toNat from take_len (n:=w4_5.length) cl (by omega))]),zB,(zQ nfA),zK xP cl (fun _ _ _ _=>rfl),(CvB_pre yP (by rw [show (List.take w4_6.toNat w4_5).length=w4_6.toNat from take_len (n:=w4_5.length) cl (by omega)];omega) (clr_row (fun _ _ _ _=>rfl))),trivial⟩
   ·obtain ⟨w1_2,w1_3⟩:=e
    try dsimp only at H ⊢
    try simp only [tp]
    try simp only [vD]
    try simp only [go_sem]
    refine xE zL zA 0 ?_
    simp only [zJ,tZ,dZ,go_sem]
    repeat ((with_reducible refine aI ?_ ?_);exact an0)
    refine wX ?_
    refine rg zA ?_
    simp only [go_sem,(by decide:wr IntKind.i64 ((0:Int)+1)=1)]
    refine rndM ?_
    refine sq zA ?_
    simp only [go_sem,(by decide:bLt (1) (1)=false)]
    refine zH ?_
    refine yE rfl trivial (fun hc=>?_) (fun hc=>?_)
    ·cases hc
    refine rg zA ?_
    simp only [go_sem]
    refine zH ?_
    refine tM ?_
    refine xE zL zA 2 ?_
    simp only [zJ,tS,tZ,dS,dZ,go_sem]
    repeat ((with_reducible refine aI ?_ ?_);exact an0)
    refine inlO (rs:=[]) Try.func51 (by kernel_rfl) rfl rfl Try.ntmps51 (caps:=[.ptr 0 0 0 0,.ptr 1 0 0 0,.ptr 2 0 0 0]) (tc:=[.ptr 0 0 0 3,.ptr 0 0 0 0,.ptr 1 0 0 0,.ptr 2 0 0 0]) rfl (by simp only [go_sem]) rfl ?_
    simp only [lC,lN,Nat.reduceAdd,Nat.reduceSub,rS,rZ,aC,aN]
    refine qK (fun e:(List TStored) × (List TFrame)=>(tp 12 [])) (fun e=>[.lit 31 [.int .i64 p0.Limit,.int .i64 p0.Stay,.sl 6 3 0 1 false,.sl 11 43 0 e.1.length false],.dead,.lit 50 [.sl 12 41 0 e.2.length false],.lit 31 [.int .i64 0,.int .i64 0,.ro 0 0 true (fun _ _=>.top),.ro 0 0 true (fun _ _=>.top)],.dead,.dead,.lit 72 [.int .i64 ((gd r7 0).Aid),.bool ((gd r7 0).Asleep),.sl 10 43 0 w1_3.length false],.dead,.dead,.dead,.row 82 43 w1_3.length (enR zD w1_3),.row 82 43 e.1.length (enR zD e.1),.row 54 41 e.2.length (enR zM e.2)]) H (fun o H hn1_5 hn2_5=>?_) (fun e H=>?_)
    ·unfold F29_L5 at H
     try dsimp only at H ⊢
     try simp only [tp]
     refine tM ?_
     refine xE zL zA 5 ?_
     simp only [zJ,tS,tZ,dS,dZ,go_sem,Nat.reduceLT,Nat.reduceAdd]
     repeat ((with_reducible refine aI ?_ ?_);exact an0)
     refine inlO (rs:=[.tmp 4]) Try.func52 (by kernel_rfl) rfl rfl Try.ntmps52 (caps:=[]) (tc:=[.sl 8 43 0 r15.length false,.fn 53 [.ptr 0 0 0 0,.ptr 1 0 0 0,.ptr 2 0 0 0]]) rfl (by simp only [go_sem]) rfl ?_
     simp only [lC,lN,Nat.reduceAdd,Nat.reduceSub,rS,rZ,aC,aN]
     refine sq zA ?_
     simp only [go_sem]
     refine zH ?_
     refine tM ?_
     refine xE zL zA 2 ?_
     simp only [zJ,tS,tZ,dS,dZ,go_sem]
     repeat ((with_reducible refine aI ?_ ?_);exact an0)
     refine inlO (rs:=[.tmp 4]) Try.func35 (by kernel_rfl) rfl rfl Try.ntmps35 (caps:=[]) (tc:=[.sl 8 43 0 r15.length false,.fn 53 [.ptr 0 0 0 0,.ptr 1 0 0 0,.ptr 2 0 0 0]]) rfl (by simp only [go_sem]) rfl ?_
     simp only [lC,lN,Nat.reduceAdd,Nat.reduceSub,rS,rZ,aC,aN]
     refine qK (fun e:Int × (List TFrame)=>(tp 4 (.int .i64 e.1::tp 14 []))) (fun e=>[.lit 31 [.int .i64 p0.Limit,.int .i64 p0.Stay,.sl 6 3 0 1 false,.sl 8 43 0 r15.length false],.lit 3 [.int .i64 p1],.lit 50 [.sl 11 41 0 e.2.length false],.lit 31 [.int .i64 0,.int .i64 0,.ro 0 0 true (fun _ _=>.top),.ro 0 0 true (fun _ _=>.top)],.dead,.dead,.lit 72 [.int .i64 ((gd r7 0).Aid),.bool ((gd r7 0).Asleep),.sl 10 43 0 w1_3.length false],.dead,.row 82 43 r15.length (enR zD r15),.dead,.row 82 43 w1_3.length (enR zD w1_3),.row 54 41 e.2.length (enR zM e.2)]) H (fun o H hn1_6 hn2_6=>?_) (fun e H=>?_)
     ·unfold F29_L6 at H
      try dsimp only at H ⊢
      try simp only [tp]
      refine sq zA ?_
      simp only [go_sem,Nat.reduceAdd]
      refine zH ?_
      refine sq zA ?_
      simp only [go_sem]
      repeat ((with_reducible refine aI ?_ ?_);exact an0)
      refine xI ?_
      refine xA (fun s:Int=>(.sl 8 43 0 r15.length false::.fn 53 [.ptr 0 0 0 0,.ptr 1 0 0 0,.ptr 2 0 0 0]::tp 5 (.int .i64 (r15.length:Nat)::.int .i64 s::tp 10 []))) (fun s=>[.lit 31 [.int .i64 p0.Limit,.int .i64 p0.Stay,.sl 6 3 0 1 false,.sl 8 43 0 r15.length false],.lit 3 [.int .i64 p1],.lit 50 [.sl 9 41 0 w1_2.length false],.lit 31 [.int .i64 0,.int .i64 0,.ro 0 0 true (fun _ _=>.top),.ro 0 0 true (fun _ _=>.top)],.dead,.dead,.lit 72 [.int .i64 ((gd r7 0).Aid),.bool ((gd r7 0).Asleep),.sl 10 43 0 w1_3.length false],.dead,.row 82 43 r15.length (enR zD r15),.row 54 41 w1_2.length (enR zM w1_2),.row 82 43 w1_3.length (enR zD w1_3)]) (fun e:Unit=>(tp 19 [])) (fun e=>[.lit 31 [.int .i64 p0.Limit,.int .i64 p0.Stay,.sl 6 3 0 1 false,.sl 8 43 0 r15.length false],.lit 3 [.int .i64 p1],.lit 50 [.sl 9 41 0 w1_2.length false],.lit 31 [.int .i64 0,.int .i64 0,.ro 0 0 true (fun _ _=>.top),.ro 0 0 true (fun _ _=>.top)],.dead,.dead,.lit 72 [.int .i64 ((gd r7 0).Aid),.bool ((gd r7 0).Asleep),.sl 10 43 0 w1_3.length false],.dead,.row 82 43 r15.length (enR zD r15),.row 54 41 w1_2.length (enR zM w1_2),.row 82 43 w1_3.length (enR zD w1_3)]) H ?_ (fun v7_1 o H hn1_7 hn2_7=>?_) (fun e H=>?_)
      ·refine zI ⟨[some 0,some 1,some 2,some 3,some 4,some 5,some 6,some 7,some 8,some 9,some 10],?_,?_,by rfl,by rfl⟩
       ·simp [CvL,Cv,yB,tp]
       ·exact ⟨cv,cv,cv,cv,zB,zB,cv,zB,(zQ nfA),(zQ nfA),(zQ nfA),trivial⟩
      ·unfold F29_L7 at H
       try dsimp only at H ⊢
       try simp only [tp]
       refine sq zA ?_
       simp only [go_sem,Nat.reduceAdd]
       refine zH ?_
       refine condM' rfl trivial (fun hc=>?_) (fun hc=>?_)
       ·have hk33:(bLt v7_1 (r15.length:Nat))=false:=by simpa using hc
        replace H:=zN hc H
        refine rg zA ?_
        simp only [go_sem]
        refine ⟨_,(Option.some.inj H).symm,?_⟩
        refine zI ⟨[some 0,some 1,some 2,some 3,some 4,some 5,some 6,some 7,some 8,some 9,some 10],?_,?_,by rfl,by rfl⟩
        ·simp [CvL,Cv]
        ·exact ⟨cv,cv,cv,cv,zB,zB,cv,zB,(zQ nfA),(zQ nfA),(zQ nfA),trivial⟩
       have hk33:(bLt v7_1 (r15.length:Nat))=true:=by simpa using hc
       replace H:=zO hc H
       refine rg zA ?_
       simp only [go_sem]
       refine zH ?_
       refine xI ?_
       refine sq zA ?_
       simp only [go_sem]
       refine zH ?_
       refine tM ?_
       obtain ⟨f34,H⟩:=nI H
       refine xE zL zA 5 ?_
       simp only [zJ,tS,tZ,dS,dZ,go_sem,Nat.reduceLT,Nat.reduceAdd,f34]
       repeat ((with_reducible refine aI ?_ ?_);exact an0)
       refine inlO (rs:=[.tmp 5]) Try.func53 (by kernel_rfl) rfl rfl Try.ntmps53 (caps:=[.ptr 0 0 0 0,.ptr 1 0 0 0,.ptr 2 0 0 0]) (tc:=[.agg (.int .u8 ((gd r15 v7_1.toNat).Cat)::.int .i64 ((gd r15 v7_1.toNat).At)::.int .u8 ((((gd r15 v7_1.toNat).Frame).Head).Kind)::.int .u8 ((((gd r15 v7_1.toNat).Frame).Head).Sub)::.bool ((((gd r15 v7_1.toNat).Frame).Head).ToDs)::.bool ((((gd r15 v7_1.toNat).Frame).Head).FromDs)::.bool ((((gd r15 v7_1.toNat).Frame).Head).More)::.bool ((((gd r15 v7_1.toNat).Frame).Head).Retry)::.bool ((((gd r15 v7_1.toNat).Frame).Head).Sleep)::.bool ((((gd r15 v7_1.toNat).Frame).Head).MoreData)::.bool ((((gd r15 v7_1.toNat).Frame).Head).Protected)::.int .i64 ((((gd r15 v7_1.toNat).Frame).Head).Duration)::.int .u8 (((((gd r15 v7_1.toNat).Frame).Head).A1).x0)::.int .u8 (((((gd r15 v7_1.toNat).Frame).Head).A1).x1)::.int .u8 (((((gd r15 v7_1.toNat).Frame).Head).A1).x2)::.int .u8 (((((gd r15 v7_1.toNat).Frame).Head).A1).x3)::.int .u8 (((((gd r15 v7_1.toNat).Frame).Head).A1).x4)::.int .u8 (((((gd r15 v7_1.toNat).Frame).Head).A1).x5)::.int .u8 (((((gd r15 v7_1.toNat).Frame).Head).A2).x0)::.int .u8 (((((gd r15 v7_1.toNat).Frame).Head).A2).x1)::.int .u8 (((((gd r15 v7_1.toNat).Frame).Head).A2).x2)::.int .u8 (((((gd r15 v7_1.toNat).Frame).Head).A2).x3)::.int .u8 (((((gd r15 v7_1.toNat).Frame).Head).A2).x4)::.int .u8 (((((gd r15 v7_1.toNat).Frame).Head).A2).x5)::.int .u8 (((((gd r15 v7_1.toNat).Frame).Head).A3).x0)::.int .u8 (((((gd r15 v7_1.toNat).Frame).Head).A3).x1)::.int .u8 (((((gd r15 v7_1.toNat).Frame).Head).A3).x2)::.int .u8 (((((gd r15 v7_1.toNat).Frame).Head).A3).x3)::.int .u8 (((((gd r15 v7_1.toNat).Frame).Head).A3).x4)::.int .u8 (((((gd r15 v7_1.toNat).Frame).Head).A3).x5)::.int .u8 (((((gd r15 v7_1.toNat).Frame).Head).A4).x0)::.int .u8 (((((gd r15 v7_1.toNat).Frame).Head).A4).x1)::.int .u8 (((((gd r15 v7_1.toNat).Frame).Head).A4).x2)::.int .u8 (((((gd r15 v7_1.toNat).Frame).Head).A4).x3)::.int .u8 (((((gd r15 v7_1.toNat).Frame).Head).A4).x4)::.int .u8 (((((gd r15 v7_1.toNat).Frame).Head).A4).x5)::.int .i64 ((((gd r15 v7_1.toNat).Frame).Head).Seq)::.int .i64 ((((gd r15 v7_1.toNat).Frame).Head).Frag)::.int .i64 ((((gd r15 v7_1.toNat).Frame).Head).Tid)::.int .u8 ((((gd r15 v7_1.toNat).Frame).Head).Ack)::.bool ((((gd r15 v7_1.toNat).Frame).Head).Amsdu)::.bool ((((gd r15 v7_1.toNat).Frame).Head).Eosp)::.ro 1 ((((gd r15 v7_1.toNat).Frame).Body).length) false (enR yG (((gd r15 v7_1.toNat).Frame).Body))::[]),.ptr 0 0 0 0,.ptr 1 0 0 0,.ptr 2 0 0 0]) rfl (by simp only [go_sem]) rfl ?_
       simp only [lC,lN,Nat.reduceAdd,Nat.reduceSub,rS,rZ,aC,aN]
       refine sq zA ?_
       simp only [go_sem,Nat.reduceAdd]
       refine sq zA ?_
       simp only [go_sem,Nat.reduceLeDiff,Nat.reduceLT,Nat.reduceAdd]
       repeat ((with_reducible refine aI ?_ ?_);exact an4)
       refine zH ?_
       refine sq zA ?_
       simp only [go_sem]
       refine condM' rfl trivial (fun hc=>?_) (fun hc=>?_)
       ·have hk35:(bLe (wr .i64 (((gd r15 v7_1.toNat).At)+p0.Stay)) p1)=false:=by simpa using hc
        replace H:=zN hc H
        refine rg zA ?_
        simp only [go_sem]
        refine sq zA ?_
        simp only [go_sem]
        refine rg zA ?_
        simp only [go_sem]
        refine xE zL zA 0 ?_
        simp only [zJ,tZ,dZ,go_sem]
        repeat ((with_reducible refine aI ?_ ?_);exact an0)
        refine wX ?_
        refine yE rfl trivial (fun hc=>?_) (fun hc=>?_)
        ·simp [hk35] at hc
        refine rg zA ?_
        simp only [go_sem]
        refine rg zA ?_
        simp only [go_sem]
        refine ⟨_,(Option.some.inj H).symm,?_⟩
        refine zI ⟨[some 0,some 1,some 2,some 3,some 4,some 5,some 6,some 7,some 8,some 9,some 10],?_,?_,by rfl,by rfl⟩
        ·simp [CvL,Cv,yB]
        ·exact ⟨cv,cv,cv,cv,zB,zB,cv,zB,(zQ nfA),(zQ nfA),(zQ nfA),trivial⟩
       have hk35:(bLe (wr .i64 (((gd r15 v7_1.toNat).At)+p0.Stay)) p1)=true:=by simpa using hc
       replace H:=zO hc H
       obtain ⟨f36,H⟩:=nC H
       refine rg zA ?_
       simp only [go_sem,Nat.reduceLeDiff,Nat.reduceLT,Nat.reduceAdd,Nat.reduceBEq,reduceCtorEq,f36]
       repeat ((with_reducible refine aI ?_ ?_);exact an1)
       refine sq zA ?_
       simp only [go_sem]
       refine rg zA ?_
       simp only [go_sem]
       refine xE zL zA 0 ?_
       simp only [zJ,tZ,dZ,go_sem]
       repeat ((with_reducible refine aI ?_ ?_);exact an1)
       refine wX ?_
       refine yE rfl trivial (fun hc=>?_) (fun hc=>?_)
       rotate_left
       ·simp [hk35] at hc
       refine sq zA ?_
       simp only [go_sem]
       refine rg zA ?_
       simp only [go_sem]
       obtain ⟨q37,H,hq38⟩:=bsi H
       replace hq38:=hn2_7 _ (Option.some.inj hq38).symm
       obtain rfl:=(Option.some.inj hq38).symm
       refine ⟨_,(Option.some.inj H).symm,?_⟩
       refine zI ⟨[some 0,some 1,some 2,some 3,some 4,some 5,some 6,some 7,some 8,some 9,some 10,some 13],?_,?_,by rfl,by rfl⟩
       ·simp [CvL,Cv]
       ·exact ⟨cv,cv,cv,cv,zB,zB,cv,zB,(zQ nfA),zB,(zQ nfA),zK xP cl (wW (f:=zM) w1_2 [(eF ((gd r15 v7_1.toNat).Frame))] (fun _ _ _ _=>rfl) (yY (f:=zM) [(eF ((gd r15 v7_1.toNat).Frame))] (fun _ _=>rfl) rfl)),trivial⟩
      ·try dsimp only at H ⊢
       try simp only [tp]
       try simp only [yR]
       refine sq zA ?_
       simp only [go_sem]
       refine rg zA ?_
       simp only [go_sem]
       refine ⟨_,(Option.some.inj H).symm,?_⟩
       refine zI ⟨[some 0,some 1,some 2,some 3,some 4,some 5,some 6,some 7,some 8,some 9,some 10,some 9],?_,?_,by rfl,by rfl⟩
       ·simp [CvL,Cv]
       ·exact ⟨cv,cv,cv,cv,zB,zB,cv,zB,(zQ nfA),zB,(zQ nfA),zK xP cl (fun _ _ _ _=>rfl),trivial⟩
     ·obtain ⟨w6_1,w6_3⟩:=e
      try dsimp only at H ⊢
      try simp only [tp]
      try simp only [vD]
      try simp only [go_sem]
      refine xE zL zA 1 ?_
      simp only [zJ,tS,tZ,dS,dZ,go_sem]
      repeat ((with_reducible refine aI ?_ ?_);exact an0)
      refine wX ?_
      refine zH ?_
      refine sq zA ?_
      simp only [go_sem]
      refine yE rfl trivial (fun hc=>?_) (fun hc=>?_)
      ·have hk39:(bEq w6_1 (-1))=true:=by simpa using hc
       replace H:=zO hc H
       refine sq zA ?_
       simp only [go_sem]
       refine rg zA ?_
       simp only [go_sem]
       refine xE zL zA 2 ?_
       simp only [zJ,tS,tZ,dS,dZ,go_sem,Nat.reduceAdd]
       repeat ((with_reducible refine aI ?_ ?_);exact an0)
       refine wX ?_
       refine ⟨_,(Option.some.inj H).symm,?_⟩
       refine zI ⟨[some 0,some 1,some 2,some 3,some 4,some 5,some 6,some 7,some 8,some 9,some 10,some 8,some 11],?_,?_,by rfl,by rfl⟩
       ·simp [CvL,Cv]
       ·exact ⟨cv,zB,cv,cv,zB,zB,cv,zB,zB,zB,(zQ nfA),zK yP cl (fun _ _ _ _=>rfl),zK xP cl (fun _ _ _ _=>rfl),trivial⟩
      have hk39:(bEq w6_1 (-1))=false:=by simpa using hc
      replace H:=zN hc H
      refine rg zA ?_
      simp only [go_sem]
      refine zH ?_
      refine sq zA ?_
      simp only [go_sem]
      refine xI ?_
      refine xA (fun s:Int × (List TFrame) × (List TStored) × Int=>(.sl 13 43 0 s.2.2.1.length false::.fn 53 [.ptr 0 0 0 0,.ptr 1 0 0 0,.ptr 2 0 0 0]::.top::.top::.top::.int .i64 s.2.2.2::.int .i64 s.1::tp 35 [])) (fun s=>[.lit 31 [.int .i64 p0.Limit,.int .i64 p0.Stay,.sl 6 3 0 1 false,.sl 13 43 0 s.2.2.1.length false],.lit 3 [.int .i64 p1],.lit 50 [.sl 12 41 0 s.2.1.length false],.lit 31 [.int .i64 0,.int .i64 0,.ro 0 0 true (fun _ _=>.top),.ro 0 0 true (fun _ _=>.top)],.dead,.dead,.lit 72 [.int .i64 ((gd r7 0).Aid),.bool ((gd r7 0).Asleep),.sl 10 43 0 w1_3.length false],.dead,.dead,.dead,.row 82 43 w1_3.length (enR zD w1_3),.dead,.row 54 41 s.2.1.length (enR zM s.2.1),.row 82 43 s.2.2.1.length (enR zD s.2.2.1)]) (fun e:(List TStored) × Int × (List TFrame)=>(.sl 12 43 0 e.1.length false::tp 4 (.int .i64 e.2.1::tp 36 []))) (fun e=>[.lit 31 [.int .i64 p0.Limit,.int .i64 p0.Stay,.sl 6 3 0 1 false,.sl 12 43 0 e.1.length false],.dead,.lit 50 [.sl 13 41 0 e.2.2.length false],.lit 31 [.int .i64 0,.int .i64 0,.ro 0 0 true (fun _ _=>.top),.ro 0 0 true (fun _ _=>.top)],.dead,.dead,.lit 72 [.int .i64 ((gd r7 0).Aid),.bool ((gd r7 0).Asleep),.sl 10 43 0 w1_3.length false],.dead,.dead,.dead,.row 82 43 w1_3.length (enR zD w1_3),.dead,.row 82 43 e.1.length (enR zD e.1),.row 54 41 e.2.2.length (enR zM e.2.2)]) H ?_ (fun s o H hn1_8 hn2_8=>?_) (fun e H=>?_)
      ·refine zI ⟨[some 0,some 1,some 2,some 3,some 4,some 5,some 6,some 7,some 8,some 9,some 10,some 11,some 11,some 8],?_,?_,by rfl,by rfl⟩
       ·simp [CvL,Cv,yB,tp]
       ·exact ⟨cv,cv,cv,cv,zB,zB,cv,zB,zB,zB,(zQ nfA),zB,zK xP cl (fun _ _ _ _=>rfl),zK yP cl (fun _ _ _ _=>rfl),trivial⟩
      ·obtain ⟨v8_1,v8_2,v8_3,v8_4⟩:=s
       unfold F29_L8 at H
       delta eF at H
       try dsimp only at H ⊢
       try simp only [tp]
       refine zH ?_
       refine sq zA ?_
       simp only [go_sem,Nat.reduceAdd]
       repeat ((with_reducible refine aI ?_ ?_);exact an0)
       refine condM' rfl trivial (fun hc=>?_) (fun hc=>?_)
       ·have hk40:(bLt v8_1 (v8_3.length:Nat))=false:=by simpa using hc
        replace H:=zN hc H
        refine rg zA ?_
        simp only [go_sem]
        refine ⟨_,(Option.some.inj H).symm,?_⟩
        refine zI ⟨[some 0,some 1,some 2,some 3,some 4,some 5,some 6,some 7,some 8,some 9,some 10,some 11,some 13,some 12],?_,?_,by rfl,by rfl⟩
        ·simp [CvL,Cv,yB]
        ·exact ⟨cv,zB,cv,cv,zB,zB,cv,zB,zB,zB,(zQ nfA),zB,zK yP cl (fun _ _ _ _=>rfl),zK xP cl (fun _ _ _ _=>rfl),trivial⟩
       have hk40:(bLt v8_1 (v8_3.length:Nat))=true:=by simpa using hc
       replace H:=zO hc H
       refine rg zA ?_
       simp only [go_sem]
       refine zH ?_
       refine xI ?_
       refine zH ?_
       obtain ⟨f41,H⟩:=nI H
       refine rg zA ?_
       simp only [go_sem,Nat.reduceLT,Nat.reduceAdd,f41]
       repeat ((with_reducible refine aI ?_ ?_);exact an4)
       refine zH ?_
       refine tM ?_
       refine xE zL zA 2 ?_
       simp only [zJ,tS,tZ,dS,dZ,go_sem,Nat.reduceLT,Nat.reduceAdd]
       repeat ((with_reducible refine aI ?_ ?_);exact an0)
       refine inlO (rs:=[.tmp 5]) Try.func53 (by kernel_rfl) rfl rfl Try.ntmps53 (caps:=[.ptr 0 0 0 0,.ptr 1 0 0 0,.ptr 2 0 0 0]) (tc:=[.agg (.int .u8 ((gd v8_3 v8_1.toNat).Cat)::.int .i64 ((gd v8_3 v8_1.toNat).At)::.int .u8 ((((gd v8_3 v8_1.toNat).Frame).Head).Kind)::.int .u8 ((((gd v8_3 v8_1.toNat).Frame).Head).Sub)::.bool ((((gd v8_3 v8_1.toNat).Frame).Head).ToDs)::.bool ((((gd v8_3 v8_1.toNat).Frame).Head).FromDs)::.bool ((((gd v8_3 v8_1.toNat).Frame).Head).More)::.bool ((((gd v8_3 v8_1.toNat).Frame).Head).Retry)::.bool ((((gd v8_3 v8_1.toNat).Frame).Head).Sleep)::.bool ((((gd v8_3 v8_1.toNat).Frame).Head).MoreData)::.bool ((((gd v8_3 v8_1.toNat).Frame).Head).Protected)::.int .i64 ((((gd v8_3 v8_1.toNat).Frame).Head).Duration)::.int .u8 (((((gd v8_3 v8_1.toNat).Frame).Head).A1).x0)::.int .u8 (((((gd v8_3 v8_1.toNat).Frame).Head).A1).x1)::.int .u8 (((((gd v8_3 v8_1.toNat).Frame).Head).A1).x2)::.int .u8 (((((gd v8_3 v8_1.toNat).Frame).Head).A1).x3)::.int .u8 (((((gd v8_3 v8_1.toNat).Frame).Head).A1).x4)::.int .u8 (((((gd v8_3 v8_1.toNat).Frame).Head).A1).x5)::.int .u8 (((((gd v8_3 v8_1.toNat).Frame).Head).A2).x0)::.int .u8 (((((gd v8_3 v8_1.toNat).Frame).Head).A2).x1)::.int .u8 (((((gd v8_3 v8_1.toNat).Frame).Head).A2).x2)::.int .u8 (((((gd v8_3 v8_1.toNat).Frame).Head).A2).x3)::.int .u8 (((((gd v8_3 v8_1.toNat).Frame).Head).A2).x4)::.int .u8 (((((gd v8_3 v8_1.toNat).Frame).Head).A2).x5)::.int .u8 (((((gd v8_3 v8_1.toNat).Frame).Head).A3).x0)::.int .u8 (((((gd v8_3 v8_1.toNat).Frame).Head).A3).x1)::.int .u8 (((((gd v8_3 v8_1.toNat).Frame).Head).A3).x2)::.int .u8 (((((gd v8_3 v8_1.toNat).Frame).Head).A3).x3)::.int .u8 (((((gd v8_3 v8_1.toNat).Frame).Head).A3).x4)::.int .u8 (((((gd v8_3 v8_1.toNat).Frame).Head).A3).x5)::.int .u8 (((((gd v8_3 v8_1.toNat).Frame).Head).A4).x0)::.int .u8 (((((gd v8_3 v8_1.toNat).Frame).Head).A4).x1)::.int .u8 (((((gd v8_3 v8_1.toNat).Frame).Head).A4).x2)::.int .u8 (((((gd v8_3 v8_1.toNat).Frame).Head).A4).x3)::.int .u8 (((((gd v8_3 v8_1.toNat).Frame).Head).A4).x4)::.int .u8 (((((gd v8_3 v8_1.toNat).Frame).Head).A4).x5)::.int .i64 ((((gd v8_3 v8_1.toNat).Frame).Head).Seq)::.int .i64 ((((gd v8_3 v8_1.toNat).Frame).Head).Frag)::.int .i64 ((((gd v8_3 v8_1.toNat).Frame).Head).Tid)::.int .u8 ((((gd v8_3 v8_1.toNat).Frame).Head).Ack)::.bool ((((gd v8_3 v8_1.toNat).Frame).Head).Amsdu)::.bool ((((gd v8_3 v8_1.toNat).Frame).Head).Eosp)::.ro 1 ((((gd v8_3 v8_1.toNat).Frame).Body).length) false (enR yG (((gd v8_3 v8_1.toNat).Frame).Body))::[]),.ptr 0 0 0 0,.ptr 1 0 0 0,.ptr 2 0 0 0]) rfl (by simp only [go_sem]) rfl ?_
       simp only [lC,lN,Nat.reduceAdd,Nat.reduceSub,rS,rZ,aC,aN]
       refine sq zA ?_
       simp only [go_sem,Nat.reduceAdd]
       refine sq zA ?_
       simp only [go_sem,Nat.reduceLeDiff,Nat.reduceLT,Nat.reduceAdd]
       repeat ((with_reducible refine aI ?_ ?_);exact an4)
       refine zH ?_
       refine sq zA ?_
       simp only [go_sem]
       refine yE rfl trivial (fun hc=>?_) (fun hc=>?_)
       ·have hk42:(bLe (wr .i64 (((gd v8_3 v8_1.toNat).At)+p0.Stay)) p1)=true:=by simpa using hc
        replace H:=zO hc H
        obtain ⟨f43,H⟩:=nC H
        refine rg zA ?_
        simp only [go_sem,Nat.reduceLeDiff,Nat.reduceLT,Nat.reduceAdd,Nat.reduceBEq,reduceCtorEq,f43]
        repeat ((with_reducible refine aI ?_ ?_);exact an1)
        refine sq zA ?_
        simp only [go_sem]
        refine rg zA ?_
        simp only [go_sem]
        refine xE zL zA 1 ?_
        simp only [zJ,tS,tZ,dS,dZ,go_sem]
        repeat ((with_reducible refine aI ?_ ?_);exact an1)
        refine wX ?_
        refine yE rfl trivial (fun hc=>?_) (fun hc=>?_)
        ·simp [hk42] at hc
        refine rg zA ?_
        simp only [go_sem]
        refine rg zA ?_
        simp only [go_sem]
        refine ⟨_,(Option.some.inj H).symm,?_⟩
        refine zI ⟨[some 0,some 1,some 2,some 3,some 4,some 5,some 6,some 7,some 8,some 9,some 10,some 11,some 17,some 13],?_,?_,by rfl,by rfl⟩
        ·simp [CvL,Cv,yB]
        ·exact ⟨cv,cv,cv,cv,zB,zB,cv,zB,zB,zB,(zQ nfA),zB,zK xP cl (wW (f:=zM) v8_2 [(eF ((gd v8_3 v8_1.toNat).Frame))] (fun _ _ _ _=>rfl) (yY (f:=zM) [(eF ((gd v8_3 v8_1.toNat).Frame))] (fun _ _=>rfl) rfl)),zK yP cl (fun _ _ _ _=>rfl),trivial⟩
       have hk42:(bLe (wr .i64 (((gd v8_3 v8_1.toNat).At)+p0.Stay)) p1)=false:=by simpa using hc
       replace H:=zN hc H
       refine rg zA ?_
       simp only [go_sem]
       refine sq zA ?_
       simp only [go_sem]
       refine rg zA ?_
       simp only [go_sem]
       refine xE zL zA 1 ?_
       simp only [zJ,tS,tZ,dS,dZ,go_sem]
       repeat ((with_reducible refine aI ?_ ?_);exact an0)
       refine wX ?_
       refine yE rfl trivial (fun hc=>?_) (fun hc=>?_)
       rotate_left
       ·simp [hk42] at hc
       refine zH ?_
       obtain ⟨f44,H⟩:=nI H
       refine rg zA ?_
       simp only [go_sem,Nat.reduceLT,Nat.reduceAdd,f44]
       repeat ((with_reducible refine aI ?_ ?_);exact an4)
       refine rg zA ?_
       simp only [go_sem]
       refine rg zA ?_
       simp only [go_sem]
       refine ⟨_,(Option.some.inj H).symm,?_⟩
       refine zI ⟨[some 0,some 1,some 2,some 3,some 4,some 5,some 6,some 7,some 8,some 9,some 10,some 11,some 12,some 13],?_,?_,by rfl,by rfl⟩
       ·simp [CvL,Cv,yB]
       ·exact ⟨cv,cv,cv,cv,zB,zB,cv,zB,zB,zB,(zQ nfA),zB,zK xP cl (fun _ _ _ _=>rfl),zK yP cl (fZ (f:=zD) v8_3 v8_4.toNat 0 (TStored.mk ((gd v8_3 v8_1.toNat).Cat) ((gd v8_3 v8_1.toNat).At) (eF ((gd v8_3 v8_1.toNat).Frame))) (fun _ _ _ _=>rfl) (fun y hy=>match y,hy with|0,_=>rfl|1,_=>rfl|2,_=>rfl|3,_=>rfl|4,_=>rfl|5,_=>rfl|6,_=>rfl|7,_=>rfl|8,_=>rfl|9,_=>rfl|10,_=>rfl|11,_=>rfl|12,_=>rfl|13,_=>rfl|14,_=>rfl|15,_=>rfl|16,_=>rfl|17,_=>rfl|18,_=>rfl|19,_=>rfl|20,_=>rfl|21,_=>rfl|22,_=>rfl|23,_=>rfl|24,_=>rfl|25,_=>rfl|26,_=>rfl|27,_=>rfl|28,_=>rfl|29,_=>rfl|30,_=>rfl|31,_=>rfl|32,_=>rfl|33,_=>rfl|34,_=>rfl|35,_=>rfl|36,_=>rfl|37,_=>rfl|38,_=>rfl|39,_=>rfl|40,_=>rfl|41,_=>rfl|42,_=>rfl|(y+43),h=>absurd h nlt)),trivial⟩
      ·obtain ⟨w8_5,w8_6,w8_8⟩:=e
       try dsimp only at H ⊢
       try simp only [tp]
       try simp only [yR]
       refine zH ?_
       obtain ⟨f45,H⟩:=nS H
       refine rg zA ?_
       simp only [go_sem,Nat.reduceLeDiff,Nat.reduceAdd,f45]
       repeat ((with_reducible refine aI ?_ ?_);exact an3)
       refine zH ?_
       obtain ⟨f46,H⟩:=nS H
       refine rg zA ?_
       simp only [go_sem,f46]
       repeat ((with_reducible refine aI ?_ ?_);exact an4)
       refine rg zA ?_
       simp only [go_sem]
       refine xE zL zA 2 ?_
       simp only [zJ,tS,tZ,dS,dZ,go_sem,Nat.reduceAdd]
       repeat ((with_reducible refine aI ?_ ?_);exact an3)
       refine wX ?_
       refine ⟨_,(Option.some.inj H).symm,?_⟩
       refine zI ⟨[some 0,some 1,some 2,some 3,some 4,some 5,some 6,some 7,some 8,some 9,some 10,some 12,some 13],?_,?_,by rfl,by rfl⟩
       ·simp [CvL,Cv]
       ·exact ⟨(by simp [CvB,CvL,Cv,wB,geth,yB,(show (List.take w8_6.toNat w8_5).length=w8_6.toNat from take_len (n:=w8_5.length) cl (by omega))]),zB,(by simp [CvB,CvL,Cv,wB,geth,yB]),cv,zB,zB,cv,zB,zB,zB,(zQ nfA),(CvB_pre yP (by rw [show (List.take w8_6.toNat w8_5).length=w8_6.toNat from take_len (n:=w8_5.length) cl (by omega)];omega) (clr_row (fun _ _ _ _=>rfl))),zK xP cl (fun _ _ _ _=>rfl),trivial⟩
    ·obtain ⟨w5_1,w5_2⟩:=e
     try dsimp only at H ⊢
     try simp only [tp]
     try simp only [vD]
     try simp only [go_sem]
     refine xE zL zA 0 ?_
     simp only [zJ,tZ,dZ,go_sem]
     repeat ((with_reducible refine aI ?_ ?_);exact an0)
     refine wX ?_
     refine zH ?_
     refine yZ zL zA 0 (by kernel_rfl) (by kernel_rfl) ?_
     intro an han
     simp only [uC,wM,eG,xrD,xoD,tN,vS,List.append_nil,xK,refs,mask,wT,place,xU,wV,wA,hit,inL,xM,nrH,nrB,nrL,nr,rZ,Nat.sub_self,Nat.add_zero,Nat.zero_add,Nat.reduceSub,Nat.lt_add_one,go_sem,Nat.reduceLeDiff,Nat.reduceLT,Nat.reduceAdd,Nat.reduceSub,Nat.reduceBEq]
     repeat ((with_reducible refine aI ?_ ?_);exact an6)
     refine eM [10] ?_ ?_
     ·simp only [go_sem,Nat.reduceBEq]
      try exact at0
     simp only [go_sem,Nat.reduceBEq,Nat.reduceAdd]
     refine ofLitM 6 3 1 1 (litC 3 [.int .i64 ((gd r7 0).Aid),.bool ((gd r7 0).Asleep),.ro 43 w1_3.length false (enR zD w1_3)]) [.int .i64 ((gd r7 0).Aid),.bool ((gd r7 0).Asleep),.ro 43 w1_3.length false (enR zD w1_3)] rfl rfl rfl (fun x y hx hy=>rfl) ?_
     simp only [go_sem]
     refine rg zA ?_
     simp only [go_sem,Nat.reduceLT,Nat.reduceAdd]
     obtain rfl:=Option.some.inj H
     refine ⟨[12,6,11,0,2,3],?_,?_,[],?_,?_,rfl⟩
     ·simp only [go_sem,Nat.reduceBEq]
      try exact at0
     ·simp only [go_sem,Nat.reduceBEq]
      try exact at0
     ·simp only [go_sem,Nat.reduceBEq]
      exact xF (zC (uD (by first|rfl|simp) (fun _ _ _ _=>rfl)) (zC (xO (zC zE (zC zE (zC (uD (by first|rfl|simp) (yY (f:=zF) [(TSleeper.mk ((gd r7 0).Aid) ((gd r7 0).Asleep) w1_3)] (fun _ _=>rfl) rfl)) (zC (uD (by first|rfl|simp) (fun _ _ _ _=>rfl)) zW))))) (zC zE zW)))
     ·simp only [go_sem,CvH]
  ·cases hb
 ·unfold body29 at hb
  split at hb<;>cases hb
def tA:List AV->AR
 | []=>.pure True (.agg [.fn 69 [],.fn 70 [],.fn 71 [],.fn 72 []])
 | _=>.fail
theorem ok64:xZ Try.prog 64 (zV tA):=by
 refine xC tA (rs:=[.cell 0 118]) Try.func64 (by kernel_rfl) rfl rfl ?_
 intro l ob v hb hob
 unfold tA at hb
 split at hb
 ·injection hb with q1 q2;subst q1 q2
  refine ⟨[],_,(fun E vs F=>F),rfl,rfl,?_⟩
  rw [Try.ntmps64]
  simp only [lN,Nat.reduceSub,rS,rZ,aN]
  refine sq zA ?_
  simp only [go_sem]
  refine sq zA ?_
  simp only [go_sem,Nat.reduceLeDiff,Nat.reduceAdd]
  repeat ((with_reducible refine aI ?_ ?_);exact an4)
  refine rg zA ?_
  simp only [go_sem,Nat.reduceLT,Nat.reduceAdd]
  all_goals rfl
 ·cases hb
noncomputable def F69_L1 (p0:List Int) (v1_1:List Int) (v1_2:Int):Option (Lp ((List Int) × Int) ((List Int) ⊕ (List Int))) :=
 bif (bLt v1_2 (p0.length:Nat)) then (need (inb v1_2 p0.length) <| need (inb (vE .i64 (gd p0 v1_2.toNat) 3) 32) <| need (inb (vE .i64 (gd p0 v1_2.toNat) 3) v1_1.length) <| need (bLe 0 (andI .i64 (gd p0 v1_2.toNat) 7)) <| need (inb (vE .i64 (gd p0 v1_2.toNat) 3) 32) <| need (inb (vE .i64 (gd p0 v1_2.toNat) 3) v1_1.length) <| some (.next ((v1_1.set ((vE .i64 (gd p0 v1_2.toNat) 3).toNat) (orI .u8 (gd v1_1 ((vE .i64 (gd p0 v1_2.toNat) 3).toNat)) (shlI .u8 1 (andI .i64 (gd p0 v1_2.toNat) 7)))),wr .i64 (v1_2+1)))) else (some (.done (.inl v1_1)))
noncomputable def F69 (p0:List Int):Option (List Int) :=
 (some (List.replicate 32 0:List Int)).bind fun w1=>lp (yN (fun s=>F69_L1 p0 s.1 s.2) (w1,0)) (fun w1_3=>need (decide (w1_3.length=32)) <| need (decide (w1_3.length=32)) <| (some [(gd w1_3 0),(gd w1_3 1),(gd w1_3 2),(gd w1_3 3),(gd w1_3 4),(gd w1_3 5),(gd w1_3 6),(gd w1_3 7),(gd w1_3 8),(gd w1_3 9),(gd w1_3 10),(gd w1_3 11),(gd w1_3 12),(gd w1_3 13),(gd w1_3 14),(gd w1_3 15),(gd w1_3 16),(gd w1_3 17),(gd w1_3 18),(gd w1_3 19),(gd w1_3 20),(gd w1_3 21),(gd w1_3 22),(gd w1_3 23),(gd w1_3 24),(gd w1_3 25),(gd w1_3 26),(gd w1_3 27),(gd w1_3 28),(gd w1_3 29),(gd w1_3 30),(gd w1_3 31)]).bind fun w12=>need (decide (w12.length=32)) <| (some (List.replicate 32 0:List Int)).bind fun w15=>need (decide (w15.length=32)) <| (some [(gd w12 0),(gd w12 1),(gd w12 2),(gd w12 3),(gd w12 4),(gd w12 5),(gd w12 6),(gd w12 7),(gd w12 8),(gd w12 9),(gd w12 10),(gd w12 11),(gd w12 12),(gd w12 13),(gd w12 14),(gd w12 15),(gd w12 16),(gd w12 17),(gd w12 18),(gd w12 19),(gd w12 20),(gd w12 21),(gd w12 22),(gd w12 23),(gd w12 24),(gd w12 25),(gd w12 26),(gd w12 27),(gd w12 28),(gd w12 29),(gd w12 30),(gd w12 31)]).bind fun w18=>need (decide (w18.length=32)) <| some w18) some
noncomputable def body69:List AV->Nat->AR
 | [v0],_=>.pure (lK k_i64 1 v0/\(F69 (lA wO v0)).isSome=true) (.ro 1 ((gt (F69 (lA wO v0))).length) false (enR yG (gt (F69 (lA wO v0)))))
 | _,_=>.fail
theorem ok69:xZ Try.prog 69 (wE body69):=by
 refine gen_fn body69 (rs:=[.tmp 2]) Try.func69 (by kernel_rfl) rfl rfl ?_
 intro l s ob v ns hb hob
 rcases hb with ⟨hb,rfl⟩|hb
 ·unfold body69 at hb
  split at hb
  ·rename_i v0
   injection hb with q1 q2;subst q1 q2
   obtain ⟨hk0_0,hob⟩:=hob
   obtain ⟨r,H⟩:=oE.1 hob
   rw [H,yD]
   have hw0:=uP (fun r h=>w_i64 h) hk0_0
   generalize lA wO v0=p0 at H hw0
   refine ⟨[.ro 1 p0.length false (enR yQ p0)],.ro 1 r.length false (enR yG r),[],(fun E vs F=>yL hw0.1 F (fun vs F=>F)),by simp only [ren],trivial,?_⟩
   rw [Try.ntmps69]
   simp only [lC,lN,Nat.reduceAdd,Nat.reduceSub,rS,rZ,aC,aN]
   unfold F69 at H
   try dsimp only at H
   refine sq zA ?_
   simp only [go_sem]
   refine zH ?_
   refine tM ?_
   refine xE zL zA 1 ?_
   simp only [zJ,tS,tZ,dS,dZ,go_sem]
   repeat ((with_reducible refine aI ?_ ?_);exact an0)
   refine inlO (rs:=[.cell 2 121]) Try.func75 (by kernel_rfl) rfl rfl Try.ntmps75 (caps:=[]) (tc:=[.ro 1 p0.length false (enR yQ p0)]) rfl (by simp only [go_sem]) rfl ?_
   simp only [lC,lN,Nat.reduceAdd,Nat.reduceSub,rS,rZ,aC,aN]
   refine zH ?_
   refine tM ?_
   refine xE zL zA 0 ?_
   simp only [zJ,tZ,dZ,go_sem]
   obtain ⟨w1,hw2,H⟩:=bsj H
   have lhw2:w1.length=32:=by rw [← hw2];exact List.length_replicate
   refine allocO zL zA (len:=w1.length) (z:=1) (l:=(List.replicate 32 (yG 0)).flatten) (c:=enR yG w1) rfl rfl rfl (by kernel_rfl) (by rw [lhw2];exact flat_len) (fun x y hx hy=>by subst hw2;exact arr_rep rfl x y (by simpa using hx) hy) ?_
   simp only [go_sem]
   refine xE zL zA 0 ?_
   simp only [zJ,tZ,dZ,go_sem]
   refine wX ?_
   refine zH ?_
   refine sq zA ?_
   simp only [go_sem]
   repeat ((with_reducible refine aI ?_ ?_);exact an0)
   refine xI ?_
   refine xA (fun s:(List Int) × Int=>(.top::.top::.ptr 1 1 0 0::.top::.top::.ro 1 p0.length false (enR yQ p0)::.int .i64 (p0.length:Nat)::.int .i64 s.2::tp 14 [])) (fun s=>[.dead,.row 121 1 s.1.length (enR yG s.1)]) (fun e:List Int=>(.top::.top::.ptr 1 1 0 0::tp 19 [])) (fun e=>[.dead,.row 121 1 e.length (enR yG e)]) H ?_ (fun s o H hn1_1 hn2_1=>?_) (fun w1_3 H=>?_)
   ·refine zI ⟨[some 0,some 0],?_,?_,by rfl,by rfl⟩
    ·simp [CvL,Cv,yB,tp]
    ·exact ⟨zB,zK xT cl (fun _ _ _ _=>rfl),trivial⟩
   ·obtain ⟨v1_1,v1_2⟩:=s
    unfold F69_L1 at H
    try dsimp only at H ⊢
    try simp only [tp]
    refine sq zA ?_
    simp only [go_sem]
    refine zH ?_
    refine condM' rfl trivial (fun hc=>?_) (fun hc=>?_)
    ·have hk3:(bLt v1_2 (p0.length:Nat))=false:=by simpa using hc
     replace H:=zN hc H
     refine rg zA ?_
     simp only [go_sem]
     refine ⟨_,(Option.some.inj H).symm,?_⟩
     refine zI ⟨[some 0,some 1],?_,?_,by rfl,by rfl⟩
     ·simp [CvL,Cv,yB]
     ·exact ⟨zB,zK xT cl (fun _ _ _ _=>rfl),trivial⟩
    have hk3:(bLt v1_2 (p0.length:Nat))=true:=by simpa using hc
    replace H:=zO hc H
    refine rg zA ?_
    simp only [go_sem]
    refine zH ?_
    refine xI ?_
    refine zH ?_
    obtain ⟨f4,H⟩:=nI H
    refine rg zA ?_
    simp only [go_sem,Nat.reduceLT,f4]
    repeat ((with_reducible refine aI ?_ ?_);exact an4)
    obtain ⟨f5,H⟩:=nI H
    obtain ⟨f6,H⟩:=nI H
    obtain ⟨f7,H⟩:=yH.1 H
    replace f7:=bLe_iff.1 f7
    obtain ⟨f8,H⟩:=nI H
    obtain ⟨f9,H⟩:=nI H
    refine yZ zL zA 0 (by kernel_rfl) (by kernel_rfl) ?_
    intro an han
    simp only [uC,wM,eG,xrD,xoD,tN,vS,List.append_nil,xK,refs,mask,wT,place,xU,wV,wA,hit,inL,xM,nrH,nrB,rZ,Nat.sub_self,Nat.add_zero,Nat.zero_add,Nat.reduceSub,Nat.lt_add_one,go_sem,Nat.reduceLeDiff,Nat.reduceAdd,Nat.reduceSub,Nat.reduceBEq,f5,f6,f7]
    repeat ((with_reducible refine aI ?_ ?_);exact an6)
    refine rg zA ?_
    simp only [go_sem]
    refine ⟨_,(Option.some.inj H).symm,?_⟩
    refine zI ⟨[some 0,some 1],?_,?_,by rfl,by rfl⟩
    ·simp [CvL,Cv,yB]
    ·exact ⟨zB,zK xT cl (fZ (f:=yG) v1_1 ((vE .i64 (gd p0 v1_2.toNat) 3).toNat) 0 (orI .u8 (gd v1_1 ((vE .i64 (gd p0 v1_2.toNat) 3).toNat)) (shlI .u8 1 (andI .i64 (gd p0 v1_2.toNat) 7))) (fun _ _ _ _=>rfl) (fun y hy=>match y,hy with|0,_=>rfl|(y+1),h=>absurd h nlt)),trivial⟩
   ·try dsimp only at H ⊢
    try simp only [tp]
    try simp only [yR]
    refine zH ?_
    refine tM ?_
    refine xE zL zA 0 ?_
    simp only [zJ,tZ,dZ,go_sem]
    repeat ((with_reducible refine aI ?_ ?_);exact an4)
    obtain ⟨f10,H⟩:=yH.1 H
    replace f10:=decide_eq_true_iff.1 f10
    refine loadArrO zL zA (b:=1) (z:=1) (n:=32) (cells:=(.int .u8 (gd w1_3 0)::.int .u8 (gd w1_3 1)::.int .u8 (gd w1_3 2)::.int .u8 (gd w1_3 3)::.int .u8 (gd w1_3 4)::.int .u8 (gd w1_3 5)::.int .u8 (gd w1_3 6)::.int .u8 (gd w1_3 7)::.int .u8 (gd w1_3 8)::.int .u8 (gd w1_3 9)::.int .u8 (gd w1_3 10)::.int .u8 (gd w1_3 11)::.int .u8 (gd w1_3 12)::.int .u8 (gd w1_3 13)::.int .u8 (gd w1_3 14)::.int .u8 (gd w1_3 15)::.int .u8 (gd w1_3 16)::.int .u8 (gd w1_3 17)::.int .u8 (gd w1_3 18)::.int .u8 (gd w1_3 19)::.int .u8 (gd w1_3 20)::.int .u8 (gd w1_3 21)::.int .u8 (gd w1_3 22)::.int .u8 (gd w1_3 23)::.int .u8 (gd w1_3 24)::.int .u8 (gd w1_3 25)::.int .u8 (gd w1_3 26)::.int .u8 (gd w1_3 27)::.int .u8 (gd w1_3 28)::.int .u8 (gd w1_3 29)::.int .u8 (gd w1_3 30)::.int .u8 (gd w1_3 31)::[])) rfl rfl rfl rfl (by first|exact trivial|(simp only [go_sem,Nat.reduceLeDiff,Nat.reduceLT,Nat.reduceAdd,Nat.reduceMul,Nat.reduceSub,Nat.reduceEqDiff,Nat.reduceBEq,Int.reduceToNat,reduceCtorEq];done)|simp [og]) rfl f10 (by kernel_rfl) (by kernel_rfl) rfl (by decide) (fun x y hx hy=>(flat_get (f:=fun x=>yG (gd w1_3 x)) (n:=32) (fun _=>rfl) x y (by omega) hy).symm) ?_
    simp only [go_sem]
    refine xE zL zA 0 ?_
    simp only [zJ,tZ,dZ,go_sem]
    repeat ((with_reducible refine aI ?_ ?_);exact an4)
    obtain ⟨f11,H⟩:=yH.1 H
    replace f11:=decide_eq_true_iff.1 f11
    refine storeArrO zL zA (b:=1) (z:=1) (n:=32) rfl rfl rfl rfl rfl (by first|exact ⟨trivial,trivial⟩|(simp only [go_sem,Nat.reduceLeDiff,Nat.reduceLT,Nat.reduceAdd,Nat.reduceMul,Nat.reduceSub,Nat.reduceEqDiff,Nat.reduceBEq,Int.reduceToNat,reduceCtorEq];done)|simp [og]) rfl f11 (by kernel_rfl) rfl (by decide) ?_
    simp only [go_sem]
    refine xE zL zA 0 ?_
    simp only [zJ,tZ,dZ,go_sem]
    repeat ((with_reducible refine aI ?_ ?_);exact an4)
    refine wX ?_
    obtain ⟨w12,hw13,H⟩:=bsj H
    have lhw13:w12.length=32:=by rw [← hw13];exact (by first|rfl|simp)
    refine fY (t2:=(.top::.top::.ptr 1 1 0 0::tp 19 [])) (h2:=[.dead,.row 121 1 w12.length (enR yG w12)]) ?_ ?_
    ·refine zI ⟨[some 0,some 1],?_,?_,by rfl,by rfl⟩
     ·simp [CvL,Cv,yB,tp]
     ·exact ⟨zB,zK xT lhw13 (hw13 ▸ (yY (f:=yG) [(gd w1_3 0),(gd w1_3 1),(gd w1_3 2),(gd w1_3 3),(gd w1_3 4),(gd w1_3 5),(gd w1_3 6),(gd w1_3 7),(gd w1_3 8),(gd w1_3 9),(gd w1_3 10),(gd w1_3 11),(gd w1_3 12),(gd w1_3 13),(gd w1_3 14),(gd w1_3 15),(gd w1_3 16),(gd w1_3 17),(gd w1_3 18),(gd w1_3 19),(gd w1_3 20),(gd w1_3 21),(gd w1_3 22),(gd w1_3 23),(gd w1_3 24),(gd w1_3 25),(gd w1_3 26),(gd w1_3 27),(gd w1_3 28),(gd w1_3 29),(gd w1_3 30),(gd w1_3 31)] (fun _ _=>rfl) rfl)),trivial⟩
    simp only [tp]
    obtain ⟨f14,H⟩:=yH.1 H
    replace f14:=decide_eq_true_iff.1 f14
    refine toLitM 1 (z:=1) (n:=32) (.int .u8 (gd w12 0)::.int .u8 (gd w12 1)::.int .u8 (gd w12 2)::.int .u8 (gd w12 3)::.int .u8 (gd w12 4)::.int .u8 (gd w12 5)::.int .u8 (gd w12 6)::.int .u8 (gd w12 7)::.int .u8 (gd w12 8)::.int .u8 (gd w12 9)::.int .u8 (gd w12 10)::.int .u8 (gd w12 11)::.int .u8 (gd w12 12)::.int .u8 (gd w12 13)::.int .u8 (gd w12 14)::.int .u8 (gd w12 15)::.int .u8 (gd w12 16)::.int .u8 (gd w12 17)::.int .u8 (gd w12 18)::.int .u8 (gd w12 19)::.int .u8 (gd w12 20)::.int .u8 (gd w12 21)::.int .u8 (gd w12 22)::.int .u8 (gd w12 23)::.int .u8 (gd w12 24)::.int .u8 (gd w12 25)::.int .u8 (gd w12 26)::.int .u8 (gd w12 27)::.int .u8 (gd w12 28)::.int .u8 (gd w12 29)::.int .u8 (gd w12 30)::.int .u8 (gd w12 31)::[]) rfl f14 rfl (by decide) (fun x y hx hy=>(flat_get (f:=fun x=>yG (gd w12 x)) (n:=32) (fun _=>rfl) x y (by omega) hy).symm) ?_
    simp only [go_sem]
    refine rg zA ?_
    simp only [go_sem,Nat.reduceLT,Nat.reduceAdd]
    refine xE zL zA 0 ?_
    simp only [zJ,tZ,dZ,go_sem]
    repeat ((with_reducible refine aI ?_ ?_);exact an0)
    obtain ⟨w15,hw16,H⟩:=bsj H
    have lhw16:w15.length=32:=by rw [← hw16];exact List.length_replicate
    refine allocO zL zA (len:=w15.length) (z:=1) (l:=(List.replicate 32 (yG 0)).flatten) (c:=enR yG w15) rfl rfl rfl (by kernel_rfl) (by rw [lhw16];exact flat_len) (fun x y hx hy=>by subst hw16;exact arr_rep rfl x y (by simpa using hx) hy) ?_
    simp only [go_sem,Nat.reduceAdd]
    refine xE zL zA 0 ?_
    simp only [zJ,tZ,dZ,go_sem]
    repeat ((with_reducible refine aI ?_ ?_);exact an0)
    obtain ⟨f17,H⟩:=yH.1 H
    replace f17:=decide_eq_true_iff.1 f17
    refine storeArrO zL zA (b:=2) (z:=1) (n:=32) rfl rfl rfl rfl rfl (by first|exact ⟨trivial,trivial⟩|(simp only [go_sem,Nat.reduceLeDiff,Nat.reduceLT,Nat.reduceAdd,Nat.reduceMul,Nat.reduceSub,Nat.reduceEqDiff,Nat.reduceBEq,Int.reduceToNat,reduceCtorEq];done)|simp [og]) rfl f17 (by kernel_rfl) rfl (by decide) ?_
    simp only [go_sem]
    refine xE zL zA 0 ?_
    simp only [zJ,tZ,dZ,go_sem]
    repeat ((with_reducible refine aI ?_ ?_);exact an3)
    refine wX ?_
    refine zH ?_
    obtain ⟨w18,hw19,H⟩:=bsj H
    have lhw19:w18.length=32:=by rw [← hw19];exact (by first|rfl|simp)
    refine fY (t2:=(.top::.top::.top::.ptr 2 1 0 0::.top::.top::.top::[])) (h2:=[.dead,.lit 121 (.int .u8 (gd w12 0)::.int .u8 (gd w12 1)::.int .u8 (gd w12 2)::.int .u8 (gd w12 3)::.int .u8 (gd w12 4)::.int .u8 (gd w12 5)::.int .u8 (gd w12 6)::.int .u8 (gd w12 7)::.int .u8 (gd w12 8)::.int .u8 (gd w12 9)::.int .u8 (gd w12 10)::.int .u8 (gd w12 11)::.int .u8 (gd w12 12)::.int .u8 (gd w12 13)::.int .u8 (gd w12 14)::.int .u8 (gd w12 15)::.int .u8 (gd w12 16)::.int .u8 (gd w12 17)::.int .u8 (gd w12 18)::.int .u8 (gd w12 19)::.int .u8 (gd w12 20)::.int .u8 (gd w12 21)::.int .u8 (gd w12 22)::.int .u8 (gd w12 23)::.int .u8 (gd w12 24)::.int .u8 (gd w12 25)::.int .u8 (gd w12 26)::.int .u8 (gd w12 27)::.int .u8 (gd w12 28)::.int .u8 (gd w12 29)::.int .u8 (gd w12 30)::.int .u8 (gd w12 31)::[]),.row 121 1 w18.length (enR yG w18)]) ?_ ?_
    ·refine zI ⟨[some 0,some 1,some 2],?_,?_,by rfl,by rfl⟩
     ·simp [CvL,Cv,yB]
     ·exact ⟨zB,(by simp [CvB,CvL,Cv,wB,geth]),zK xT lhw19 (hw19 ▸ (yY (f:=yG) [(gd w12 0),(gd w12 1),(gd w12 2),(gd w12 3),(gd w12 4),(gd w12 5),(gd w12 6),(gd w12 7),(gd w12 8),(gd w12 9),(gd w12 10),(gd w12 11),(gd w12 12),(gd w12 13),(gd w12 14),(gd w12 15),(gd w12 16),(gd w12 17),(gd w12 18),(gd w12 19),(gd w12 20),(gd w12 21),(gd w12 22),(gd w12 23),(gd w12 24),(gd w12 25),(gd w12 26),(gd w12 27),(gd w12 28),(gd w12 29),(gd w12 30),(gd w12 31)] (fun _ _=>rfl) rfl)),trivial⟩
    refine tM ?_
    refine xE zL zA 0 ?_
    simp only [zJ,tZ,dZ,go_sem]
    repeat ((with_reducible refine aI ?_ ?_);exact an4)
    obtain ⟨f20,H⟩:=yH.1 H
    replace f20:=decide_eq_true_iff.1 f20
    refine sliceArrO (b:=2) (n:=32) (i:=0) (m:=w18.length) (l:=0) (u:=(32:Int)) rfl (by kernel_rfl) (by first|exact ⟨trivial,trivial,trivial,trivial⟩|(simp only [go_sem,Nat.reduceLeDiff,Nat.reduceLT,Nat.reduceAdd,Nat.reduceMul,Nat.reduceSub,Nat.reduceEqDiff,Nat.reduceBEq,Int.reduceToNat,reduceCtorEq];done)|simp [vG,ogO,og]) rfl rfl f20 (by decide) (by first|rfl|simp [rhoO,yM]) (by first|rfl|simp [rhoO,yM]) (by decide) (by first|rfl|simp) (by first|rfl|(rw [f20];rfl)) ?_
    simp only [go_sem]
    refine xE zL zA 1 ?_
    simp only [zJ,tS,tZ,dS,dZ,go_sem]
    repeat ((with_reducible refine aI ?_ ?_);exact an4)
    refine wX ?_
    refine rg zA ?_
    simp only [go_sem]
    obtain rfl:=Option.some.inj H
    refine ⟨[2,1],?_,?_,[],?_,?_,rfl⟩
    ·simp only [go_sem,Nat.reduceBEq]
     try exact at0
    ·simp only [go_sem]
     try exact at0
    ·simp only [go_sem,Nat.reduceBEq]
     exact (uD (by first|rfl|simp) (fun _ _ _ _=>rfl))
    ·simp only [go_sem,CvH]
  ·cases hb
 ·unfold body69 at hb
  split at hb<;>cases hb
noncomputable def F70_L1 (p0:List Int) (v1_1:List Int) (v1_2:Int):Option (Lp ((List Int) × Int) ((List Int) ⊕ (List Int))) :=
 bif (bLt v1_2 (p0.length:Nat)) then (need (inb v1_2 p0.length) <| need (inb (vE .i64 (gd p0 v1_2.toNat) 3) 32) <| need (inb (vE .i64 (gd p0 v1_2.toNat) 3) v1_1.length) <| need (bLe 0 (andI .i64 (gd p0 v1_2.toNat) 7)) <| need (inb (vE .i64 (gd p0 v1_2.toNat) 3) 32) <| need (inb (vE .i64 (gd p0 v1_2.toNat) 3) v1_1.length) <| some (.next ((v1_1.set ((vE .i64 (gd p0 v1_2.toNat) 3).toNat) (orI .u8 (gd v1_1 ((vE .i64 (gd p0 v1_2.toNat) 3).toNat)) (shlI .u8 1 (andI .i64 (gd p0 v1_2.toNat) 7)))),wr .i64 (v1_2+1)))) else (some (.done (.inl v1_1)))
noncomputable def F70 (p0:List Int):Option (List Int) :=
 bif (bEq (p0.length:Nat) 0) then (some [0,0]) else ((some (List.replicate 32 0:List Int)).bind fun w2=>lp (yN (fun s=>F70_L1 p0 s.1 s.2) (w2,0)) (fun w1_3=>need (decide (w1_3.length=32)) <| need (decide (w1_3.length=32)) <| (some [(gd w1_3 0),(gd w1_3 1),(gd w1_3 2),(gd w1_3 3),(gd w1_3 4),(gd w1_3 5),(gd w1_3 6),(gd w1_3 7),(gd w1_3 8),(gd w1_3 9),(gd w1_3 10),(gd w1_3 11),(gd w1_3 12),(gd w1_3 13),(gd w1_3 14),(gd w1_3 15),(gd w1_3 16),(gd w1_3 17),(gd w1_3 18),(gd w1_3 19),(gd w1_3 20),(gd w1_3 21),(gd w1_3 22),(gd w1_3 23),(gd w1_3 24),(gd w1_3 25),(gd w1_3 26),(gd w1_3 27),(gd w1_3 28),(gd w1_3 29),(gd w1_3 30),(gd w1_3 31)]).bind fun w13=>need (decide (w13.length=32)) <| (some (List.replicate 32 0:List Int)).bind fun w16=>need (decide (w16.length=32)) <| (some [(gd w13 0),(gd w13 1),(gd w13 2),(gd w13 3),(gd w13 4),(gd w13 5),(gd w13 6),(gd w13 7),(gd w13 8),(gd w13 9),(gd w13 10),(gd w13 11),(gd w13 12),(gd w13 13),(gd w13 14),(gd w13 15),(gd w13 16),(gd w13 17),(gd w13 18),(gd w13 19),(gd w13 20),(gd w13 21),(gd w13 22),(gd w13 23),(gd w13 24),(gd w13 25),(gd w13 26),(gd w13 27),(gd w13 28),(gd w13 29),(gd w13 30),(gd w13 31)]).bind fun w19=>need (inb 0 p0.length) <| need (inb (wr .i64 ((p0.length:Nat) - 1)) p0.length) <| need (decide (w19.length=32)) <| need (slb (vE .i64 (gd p0 0) 3) (wr .i64 ((vE .i64 (gd p0 ((wr .i64 ((p0.length:Nat) - 1)).toNat)) 3)+1)) 32) <| need (capb 1 (2+(((wr .i64 ((vE .i64 (gd p0 ((wr .i64 ((p0.length:Nat) - 1)).toNat)) 3)+1)).toNat) - (vE .i64 (gd p0 0) 3).toNat))) <| some ([wr .u8 (vE .i64 (gd p0 0) 3),wr .u8 (wr .i64 ((wr .i64 ((vE .i64 (gd p0 ((wr .i64 ((p0.length:Nat) - 1)).toNat)) 3)+1)) - (vE .i64 (gd p0 0) 3)))] ++ (List.take (((wr .i64 ((vE .i64 (gd p0 ((wr .i64 ((p0.length:Nat) - 1)).toNat)) 3)+1)).toNat) - (vE .i64 (gd p0 0) 3).toNat) (List.drop ((vE .i64 (gd p0 0) 3).toNat) w19)))) some)
noncomputable def body70:List AV->List ABlk->ED
 | [v0],h=>.ed [] (lK k_i64 1 (roD (yF h []) v0)/\roDOb (yF h []) v0/\(F70 (lA wO (roD (yF h []) v0))).isSome=true) (.sl 0 1 0 ((gt (F70 (lA wO (roD (yF h []) v0)))).length) false) [.row 5 1 ((gt (F70 (lA wO (roD (yF h []) v0)))).length) (enR yG (gt (F70 (lA wO (roD (yF h []) v0)))))]
 | _,_=>.fail
theorem ok70:xZ Try.prog 70 (edC body70):=by
 refine edit_fnV body70 (rs:=[.tmp 2]) Try.func70 (by kernel_rfl) rfl rfl ?_
 intro l h bs ob q0 g0 hb hob
 unfold body70 at hb
 split at hb
 ·rename_i v0
  injection hb with q1 q2 q3 q4;subst q1 q2 q3 q4
  obtain ⟨hk0_0,hk0_1,hob⟩:=hob
  obtain ⟨r,H⟩:=oE.1 hob
  rw [H,yD]
  have hw0:=uP (fun r h=>w_i64 h) hk0_0
  obtain ⟨p0,hp_p0⟩:∃ p0,p0=lA wO (roD (yF h []) v0):=⟨_,rfl⟩
  rw [← hp_p0] at H hw0
  refine ⟨[.ro 1 p0.length false (enR yQ p0)],[],rfl,⟨(EW_view hk0_1 hw0),trivial⟩,trivial,trivial,⟨(nfB_en xT),trivial⟩,⟨noroB_en,trivial⟩,(by first|(simp only [noro];done)|(simp only [noro,wP];and_intros<;>first|trivial|exact noro_bif (by simp only [noro]) (by simp only [noro])|(simp only [noro,wP,and_self]))),?_⟩
  rw [Try.ntmps70]
  simp only [lC,lN,Nat.reduceAdd,Nat.reduceSub,rS,rZ,aC,aN]
  unfold F70 at H
  try dsimp only at H
  refine sq zA ?_
  simp only [go_sem]
  refine zH ?_
  refine sq zA ?_
  simp only [go_sem]
  repeat ((with_reducible refine aI ?_ ?_);exact an0)
  refine yE rfl trivial (fun hc=>?_) (fun hc=>?_)
  ·have hk1:(bEq (p0.length:Nat) 0)=true:=by simpa using hc
   replace H:=zO hc H
   refine sq zA ?_
   simp only [go_sem,Nat.reduceLeDiff,Nat.reduceAdd]
   refine rg zA ?_
   simp only [go_sem]
   obtain rfl:=Option.some.inj H
   refine vH [] [some 0] ?_ ?_ ?_ ?_ (by rfl) (by rfl)
   ·simp only [go_sem]
    try exact at0
   ·simp only [go_sem]
    try exact at0
   ·simp only [go_sem,Nat.reduceAdd]
    exact (by first|(simp [Cv,yB];done)|(simp [Cv,CvL,yB,yD];omega))
   ·simp only [go_sem,Nat.reduceAdd,CvH]
    exact zK xT cl (yY (f:=yG) [0,0] (fun _ _=>rfl) rfl)
  have hk1:(bEq (p0.length:Nat) 0)=false:=by simpa using hc
  replace H:=zN hc H
  refine rg zA ?_
  simp only [go_sem]
  refine zH ?_
  refine tM ?_
  refine xE zL zA 1 ?_
  simp only [zJ,tS,tZ,dS,dZ,go_sem]
  repeat ((with_reducible refine aI ?_ ?_);exact an0)
  refine inlO (rs:=[.cell 2 121]) Try.func75 (by kernel_rfl) rfl rfl Try.ntmps75 (caps:=[]) (tc:=[.ro 1 p0.length false (enR yQ p0)]) rfl (by simp only [go_sem]) rfl ?_
  simp only [lC,lN,Nat.reduceAdd,Nat.reduceSub,rS,rZ,aC,aN]
  refine zH ?_
  refine tM ?_
  refine xE zL zA 0 ?_
  simp only [zJ,tZ,dZ,go_sem]
  obtain ⟨w2,hw3,H⟩:=bsj H
  have lhw3:w2.length=32:=by rw [← hw3];exact List.length_replicate
  refine allocO zL zA (len:=w2.length) (z:=1) (l:=(List.replicate 32 (yG 0)).flatten) (c:=enR yG w2) rfl rfl rfl (by kernel_rfl) (by rw [lhw3];exact flat_len) (fun x y hx hy=>by subst hw3;exact arr_rep rfl x y (by simpa using hx) hy) ?_
  simp only [go_sem]
  refine xE zL zA 0 ?_
  simp only [zJ,tZ,dZ,go_sem]
  refine wX ?_
  refine zH ?_
  refine sq zA ?_
  simp only [go_sem]
  repeat ((with_reducible refine aI ?_ ?_);exact an0)
  refine xI ?_
  refine xA (fun s:(List Int) × Int=>(.top::.top::.ptr 1 1 0 0::.top::.top::.ro 1 p0.length false (enR yQ p0)::.int .i64 (p0.length:Nat)::.int .i64 s.2::tp 14 [])) (fun s=>[.dead,.row 121 1 s.1.length (enR yG s.1)]) (fun e:List Int=>(.top::.top::.ptr 1 1 0 0::tp 19 [])) (fun e=>[.dead,.row 121 1 e.length (enR yG e)]) H ?_ (fun s o H hn1_1 hn2_1=>?_) (fun w1_3 H=>?_)
  ·refine zI ⟨[some 0,some 0],?_,?_,by rfl,by rfl⟩
   ·simp [CvL,Cv,yB,tp]
   ·exact ⟨zB,zK xT cl (fun _ _ _ _=>rfl),trivial⟩
  ·obtain ⟨v1_1,v1_2⟩:=s
   unfold F70_L1 at H
   try dsimp only at H ⊢
   try simp only [tp]
   refine sq zA ?_
   simp only [go_sem]
   refine zH ?_
   refine condM' rfl trivial (fun hc=>?_) (fun hc=>?_)
   ·have hk4:(bLt v1_2 (p0.length:Nat))=false:=by simpa using hc
    replace H:=zN hc H
    refine rg zA ?_
    simp only [go_sem]
    refine ⟨_,(Option.some.inj H).symm,?_⟩
    refine zI ⟨[some 0,some 1],?_,?_,by rfl,by rfl⟩
    ·simp [CvL,Cv,yB]
    ·exact ⟨zB,zK xT cl (fun _ _ _ _=>rfl),trivial⟩
   have hk4:(bLt v1_2 (p0.length:Nat))=true:=by simpa using hc
   replace H:=zO hc H
   refine rg zA ?_
   simp only [go_sem]
   refine zH ?_
   refine xI ?_
   refine zH ?_
   obtain ⟨f5,H⟩:=nI H
   refine rg zA ?_
   simp only [go_sem,Nat.reduceLT,f5]
   repeat ((with_reducible refine aI ?_ ?_);exact an4)
   obtain ⟨f6,H⟩:=nI H
   obtain ⟨f7,H⟩:=nI H
   obtain ⟨f8,H⟩:=yH.1 H
   replace f8:=bLe_iff.1 f8
   obtain ⟨f9,H⟩:=nI H
   obtain ⟨f10,H⟩:=nI H
   refine yZ zL zA 0 (by kernel_rfl) (by kernel_rfl) ?_
   intro an han
   simp only [uC,wM,eG,xrD,xoD,tN,vS,List.append_nil,xK,refs,mask,wT,place,xU,wV,wA,hit,inL,xM,nrH,nrB,rZ,Nat.sub_self,Nat.add_zero,Nat.zero_add,Nat.reduceSub,Nat.lt_add_one,go_sem,Nat.reduceLeDiff,Nat.reduceAdd,Nat.reduceSub,Nat.reduceBEq,f6,f7,f8]
   repeat ((with_reducible refine aI ?_ ?_);exact an6)
   refine rg zA ?_
   simp only [go_sem]
   refine ⟨_,(Option.some.inj H).symm,?_⟩
   refine zI ⟨[some 0,some 1],?_,?_,by rfl,by rfl⟩
   ·simp [CvL,Cv,yB]
   ·exact ⟨zB,zK xT cl (fZ (f:=yG) v1_1 ((vE .i64 (gd p0 v1_2.toNat) 3).toNat) 0 (orI .u8 (gd v1_1 ((vE .i64 (gd p0 v1_2.toNat) 3).toNat)) (shlI .u8 1 (andI .i64 (gd p0 v1_2.toNat) 7))) (fun _ _ _ _=>rfl) (fun y hy=>match y,hy with|0,_=>rfl|(y+1),h=>absurd h nlt)),trivial⟩
  ·try dsimp only at H ⊢
   try simp only [tp]
   try simp only [yR]
   refine zH ?_
   refine tM ?_
   refine xE zL zA 0 ?_
   simp only [zJ,tZ,dZ,go_sem]
   repeat ((with_reducible refine aI ?_ ?_);exact an4)
   obtain ⟨f11,H⟩:=yH.1 H
   replace f11:=decide_eq_true_iff.1 f11
   refine loadArrO zL zA (b:=1) (z:=1) (n:=32) (cells:=(.int .u8 (gd w1_3 0)::.int .u8 (gd w1_3 1)::.int .u8 (gd w1_3 2)::.int .u8 (gd w1_3 3)::.int .u8 (gd w1_3 4)::.int .u8 (gd w1_3 5)::.int .u8 (gd w1_3 6)::.int .u8 (gd w1_3 7)::.int .u8 (gd w1_3 8)::.int .u8 (gd w1_3 9)::.int .u8 (gd w1_3 10)::.int .u8 (gd w1_3 11)::.int .u8 (gd w1_3 12)::.int .u8 (gd w1_3 13)::.int .u8 (gd w1_3 14)::.int .u8 (gd w1_3 15)::.int .u8 (gd w1_3 16)::.int .u8 (gd w1_3 17)::.int .u8 (gd w1_3 18)::.int .u8 (gd w1_3 19)::.int .u8 (gd w1_3 20)::.int .u8 (gd w1_3 21)::.int .u8 (gd w1_3 22)::.int .u8 (gd w1_3 23)::.int .u8 (gd w1_3 24)::.int .u8 (gd w1_3 25)::.int .u8 (gd w1_3 26)::.int .u8 (gd w1_3 27)::.int .u8 (gd w1_3 28)::.int .u8 (gd w1_3 29)::.int .u8 (gd w1_3 30)::.int .u8 (gd w1_3 31)::[])) rfl rfl rfl rfl (by first|exact trivial|(simp only [go_sem,Nat.reduceLeDiff,Nat.reduceLT,Nat.reduceAdd,Nat.reduceMul,Nat.reduceSub,Nat.reduceEqDiff,Nat.reduceBEq,Int.reduceToNat,reduceCtorEq];done)|simp [og]) rfl f11 (by kernel_rfl) (by kernel_rfl) rfl (by decide) (fun x y hx hy=>(flat_get (f:=fun x=>yG (gd w1_3 x)) (n:=32) (fun _=>rfl) x y (by omega) hy).symm) ?_
   simp only [go_sem]
   refine xE zL zA 0 ?_
   simp only [zJ,tZ,dZ,go_sem]
   repeat ((with_reducible refine aI ?_ ?_);exact an4)
   obtain ⟨f12,H⟩:=yH.1 H
   replace f12:=decide_eq_true_iff.1 f12
   refine storeArrO zL zA (b:=1) (z:=1) (n:=32) rfl rfl rfl rfl rfl (by first|exact ⟨trivial,trivial⟩|(simp only [go_sem,Nat.reduceLeDiff,Nat.reduceLT,Nat.reduceAdd,Nat.reduceMul,Nat.reduceSub,Nat.reduceEqDiff,Nat.reduceBEq,Int.reduceToNat,reduceCtorEq];done)|simp [og]) rfl f12 (by kernel_rfl) rfl (by decide) ?_
   simp only [go_sem]
   refine xE zL zA 0 ?_
   simp only [zJ,tZ,dZ,go_sem]
   repeat ((with_reducible refine aI ?_ ?_);exact an4)
   refine wX ?_
   obtain ⟨w13,hw14,H⟩:=bsj H
   have lhw14:w13.length=32:=by rw [← hw14];exact (by first|rfl|simp)
   refine fY (t2:=(.top::.top::.ptr 1 1 0 0::tp 19 [])) (h2:=[.dead,.row 121 1 w13.length (enR yG w13)]) ?_ ?_
   ·refine zI ⟨[some 0,some 1],?_,?_,by rfl,by rfl⟩
    ·simp [CvL,Cv,yB,tp]
    ·exact ⟨zB,zK xT lhw14 (hw14 ▸ (yY (f:=yG) [(gd w1_3 0),(gd w1_3 1),(gd w1_3 2),(gd w1_3 3),(gd w1_3 4),(gd w1_3 5),(gd w1_3 6),(gd w1_3 7),(gd w1_3 8),(gd w1_3 9),(gd w1_3 10),(gd w1_3 11),(gd w1_3 12),(gd w1_3 13),(gd w1_3 14),(gd w1_3 15),(gd w1_3 16),(gd w1_3 17),(gd w1_3 18),(gd w1_3 19),(gd w1_3 20),(gd w1_3 21),(gd w1_3 22),(gd w1_3 23),(gd w1_3 24),(gd w1_3 25),(gd w1_3 26),(gd w1_3 27),(gd w1_3 28),(gd w1_3 29),(gd w1_3 30),(gd w1_3 31)] (fun _ _=>rfl) rfl)),trivial⟩
   simp only [tp]
   obtain ⟨f15,H⟩:=yH.1 H
   replace f15:=decide_eq_true_iff.1 f15
   refine toLitM 1 (z:=1) (n:=32) (.int .u8 (gd w13 0)::.int .u8 (gd w13 1)::.int .u8 (gd w13 2)::.int .u8 (gd w13 3)::.int .u8 (gd w13 4)::.int .u8 (gd w13 5)::.int .u8 (gd w13 6)::.int .u8 (gd w13 7)::.int .u8 (gd w13 8)::.int .u8 (gd w13 9)::.int .u8 (gd w13 10)::.int .u8 (gd w13 11)::.int .u8 (gd w13 12)::.int .u8 (gd w13 13)::.int .u8 (gd w13 14)::.int .u8 (gd w13 15)::.int .u8 (gd w13 16)::.int .u8 (gd w13 17)::.int .u8 (gd w13 18)::.int .u8 (gd w13 19)::.int .u8 (gd w13 20)::.int .u8 (gd w13 21)::.int .u8 (gd w13 22)::.int .u8 (gd w13 23)::.int .u8 (gd w13 24)::.int .u8 (gd w13 25)::.int .u8 (gd w13 26)::.int .u8 (gd w13 27)::.int .u8 (gd w13 28)::.int .u8 (gd w13 29)::.int .u8 (gd w13 30)::.int .u8 (gd w13 31)::[]) rfl f15 rfl (by decide) (fun x y hx hy=>(flat_get (f:=fun x=>yG (gd w13 x)) (n:=32) (fun _=>rfl) x y (by omega) hy).symm) ?_
   simp only [go_sem]
   refine rg zA ?_
   simp only [go_sem,Nat.reduceLT,Nat.reduceAdd]
   refine xE zL zA 0 ?_
   simp only [zJ,tZ,dZ,go_sem]
   repeat ((with_reducible refine aI ?_ ?_);exact an0)
   obtain ⟨w16,hw17,H⟩:=bsj H
   have lhw17:w16.length=32:=by rw [← hw17];exact List.length_replicate
   refine allocO zL zA (len:=w16.length) (z:=1) (l:=(List.replicate 32 (yG 0)).flatten) (c:=enR yG w16) rfl rfl rfl (by kernel_rfl) (by rw [lhw17];exact flat_len) (fun x y hx hy=>by subst hw17;exact arr_rep rfl x y (by simpa using hx) hy) ?_
   simp only [go_sem,Nat.reduceAdd]
   refine xE zL zA 0 ?_
   simp only [zJ,tZ,dZ,go_sem]
   repeat ((with_reducible refine aI ?_ ?_);exact an0)
   obtain ⟨f18,H⟩:=yH.1 H
   replace f18:=decide_eq_true_iff.1 f18
   refine storeArrO zL zA (b:=2) (z:=1) (n:=32) rfl rfl rfl rfl rfl (by first|exact ⟨trivial,trivial⟩|(simp only [go_sem,Nat.reduceLeDiff,Nat.reduceLT,Nat.reduceAdd,Nat.reduceMul,Nat.reduceSub,Nat.reduceEqDiff,Nat.reduceBEq,Int.reduceToNat,reduceCtorEq];done)|simp [og]) rfl f18 (by kernel_rfl) rfl (by decide) ?_
   simp only [go_sem]
   refine xE zL zA 0 ?_
   simp only [zJ,tZ,dZ,go_sem]
   repeat ((with_reducible refine aI ?_ ?_);exact an3)
   refine wX ?_
   refine zH ?_
   obtain ⟨w19,hw20,H⟩:=bsj H
   have lhw20:w19.length=32:=by rw [← hw20];exact (by first|rfl|simp)
   refine fY (t2:=(.ro 1 p0.length false (enR yQ p0)::.top::.top::.ptr 2 1 0 0::tp 31 [])) (h2:=[.dead,.lit 121 (.int .u8 (gd w13 0)::.int .u8 (gd w13 1)::.int .u8 (gd w13 2)::.int .u8 (gd w13 3)::.int .u8 (gd w13 4)::.int .u8 (gd w13 5)::.int .u8 (gd w13 6)::.int .u8 (gd w13 7)::.int .u8 (gd w13 8)::.int .u8 (gd w13 9)::.int .u8 (gd w13 10)::.int .u8 (gd w13 11)::.int .u8 (gd w13 12)::.int .u8 (gd w13 13)::.int .u8 (gd w13 14)::.int .u8 (gd w13 15)::.int .u8 (gd w13 16)::.int .u8 (gd w13 17)::.int .u8 (gd w13 18)::.int .u8 (gd w13 19)::.int .u8 (gd w13 20)::.int .u8 (gd w13 21)::.int .u8 (gd w13 22)::.int .u8 (gd w13 23)::.int .u8 (gd w13 24)::.int .u8 (gd w13 25)::.int .u8 (gd w13 26)::.int .u8 (gd w13 27)::.int .u8 (gd w13 28)::.int .u8 (gd w13 29)::.int .u8 (gd w13 30)::.int .u8 (gd w13 31)::[]),.row 121 1 w19.length (enR yG w19)]) ?_ ?_
   ·refine zI ⟨[some 0,some 1,some 2],?_,?_,by rfl,by rfl⟩
    ·simp [CvL,Cv,yB,tp]
    ·exact ⟨zB,(by simp [CvB,CvL,Cv,wB,geth]),zK xT lhw20 (hw20 ▸ (yY (f:=yG) [(gd w13 0),(gd w13 1),(gd w13 2),(gd w13 3),(gd w13 4),(gd w13 5),(gd w13 6),(gd w13 7),(gd w13 8),(gd w13 9),(gd w13 10),(gd w13 11),(gd w13 12),(gd w13 13),(gd w13 14),(gd w13 15),(gd w13 16),(gd w13 17),(gd w13 18),(gd w13 19),(gd w13 20),(gd w13 21),(gd w13 22),(gd w13 23),(gd w13 24),(gd w13 25),(gd w13 26),(gd w13 27),(gd w13 28),(gd w13 29),(gd w13 30),(gd w13 31)] (fun _ _=>rfl) rfl)),trivial⟩
   simp only [tp]
   obtain ⟨f21,H⟩:=nI H
   obtain ⟨f22,H⟩:=nI H
   refine vY zL zA (by kernel_rfl) (by kernel_rfl) ?_
   simp only [go_sem,Nat.reduceLT,f21,f22]
   repeat ((with_reducible refine aI ?_ ?_);exact an0)
   refine zH ?_
   refine tM ?_
   refine xE zL zA 9 ?_
   simp only [zJ,tS,tZ,dS,dZ,go_sem,Nat.reduceLeDiff,Nat.reduceAdd]
   repeat ((with_reducible refine aI ?_ ?_);exact an3)
   obtain ⟨f23,H⟩:=yH.1 H
   replace f23:=decide_eq_true_iff.1 f23
   obtain ⟨f24,H⟩:=nS H
   refine sliceArrO (b:=2) (n:=32) (i:=(vE .i64 (gd p0 0) 3).toNat) (m:=((wr .i64 ((vE .i64 (gd p0 ((wr .i64 ((p0.length:Nat) - 1)).toNat)) 3)+1)).toNat) - (vE .i64 (gd p0 0) 3).toNat) (l:=vE .i64 (gd p0 0) 3) (u:=wr .i64 ((vE .i64 (gd p0 ((wr .i64 ((p0.length:Nat) - 1)).toNat)) 3)+1)) rfl (by kernel_rfl) (by first|exact ⟨trivial,trivial,trivial,trivial⟩|(simp only [go_sem,Nat.reduceLeDiff,Nat.reduceLT,Nat.reduceAdd,Nat.reduceMul,Nat.reduceSub,Nat.reduceEqDiff,Nat.reduceBEq,Int.reduceToNat,reduceCtorEq];done)|simp [vG,ogO,og]) rfl rfl f23 (by decide) (by first|rfl|simp [rhoO,yM]) (by first|rfl|simp [rhoO,yM]) f24 (by first|rfl|simp) (by first|rfl|simp) ?_
   simp only [go_sem]
   obtain ⟨f25,H⟩:=nC H
   refine xE zL zA 2 ?_
   simp only [zJ,tS,tZ,dS,dZ,go_sem,Nat.reduceAdd,f25]
   repeat ((with_reducible refine aI ?_ ?_);exact an1)
   refine wX ?_
   refine rg zA ?_
   simp only [go_sem]
   obtain rfl:=Option.some.inj H
   refine vH [] [some 4] ?_ ?_ ?_ ?_ (by rfl) (by rfl)
   ·simp only [go_sem]
    try exact at0
   ·simp only [go_sem]
    try exact at0
   ·simp only [go_sem]
    exact (by first|(simp [Cv,yB];done)|(simp [Cv,yB];omega))
   ·simp only [go_sem,CvH]
    exact zK xT (app_len cl (by have:w19.length=w19.length:=cl;rw [List.length_take,List.length_drop];omega)) (wW (f:=yG) [wr .u8 (vE .i64 (gd p0 0) 3),wr .u8 (wr .i64 ((wr .i64 ((vE .i64 (gd p0 ((wr .i64 ((p0.length:Nat) - 1)).toNat)) 3)+1)) - (vE .i64 (gd p0 0) 3)))] (List.take (((wr .i64 ((vE .i64 (gd p0 ((wr .i64 ((p0.length:Nat) - 1)).toNat)) 3)+1)).toNat) - (vE .i64 (gd p0 0) 3).toNat) (List.drop ((vE .i64 (gd p0 0) 3).toNat) w19)) (yY (f:=yG) [wr .u8 (vE .i64 (gd p0 0) 3),wr .u8 (wr .i64 ((wr .i64 ((vE .i64 (gd p0 ((wr .i64 ((p0.length:Nat) - 1)).toNat)) 3)+1)) - (vE .i64 (gd p0 0) 3)))] (fun _ _=>rfl) rfl) (by first|exact (partT_row (L:=w19) (i:=(vE .i64 (gd p0 0) 3).toNat) (n:=(((wr .i64 ((vE .i64 (gd p0 ((wr .i64 ((p0.length:Nat) - 1)).toNat)) 3)+1)).toNat) - (vE .i64 (gd p0 0) 3).toNat)) (by have:w19.length=w19.length:=cl;omega) (fun _ _ _ _=>rfl))|exact (preT_row (L:=(List.drop ((vE .i64 (gd p0 0) 3).toNat) w19)) (n:=(((wr .i64 ((vE .i64 (gd p0 ((wr .i64 ((p0.length:Nat) - 1)).toNat)) 3)+1)).toNat) - (vE .i64 (gd p0 0) 3).toNat)) (fun _ _ _ _=>rfl))))
 ·cases hb
noncomputable def F71_L1 (p0:List Int) (v1_1:List Int) (v1_2:Int):Option (Lp ((List Int) × Int) ((List Int) ⊕ (List Int))) :=
 bif (bLt v1_2 (p0.length:Nat)) then (need (inb v1_2 p0.length) <| need (capb 1 (v1_1.length+1)) <| some (.next ((v1_1 ++ [wr .u8 (gd p0 v1_2.toNat)]),wr .i64 (v1_2+1)))) else (some (.done (.inl v1_1)))
noncomputable def F71 (p0:List Int):Option (List Int) :=
 lp (yN (fun s=>F71_L1 p0 s.1 s.2) ([wr .u8 (p0.length:Nat)],0)) (fun w1_3=>some w1_3) some
noncomputable def body71:List AV->List ABlk->ED
 | [v0],h=>.ed [] (lK k_i64 1 (roD (yF h []) v0)/\roDOb (yF h []) v0/\(F71 (lA wO (roD (yF h []) v0))).isSome=true) (.sl 0 1 0 ((gt (F71 (lA wO (roD (yF h []) v0)))).length) false) [.row 5 1 ((gt (F71 (lA wO (roD (yF h []) v0)))).length) (enR yG (gt (F71 (lA wO (roD (yF h []) v0)))))]
 | _,_=>.fail
theorem ok71:xZ Try.prog 71 (edC body71):=by
 refine edit_fnV body71 (rs:=[.tmp 2]) Try.func71 (by kernel_rfl) rfl rfl ?_
 intro l h bs ob q0 g0 hb hob
 unfold body71 at hb
 split at hb
 ·rename_i v0
  injection hb with q1 q2 q3 q4;subst q1 q2 q3 q4
  obtain ⟨hk0_0,hk0_1,hob⟩:=hob
  obtain ⟨r,H⟩:=oE.1 hob
  rw [H,yD]
  have hw0:=uP (fun r h=>w_i64 h) hk0_0
  obtain ⟨p0,hp_p0⟩:∃ p0,p0=lA wO (roD (yF h []) v0):=⟨_,rfl⟩
  rw [← hp_p0] at H hw0
  refine ⟨[.ro 1 p0.length false (enR yQ p0)],[],rfl,⟨(EW_view hk0_1 hw0),trivial⟩,trivial,trivial,⟨(nfB_en xT),trivial⟩,⟨noroB_en,trivial⟩,(by first|(simp only [noro];done)|(simp only [noro,wP];and_intros<;>first|trivial|exact noro_bif (by simp only [noro]) (by simp only [noro])|(simp only [noro,wP,and_self]))),?_⟩
  rw [Try.ntmps71]
  simp only [lC,lN,Nat.reduceAdd,Nat.reduceSub,rS,rZ,aC,aN]
  unfold F71 at H
  try dsimp only at H
  refine sq zA ?_
  simp only [go_sem]
  refine sq zA ?_
  simp only [go_sem,Nat.reduceLeDiff]
  repeat ((with_reducible refine aI ?_ ?_);exact an3)
  refine zH ?_
  refine sq zA ?_
  simp only [go_sem]
  repeat ((with_reducible refine aI ?_ ?_);exact an3)
  refine xI ?_
  refine xA (fun s:(List Int) × Int=>(.top::.top::.top::.sl 1 1 0 s.1.length false::tp 6 (.ro 1 p0.length false (enR yQ p0)::.int .i64 (p0.length:Nat)::.int .i64 s.2::tp 10 []))) (fun s=>[.dead,.row 5 1 s.1.length (enR yG s.1)]) (fun e:List Int=>(.top::.top::.top::.sl 1 1 0 e.length false::tp 19 [])) (fun e=>[.dead,.row 5 1 e.length (enR yG e)]) H ?_ (fun s o H hn1_1 hn2_1=>?_) (fun w1_3 H=>?_)
  ·refine zI ⟨[some 0,some 0],?_,?_,by rfl,by rfl⟩
   ·simp [CvL,Cv,yB,tp]
   ·exact ⟨zB,zK xT cl (yY (f:=yG) [wr .u8 (p0.length:Nat)] (fun _ _=>rfl) rfl),trivial⟩
  ·obtain ⟨v1_1,v1_2⟩:=s
   unfold F71_L1 at H
   try dsimp only at H ⊢
   try simp only [tp]
   refine sq zA ?_
   simp only [go_sem]
   refine zH ?_
   refine condM' rfl trivial (fun hc=>?_) (fun hc=>?_)
   ·have hk1:(bLt v1_2 (p0.length:Nat))=false:=by simpa using hc
    replace H:=zN hc H
    refine rg zA ?_
    simp only [go_sem]
    refine ⟨_,(Option.some.inj H).symm,?_⟩
    refine zI ⟨[some 0,some 1],?_,?_,by rfl,by rfl⟩
    ·simp [CvL,Cv,yB]
    ·exact ⟨zB,zK xT cl (fun _ _ _ _=>rfl),trivial⟩
   have hk1:(bLt v1_2 (p0.length:Nat))=true:=by simpa using hc
   replace H:=zO hc H
   refine rg zA ?_
   simp only [go_sem]
   refine zH ?_
   refine xI ?_
   refine zH ?_
   obtain ⟨f2,H⟩:=nI H
   refine rg zA ?_
   simp only [go_sem,Nat.reduceLT,f2]
   repeat ((with_reducible refine aI ?_ ?_);exact an4)
   obtain ⟨f3,H⟩:=nC H
   refine rg zA ?_
   simp only [go_sem,Nat.reduceLeDiff,Nat.reduceAdd,Nat.reduceBEq,f3]
   repeat ((with_reducible refine aI ?_ ?_);exact an1)
   refine rg zA ?_
   simp only [go_sem]
   refine ⟨_,(Option.some.inj H).symm,?_⟩
   refine zI ⟨[some 0,some 3],?_,?_,by rfl,by rfl⟩
   ·simp [CvL,Cv,yB]
   ·exact ⟨zB,zK xT cl (wW (f:=yG) v1_1 [wr .u8 (gd p0 v1_2.toNat)] (fun _ _ _ _=>rfl) (yY (f:=yG) [wr .u8 (gd p0 v1_2.toNat)] (fun _ _=>rfl) rfl)),trivial⟩
  ·try dsimp only at H ⊢
   try simp only [tp]
   try simp only [yR]
   refine sq zA ?_
   simp only [go_sem]
   refine rg zA ?_
   simp only [go_sem]
   obtain rfl:=Option.some.inj H
   refine vH [] [some 1] ?_ ?_ ?_ ?_ (by rfl) (by rfl)
   ·simp only [go_sem]
    try exact at0
   ·simp only [go_sem]
    try exact at0
   ·simp only [go_sem]
    exact (by first|(simp [Cv,yB];done)|(simp [Cv,CvL,yB,yD];omega))
   ·simp only [go_sem,CvH]
    exact zK xT cl (fun _ _ _ _=>rfl)
 ·cases hb
end Go.Proofs.Ytooepgpfaaddbaa
