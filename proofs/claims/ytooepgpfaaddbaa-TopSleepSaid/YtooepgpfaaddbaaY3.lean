/-
  What TopSleep reaches.
-/
import Derived.Test.YtooepgpfaaddbaaY3p5
namespace Go.Proofs.Ytooepgpfaaddbaa
open Go.Am
set_option linter.unusedVariables false
set_option linter.unusedSimpArgs false
attribute [local go_sem] w_skip w_label w_goto w_scope k_goto b_goto l_goto s_normal s_exit s_ret s_goto w_region w_draw w_seq w_cond w_block w_exit w_ret w_loop k_normal k_exit k_ret b_normal b_exit b_ret l_normal l_exit l_ret yR m_exit m_ret m_goto kL_normal kL_exit kL_ret kJ_normal kJ_exit kJ_ret kJR_normal kJR_ret kS_normal kS_exit kS_ret kS_goto vD r_ret o_nil o_cons q_nil q_cons nxt gval gvd gvl gvw dstOf evO vG ogC og ogL ogP ogO rho rhoO strip optOk zR setL wQ absC absV absL pO hO qS ldB geth seth evStore stRes stB evBox evAlloc wS eL xJ eQ binI binB binNR binU fW nilR_t nilR_0 nilR_s evInt evStr evUn evConv cvO evPick mrg fM evNil evCall eJ qG evLen2 vcells vcOk atom tabF cnd retK resFin resL resA resC resCons fL tJ eR qX fillA fillOk putL getP nxtQ pureC_eq pureR genC_eq genR roV roL wN eB roW roWL roWOb roWObL nref nrefL binA binN eqSh eqRes qP evIndex2 evIndexS evSlice evSlice2 qT yM evConv2 cvS vB eN tO evMake wZ repL evFn evMin evMax freshC freshR sub_enR0 tC tK uT uA lenS cutS Bool.or_false Bool.false_or Bool.or_true Bool.true_or Bool.and_false Bool.false_and Option.map_some Option.map_none Option.getD_some Option.getD_none Option.bind_some Option.bind_none Option.or_some Option.or_none Option.none_or Option.isSome_none Option.isNone_none Option.isNone_some aN aC List.append_nil cond_true cond_false lC lN beq_self_eq_true Bool.and_true Bool.true_and Bool.not_true Bool.not_false true_and and_true and_self true_implies implies_true ne_eq not_false_eq_true Bool.false_eq_true Bool.true_eq_false false_implies Nat.lt_irrefl Nat.le_refl Nat.succ_ne_self imp_self Bool.cond_false_right Bool.cond_true_left decide_true decide_false Bool.not_eq_true' Bool.not_eq_false' Bool.not_not Nat.zero_mul Nat.zero_add Nat.add_zero Nat.mul_one Nat.one_mul Bool.cond_self tsz3 tby3 tagg3 tslice3 tarr3 tzero3 tzn3 tplaces3 tint3 tstr3 tnoint3 tbool3 tany3 tintk3 tbytes3 tsz4 tby4 tagg4 tslice4 tarr4 tzero4 tzn4 tplaces4 tint4 tstr4 tnoint4 tbool4 tany4 tintk4 tbytes4 tsz5 tby5 tagg5 tslice5 tarr5 tzero5 tzn5 tplaces5 tint5 tstr5 tnoint5 tbool5 tany5 tintk5 tbytes5 tsz23 tby23 tagg23 tslice23 tarr23 tzero23 tzn23 tplaces23 tint23 tstr23 tnoint23 tbool23 tany23 tintk23 tbytes23 tfld23_0 tfld23_1 tfld23_2 tfld23_3 tfld23_4 tsz24 tby24 tagg24 tslice24 tarr24 tzero24 tzn24 tplaces24 tint24 tstr24 tnoint24 tbool24 tany24 tintk24 tbytes24 tsz26 tby26 tagg26 tslice26 tarr26 tzero26 tzn26 tplaces26 tint26 tstr26 tnoint26 tbool26 tany26 tintk26 tbytes26 tsz28 tby28 tagg28 tslice28 tarr28 tzero28 tzn28 tplaces28 tint28 tstr28 tnoint28 tbool28 tany28 tintk28 tbytes28 tsz29 tby29 tagg29 tslice29 tarr29 tzero29 tzn29 tplaces29 tint29 tstr29 tnoint29 tbool29 tany29 tintk29 tbytes29 tsz31 tby31 tagg31 tslice31 tarr31 tzero31 tzn31 tplaces31 tint31 tstr31 tnoint31 tbool31 tany31 tintk31 tbytes31 tfld31_0 tfld31_1 tfld31_2 tfld31_3 tsz35 tby35 tagg35 tslice35 tarr35 tzero35 tzn35 tplaces35 tint35 tstr35 tnoint35 tbool35 tany35 tintk35 tbytes35 tsz36 tby36 tagg36 tslice36 tarr36 tzero36 tzn36 tplaces36 tint36 tstr36 tnoint36 tbool36 tany36 tintk36 tbytes36 tsz37 tby37 tagg37 tslice37 tarr37 tzero37 tzn37 tplaces37 tint37 tstr37 tnoint37 tbool37 tany37 tintk37 tbytes37 tsz38 tby38 tagg38 tslice38 tarr38 tzero38 tzn38 tplaces38 tint38 tstr38 tnoint38 tbool38 tany38 tintk38 tbytes38 tsz40 tby40 tagg40 tslice40 tarr40 tzero40 tzn40 tplaces40 tint40 tstr40 tnoint40 tbool40 tany40 tintk40 tbytes40 tfld40_0 tfld40_1 tfld40_2 tfld40_3 tfld40_4 tfld40_5 tfld40_6 tsz42 tby42 tagg42 tslice42 tarr42 tzero42 tzn42 tplaces42 tint42 tstr42 tnoint42 tbool42 tany42 tintk42 tbytes42 tfld42_0 tfld42_1 tsz46 tby46 tagg46 tslice46 tarr46 tzero46 tzn46 tplaces46 tint46 tstr46 tnoint46 tbool46 tany46 tintk46 tbytes46 tsz49 tby49 tagg49 tslice49 tarr49 tzero49 tzn49 tplaces49 tint49 tstr49 tnoint49 tbool49 tany49 tintk49 tbytes49 tfld49_0 tfld49_1 tfld49_2 tfld49_3 tfld49_4 tfld49_5 tfld49_6 tfld49_7 tfld49_8 tfld49_9 tfld49_10 tfld49_11 tfld49_12 tfld49_13 tfld49_14 tfld49_15 tfld49_16 tfld49_17 tfld49_18 tfld49_19 tsz50 tby50 tagg50 tslice50 tarr50 tzero50 tzn50 tplaces50 tint50 tstr50 tnoint50 tbool50 tany50 tintk50 tbytes50 tsz54 tby54 tagg54 tslice54 tarr54 tzero54 tzn54 tplaces54 tint54 tstr54 tnoint54 tbool54 tany54 tintk54 tbytes54 tfld54_0 tfld54_1 tsz61 tby61 tagg61 tslice61 tarr61 tzero61 tzn61 tplaces61 tint61 tstr61 tnoint61 tbool61 tany61 tintk61 tbytes61 tfld61_0 tfld61_1 tsz72 tby72 tagg72 tslice72 tarr72 tzero72 tzn72 tplaces72 tint72 tstr72 tnoint72 tbool72 tany72 tintk72 tbytes72 tfld72_0 tfld72_1 tfld72_2 tsz73 tby73 tagg73 tslice73 tarr73 tzero73 tzn73 tplaces73 tint73 tstr73 tnoint73 tbool73 tany73 tintk73 tbytes73 tsz74 tby74 tagg74 tslice74 tarr74 tzero74 tzn74 tplaces74 tint74 tstr74 tnoint74 tbool74 tany74 tintk74 tbytes74 tsz80 tby80 tagg80 tslice80 tarr80 tzero80 tzn80 tplaces80 tint80 tstr80 tnoint80 tbool80 tany80 tintk80 tbytes80 tsz82 tby82 tagg82 tslice82 tarr82 tzero82 tzn82 tplaces82 tint82 tstr82 tnoint82 tbool82 tany82 tintk82 tbytes82 tfld82_0 tfld82_1 tfld82_2 tsz91 tby91 tagg91 tslice91 tarr91 tzero91 tzn91 tplaces91 tint91 tstr91 tnoint91 tbool91 tany91 tintk91 tbytes91 tsz93 tby93 tagg93 tslice93 tarr93 tzero93 tzn93 tplaces93 tint93 tstr93 tnoint93 tbool93 tany93 tintk93 tbytes93 tsz100 tby100 tagg100 tslice100 tarr100 tzero100 tzn100 tplaces100 tint100 tstr100 tnoint100 tbool100 tany100 tintk100 tbytes100 tsz106 tby106 tagg106 tslice106 tarr106 tzero106 tzn106 tplaces106 tint106 tstr106 tnoint106 tbool106 tany106 tintk106 tbytes106 tsz115 tby115 tagg115 tslice115 tarr115 tzero115 tzn115 tplaces115 tint115 tstr115 tnoint115 tbool115 tany115 tintk115 tbytes115 tsz116 tby116 tagg116 tslice116 tarr116 tzero116 tzn116 tplaces116 tint116 tstr116 tnoint116 tbool116 tany116 tintk116 tbytes116 tsz117 tby117 tagg117 tslice117 tarr117 tzero117 tzn117 tplaces117 tint117 tstr117 tnoint117 tbool117 tany117 tintk117 tbytes117 tsz118 tby118 tagg118 tslice118 tarr118 tzero118 tzn118 tplaces118 tint118 tstr118 tnoint118 tbool118 tany118 tintk118 tbytes118 tsz121 tby121 tagg121 tslice121 tarr121 tzero121 tzn121 tplaces121 tint121 tstr121 tnoint121 tbool121 tany121 tintk121 tbytes121 tsz123 tby123 tagg123 tslice123 tarr123 tzero123 tzn123 tplaces123 tint123 tstr123 tnoint123 tbool123 tany123 tintk123 tbytes123 tsz124 tby124 tagg124 tslice124 tarr124 tzero124 tzn124 tplaces124 tint124 tstr124 tnoint124 tbool124 tany124 tintk124 tbytes124 e_u8_0 fit_u8 de_u8 vJ k_u8 e_i64_0 fit_i64 de_i64 wO k_i64 e_b_0 fit_b de_b g_b k_b tQ tR tT tU tV qH kA g_TWakeRule wG qF dF dG bV de_TComing g_TComing vR bP fG fQ eY tE uL e_A6u8_0 e_A6u8_1 e_A6u8_2 e_A6u8_3 e_A6u8_4 e_A6u8_5 fit_A6u8 de_A6u8 g_A6u8 k_A6u8 eta_A6u8 cO cP cQ cR cS cT cU cV cW cX kD kE kF kG kH kI kK kN kP kQ kR kT kU kV kW kX kY kZ jA jB jC jD jE jF jG jH jI jJ jK jL bW de_THeader fS qL bQ e_lu8_0 fit_lu8 de_lu8 g_lu8 k_lu8 e_TFrame_0 e_TFrame_1 e_TFrame_2 e_TFrame_3 e_TFrame_4 e_TFrame_5 e_TFrame_6 e_TFrame_7 e_TFrame_8 e_TFrame_9 dH dI dJ dK dL dM dN dO dP dQ dR dT dU dV dW dX dY cA cB cC cD cE cF cG cH cI cJ cK cL cM cN fit_TFrame de_TFrame zT vK eta_TFrame cY cZ bC bD bE bF bG bH bI bJ jP jQ jR jS jT jU jV jW jX jY jZ hU hZ gA gB gC gD gE gF gG gH gI gJ gK gL gM gN gO gP gQ gR gS gT bX de_TStored yA xD bR fH fR eZ tF uM jM jN jO fN eU yI xL fI qE qI kB uF vQ dB dC dD dE bU de_TBuffer zG xS bM e_li64_0 fit_li64 de_li64 g_li64 k_li64 e_A4i64_0 e_A4i64_1 e_A4i64_2 e_A4i64_3 fit_A4i64 de_A4i64 g_A4i64 k_A4i64 eta_A4i64 gW gX gY gZ fA fB fC fD fE fF tW tX tY qA qB qC qD fP eW tD uK fK bL bY de_lTFrame fT qM gU gV fO eV yO wF fJ e_u64_0 fit_u64 de_u64 g_u64 k_u64 e_A32u8_0 e_A32u8_1 e_A32u8_2 e_A32u8_3 e_A32u8_4 e_A32u8_5 e_A32u8_6 e_A32u8_7 e_A32u8_8 e_A32u8_9 e_A32u8_10 e_A32u8_11 e_A32u8_12 e_A32u8_13 e_A32u8_14 e_A32u8_15 e_A32u8_16 e_A32u8_17 e_A32u8_18 e_A32u8_19 e_A32u8_20 e_A32u8_21 e_A32u8_22 e_A32u8_23 e_A32u8_24 e_A32u8_25 e_A32u8_26 e_A32u8_27 e_A32u8_28 e_A32u8_29 e_A32u8_30 e_A32u8_31 fit_A32u8 de_A32u8 g_A32u8 k_A32u8 eta_A32u8 deR_0 deR_1 deR_2 deR_3 deR_4 deR_5 deR_6 deR_7 deR_8 deR_9 deR_10 deR_11 deR_12 litC_x0 litC_x1 litC_x2 litC_x3 litC_x4 litC_x5 litC_x6 litC_x7 litC_x8 litC_x9 litC_x10 litC_x11 strE_u8 Fit_0 Option.isSome_some yD gd_one evCopyL eH evLk_mp evLk_val evLkM bT findMb_lit findMb_row bS mapC_nil tabR sub_enR dZ xrD xoD tN vS rK rM rG aL aK iK bK sK lK iA bA sA lA or_true true_or Int.toNat_natCast shT_23 shT_37 shT_42 shT_46 shT_49 shT_121 Int.toNat_zero Int.cast_ofNat_Int kSP_normal kOP_normal kLP_exit pcC_lt upc_ii aLs roD roDOb yF edC edR eE rnm rnmL rnmB rnmC_en rnmC_upc rnmH rnm_bif rnmB_bif putH dA rhoN ptB slN litL celL pK isLit oS isRow inL fzV fzL wK tL fzH fzHF fzB fzObB eI rowOb
noncomputable def ct3t0:Ct:=tab [(4,zV body4)]
theorem ct3t0_ok:yU Try.prog ct3t0:=zP ok4 <| zX
theorem ct3t0_4 (l:List AV) (h:List ABlk):ct3t0 4 l h=zV body4 l h:=rfl
noncomputable def ct3t1:Ct:=tab [(5,zV body5)]
theorem ct3t1_ok:yU Try.prog ct3t1:=zP ok5 <| zX
theorem ct3t1_5 (l:List AV) (h:List ABlk):ct3t1 5 l h=zV body5 l h:=rfl
noncomputable def ct3t2:Ct:=tab [(6,wE body6)]
theorem ct3t2_ok:yU Try.prog ct3t2:=zP ok6 <| zX
theorem ct3t2_6 (l:List AV) (h:List ABlk):ct3t2 6 l h=wE body6 l h:=rfl
noncomputable def ct3t3:Ct:=tab [(7,wE body7)]
theorem ct3t3_ok:yU Try.prog ct3t3:=zP ok7 <| zX
theorem ct3t3_7 (l:List AV) (h:List ABlk):ct3t3 7 l h=wE body7 l h:=rfl
noncomputable def ct3t4:Ct:=tab [(8,wE body8)]
theorem ct3t4_ok:yU Try.prog ct3t4:=zP ok8 <| zX
theorem ct3t4_8 (l:List AV) (h:List ABlk):ct3t4 8 l h=wE body8 l h:=rfl
noncomputable def ct3t5:Ct:=tab [(14,zV body14)]
theorem ct3t5_ok:yU Try.prog ct3t5:=zP ok14 <| zX
theorem ct3t5_14 (l:List AV) (h:List ABlk):ct3t5 14 l h=zV body14 l h:=rfl
noncomputable def ct3t6:Ct:=tab [(29,wE body29)]
theorem ct3t6_ok:yU Try.prog ct3t6:=zP ok29 <| zX
theorem ct3t6_29 (l:List AV) (h:List ABlk):ct3t6 29 l h=wE body29 l h:=rfl
noncomputable def ct3t7:Ct:=tab [(16,edC body16)]
theorem ct3t7_ok:yU Try.prog ct3t7:=zP ok16 <| zX
theorem ct3t7_16 (l:List AV) (h:List ABlk):ct3t7 16 l h=edC body16 l h:=rfl
noncomputable def ct3t8:Ct:=tab [(30,edC body30)]
theorem ct3t8_ok:yU Try.prog ct3t8:=zP ok30 <| zX
theorem ct3t8_30 (l:List AV) (h:List ABlk):ct3t8 30 l h=edC body30 l h:=rfl
noncomputable def ct3t9:Ct:=tab [(31,wE body31)]
theorem ct3t9_ok:yU Try.prog ct3t9:=zP ok31 <| zX
theorem ct3t9_31 (l:List AV) (h:List ABlk):ct3t9 31 l h=wE body31 l h:=rfl
noncomputable def ct3t10:Ct:=tab [(18,zV body18)]
theorem ct3t10_ok:yU Try.prog ct3t10:=zP ok18 <| zX
theorem ct3t10_18 (l:List AV) (h:List ABlk):ct3t10 18 l h=zV body18 l h:=rfl
noncomputable def ct3t11:Ct:=tab [(17,wE body17)]
theorem ct3t11_ok:yU Try.prog ct3t11:=zP ok17 <| zX
theorem ct3t11_17 (l:List AV) (h:List ABlk):ct3t11 17 l h=wE body17 l h:=rfl
noncomputable def ct3t12:Ct:=tab [(10,zV body10),(11,zV body11)]
theorem ct3t12_ok:yU Try.prog ct3t12:=zP ok10 <| zP ok11 <| zX
theorem ct3t12_10 (l:List AV) (h:List ABlk):ct3t12 10 l h=zV body10 l h:=rfl
theorem ct3t12_11 (l:List AV) (h:List ABlk):ct3t12 11 l h=zV body11 l h:=rfl
noncomputable def ct3t13:Ct:=tab [(12,wE body12)]
theorem ct3t13_ok:yU Try.prog ct3t13:=zP ok12 <| zX
theorem ct3t13_12 (l:List AV) (h:List ABlk):ct3t13 12 l h=wE body12 l h:=rfl
noncomputable def F3_L6 (r29:(List TFrame) × TBuffer × Int) (v6_1:Int) (v6_2:List Int):Option (Lp (Int × (List Int)) ((List Int) ⊕ (Lp (Unit) ((Bool × (List Int)) ⊕ (Lp (Unit) ((Bool × Bool × Int × Int × (List TSleeper) × (List TStored) × Int × (List Int) × Int × Int × Int × Int × Int) ⊕ (Bool))))))) :=
 bif (bLt v6_1 (r29.1.length:Nat)) then (need (inb v6_1 r29.1.length) <| need (bif (!((bLt (((gd r29.1 v6_1.toNat).Head).Seq) 0) || (bLe (v6_2.length:Nat) (((gd r29.1 v6_1.toNat).Head).Seq)))) then inb (((gd r29.1 v6_1.toNat).Head).Seq) v6_2.length else true) <| bif (((bLt (((gd r29.1 v6_1.toNat).Head).Seq) 0) || (bLe (v6_2.length:Nat) (((gd r29.1 v6_1.toNat).Head).Seq))) || (!bEq (gd v6_2 ((((gd r29.1 v6_1.toNat).Head).Seq).toNat)) 0)) then ((some (.done (.inl (false,v6_2)))).bind fun q36=>some (.done (.inr q36))) else (need (inb (((gd r29.1 v6_1.toNat).Head).Seq) v6_2.length) <| some (.next (wr .i64 (v6_1+1),(v6_2.set ((((gd r29.1 v6_1.toNat).Head).Seq).toNat) 2))))) else (some (.done (.inl v6_2)))
noncomputable def F3_L5 (v3_6:List Int) (r29:(List TFrame) × TBuffer × Int):Option (Lp (Unit) ((Bool × (List Int)) ⊕ (Lp (Unit) ((Bool × Bool × Int × Int × (List TSleeper) × (List TStored) × Int × (List Int) × Int × Int × Int × Int × Int) ⊕ (Bool))))) :=
 lp (yN (fun s=>F3_L6 r29 s.1 s.2) (0,v3_6)) (fun w6_3=>some (.done (.inl (true,w6_3)))) some
noncomputable def F3_L7 (v1_10:List Int) (v7_1:Bool) (v7_2:Int) (v7_3:Int) (v7_4:List TSleeper) (v7_5:List TStored) (v7_6:List Int) (v7_7:Int) (v7_8:Int) (v7_9:Int) (v7_10:Int):Option (Lp (Bool × Int × Int × (List TSleeper) × (List TStored) × (List Int) × Int × Int × Int × Int) ((Int × Int × (List TSleeper) × (List TStored) × (List Int) × Int × Int × Int × Int) ⊕ (Lp (Unit) ((Bool × Int × Int × (List TSleeper) × (List TStored) × (List Int) × Int × Int × Int × Int) ⊕ (Lp (Unit) ((Bool × Bool × Int × Int × (List TSleeper) × (List TStored) × Int × (List Int) × Int × Int × Int × Int × Int) ⊕ (Bool))))))) :=
 bif v7_1 then ((F17 (TBuffer.mk v7_2 v7_3 v7_4 v7_5) 9).bind fun r50=>need (bif (!(((!bEq r50.2.2 0) || (bLt r50.1.Head.Seq 0)) || (bLe (v7_6.length:Nat) r50.1.Head.Seq))) then inb r50.1.Head.Seq v7_6.length else true) <| bif ((((!bEq r50.2.2 0) || (bLt r50.1.Head.Seq 0)) || (bLe (v7_6.length:Nat) r50.1.Head.Seq)) || (!bEq (gd v7_6 r50.1.Head.Seq.toNat) 0)) then ((some (.done (.inl (false,v7_2,v7_3,v7_4,v7_5,v7_6,v7_7,v7_8,v7_9,v7_10)))).bind fun q54=>some (.done (.inr q54))) else (need (inb r50.1.Head.Seq v1_10.length) <| need (inb (gd v1_10 r50.1.Head.Seq.toNat) 4) <| bif (bLt r50.1.Head.Seq (gd [v7_7,v7_8,v7_9,v7_10] ((gd v1_10 r50.1.Head.Seq.toNat).toNat))) then ((some (.done (.inl (false,v7_2,v7_3,v7_4,v7_5,v7_6,v7_7,v7_8,v7_9,v7_10)))).bind fun q61=>some (.done (.inr q61))) else (need (inb (gd v1_10 r50.1.Head.Seq.toNat) 4) <| need (inb r50.1.Head.Seq v7_6.length) <| some (.next (r50.1.Head.MoreData,r50.2.1.Limit,r50.2.1.Stay,r50.2.1.List,r50.2.1.Group,(v7_6.set r50.1.Head.Seq.toNat 1),(gd ([v7_7,v7_8,v7_9,v7_10].set ((gd v1_10 r50.1.Head.Seq.toNat).toNat) r50.1.Head.Seq) 0),(gd ([v7_7,v7_8,v7_9,v7_10].set ((gd v1_10 r50.1.Head.Seq.toNat).toNat) r50.1.Head.Seq) 1),(gd ([v7_7,v7_8,v7_9,v7_10].set ((gd v1_10 r50.1.Head.Seq.toNat).toNat) r50.1.Head.Seq) 2),(gd ([v7_7,v7_8,v7_9,v7_10].set ((gd v1_10 r50.1.Head.Seq.toNat).toNat) r50.1.Head.Seq) 3)))))) else (some (.done (.inl (v7_2,v7_3,v7_4,v7_5,v7_6,v7_7,v7_8,v7_9,v7_10))))
noncomputable def F3_L8 (w7_11:Int) (w7_12:Int) (w7_13:List TSleeper) (w7_14:List TStored) (w7_15:List Int) (w7_16:Int) (w7_17:Int) (w7_18:Int) (w7_19:Int) (v8_1:Int):Option (Lp (Int) ((Unit) ⊕ (Lp (Unit) ((Bool × Int × Int × (List TSleeper) × (List TStored) × (List Int) × Int × Int × Int × Int) ⊕ (Lp (Unit) ((Bool × Bool × Int × Int × (List TSleeper) × (List TStored) × Int × (List Int) × Int × Int × Int × Int × Int) ⊕ (Bool))))))) :=
 bif (bLt v8_1 (w7_15.length:Nat)) then (need (inb v8_1 w7_15.length) <| bif (bEq (gd w7_15 v8_1.toNat) 0) then ((some (.done (.inl (false,w7_11,w7_12,w7_13,w7_14,w7_15,w7_16,w7_17,w7_18,w7_19)))).bind fun q70=>some (.done (.inr q70))) else (some (.next (wr .i64 (v8_1+1))))) else (some (.done (.inl ())))
noncomputable def F3_L4 (v1_10:List Int) (v3_1:Int) (v3_2:Int) (v3_3:List TSleeper) (v3_4:List TStored) (v3_6:List Int) (v3_8:Int) (v3_9:Int) (v3_10:Int) (v3_11:Int) (r21:Int × Bool):Option (Lp (Unit) ((Bool × Int × Int × (List TSleeper) × (List TStored) × (List Int) × Int × Int × Int × Int) ⊕ (Lp (Unit) ((Bool × Bool × Int × Int × (List TSleeper) × (List TStored) × Int × (List Int) × Int × Int × Int × Int × Int) ⊕ (Bool))))) :=
 (F29 (TBuffer.mk v3_1 v3_2 v3_3 v3_4) r21.1).bind fun r29=>bif (!bEq r29.2.2 0) then (some (.done (.inl (false,v3_1,v3_2,v3_3,v3_4,v3_6,v3_8,v3_9,v3_10,v3_11)))) else (lp (yN (fun s=>F3_L5 v3_6 r29) ()) (fun e5=>bif (!e5.1) then (some (.done (.inl (false,v3_1,v3_2,v3_3,v3_4,e5.2,v3_8,v3_9,v3_10,v3_11)))) else ((F16 r29.2.1).bind fun r40=>(F30 (TTraffic.mk r40.1.Group r40.1.Aids)).bind fun r42=>(F31 r42.1).bind fun r44=>bif (((!bEq r40.2 0) || (!bEq r42.2 0)) || (!bEq r44.2 0)) then (some (.done (.inl (false,r29.2.1.Limit,r29.2.1.Stay,r29.2.1.List,r29.2.1.Group,e5.2,v3_8,v3_9,v3_10,v3_11)))) else ((F18 r44.1 9).bind fun r47=>lp (yN (fun s=>F3_L7 v1_10 s.1 s.2.1 s.2.2.1 s.2.2.2.1 s.2.2.2.2.1 s.2.2.2.2.2.1 s.2.2.2.2.2.2.1 s.2.2.2.2.2.2.2.1 s.2.2.2.2.2.2.2.2.1 s.2.2.2.2.2.2.2.2.2) (r47,r29.2.1.Limit,r29.2.1.Stay,r29.2.1.List,r29.2.1.Group,e5.2,v3_8,v3_9,v3_10,v3_11)) (fun e7=>lp (yN (fun s=>F3_L8 e7.1 e7.2.1 e7.2.2.1 e7.2.2.2.1 e7.2.2.2.2.1 e7.2.2.2.2.2.1 e7.2.2.2.2.2.2.1 e7.2.2.2.2.2.2.2.1 e7.2.2.2.2.2.2.2.2 s) 0) (fun _=>some (.done (.inl (true,e7.1,e7.2.1,e7.2.2.1,e7.2.2.2.1,e7.2.2.2.2.1,e7.2.2.2.2.2.1,e7.2.2.2.2.2.2.1,e7.2.2.2.2.2.2.2.1,e7.2.2.2.2.2.2.2.2)))) some) some))) (fun r=>some (.done (.inr r))))
noncomputable def F3_L3 (p0:TWakeRule) (p3:List TComing) (v1_1:Int) (v1_2:Int) (v1_10:List Int) (v3_1:Int) (v3_2:Int) (v3_3:List TSleeper) (v3_4:List TStored) (v3_5:Int) (v3_6:List Int) (v3_7:Int) (v3_8:Int) (v3_9:Int) (v3_10:Int) (v3_11:Int):Option (Lp (Int × Int × (List TSleeper) × (List TStored) × Int × (List Int) × Int × Int × Int × Int × Int) ((Int × Int × (List TSleeper) × (List TStored) × Int × (List Int) × Int × Int × Int × Int × Int) ⊕ (Lp (Unit) ((Bool × Bool × Int × Int × (List TSleeper) × (List TStored) × Int × (List Int) × Int × Int × Int × Int × Int) ⊕ (Bool))))) :=
 (F14 p0 v3_5).bind fun r21=>bif ((!r21.2) || (bLt (wr .i64 (v1_1+((gd p3 v1_2.toNat).Wait))) r21.1)) then ((some (.done (.inl (true,true,v3_1,v3_2,v3_3,v3_4,v3_5,v3_6,v3_7,v3_8,v3_9,v3_10,v3_11)))).bind fun q24=>some (.done (.inr q24))) else (bif (bLt 300 v3_7) then ((some (.done (.inl (true,false,v3_1,v3_2,v3_3,v3_4,v3_5,v3_6,v3_7,v3_8,v3_9,v3_10,v3_11)))).bind fun q27=>some (.done (.inr q27))) else (lp (yN (fun s=>F3_L4 v1_10 v3_1 v3_2 v3_3 v3_4 v3_6 v3_8 v3_9 v3_10 v3_11 r21) ()) (fun e4=>bif (!e4.1) then ((some (.done (.inl (false,true,e4.2.1,e4.2.2.1,e4.2.2.2.1,e4.2.2.2.2.1,r21.1,e4.2.2.2.2.2.1,wr .i64 (v3_7+1),e4.2.2.2.2.2.2.1,e4.2.2.2.2.2.2.2.1,e4.2.2.2.2.2.2.2.2.1,e4.2.2.2.2.2.2.2.2.2)))).bind fun q73=>some (.done (.inr q73))) else (some (.next (e4.2.1,e4.2.2.1,e4.2.2.2.1,e4.2.2.2.2.1,r21.1,e4.2.2.2.2.2.1,wr .i64 (v3_7+1),e4.2.2.2.2.2.2.1,e4.2.2.2.2.2.2.2.1,e4.2.2.2.2.2.2.2.2.1,e4.2.2.2.2.2.2.2.2.2)))) (fun r=>some (.done (.inr r)))))
noncomputable def F3_L2 (p0:TWakeRule) (p3:List TComing) (v1_1:Int) (v1_2:Int) (v1_3:Int) (v1_4:Int) (v1_5:List TSleeper) (v1_6:List TStored) (v1_7:Int) (v1_8:List Int) (v1_9:Int) (v1_10:List Int) (v1_11:Int) (v1_12:Int) (v1_13:Int) (v1_14:Int):Option (Lp (Unit) ((Bool × Bool × Int × Int × (List TSleeper) × (List TStored) × Int × (List Int) × Int × Int × Int × Int × Int) ⊕ (Bool))) :=
 lp (yN (fun s=>F3_L3 p0 p3 v1_1 v1_2 v1_10 s.1 s.2.1 s.2.2.1 s.2.2.2.1 s.2.2.2.2.1 s.2.2.2.2.2.1 s.2.2.2.2.2.2.1 s.2.2.2.2.2.2.2.1 s.2.2.2.2.2.2.2.2.1 s.2.2.2.2.2.2.2.2.2.1 s.2.2.2.2.2.2.2.2.2.2) (v1_3,v1_4,v1_5,v1_6,v1_7,v1_8,v1_9,v1_11,v1_12,v1_13,v1_14)) (fun e3=>none) some
noncomputable def F3_L10 (r84:(List TFrame) × (List TFrame) × TBuffer × Int) (v10_1:Int) (v10_2:List Int) (v10_3:List Int):Option (Lp (Int × (List Int) × (List Int)) (((List Int) × (List Int)) ⊕ (Lp (Unit) ((Bool × (List Int) × (List Int)) ⊕ (Bool))))) :=
 bif (bLt v10_1 (r84.2.1.length:Nat)) then (need (inb v10_1 r84.2.1.length) <| need (bif (!((bLt (((gd r84.2.1 v10_1.toNat).Head).Seq) 0) || (bLe (v10_2.length:Nat) (((gd r84.2.1 v10_1.toNat).Head).Seq)))) then inb (((gd r84.2.1 v10_1.toNat).Head).Seq) v10_2.length else true) <| bif (((bLt (((gd r84.2.1 v10_1.toNat).Head).Seq) 0) || (bLe (v10_2.length:Nat) (((gd r84.2.1 v10_1.toNat).Head).Seq))) || (!bEq (gd v10_2 ((((gd r84.2.1 v10_1.toNat).Head).Seq).toNat)) 0)) then ((some (.done (.inl (false,v10_2,v10_3)))).bind fun q91=>some (.done (.inr q91))) else (need (inb (((gd r84.2.1 v10_1.toNat).Head).Seq) v10_2.length) <| some (.next (wr .i64 (v10_1+1),(v10_2.set ((((gd r84.2.1 v10_1.toNat).Head).Seq).toNat) 2),v10_3)))) else (some (.done (.inl (v10_2,v10_3))))
noncomputable def F3_L9 (p3:List TComing) (v1_2:Int) (v1_10:List Int) (w2_8:List Int) (r84:(List TFrame) × (List TFrame) × TBuffer × Int):Option (Lp (Unit) ((Bool × (List Int) × (List Int)) ⊕ (Bool))) :=
 lp (yN (fun s=>F3_L10 r84 s.1 s.2.1 s.2.2) (0,(w2_8 ++ [0]),(v1_10 ++ [(gd p3 v1_2.toNat).Cat]))) (fun e10=>some (.done (.inl (true,e10.1,e10.2)))) some
noncomputable def F3_L1 (p0:TWakeRule) (p3:List TComing) (v1_1:Int) (v1_2:Int) (v1_3:Int) (v1_4:Int) (v1_5:List TSleeper) (v1_6:List TStored) (v1_7:Int) (v1_8:List Int) (v1_9:Int) (v1_10:List Int) (v1_11:Int) (v1_12:Int) (v1_13:Int) (v1_14:Int):Option (Lp (Int × Int × Int × Int × (List TSleeper) × (List TStored) × Int × (List Int) × Int × (List Int) × Int × Int × Int × Int) ((Int × Int × Int × (List TSleeper) × (List TStored) × Int × (List Int) × Int × Int × Int × Int × Int × (List Int)) ⊕ (Bool))) :=
 bif (bLt v1_2 (p3.length:Nat)) then (need (inb v1_2 p3.length) <| need (bif (!(bLt ((gd p3 v1_2.toNat).Wait) 0)) then inb v1_2 p3.length else true) <| need (bif (!((bLt ((gd p3 v1_2.toNat).Wait) 0) || (bLt 1048576 ((gd p3 v1_2.toNat).Wait)))) then inb v1_2 p3.length else true) <| bif (((bLt ((gd p3 v1_2.toNat).Wait) 0) || (bLt 1048576 ((gd p3 v1_2.toNat).Wait))) || (bLt 3 ((gd p3 v1_2.toNat).Cat))) then (some (.done (.inr true))) else (need (inb v1_2 p3.length) <| lp (yN (fun s=>F3_L2 p0 p3 v1_1 v1_2 v1_3 v1_4 v1_5 v1_6 v1_7 v1_8 v1_9 v1_10 v1_11 v1_12 v1_13 v1_14) ()) (fun e2=>bif ((!e2.1) || (!e2.2.1)) then (some (.done (.inr e2.1))) else ((F10).bind fun r76=>(F11).bind fun r78=>need (capb 8 (e2.2.2.2.2.2.2.2.1.length+1)) <| need (inb v1_2 p3.length) <| need (capb 1 (v1_10.length+1)) <| need (inb v1_2 p3.length) <| (F12 (TBuffer.mk e2.2.2.1 e2.2.2.2.1 e2.2.2.2.2.1 e2.2.2.2.2.2.1) 9 ((gd p3 v1_2.toNat).Cat) (TFrame.mk (THeader.mk 2 8 false true false false false false false 0 (A6u8.mk r76.x0 r76.x1 r76.x2 r76.x3 r76.x4 r76.x5) (A6u8.mk r78.x0 r78.x1 r78.x2 r78.x3 r78.x4 r78.x5) (A6u8.mk r78.x0 r78.x1 r78.x2 r78.x3 r78.x4 r78.x5) (A6u8.mk 0 0 0 0 0 0) v1_2 0 0 0 false false) []) (wr .i64 (v1_1+((gd p3 v1_2.toNat).Wait)))).bind fun r84=>bif ((!bEq r84.2.2.2 0) || (bLt 0 (r84.1.length:Nat))) then (some (.done (.inr false))) else (lp (yN (fun s=>F3_L9 p3 v1_2 v1_10 e2.2.2.2.2.2.2.2.1 r84) ()) (fun e9=>bif (!e9.1) then (some (.done (.inr false))) else (some (.next (wr .i64 (v1_1+((gd p3 v1_2.toNat).Wait)),wr .i64 (v1_2+1),r84.2.2.1.Limit,r84.2.2.1.Stay,r84.2.2.1.List,r84.2.2.1.Group,e2.2.2.2.2.2.2.1,e9.2.1,e2.2.2.2.2.2.2.2.2.1,e9.2.2,e2.2.2.2.2.2.2.2.2.2.1,e2.2.2.2.2.2.2.2.2.2.2.1,e2.2.2.2.2.2.2.2.2.2.2.2.1,e2.2.2.2.2.2.2.2.2.2.2.2.2)))) (fun r=>some (.done (.inr r)))))) (fun r=>some (.done (.inr r))))) else (some (.done (.inl (v1_1,v1_3,v1_4,v1_5,v1_6,v1_7,v1_8,v1_9,v1_11,v1_12,v1_13,v1_14,v1_10))))
noncomputable def F3_L13 (r98:(List TFrame) × TBuffer × Int) (v13_1:Int) (v13_2:List Int):Option (Lp (Int × (List Int)) ((List Int) ⊕ (Lp (Unit) ((Bool × (List Int)) ⊕ (Bool))))) :=
 bif (bLt v13_1 (r98.1.length:Nat)) then (need (inb v13_1 r98.1.length) <| need (bif (!((bLt (((gd r98.1 v13_1.toNat).Head).Seq) 0) || (bLe (v13_2.length:Nat) (((gd r98.1 v13_1.toNat).Head).Seq)))) then inb (((gd r98.1 v13_1.toNat).Head).Seq) v13_2.length else true) <| bif (((bLt (((gd r98.1 v13_1.toNat).Head).Seq) 0) || (bLe (v13_2.length:Nat) (((gd r98.1 v13_1.toNat).Head).Seq))) || (!bEq (gd v13_2 ((((gd r98.1 v13_1.toNat).Head).Seq).toNat)) 0)) then ((some (.done (.inl (false,v13_2)))).bind fun q105=>some (.done (.inr q105))) else (need (inb (((gd r98.1 v13_1.toNat).Head).Seq) v13_2.length) <| some (.next (wr .i64 (v13_1+1),(v13_2.set ((((gd r98.1 v13_1.toNat).Head).Seq).toNat) 2))))) else (some (.done (.inl v13_2)))
noncomputable def F3_L12 (w1_21:List Int) (r98:(List TFrame) × TBuffer × Int):Option (Lp (Unit) ((Bool × (List Int)) ⊕ (Bool))) :=
 lp (yN (fun s=>F3_L13 r98 s.1 s.2) (0,w1_21)) (fun w13_3=>some (.done (.inl (true,w13_3)))) some
noncomputable def F3_L14 (w1_27:List Int) (v14_1:Bool) (v14_2:Int) (v14_3:Int) (v14_4:List TSleeper) (v14_5:List TStored) (v14_6:List Int) (v14_7:Int) (v14_8:Int) (v14_9:Int) (v14_10:Int):Option (Lp (Bool × Int × Int × (List TSleeper) × (List TStored) × (List Int) × Int × Int × Int × Int) ((Int × Int × (List TSleeper) × (List TStored) × (List Int) × Int × Int × Int × Int) ⊕ (Lp (Unit) ((Bool) ⊕ (Bool))))) :=
 bif v14_1 then ((F17 (TBuffer.mk v14_2 v14_3 v14_4 v14_5) 9).bind fun r119=>need (bif (!(((!bEq r119.2.2 0) || (bLt r119.1.Head.Seq 0)) || (bLe (v14_6.length:Nat) r119.1.Head.Seq))) then inb r119.1.Head.Seq v14_6.length else true) <| bif ((((!bEq r119.2.2 0) || (bLt r119.1.Head.Seq 0)) || (bLe (v14_6.length:Nat) r119.1.Head.Seq)) || (!bEq (gd v14_6 r119.1.Head.Seq.toNat) 0)) then ((some (.done (.inl false))).bind fun q123=>some (.done (.inr q123))) else (need (inb r119.1.Head.Seq w1_27.length) <| need (inb (gd w1_27 r119.1.Head.Seq.toNat) 4) <| bif (bLt r119.1.Head.Seq (gd [v14_7,v14_8,v14_9,v14_10] ((gd w1_27 r119.1.Head.Seq.toNat).toNat))) then ((some (.done (.inl false))).bind fun q130=>some (.done (.inr q130))) else (need (inb (gd w1_27 r119.1.Head.Seq.toNat) 4) <| need (inb r119.1.Head.Seq v14_6.length) <| some (.next (r119.1.Head.MoreData,r119.2.1.Limit,r119.2.1.Stay,r119.2.1.List,r119.2.1.Group,(v14_6.set r119.1.Head.Seq.toNat 1),(gd ([v14_7,v14_8,v14_9,v14_10].set ((gd w1_27 r119.1.Head.Seq.toNat).toNat) r119.1.Head.Seq) 0),(gd ([v14_7,v14_8,v14_9,v14_10].set ((gd w1_27 r119.1.Head.Seq.toNat).toNat) r119.1.Head.Seq) 1),(gd ([v14_7,v14_8,v14_9,v14_10].set ((gd w1_27 r119.1.Head.Seq.toNat).toNat) r119.1.Head.Seq) 2),(gd ([v14_7,v14_8,v14_9,v14_10].set ((gd w1_27 r119.1.Head.Seq.toNat).toNat) r119.1.Head.Seq) 3)))))) else (some (.done (.inl (v14_2,v14_3,v14_4,v14_5,v14_6,v14_7,v14_8,v14_9,v14_10))))
noncomputable def F3_L15 (w14_15:List Int) (v15_1:Int):Option (Lp (Int) ((Unit) ⊕ (Lp (Unit) ((Bool) ⊕ (Bool))))) :=
 bif (bLt v15_1 (w14_15.length:Nat)) then (need (inb v15_1 w14_15.length) <| bif (bEq (gd w14_15 v15_1.toNat) 0) then ((some (.done (.inl false))).bind fun q139=>some (.done (.inr q139))) else (some (.next (wr .i64 (v15_1+1))))) else (some (.done (.inl ())))
noncomputable def F3_L11 (w1_16:Int) (w1_17:Int) (w1_18:List TSleeper) (w1_19:List TStored) (w1_21:List Int) (w1_23:Int) (w1_24:Int) (w1_25:Int) (w1_26:Int) (w1_27:List Int) (r95:Int × Bool):Option (Lp (Unit) ((Bool) ⊕ (Bool))) :=
 (F29 (TBuffer.mk w1_16 w1_17 w1_18 w1_19) r95.1).bind fun r98=>bif (!bEq r98.2.2 0) then (some (.done (.inl false))) else (lp (yN (fun s=>F3_L12 w1_21 r98) ()) (fun e12=>bif (!e12.1) then (some (.done (.inl false))) else ((F16 r98.2.1).bind fun r109=>(F30 (TTraffic.mk r109.1.Group r109.1.Aids)).bind fun r111=>(F31 r111.1).bind fun r113=>bif (((!bEq r109.2 0) || (!bEq r111.2 0)) || (!bEq r113.2 0)) then (some (.done (.inl false))) else ((F18 r113.1 9).bind fun r116=>lp (yN (fun s=>F3_L14 w1_27 s.1 s.2.1 s.2.2.1 s.2.2.2.1 s.2.2.2.2.1 s.2.2.2.2.2.1 s.2.2.2.2.2.2.1 s.2.2.2.2.2.2.2.1 s.2.2.2.2.2.2.2.2.1 s.2.2.2.2.2.2.2.2.2) (r116,r98.2.1.Limit,r98.2.1.Stay,r98.2.1.List,r98.2.1.Group,e12.2,w1_23,w1_24,w1_25,w1_26)) (fun e14=>lp (yN (fun s=>F3_L15 e14.2.2.2.2.1 s) 0) (fun _=>some (.done (.inl true))) some) some))) (fun r=>some (.done (.inr r))))
noncomputable def F3 (p0:TWakeRule) (p1:Int) (p2:Int) (p3:List TComing):Option (Bool) :=
 (F4).bind fun r1=>bif (!r1) then (some false) else ((F5 p0).bind fun r4=>bif (((!bEq r4 0) || (bLt p0.Every 1)) || (bLt 60 (p3.length:Nat))) then (some true) else ((F6 p1 p2).bind fun r7=>bif (!bEq r7.2 0) then (some true) else ((F7 r7.1 9).bind fun r10=>(F8 r10.1 9).bind fun r12=>bif ((!bEq r10.2 0) || (!bEq r12.2 0)) then (some false) else (lp (yN (fun s=>F3_L1 p0 p3 s.1 s.2.1 s.2.2.1 s.2.2.2.1 s.2.2.2.2.1 s.2.2.2.2.2.1 s.2.2.2.2.2.2.1 s.2.2.2.2.2.2.2.1 s.2.2.2.2.2.2.2.2.1 s.2.2.2.2.2.2.2.2.2.1 s.2.2.2.2.2.2.2.2.2.2.1 s.2.2.2.2.2.2.2.2.2.2.2.1 s.2.2.2.2.2.2.2.2.2.2.2.2.1 s.2.2.2.2.2.2.2.2.2.2.2.2.2) (0,0,r12.1.Limit,r12.1.Stay,r12.1.List,r12.1.Group,(-1),[],0,[],0,0,0,0)) (fun e1=>(F14 p0 (maxI e1.1 e1.2.2.2.2.2.1)).bind fun r95=>bif ((!r95.2) || (bLt 1099511627776 r95.1)) then (some true) else (lp (yN (fun s=>F3_L11 e1.2.1 e1.2.2.1 e1.2.2.2.1 e1.2.2.2.2.1 e1.2.2.2.2.2.2.1 e1.2.2.2.2.2.2.2.2.1 e1.2.2.2.2.2.2.2.2.2.1 e1.2.2.2.2.2.2.2.2.2.2.1 e1.2.2.2.2.2.2.2.2.2.2.2.1 e1.2.2.2.2.2.2.2.2.2.2.2.2 r95) ()) (fun w11_1=>some w11_1) some)) some))))
noncomputable def body3:List AV->AR
 | [v0,v1,v2,v3]=>.pure (aK 5 wG v0/\iK .i64 v1/\iK .i64 v2/\lK vR 2 v3/\(F3 (g_TWakeRule (aL v0)) (iA v1) (iA v2) (lA g_TComing v3)).isSome=true) (.bool (gt (F3 (g_TWakeRule (aL v0)) (iA v1) (iA v2) (lA g_TComing v3))))
 | _=>.fail
set_option maxHeartbeats 4000000 in
set_option maxRecDepth 20000 in
theorem ok3:xZ Try.prog 3 (zV body3):=by
 refine xC body3 (rs:=[.tmp 8]) Try.func3 (by kernel_rfl) rfl rfl ?_
 intro l ob v hb hob
 unfold body3 at hb
 split at hb
 ·rename_i v0 v1 v2 v3
  injection hb with q1 q2;subst q1 q2
  obtain ⟨hk0_0,hk1_0,hk2_0,hk3_0,hob⟩:=hob
  obtain ⟨r,H⟩:=oE.1 hob
  rw [H,yD]
  have hw0:=wA_TWakeRule hk0_0
  have hw1:=yJ hk1_0
  have hw2:=yJ hk2_0
  have hw3:=uP (fun r h=>w_TComing h) hk3_0
  generalize g_TWakeRule (aL v0)=p0 at H hw0
  generalize iA v1=p1 at H hw1
  generalize iA v2=p2 at H hw2
  generalize lA g_TComing v3=p3 at H hw3
  refine ⟨[.agg [.int .i64 p0.Id,.int .i64 p0.Start,.int .i64 p0.Every,.int .i64 p0.Length,.int .i64 p0.Group],.int .i64 p1,.int .i64 p2,.ro 2 p3.length false (enR c_TComing p3)],_,(fun E vs F=>yL hw0.1 F (fun vs F=>yL hw1.1 F (fun vs F=>yL hw2.1 F (fun vs F=>yL hw3.1 F (fun vs F=>F))))),rfl,rfl,?_⟩
  rw [Try.ntmps3]
  simp only [lC,lN,Nat.reduceAdd,Nat.reduceSub,rS,rZ,aC,aN]
  unfold F3 at H
  try dsimp only at H
  refine sq zA ?_
  simp only [go_sem]
  refine zH ?_
  refine zH ?_
  obtain ⟨r1,e2,H⟩:=bsi H
  refine rg ct3t0_ok ?_
  simp only [go_sem,ct3t0_4,body4,e2]
  repeat ((with_reducible refine aI ?_ ?_);exact an0)
  refine yE rfl trivial (fun hc=>?_) (fun hc=>?_)
  ·have hk3:(r1)=false:=by simpa using hc
   replace H:=zO hc H
   refine sq zA ?_
   simp only [go_sem]
   refine rg zA ?_
   simp only [go_sem]
   obtain rfl:=Option.some.inj H
   first|rfl|simp only [Bool.and_false,Bool.false_and,Bool.and_true,Bool.true_and]
  have hk3:(r1)=true:=by simpa using hc
  replace H:=zN hc H
  refine rg zA ?_
  simp only [go_sem]
  refine zH ?_
  refine zH ?_
  obtain ⟨r4,e5,H⟩:=bsi H
  refine rg ct3t1_ok ?_
  simp only [go_sem,Nat.reduceLeDiff,Nat.reduceLT,Nat.reduceAdd,ct3t1_5,body5,e5]
  repeat ((with_reducible refine aI ?_ ?_);exact an5)
  refine yE rfl trivial (fun hc=>?_) (fun hc=>?_)
  ·have hk6:(((!bEq r4 0) || (bLt p0.Every 1)) || (bLt 60 (p3.length:Nat)))=true:=by simpa using hc
   replace H:=zO hc H
   refine sq zA ?_
   simp only [go_sem]
   refine rg zA ?_
   simp only [go_sem]
   obtain rfl:=Option.some.inj H
   first|rfl|simp only [Bool.and_false,Bool.false_and,Bool.and_true,Bool.true_and]
  have hk6:(((!bEq r4 0) || (bLt p0.Every 1)) || (bLt 60 (p3.length:Nat)))=false:=by simpa using hc
  replace H:=zN hc H
  refine rg zA ?_
  simp only [go_sem]
  refine zH ?_
  obtain ⟨r7,e8,H⟩:=bsi H
  refine rg ct3t2_ok ?_
  simp only [go_sem,Nat.reduceLT,Nat.reduceAdd,ct3t2_6,body6,e8]
  repeat ((with_reducible refine aI ?_ ?_);exact an0)
  refine zH ?_
  refine sq zA ?_
  simp only [go_sem]
  refine yE rfl trivial (fun hc=>?_) (fun hc=>?_)
  ·have hk9:(bEq r7.2 0)=false:=by simpa using hc
   replace H:=zO hc H
   refine sq zA ?_
   simp only [go_sem]
   refine rg zA ?_
   simp only [go_sem]
   obtain rfl:=Option.some.inj H
   first|rfl|simp only [Bool.and_false,Bool.false_and,Bool.and_true,Bool.true_and]
  have hk9:(bEq r7.2 0)=true:=by simpa using hc
  replace H:=zN hc H
  refine rg zA ?_
  simp only [go_sem]
  refine zH ?_
  obtain ⟨r10,e11,H⟩:=bsi H
  refine rg ct3t3_ok ?_
  simp only [go_sem,Nat.reduceLT,Nat.reduceAdd,ct3t3_7,body7,e11]
  repeat ((with_reducible refine aI ?_ ?_);exact an0)
  refine zH ?_
  obtain ⟨r12,e13,H⟩:=bsi H
  refine rg ct3t4_ok ?_
  simp only [go_sem,Nat.reduceLT,Nat.reduceAdd,ct3t4_8,body8,e13]
  repeat ((with_reducible refine aI ?_ ?_);exact an0)
  refine zH ?_
  refine sq zA ?_
  simp only [go_sem]
  repeat ((with_reducible refine aI ?_ ?_);exact an4)
  refine yE rfl trivial (fun hc=>?_) (fun hc=>?_)
  ·have hk14:((!bEq r10.2 0) || (!bEq r12.2 0))=true:=by simpa using hc
   replace H:=zO hc H
   refine sq zA ?_
   simp only [go_sem]
   refine rg zA ?_
   simp only [go_sem]
   obtain rfl:=Option.some.inj H
   first|rfl|simp only [Bool.and_false,Bool.false_and,Bool.and_true,Bool.true_and]
  have hk14:((!bEq r10.2 0) || (!bEq r12.2 0))=false:=by simpa using hc
  replace H:=zN hc H
  refine rg zA ?_
  simp only [go_sem]
  refine sq zA ?_
  simp only [go_sem,Nat.reduceLeDiff,Nat.reduceLT,Nat.reduceAdd]
  repeat ((with_reducible refine aI ?_ ?_);exact an4)
  refine sq zA ?_
  simp only [go_sem]
  refine zH ?_
  refine sq zA ?_
  simp only [go_sem]
  refine xI ?_
  refine xA (fun s:Int × Int × Int × Int × (List TSleeper) × (List TStored) × Int × (List Int) × Int × (List Int) × Int × Int × Int × Int=>(.top::.top::.top::.ro 2 p3.length false (enR c_TComing p3)::.ptr 0 0 0 0::tp 10 (.ptr 4 0 0 0::.int .i64 s.1::.int .i64 s.2.1::tp 185 []))) (fun s=>[.lit 23 [.int .i64 p0.Id,.int .i64 p0.Start,.int .i64 p0.Every,.int .i64 p0.Length,.int .i64 p0.Group],.dead,.dead,.dead,.lit 40 [.int .i64 p0.Id,.int .i64 p0.Start,.int .i64 p0.Every,.int .i64 p0.Length,.int .i64 p0.Group,.int .i64 s.2.2.1,.int .i64 s.2.2.2.1,.ro 3 s.2.2.2.2.1.length false (enR zF s.2.2.2.2.1),.ro 43 s.2.2.2.2.2.1.length false (enR zD s.2.2.2.2.2.1),.int .i64 s.2.2.2.2.2.2.1,.sl 5 1 0 s.2.2.2.2.2.2.2.1.length false,.int .i64 s.2.2.2.2.2.2.2.2.1,.int .i64 s.2.2.2.2.2.2.2.2.2.2.1,.int .i64 s.2.2.2.2.2.2.2.2.2.2.2.1,.int .i64 s.2.2.2.2.2.2.2.2.2.2.2.2.1,.int .i64 s.2.2.2.2.2.2.2.2.2.2.2.2.2,.sl 6 1 0 s.2.2.2.2.2.2.2.2.2.1.length false],.row 3 1 s.2.2.2.2.2.2.2.1.length (enR yQ s.2.2.2.2.2.2.2.1),.row 5 1 s.2.2.2.2.2.2.2.2.2.1.length (enR yG s.2.2.2.2.2.2.2.2.2.1)]) (fun e:Int × Int × Int × (List TSleeper) × (List TStored) × Int × (List Int) × Int × Int × Int × Int × Int × (List Int)=>(tp 4 (.ptr 0 0 0 0::tp 10 (.ptr 4 0 0 0::.int .i64 e.1::tp 186 [])))) (fun e=>[.lit 23 [.int .i64 p0.Id,.int .i64 p0.Start,.int .i64 p0.Every,.int .i64 p0.Length,.int .i64 p0.Group],.dead,.dead,.dead,.lit 40 [.int .i64 p0.Id,.int .i64 p0.Start,.int .i64 p0.Every,.int .i64 p0.Length,.int .i64 p0.Group,.int .i64 e.2.1,.int .i64 e.2.2.1,.ro 3 e.2.2.2.1.length false (enR zF e.2.2.2.1),.ro 43 e.2.2.2.2.1.length false (enR zD e.2.2.2.2.1),.int .i64 e.2.2.2.2.2.1,.sl 5 1 0 e.2.2.2.2.2.2.1.length false,.int .i64 e.2.2.2.2.2.2.2.1,.int .i64 e.2.2.2.2.2.2.2.2.1,.int .i64 e.2.2.2.2.2.2.2.2.2.1,.int .i64 e.2.2.2.2.2.2.2.2.2.2.1,.int .i64 e.2.2.2.2.2.2.2.2.2.2.2.1,.sl 6 1 0 e.2.2.2.2.2.2.2.2.2.2.2.2.length false],.row 3 1 e.2.2.2.2.2.2.1.length (enR yQ e.2.2.2.2.2.2.1),.row 5 1 e.2.2.2.2.2.2.2.2.2.2.2.2.length (enR yG e.2.2.2.2.2.2.2.2.2.2.2.2)]) H ?_ (fun s o H hn1_1 hn2_1=>?_) (fun e H=>?_)
  ·refine zI ⟨[some 0,some 1,some 2,some 3,some 4,none,none],?_,?_,by rfl,by rfl⟩
   ·simp [CvL,Cv,yB,tp]
   ·exact ⟨cv,zB,zB,zB,cv,uR,uR,trivial⟩
  ·obtain ⟨v1_1,v1_2,v1_3,v1_4,v1_5,v1_6,v1_7,v1_8,v1_9,v1_10,v1_11,v1_12,v1_13,v1_14⟩:=s
   unfold F3_L1 at H
   try dsimp only at H ⊢
   try simp only [tp]
   refine zH ?_
   refine sq zA ?_
   simp only [go_sem,Nat.reduceAdd]
   repeat ((with_reducible refine aI ?_ ?_);exact an0)
   refine condM' rfl trivial (fun hc=>?_) (fun hc=>?_)
   ·have hk15:(bLt v1_2 (p3.length:Nat))=false:=by simpa using hc
    replace H:=zN hc H
    refine rg zA ?_
    simp only [go_sem]
    refine ⟨_,(Option.some.inj H).symm,?_⟩
    refine zI ⟨[some 0,some 1,some 2,some 3,some 4,some 5,some 6],?_,?_,by rfl,by rfl⟩
    ·simp [CvL,Cv,yB]
    ·exact ⟨cv,zB,zB,zB,cv,zK xQ cl (fun _ _ _ _=>rfl),zK xT cl (fun _ _ _ _=>rfl),trivial⟩
   have hk15:(bLt v1_2 (p3.length:Nat))=true:=by simpa using hc
   replace H:=zO hc H
   refine rg zA ?_
   simp only [go_sem]
   refine zH ?_
   refine xI ?_
   refine zH ?_
   refine zH ?_
   obtain ⟨f16,H⟩:=nI H
   obtain ⟨f17,H⟩:=yH.1 H
   replace f17:=bZ.1 f17
   replace f17:=fun g=>uG.1 (f17 g)
   obtain ⟨f18,H⟩:=yH.1 H
   replace f18:=bZ.1 f18
   replace f18:=fun g=>uG.1 (f18 g)
   refine rg zA ?_
   simp only [go_sem,Nat.reduceLeDiff,Nat.reduceLT,Nat.reduceAdd,f16]
   repeat ((with_reducible refine And.intro ?_ ?_);focus (first|(with_reducible trivial)|omega|exact f17|exact f18|(intro g;have q:=f17 (by first|exact g|(rw [g];rfl)|simpa using g);first|exact q|exact ⟨q.1,q.2.1⟩|exact q.2.2|omega|exact ⟨g,q⟩|exact ⟨trivial,q⟩|exact ⟨g,q.1,q.2.1⟩|exact ⟨g,q.2.2⟩)|(intro g;have q:=f18 (by first|exact g|(rw [g];rfl)|simpa using g);first|exact q|exact ⟨q.1,q.2.1⟩|exact q.2.2|omega|exact ⟨g,q⟩|exact ⟨trivial,q⟩|exact ⟨g,q.1,q.2.1⟩|exact ⟨g,q.2.2⟩)|grind))
   refine yE rfl trivial (fun hc=>?_) (fun hc=>?_)
   ·have hk19:(((bLt ((gd p3 v1_2.toNat).Wait) 0) || (bLt 1048576 ((gd p3 v1_2.toNat).Wait))) || (bLt 3 ((gd p3 v1_2.toNat).Cat)))=true:=by simpa using hc
    replace H:=zO hc H
    refine sq zA ?_
    simp only [go_sem]
    refine rg zA ?_
    simp only [go_sem]
    have H:=hn2_1 _ (Option.some.inj H).symm
    obtain rfl:=Option.some.inj H
    first|rfl|simp only [Bool.and_false,Bool.false_and,Bool.and_true,Bool.true_and]
   have hk19:(((bLt ((gd p3 v1_2.toNat).Wait) 0) || (bLt 1048576 ((gd p3 v1_2.toNat).Wait))) || (bLt 3 ((gd p3 v1_2.toNat).Cat)))=false:=by simpa using hc
   replace H:=zN hc H
   refine rg zA ?_
   simp only [go_sem]
   refine zH ?_
   obtain ⟨f20,H⟩:=nI H
   refine rg zA ?_
   simp only [go_sem,Nat.reduceLeDiff,Nat.reduceLT,f20]
   repeat ((with_reducible refine aI ?_ ?_);exact an4)
   refine zH ?_
   refine tM ?_
   refine xE zL zA 2 ?_
   simp only [zJ,tS,tZ,dS,dZ,go_sem]
   repeat ((with_reducible refine aI ?_ ?_);exact an0)
   refine inlO (rs:=[.tmp 4,.tmp 5]) Try.func9 (by kernel_rfl) rfl rfl Try.ntmps9 (caps:=[]) (tc:=[.ptr 4 0 0 0,.int .i64 (wr .i64 (v1_1+((gd p3 v1_2.toNat).Wait)))]) rfl (by simp only [go_sem]) rfl ?_
   simp only [lC,lN,Nat.reduceAdd,Nat.reduceSub,rS,rZ,aC,aN]
   refine qK (fun e:Bool × Bool × Int × Int × (List TSleeper) × (List TStored) × Int × (List Int) × Int × Int × Int × Int × Int=>(tp 4 (.bool e.1::.bool e.2.1::tp 30 []))) (fun e=>[.lit 23 [.int .i64 p0.Id,.int .i64 p0.Start,.int .i64 p0.Every,.int .i64 p0.Length,.int .i64 p0.Group],.dead,.dead,.dead,.lit 40 [.int .i64 p0.Id,.int .i64 p0.Start,.int .i64 p0.Every,.int .i64 p0.Length,.int .i64 p0.Group,.int .i64 e.2.2.1,.int .i64 e.2.2.2.1,.ro 3 e.2.2.2.2.1.length false (enR zF e.2.2.2.2.1),.ro 43 e.2.2.2.2.2.1.length false (enR zD e.2.2.2.2.2.1),.int .i64 e.2.2.2.2.2.2.1,.sl 7 1 0 e.2.2.2.2.2.2.2.1.length false,.int .i64 e.2.2.2.2.2.2.2.2.1,.int .i64 e.2.2.2.2.2.2.2.2.2.1,.int .i64 e.2.2.2.2.2.2.2.2.2.2.1,.int .i64 e.2.2.2.2.2.2.2.2.2.2.2.1,.int .i64 e.2.2.2.2.2.2.2.2.2.2.2.2,.sl 6 1 0 v1_10.length false],.dead,.row 5 1 v1_10.length (enR yG v1_10),.row 3 1 e.2.2.2.2.2.2.2.1.length (enR yQ e.2.2.2.2.2.2.2.1)]) H (fun o H hn1_2 hn2_2=>?_) (fun e H=>?_)
   ·unfold F3_L2 at H
    try dsimp only at H ⊢
    try simp only [tp]
    refine sq zA ?_
    simp only [go_sem,Nat.reduceAdd]
    refine xI ?_
    refine xA (fun s:Int × Int × (List TSleeper) × (List TStored) × Int × (List Int) × Int × Int × Int × Int × Int=>(.ptr 4 0 0 0::.int .i64 (wr .i64 (v1_1+((gd p3 v1_2.toNat).Wait)))::tp 34 [])) (fun s=>[.lit 23 [.int .i64 p0.Id,.int .i64 p0.Start,.int .i64 p0.Every,.int .i64 p0.Length,.int .i64 p0.Group],.dead,.dead,.dead,.lit 40 [.int .i64 p0.Id,.int .i64 p0.Start,.int .i64 p0.Every,.int .i64 p0.Length,.int .i64 p0.Group,.int .i64 s.1,.int .i64 s.2.1,.ro 3 s.2.2.1.length false (enR zF s.2.2.1),.ro 43 s.2.2.2.1.length false (enR zD s.2.2.2.1),.int .i64 s.2.2.2.2.1,.sl 7 1 0 s.2.2.2.2.2.1.length false,.int .i64 s.2.2.2.2.2.2.1,.int .i64 s.2.2.2.2.2.2.2.1,.int .i64 s.2.2.2.2.2.2.2.2.1,.int .i64 s.2.2.2.2.2.2.2.2.2.1,.int .i64 s.2.2.2.2.2.2.2.2.2.2,.sl 6 1 0 v1_10.length false],.dead,.row 5 1 v1_10.length (enR yG v1_10),.row 3 1 s.2.2.2.2.2.1.length (enR yQ s.2.2.2.2.2.1)]) (fun e:Int × Int × (List TSleeper) × (List TStored) × Int × (List Int) × Int × Int × Int × Int × Int=>(tp 36 [])) (fun e=>[.lit 23 [.int .i64 p0.Id,.int .i64 p0.Start,.int .i64 p0.Every,.int .i64 p0.Length,.int .i64 p0.Group],.dead,.dead,.dead,.lit 40 [.int .i64 p0.Id,.int .i64 p0.Start,.int .i64 p0.Every,.int .i64 p0.Length,.int .i64 p0.Group,.int .i64 e.1,.int .i64 e.2.1,.ro 3 e.2.2.1.length false (enR zF e.2.2.1),.ro 43 e.2.2.2.1.length false (enR zD e.2.2.2.1),.int .i64 e.2.2.2.2.1,.sl 7 1 0 e.2.2.2.2.2.1.length false,.int .i64 e.2.2.2.2.2.2.1,.int .i64 e.2.2.2.2.2.2.2.1,.int .i64 e.2.2.2.2.2.2.2.2.1,.int .i64 e.2.2.2.2.2.2.2.2.2.1,.int .i64 e.2.2.2.2.2.2.2.2.2.2,.sl 6 1 0 v1_10.length false],.dead,.row 5 1 v1_10.length (enR yG v1_10),.row 3 1 e.2.2.2.2.2.1.length (enR yQ e.2.2.2.2.2.1)]) H ?_ (fun s o H hn1_3 hn2_3=>?_) (fun e H=>?_)
    ·refine zI ⟨[some 0,some 1,some 2,some 3,some 4,some 5,some 6,some 5],?_,?_,by rfl,by rfl⟩
     ·simp [CvL,Cv,yB,tp]
     ·exact ⟨cv,zB,zB,zB,cv,zB,(zQ nfA),zK xQ cl (fun _ _ _ _=>rfl),trivial⟩
    ·obtain ⟨v3_1,v3_2,v3_3,v3_4,v3_5,v3_6,v3_7,v3_8,v3_9,v3_10,v3_11⟩:=s
     unfold F3_L3 at H
     try dsimp only at H ⊢
     try simp only [tp]
     refine xI ?_
     refine zH ?_
     obtain ⟨r21,e22,H⟩:=bsi H
     refine vY zL ct3t5_ok (by kernel_rfl) (by kernel_rfl) ?_
     simp only [go_sem,Nat.reduceLeDiff,Nat.reduceLT,Nat.reduceAdd,reduceCtorEq,ct3t5_14,body14,e22]
     repeat ((with_reducible refine aI ?_ ?_);exact an0)
     refine zH ?_
     refine sq zA ?_
     simp only [go_sem]
     repeat ((with_reducible refine aI ?_ ?_);exact an4)
     refine yE rfl trivial (fun hc=>?_) (fun hc=>?_)
     ·have hk23:((!r21.2) || (bLt (wr .i64 (v1_1+((gd p3 v1_2.toNat).Wait))) r21.1))=true:=by simpa using hc
      replace H:=zO hc H
      refine sq zA ?_
      simp only [go_sem]
      refine rg zA ?_
      simp only [go_sem]
      obtain ⟨q24,H,hq25⟩:=bsi H
      replace hq25:=hn2_3 _ (Option.some.inj hq25).symm
      obtain rfl:=(Option.some.inj hq25).symm
      refine ⟨_,(Option.some.inj H).symm,?_⟩
      refine zI ⟨[some 0,some 1,some 2,some 3,some 4,some 5,some 6,some 7],?_,?_,by rfl,by rfl⟩
      ·simp [CvL,Cv]
      ·exact ⟨cv,zB,zB,zB,cv,zB,(zQ nfA),zK xQ cl (fun _ _ _ _=>rfl),trivial⟩
     have hk23:((!r21.2) || (bLt (wr .i64 (v1_1+((gd p3 v1_2.toNat).Wait))) r21.1))=false:=by simpa using hc
     replace H:=zN hc H
     refine rg zA ?_
     simp only [go_sem]
     refine zH ?_
     refine sq zA ?_
     simp only [go_sem,Nat.reduceLeDiff,Nat.reduceLT,Nat.reduceAdd]
     repeat ((with_reducible refine aI ?_ ?_);exact an4)
     refine yE rfl trivial (fun hc=>?_) (fun hc=>?_)
     ·have hk26:(bLt 300 v3_7)=true:=by simpa using hc
      replace H:=zO hc H
      refine sq zA ?_
      simp only [go_sem]
      refine rg zA ?_
      simp only [go_sem]
      obtain ⟨q27,H,hq28⟩:=bsi H
      replace hq28:=hn2_3 _ (Option.some.inj hq28).symm
      obtain rfl:=(Option.some.inj hq28).symm
      refine ⟨_,(Option.some.inj H).symm,?_⟩
      refine zI ⟨[some 0,some 1,some 2,some 3,some 4,some 5,some 6,some 7],?_,?_,by rfl,by rfl⟩
      ·simp [CvL,Cv]
      ·exact ⟨cv,zB,zB,zB,cv,zB,(zQ nfA),zK xQ cl (fun _ _ _ _=>rfl),trivial⟩
     have hk26:(bLt 300 v3_7)=false:=by simpa using hc
     replace H:=zN hc H
     refine rg zA ?_
     simp only [go_sem]
     refine zH ?_
     refine tM ?_
     refine xE zL zA 2 ?_
     simp only [zJ,tS,tZ,dS,dZ,go_sem]
     repeat ((with_reducible refine aI ?_ ?_);exact an0)
     refine inlO (rs:=[.tmp 4]) Try.func15 (by kernel_rfl) rfl rfl Try.ntmps15 (caps:=[]) (tc:=[.ptr 4 0 0 0,.int .i64 r21.1]) rfl (by simp only [go_sem]) rfl ?_
     simp only [lC,lN,Nat.reduceAdd,Nat.reduceSub,rS,rZ,aC,aN]
     refine qK (fun e:Bool × Int × Int × (List TSleeper) × (List TStored) × (List Int) × Int × Int × Int × Int=>(tp 4 (.bool e.1::tp 168 []))) (fun e=>[.lit 23 [.int .i64 p0.Id,.int .i64 p0.Start,.int .i64 p0.Every,.int .i64 p0.Length,.int .i64 p0.Group],.dead,.dead,.dead,.lit 40 [.int .i64 p0.Id,.int .i64 p0.Start,.int .i64 p0.Every,.int .i64 p0.Length,.int .i64 p0.Group,.int .i64 e.2.1,.int .i64 e.2.2.1,.ro 3 e.2.2.2.1.length false (enR zF e.2.2.2.1),.ro 43 e.2.2.2.2.1.length false (enR zD e.2.2.2.2.1),.int .i64 r21.1,.sl 8 1 0 e.2.2.2.2.2.1.length false,.int .i64 (wr .i64 (v3_7+1)),.int .i64 e.2.2.2.2.2.2.1,.int .i64 e.2.2.2.2.2.2.2.1,.int .i64 e.2.2.2.2.2.2.2.2.1,.int .i64 e.2.2.2.2.2.2.2.2.2,.sl 6 1 0 v1_10.length false],.dead,.row 5 1 v1_10.length (enR yG v1_10),.dead,.row 3 1 e.2.2.2.2.2.1.length (enR yQ e.2.2.2.2.2.1)]) H (fun o H hn1_4 hn2_4=>?_) (fun e H=>?_)
     ·unfold F3_L4 at H
      try dsimp only at H ⊢
      try simp only [tp]
      refine sq zA ?_
      simp only [go_sem,Nat.reduceAdd]
      refine sq zA ?_
      simp only [go_sem,Nat.reduceLeDiff,Nat.reduceAdd]
      repeat ((with_reducible refine aI ?_ ?_);exact an4)
      refine sq zA ?_
      simp only [go_sem,Nat.reduceLeDiff,Nat.reduceLT,Nat.reduceAdd]
      repeat ((with_reducible refine aI ?_ ?_);exact an4)
      refine zH ?_
      obtain ⟨r29,e30,H⟩:=bsi H
      refine rg ct3t6_ok ?_
      simp only [go_sem,Nat.reduceLeDiff,Nat.reduceLT,Nat.reduceAdd,reduceCtorEq,ct3t6_29,body29,e30]
      repeat ((with_reducible refine aI ?_ ?_);exact an0)
      refine zH ?_
      refine zH ?_
      refine wY (c:=(!bEq r29.2.2 0)) (fun hg31=>?_) (fun hg31=>?_)
      ·replace H:=zO hg31 H
       refine rg zA ?_
       simp only [go_sem,hg31]
       repeat ((with_reducible refine aI ?_ ?_);exact an5)
       refine yE rfl trivial (fun hc=>?_) (fun hc=>?_)
       rotate_left
       ·cases hc
       refine sq zA ?_
       simp only [go_sem]
       refine rg zA ?_
       simp only [go_sem]
       refine ⟨_,(Option.some.inj H).symm,?_⟩
       refine zI ⟨[some 0,some 1,some 2,some 3,some 4,some 5,some 6,some 7,some 7],?_,?_,by rfl,by rfl⟩
       ·simp [CvL,Cv]
       ·exact ⟨cv,zB,zB,zB,cv,zB,(zQ nfA),zB,zK xQ cl (fun _ _ _ _=>rfl),trivial⟩
      replace H:=zN hg31 H
      refine tM ?_
      refine xE zL zA 5 ?_
      simp only [zJ,tS,tZ,dS,dZ,go_sem,hg31]
      repeat ((with_reducible refine aI ?_ ?_);exact an5)
      refine inlG (rs:=[.tmp 4]) Try.func13 (by kernel_rfl) rfl rfl Try.ntmps13 (caps:=[]) (tc:=[.ptr 4 0 0 0,.ro 41 r29.1.length false (enR zM r29.1)]) (by first|rfl|simp only [gok,go_sem,Nat.reduceLeDiff,Nat.reduceLT,Nat.reduceAdd,Nat.reduceMul,Nat.reduceSub,Nat.reduceEqDiff,Nat.reduceBEq,Int.reduceToNat,reduceCtorEq,hg31]) rfl (by simp only [go_sem]) rfl ?_
      simp only [lC,lN,Nat.reduceAdd,Nat.reduceSub,rS,rZ,aC,aN]
      refine qK (fun e:Bool × (List Int)=>(tp 4 (.bool e.1::tp 41 []))) (fun e=>[.lit 23 [.int .i64 p0.Id,.int .i64 p0.Start,.int .i64 p0.Every,.int .i64 p0.Length,.int .i64 p0.Group],.dead,.dead,.dead,.lit 40 [.int .i64 p0.Id,.int .i64 p0.Start,.int .i64 p0.Every,.int .i64 p0.Length,.int .i64 p0.Group,.int .i64 v3_1,.int .i64 v3_2,.ro 3 v3_3.length false (enR zF v3_3),.ro 43 v3_4.length false (enR zD v3_4),.int .i64 r21.1,.sl 9 1 0 e.2.length false,.int .i64 (wr .i64 (v3_7+1)),.int .i64 v3_8,.int .i64 v3_9,.int .i64 v3_10,.int .i64 v3_11,.sl 6 1 0 v1_10.length false],.dead,.row 5 1 v1_10.length (enR yG v1_10),.dead,.lit 31 [.int .i64 r29.2.1.Limit,.int .i64 r29.2.1.Stay,.ro 3 r29.2.1.List.length false (enR zF r29.2.1.List),.ro 43 r29.2.1.Group.length false (enR zD r29.2.1.Group)],.row 3 1 e.2.length (enR yQ e.2)]) H (fun o H hn1_5 hn2_5=>?_) (fun e H=>?_)
      ·unfold F3_L5 at H
       try dsimp only at H ⊢
       try simp only [tp]
       refine sq zA ?_
       simp only [go_sem,Nat.reduceAdd]
       refine zH ?_
       refine sq zA ?_
       simp only [go_sem]
       refine xI ?_
       refine xA (fun s:Int × (List Int)=>(.ptr 4 0 0 0::.ro 41 r29.1.length false (enR zM r29.1)::.top::.top::.top::.int .i64 s.1::tp 40 [])) (fun s=>[.lit 23 [.int .i64 p0.Id,.int .i64 p0.Start,.int .i64 p0.Every,.int .i64 p0.Length,.int .i64 p0.Group],.dead,.dead,.dead,.lit 40 [.int .i64 p0.Id,.int .i64 p0.Start,.int .i64 p0.Every,.int .i64 p0.Length,.int .i64 p0.Group,.int .i64 v3_1,.int .i64 v3_2,.ro 3 v3_3.length false (enR zF v3_3),.ro 43 v3_4.length false (enR zD v3_4),.int .i64 r21.1,.sl 9 1 0 s.2.length false,.int .i64 (wr .i64 (v3_7+1)),.int .i64 v3_8,.int .i64 v3_9,.int .i64 v3_10,.int .i64 v3_11,.sl 6 1 0 v1_10.length false],.dead,.row 5 1 v1_10.length (enR yG v1_10),.dead,.lit 31 [.int .i64 r29.2.1.Limit,.int .i64 r29.2.1.Stay,.ro 3 r29.2.1.List.length false (enR zF r29.2.1.List),.ro 43 r29.2.1.Group.length false (enR zD r29.2.1.Group)],.row 3 1 s.2.length (enR yQ s.2)]) (fun e:List Int=>(tp 46 [])) (fun e=>[.lit 23 [.int .i64 p0.Id,.int .i64 p0.Start,.int .i64 p0.Every,.int .i64 p0.Length,.int .i64 p0.Group],.dead,.dead,.dead,.lit 40 [.int .i64 p0.Id,.int .i64 p0.Start,.int .i64 p0.Every,.int .i64 p0.Length,.int .i64 p0.Group,.int .i64 v3_1,.int .i64 v3_2,.ro 3 v3_3.length false (enR zF v3_3),.ro 43 v3_4.length false (enR zD v3_4),.int .i64 r21.1,.sl 9 1 0 e.length false,.int .i64 (wr .i64 (v3_7+1)),.int .i64 v3_8,.int .i64 v3_9,.int .i64 v3_10,.int .i64 v3_11,.sl 6 1 0 v1_10.length false],.dead,.row 5 1 v1_10.length (enR yG v1_10),.dead,.lit 31 [.int .i64 r29.2.1.Limit,.int .i64 r29.2.1.Stay,.ro 3 r29.2.1.List.length false (enR zF r29.2.1.List),.ro 43 r29.2.1.Group.length false (enR zD r29.2.1.Group)],.row 3 1 e.length (enR yQ e)]) H ?_ (fun s o H hn1_6 hn2_6=>?_) (fun w6_3 H=>?_)
       ·refine zI ⟨[some 0,some 1,some 2,some 3,some 4,some 5,some 6,some 7,some 8,some 7],?_,?_,by rfl,by rfl⟩
        ·simp [CvL,Cv,yB,tp]
        ·exact ⟨cv,zB,zB,zB,cv,zB,(zQ nfA),zB,cv,zK xQ cl (fun _ _ _ _=>rfl),trivial⟩
       ·obtain ⟨v6_1,v6_2⟩:=s
        unfold F3_L6 at H
        try dsimp only at H ⊢
        try simp only [tp]
        refine zH ?_
        refine sq zA ?_
        simp only [go_sem,Nat.reduceAdd]
        repeat ((with_reducible refine aI ?_ ?_);exact an0)
        refine condM' rfl trivial (fun hc=>?_) (fun hc=>?_)
        ·have hk32:(bLt v6_1 (r29.1.length:Nat))=false:=by simpa using hc
         replace H:=zN hc H
         refine rg zA ?_
         simp only [go_sem]
         refine ⟨_,(Option.some.inj H).symm,?_⟩
         refine zI ⟨[some 0,some 1,some 2,some 3,some 4,some 5,some 6,some 7,some 8,some 9],?_,?_,by rfl,by rfl⟩
         ·simp [CvL,Cv]
         ·exact ⟨cv,zB,zB,zB,cv,zB,(zQ nfA),zB,cv,zK xQ cl (fun _ _ _ _=>rfl),trivial⟩
        have hk32:(bLt v6_1 (r29.1.length:Nat))=true:=by simpa using hc
        replace H:=zO hc H
        refine rg zA ?_
        simp only [go_sem]
        refine zH ?_
        refine xI ?_
        refine zH ?_
        obtain ⟨f33,H⟩:=nI H
        refine rg zA ?_
        simp only [go_sem,Nat.reduceLeDiff,Nat.reduceLT,Nat.reduceAdd,reduceCtorEq,f33]
        repeat ((with_reducible refine aI ?_ ?_);exact an4)
        refine zH ?_
        refine zH ?_
        obtain ⟨f34,H⟩:=yH.1 H
        replace f34:=bZ.1 f34
        replace f34:=fun g=>uG.1 (f34 g)
        refine rg zA ?_
        simp only [go_sem,Nat.reduceLeDiff,Nat.reduceLT,Nat.reduceAdd]
        repeat ((with_reducible refine And.intro ?_ ?_);focus (first|(with_reducible trivial)|omega|exact f34|(intro g;have q:=f34 (by first|exact g|(rw [g];rfl)|simpa using g);first|exact q|exact ⟨q.1,q.2.1⟩|exact q.2.2|omega|exact ⟨g,q⟩|exact ⟨trivial,q⟩|exact ⟨g,q.1,q.2.1⟩|exact ⟨g,q.2.2⟩)|(intro g;(try have q0:=f34 (by first|exact g|(rw [g];rfl)|simpa using g));and_intros<;>first|(with_reducible trivial)|assumption|exact nfc|(intro g2;rw [g,g2];rfl)|(intro g2;assumption)|(simp only [g,Bool.true_and,Bool.and_true,Bool.not_false,Bool.not_true];assumption)|grind)|(and_intros<;>first|(with_reducible trivial)|omega|assumption|exact nfc|first|exact rfl|exact trivial|exact uV|exact .inr rfl|exact .inl rfl|exact fun x hx=>absurd hx (by omega))|grind))
        refine yE rfl trivial (fun hc=>?_) (fun hc=>?_)
        ·have hk35:(((bLt (((gd r29.1 v6_1.toNat).Head).Seq) 0) || (bLe (v6_2.length:Nat) (((gd r29.1 v6_1.toNat).Head).Seq))) || (!bEq (gd v6_2 ((((gd r29.1 v6_1.toNat).Head).Seq).toNat)) 0))=true:=by simpa using hc
         replace H:=zO hc H
         refine sq zA ?_
         simp only [go_sem]
         refine rg zA ?_
         simp only [go_sem]
         obtain ⟨q36,H,hq37⟩:=bsi H
         replace hq37:=hn2_6 _ (Option.some.inj hq37).symm
         obtain rfl:=(Option.some.inj hq37).symm
         refine ⟨_,(Option.some.inj H).symm,?_⟩
         refine zI ⟨[some 0,some 1,some 2,some 3,some 4,some 5,some 6,some 7,some 8,some 9],?_,?_,by rfl,by rfl⟩
         ·simp [CvL,Cv]
         ·exact ⟨cv,zB,zB,zB,cv,zB,(zQ nfA),zB,cv,zK xQ cl (fun _ _ _ _=>rfl),trivial⟩
        have hk35:(((bLt (((gd r29.1 v6_1.toNat).Head).Seq) 0) || (bLe (v6_2.length:Nat) (((gd r29.1 v6_1.toNat).Head).Seq))) || (!bEq (gd v6_2 ((((gd r29.1 v6_1.toNat).Head).Seq).toNat)) 0))=false:=by simpa using hc
        replace H:=zN hc H
        refine rg zA ?_
        simp only [go_sem]
        obtain ⟨f38,H⟩:=nI H
        refine rg zA ?_
        simp only [go_sem,Nat.reduceLeDiff,Nat.reduceLT,Nat.reduceAdd,f38]
        repeat ((with_reducible refine aI ?_ ?_);exact an4)
        refine rg zA ?_
        simp only [go_sem]
        refine ⟨_,(Option.some.inj H).symm,?_⟩
        refine zI ⟨[some 0,some 1,some 2,some 3,some 4,some 5,some 6,some 7,some 8,some 9],?_,?_,by rfl,by rfl⟩
        ·simp [CvL,Cv,yB]
        ·exact ⟨cv,zB,zB,zB,cv,zB,(zQ nfA),zB,cv,zK xQ cl (fZ (f:=yQ) v6_2 ((((gd r29.1 v6_1.toNat).Head).Seq).toNat) 0 2 (fun _ _ _ _=>rfl) (fun y hy=>match y,hy with|0,_=>rfl|(y+1),h=>absurd h nlt)),trivial⟩
       ·try dsimp only at H ⊢
        try simp only [tp]
        try simp only [yR]
        refine sq zA ?_
        simp only [go_sem]
        refine rg zA ?_
        simp only [go_sem]
        refine ⟨_,(Option.some.inj H).symm,?_⟩
        refine zI ⟨[some 0,some 1,some 2,some 3,some 4,some 5,some 6,some 7,some 8,some 9],?_,?_,by rfl,by rfl⟩
        ·simp [CvL,Cv]
        ·exact ⟨cv,zB,zB,zB,cv,zB,(zQ nfA),zB,cv,zK xQ cl (fun _ _ _ _=>rfl),trivial⟩
      ·obtain ⟨w5_1,w5_2⟩:=e
       try dsimp only at H ⊢
       try simp only [tp]
       try simp only [vD]
       try simp only [go_sem]
       refine xE zL zA 2 ?_
       simp only [zJ,tS,tZ,dS,dZ,go_sem]
       repeat ((with_reducible refine aI ?_ ?_);exact an5)
       refine wX ?_
       refine yE rfl trivial (fun hc=>?_) (fun hc=>?_)
       ·have hk39:(w5_1)=false:=by simpa using hc
        replace H:=zO hc H
        refine sq zA ?_
        simp only [go_sem]
        refine rg zA ?_
        simp only [go_sem]
        refine ⟨_,(Option.some.inj H).symm,?_⟩
        refine zI ⟨[some 0,some 1,some 2,some 3,some 4,some 5,some 6,some 7,some 9],?_,?_,by rfl,by rfl⟩
        ·simp [CvL,Cv]
        ·exact ⟨cv,zB,zB,zB,cv,zB,(zQ nfA),zB,zK xQ cl (fun _ _ _ _=>rfl),trivial⟩
       have hk39:(w5_1)=true:=by simpa using hc
       replace H:=zN hc H
       refine rg zA ?_
       simp only [go_sem]
       refine sq zA ?_
       simp only [go_sem,Nat.reduceLeDiff,Nat.reduceLT,Nat.reduceAdd,reduceCtorEq]
       repeat ((with_reducible refine aI ?_ ?_);exact an4)
       refine zH ?_
       obtain ⟨r40,e41,H⟩:=bsi H
       refine rg ct3t7_ok ?_
       simp only [go_sem,Nat.reduceLeDiff,Nat.reduceLT,Nat.reduceAdd,reduceCtorEq,ct3t7_16,body16,e41]
       repeat ((with_reducible refine aI ?_ ?_);exact an0)
       refine zH ?_
       obtain ⟨r42,e43,H⟩:=bsi H
       refine rg ct3t8_ok ?_
       simp only [go_sem,Nat.reduceLT,Nat.reduceAdd,ct3t8_30,body30,e43]
       repeat ((with_reducible refine aI ?_ ?_);exact an0)
       refine zH ?_
       refine eM [12] ?_ ?_
       ·simp only [go_sem,Nat.reduceBEq]
        try exact at0
       simp only [go_sem,Nat.reduceBEq,Nat.reduceAdd]
       obtain ⟨r44,e45,H⟩:=bsi H
       refine rg ct3t9_ok ?_
       simp only [go_sem,Nat.reduceLT,Nat.reduceAdd,ct3t9_31,body31,e45]
       repeat ((with_reducible refine aI ?_ ?_);exact an0)
       refine zH ?_
       refine sq zA ?_
       simp only [go_sem]
       repeat ((with_reducible refine aI ?_ ?_);exact an4)
       refine yE rfl trivial (fun hc=>?_) (fun hc=>?_)
       ·have hk46:(((!bEq r40.2 0) || (!bEq r42.2 0)) || (!bEq r44.2 0))=true:=by simpa using hc
        replace H:=zO hc H
        refine sq zA ?_
        simp only [go_sem]
        refine rg zA ?_
        simp only [go_sem]
        refine ⟨_,(Option.some.inj H).symm,?_⟩
        refine zI ⟨[some 0,some 1,some 2,some 3,some 4,some 5,some 6,some 7,some 9],?_,?_,by rfl,by rfl⟩
        ·simp [CvL,Cv]
        ·exact ⟨cv,zB,zB,zB,cv,zB,(zQ nfA),zB,zK xQ cl (fun _ _ _ _=>rfl),trivial⟩
       have hk46:(((!bEq r40.2 0) || (!bEq r42.2 0)) || (!bEq r44.2 0))=false:=by simpa using hc
       replace H:=zN hc H
       refine rg zA ?_
       simp only [go_sem]
       refine zH ?_
       obtain ⟨r47,e48,H⟩:=bsi H
       refine rg ct3t10_ok ?_
       simp only [go_sem,Nat.reduceLT,Nat.reduceAdd,ct3t10_18,body18,e48]
       repeat ((with_reducible refine aI ?_ ?_);exact an0)
       refine zH ?_
       refine xI ?_
       refine xA (fun s:Bool × Int × Int × (List TSleeper) × (List TStored) × (List Int) × Int × Int × Int × Int=>(.ptr 4 0 0 0::tp 13 (.bool s.1::tp 158 []))) (fun s=>[.lit 23 [.int .i64 p0.Id,.int .i64 p0.Start,.int .i64 p0.Every,.int .i64 p0.Length,.int .i64 p0.Group],.dead,.dead,.dead,.lit 40 [.int .i64 p0.Id,.int .i64 p0.Start,.int .i64 p0.Every,.int .i64 p0.Length,.int .i64 p0.Group,.int .i64 s.2.1,.int .i64 s.2.2.1,.ro 3 s.2.2.2.1.length false (enR zF s.2.2.2.1),.ro 43 s.2.2.2.2.1.length false (enR zD s.2.2.2.2.1),.int .i64 r21.1,.sl 14 1 0 s.2.2.2.2.2.1.length false,.int .i64 (wr .i64 (v3_7+1)),.int .i64 s.2.2.2.2.2.2.1,.int .i64 s.2.2.2.2.2.2.2.1,.int .i64 s.2.2.2.2.2.2.2.2.1,.int .i64 s.2.2.2.2.2.2.2.2.2,.sl 6 1 0 v1_10.length false],.dead,.row 5 1 v1_10.length (enR yG v1_10),.dead,.dead,.dead,.dead,.dead,.dead,.dead,.row 3 1 s.2.2.2.2.2.1.length (enR yQ s.2.2.2.2.2.1)]) (fun e:Int × Int × (List TSleeper) × (List TStored) × (List Int) × Int × Int × Int × Int=>(.ptr 4 0 0 0::tp 172 [])) (fun e=>[.lit 23 [.int .i64 p0.Id,.int .i64 p0.Start,.int .i64 p0.Every,.int .i64 p0.Length,.int .i64 p0.Group],.dead,.dead,.dead,.lit 40 [.int .i64 p0.Id,.int .i64 p0.Start,.int .i64 p0.Every,.int .i64 p0.Length,.int .i64 p0.Group,.int .i64 e.1,.int .i64 e.2.1,.ro 3 e.2.2.1.length false (enR zF e.2.2.1),.ro 43 e.2.2.2.1.length false (enR zD e.2.2.2.1),.int .i64 r21.1,.sl 14 1 0 e.2.2.2.2.1.length false,.int .i64 (wr .i64 (v3_7+1)),.int .i64 e.2.2.2.2.2.1,.int .i64 e.2.2.2.2.2.2.1,.int .i64 e.2.2.2.2.2.2.2.1,.int .i64 e.2.2.2.2.2.2.2.2,.sl 6 1 0 v1_10.length false],.dead,.row 5 1 v1_10.length (enR yG v1_10),.dead,.dead,.dead,.dead,.dead,.dead,.dead,.row 3 1 e.2.2.2.2.1.length (enR yQ e.2.2.2.2.1)]) H ?_ (fun s o H hn1_7 hn2_7=>?_) (fun e H=>?_)
       ·refine zI ⟨[some 0,some 1,some 2,some 3,some 4,some 5,some 6,some 7,some 8,some 9,some 10,some 11,some 12,some 13,some 9],?_,?_,by rfl,by rfl⟩
        ·simp [CvL,Cv,yB,tp]
        ·exact ⟨cv,zB,zB,zB,cv,zB,(zQ nfA),zB,zB,zB,zB,zB,zB,zB,zK xQ cl (fun _ _ _ _=>rfl),trivial⟩
       ·obtain ⟨v7_1,v7_2,v7_3,v7_4,v7_5,v7_6,v7_7,v7_8,v7_9,v7_10⟩:=s
        unfold F3_L7 at H
        try dsimp only at H ⊢
        try simp only [tp]
        refine zH ?_
        refine sq zA ?_
        simp only [go_sem,Nat.reduceAdd]
        refine condM' rfl trivial (fun hc=>?_) (fun hc=>?_)
        ·have hk49:(v7_1)=false:=by simpa using hc
         replace H:=zN hc H
         refine rg zA ?_
         simp only [go_sem]
         refine ⟨_,(Option.some.inj H).symm,?_⟩
         refine zI ⟨[some 0,some 1,some 2,some 3,some 4,some 5,some 6,some 7,some 8,some 9,some 10,some 11,some 12,some 13,some 14],?_,?_,by rfl,by rfl⟩
         ·simp [CvL,Cv,yB]
         ·exact ⟨cv,zB,zB,zB,cv,zB,(zQ nfA),zB,zB,zB,zB,zB,zB,zB,zK xQ cl (fun _ _ _ _=>rfl),trivial⟩
        have hk49:(v7_1)=true:=by simpa using hc
        replace H:=zO hc H
        refine rg zA ?_
        simp only [go_sem]
        refine xI ?_
        refine zH ?_
        obtain ⟨r50,e51,H⟩:=bsi H
        refine rg ct3t11_ok ?_
        simp only [go_sem,Nat.reduceLeDiff,Nat.reduceLT,Nat.reduceAdd,reduceCtorEq,ct3t11_17,body17,e51]
        repeat ((with_reducible refine aI ?_ ?_);exact an0)
        refine sq zA ?_
        simp only [go_sem,Nat.reduceLeDiff,Nat.reduceLT,Nat.reduceAdd,reduceCtorEq]
        repeat ((with_reducible refine aI ?_ ?_);exact an4)
        refine zH ?_
        refine zH ?_
        obtain ⟨f52,H⟩:=yH.1 H
        replace f52:=bZ.1 f52
        replace f52:=fun g=>uG.1 (f52 g)
        refine rg zA ?_
        simp only [go_sem,Nat.reduceLeDiff,Nat.reduceLT,Nat.reduceAdd]
        repeat ((with_reducible refine And.intro ?_ ?_);focus (first|(with_reducible trivial)|omega|exact f52|(intro g;have q:=f52 (by first|exact g|(rw [g];rfl)|simpa using g);first|exact q|exact ⟨q.1,q.2.1⟩|exact q.2.2|omega|exact ⟨g,q⟩|exact ⟨trivial,q⟩|exact ⟨g,q.1,q.2.1⟩|exact ⟨g,q.2.2⟩)|(intro g;(try have q0:=f52 (by first|exact g|(rw [g];rfl)|simpa using g));and_intros<;>first|(with_reducible trivial)|assumption|exact nfc|(intro g2;rw [g,g2];rfl)|(intro g2;assumption)|(simp only [g,Bool.true_and,Bool.and_true,Bool.not_false,Bool.not_true];assumption)|grind)|(and_intros<;>first|(with_reducible trivial)|omega|assumption|exact nfc|first|exact rfl|exact trivial|exact uV|exact .inr rfl|exact .inl rfl|exact fun x hx=>absurd hx (by omega))|grind))
        refine yE rfl trivial (fun hc=>?_) (fun hc=>?_)
        ·have hk53:((((!bEq r50.2.2 0) || (bLt r50.1.Head.Seq 0)) || (bLe (v7_6.length:Nat) r50.1.Head.Seq)) || (!bEq (gd v7_6 r50.1.Head.Seq.toNat) 0))=true:=by simpa using hc
         replace H:=zO hc H
         refine sq zA ?_
         simp only [go_sem]
         refine rg zA ?_
         simp only [go_sem]
         obtain ⟨q54,H,hq55⟩:=bsi H
         replace hq55:=hn2_7 _ (Option.some.inj hq55).symm
         obtain rfl:=(Option.some.inj hq55).symm
         refine ⟨_,(Option.some.inj H).symm,?_⟩
         refine zI ⟨[some 0,some 1,some 2,some 3,some 4,some 5,some 6,some 7,some 14],?_,?_,by rfl,by rfl⟩
         ·simp [CvL,Cv]
         ·exact ⟨cv,zB,zB,zB,cv,zB,(zQ nfA),zB,zK xQ cl (fun _ _ _ _=>rfl),trivial⟩
        have hk53:((((!bEq r50.2.2 0) || (bLt r50.1.Head.Seq 0)) || (bLe (v7_6.length:Nat) r50.1.Head.Seq)) || (!bEq (gd v7_6 r50.1.Head.Seq.toNat) 0))=false:=by simpa using hc
        replace H:=zN hc H
        refine rg zA ?_
        simp only [go_sem]
        refine zH ?_
        obtain ⟨f56,H⟩:=nI H
        refine rg zA ?_
        simp only [go_sem,Nat.reduceLT,Nat.reduceAdd,f56]
        repeat ((with_reducible refine aI ?_ ?_);exact an4)
        refine zH ?_
        refine zH ?_
        obtain ⟨f57,H⟩:=nI H
        have gv58:zR [.int .i64 p0.Id,.int .i64 p0.Start,.int .i64 p0.Every,.int .i64 p0.Length,.int .i64 p0.Group,.int .i64 v7_2,.int .i64 v7_3,.ro 3 v7_4.length false (enR zF v7_4),.ro 43 v7_5.length false (enR zD v7_5),.int .i64 r21.1,.sl 14 1 0 v7_6.length false,.int .i64 (wr .i64 (v3_7+1)),.int .i64 v7_7,.int .i64 v7_8,.int .i64 v7_9,.int .i64 v7_10,.sl 6 1 0 v1_10.length false] (12+(gd v1_10 r50.1.Head.Seq.toNat).toNat) = .int .i64 (gd [v7_7,v7_8,v7_9,v7_10] ((gd v1_10 r50.1.Head.Seq.toNat).toNat)):=by (have gq59:(gd v1_10 r50.1.Head.Seq.toNat).toNat=0 ∨ (gd v1_10 r50.1.Head.Seq.toNat).toNat=1 ∨ (gd v1_10 r50.1.Head.Seq.toNat).toNat=2 ∨ (gd v1_10 r50.1.Head.Seq.toNat).toNat=3:=(by omega));rcases gq59 with h|h|h|h<;>rw [h]<;>rfl
        refine rg zA ?_
        simp only [go_sem,Nat.reduceLeDiff,Nat.reduceAdd,Nat.reduceBEq,reduceCtorEq,f57,gv58]
        repeat ((with_reducible refine aI ?_ ?_);exact an4)
        refine yE rfl trivial (fun hc=>?_) (fun hc=>?_)
        ·have hk60:(bLt r50.1.Head.Seq (gd [v7_7,v7_8,v7_9,v7_10] ((gd v1_10 r50.1.Head.Seq.toNat).toNat)))=true:=by simpa using hc
         replace H:=zO hc H
         refine sq zA ?_
         simp only [go_sem]
         refine rg zA ?_
         simp only [go_sem]
         obtain ⟨q61,H,hq62⟩:=bsi H
         replace hq62:=hn2_7 _ (Option.some.inj hq62).symm
         obtain rfl:=(Option.some.inj hq62).symm
         refine ⟨_,(Option.some.inj H).symm,?_⟩
         refine zI ⟨[some 0,some 1,some 2,some 3,some 4,some 5,some 6,some 7,some 14],?_,?_,by rfl,by rfl⟩
         ·simp [CvL,Cv]
         ·exact ⟨cv,zB,zB,zB,cv,zB,(zQ nfA),zB,zK xQ cl (fun _ _ _ _=>rfl),trivial⟩
        have hk60:(bLt r50.1.Head.Seq (gd [v7_7,v7_8,v7_9,v7_10] ((gd v1_10 r50.1.Head.Seq.toNat).toNat)))=false:=by simpa using hc
        replace H:=zN hc H
        refine rg zA ?_
        simp only [go_sem]
        refine zH ?_
        obtain ⟨f63,H⟩:=nI H
        have gv64:setL [.int .i64 p0.Id,.int .i64 p0.Start,.int .i64 p0.Every,.int .i64 p0.Length,.int .i64 p0.Group,.int .i64 v7_2,.int .i64 v7_3,.ro 3 v7_4.length false (enR zF v7_4),.ro 43 v7_5.length false (enR zD v7_5),.int .i64 r21.1,.sl 14 1 0 v7_6.length false,.int .i64 (wr .i64 (v3_7+1)),.int .i64 v7_7,.int .i64 v7_8,.int .i64 v7_9,.int .i64 v7_10,.sl 6 1 0 v1_10.length false] (12+(gd v1_10 r50.1.Head.Seq.toNat).toNat) (.int .i64 r50.1.Head.Seq)=[.int .i64 p0.Id,.int .i64 p0.Start,.int .i64 p0.Every,.int .i64 p0.Length,.int .i64 p0.Group,.int .i64 v7_2,.int .i64 v7_3,.ro 3 v7_4.length false (enR zF v7_4),.ro 43 v7_5.length false (enR zD v7_5),.int .i64 r21.1,.sl 14 1 0 v7_6.length false,.int .i64 (wr .i64 (v3_7+1)),.int .i64 (gd ([v7_7,v7_8,v7_9,v7_10].set ((gd v1_10 r50.1.Head.Seq.toNat).toNat) r50.1.Head.Seq) 0),.int .i64 (gd ([v7_7,v7_8,v7_9,v7_10].set ((gd v1_10 r50.1.Head.Seq.toNat).toNat) r50.1.Head.Seq) 1),.int .i64 (gd ([v7_7,v7_8,v7_9,v7_10].set ((gd v1_10 r50.1.Head.Seq.toNat).toNat) r50.1.Head.Seq) 2),.int .i64 (gd ([v7_7,v7_8,v7_9,v7_10].set ((gd v1_10 r50.1.Head.Seq.toNat).toNat) r50.1.Head.Seq) 3),.sl 6 1 0 v1_10.length false]:=by (have gq65:(gd v1_10 r50.1.Head.Seq.toNat).toNat=0 ∨ (gd v1_10 r50.1.Head.Seq.toNat).toNat=1 ∨ (gd v1_10 r50.1.Head.Seq.toNat).toNat=2 ∨ (gd v1_10 r50.1.Head.Seq.toNat).toNat=3:=(by omega));rcases gq65 with h|h|h|h<;>rw [h]<;>rfl
        refine rg zA ?_
        simp only [go_sem,Nat.reduceLeDiff,Nat.reduceAdd,Nat.reduceBEq,reduceCtorEq,f63,gv64]
        repeat ((with_reducible refine aI ?_ ?_);exact an4)
        refine zH ?_
        obtain ⟨f66,H⟩:=nI H
        refine rg zA ?_
        simp only [go_sem,Nat.reduceLeDiff,Nat.reduceLT,Nat.reduceAdd,f66]
        repeat ((with_reducible refine aI ?_ ?_);exact an4)
        refine sq zA ?_
        simp only [go_sem,Nat.reduceLeDiff,Nat.reduceLT,Nat.reduceAdd,reduceCtorEq]
        repeat ((with_reducible refine aI ?_ ?_);exact an4)
        refine rg zA ?_
        simp only [go_sem,Nat.reduceLeDiff,Nat.reduceLT,Nat.reduceAdd,reduceCtorEq]
        repeat ((with_reducible refine aI ?_ ?_);exact an4)
        refine ⟨_,(Option.some.inj H).symm,?_⟩
        refine zI ⟨[some 0,some 1,some 2,some 3,some 4,some 5,some 6,some 7,some 8,some 9,some 10,some 11,some 12,some 13,some 14],?_,?_,by rfl,by rfl⟩
        ·simp [CvL,Cv,yB]
        ·exact ⟨cv,zB,zB,zB,cv,zB,(zQ nfA),zB,zB,zB,zB,zB,zB,zB,zK xQ cl (fZ (f:=yQ) v7_6 r50.1.Head.Seq.toNat 0 1 (fun _ _ _ _=>rfl) (fun y hy=>match y,hy with|0,_=>rfl|(y+1),h=>absurd h nlt)),trivial⟩
       ·obtain ⟨w7_11,w7_12,w7_13,w7_14,w7_15,w7_16,w7_17,w7_18,w7_19⟩:=e
        try dsimp only at H ⊢
        try simp only [tp]
        try simp only [yR]
        refine zH ?_
        refine sq zA ?_
        simp only [go_sem]
        refine xI ?_
        refine xA (fun s:Int=>(.ptr 4 0 0 0::tp 19 (.int .i64 s::tp 152 []))) (fun s=>[.lit 23 [.int .i64 p0.Id,.int .i64 p0.Start,.int .i64 p0.Every,.int .i64 p0.Length,.int .i64 p0.Group],.dead,.dead,.dead,.lit 40 [.int .i64 p0.Id,.int .i64 p0.Start,.int .i64 p0.Every,.int .i64 p0.Length,.int .i64 p0.Group,.int .i64 w7_11,.int .i64 w7_12,.ro 3 w7_13.length false (enR zF w7_13),.ro 43 w7_14.length false (enR zD w7_14),.int .i64 r21.1,.sl 14 1 0 w7_15.length false,.int .i64 (wr .i64 (v3_7+1)),.int .i64 w7_16,.int .i64 w7_17,.int .i64 w7_18,.int .i64 w7_19,.sl 6 1 0 v1_10.length false],.dead,.row 5 1 v1_10.length (enR yG v1_10),.dead,.dead,.dead,.dead,.dead,.dead,.dead,.row 3 1 w7_15.length (enR yQ w7_15)]) (fun e:Unit=>(tp 173 [])) (fun e=>[.lit 23 [.int .i64 p0.Id,.int .i64 p0.Start,.int .i64 p0.Every,.int .i64 p0.Length,.int .i64 p0.Group],.dead,.dead,.dead,.lit 40 [.int .i64 p0.Id,.int .i64 p0.Start,.int .i64 p0.Every,.int .i64 p0.Length,.int .i64 p0.Group,.int .i64 w7_11,.int .i64 w7_12,.ro 3 w7_13.length false (enR zF w7_13),.ro 43 w7_14.length false (enR zD w7_14),.int .i64 r21.1,.sl 14 1 0 w7_15.length false,.int .i64 (wr .i64 (v3_7+1)),.int .i64 w7_16,.int .i64 w7_17,.int .i64 w7_18,.int .i64 w7_19,.sl 6 1 0 v1_10.length false],.dead,.row 5 1 v1_10.length (enR yG v1_10),.dead,.dead,.dead,.dead,.dead,.dead,.dead,.row 3 1 w7_15.length (enR yQ w7_15)]) H ?_ (fun v8_1 o H hn1_8 hn2_8=>?_) (fun e H=>?_)
        ·refine zI ⟨[some 0,some 1,some 2,some 3,some 4,some 5,some 6,some 7,some 8,some 9,some 10,some 11,some 12,some 13,some 14],?_,?_,by rfl,by rfl⟩
         ·simp [CvL,Cv,yB,tp]
         ·exact ⟨cv,zB,zB,zB,cv,zB,(zQ nfA),zB,zB,zB,zB,zB,zB,zB,(zQ nfA),trivial⟩
        ·unfold F3_L8 at H
         try dsimp only at H ⊢
         try simp only [tp]
         refine zH ?_
         refine sq zA ?_
         simp only [go_sem,Nat.reduceLeDiff,Nat.reduceLT,Nat.reduceAdd]
         repeat ((with_reducible refine aI ?_ ?_);exact an0)
         refine condM' rfl trivial (fun hc=>?_) (fun hc=>?_)
         ·have hk67:(bLt v8_1 (w7_15.length:Nat))=false:=by simpa using hc
          replace H:=zN hc H
          refine rg zA ?_
          simp only [go_sem]
          refine ⟨_,(Option.some.inj H).symm,?_⟩
          refine zI ⟨[some 0,some 1,some 2,some 3,some 4,some 5,some 6,some 7,some 8,some 9,some 10,some 11,some 12,some 13,some 14],?_,?_,by rfl,by rfl⟩
          ·simp [CvL,Cv]
          ·exact ⟨cv,zB,zB,zB,cv,zB,(zQ nfA),zB,zB,zB,zB,zB,zB,zB,(zQ nfA),trivial⟩
         have hk67:(bLt v8_1 (w7_15.length:Nat))=true:=by simpa using hc
         replace H:=zO hc H
         refine rg zA ?_
         simp only [go_sem]
         refine zH ?_
         refine xI ?_
         refine zH ?_
         obtain ⟨f68,H⟩:=nI H
         refine rg zA ?_
         simp only [go_sem,Nat.reduceLeDiff,Nat.reduceLT,Nat.reduceAdd,f68]
         repeat ((with_reducible refine aI ?_ ?_);exact an4)
         refine condM' rfl trivial (fun hc=>?_) (fun hc=>?_)
         ·have hk69:(bEq (gd w7_15 v8_1.toNat) 0)=false:=by simpa using hc
          replace H:=zN hc H
          refine rg zA ?_
          simp only [go_sem]
          refine rg zA ?_
          simp only [go_sem]
          refine ⟨_,(Option.some.inj H).symm,?_⟩
          refine zI ⟨[some 0,some 1,some 2,some 3,some 4,some 5,some 6,some 7,some 8,some 9,some 10,some 11,some 12,some 13,some 14],?_,?_,by rfl,by rfl⟩
          ·simp [CvL,Cv,yB]
          ·exact ⟨cv,zB,zB,zB,cv,zB,(zQ nfA),zB,zB,zB,zB,zB,zB,zB,(zQ nfA),trivial⟩
         have hk69:(bEq (gd w7_15 v8_1.toNat) 0)=true:=by simpa using hc
         replace H:=zO hc H
         refine sq zA ?_
         simp only [go_sem]
         refine rg zA ?_
         simp only [go_sem]
         obtain ⟨q70,H,hq71⟩:=bsi H
         replace hq71:=hn2_8 _ (Option.some.inj hq71).symm
         obtain rfl:=(Option.some.inj hq71).symm
         refine ⟨_,(Option.some.inj H).symm,?_⟩
         refine zI ⟨[some 0,some 1,some 2,some 3,some 4,some 5,some 6,some 7,some 14],?_,?_,by rfl,by rfl⟩
         ·simp [CvL,Cv]
         ·exact ⟨cv,zB,zB,zB,cv,zB,(zQ nfA),zB,zK xQ cl (fun _ _ _ _=>rfl),trivial⟩
        ·try dsimp only at H ⊢
         try simp only [tp]
         try simp only [yR]
         refine sq zA ?_
         simp only [go_sem]
         refine rg zA ?_
         simp only [go_sem]
         refine ⟨_,(Option.some.inj H).symm,?_⟩
         refine zI ⟨[some 0,some 1,some 2,some 3,some 4,some 5,some 6,some 7,some 14],?_,?_,by rfl,by rfl⟩
         ·simp [CvL,Cv]
         ·exact ⟨cv,zB,zB,zB,cv,zB,(zQ nfA),zB,zK xQ cl (fun _ _ _ _=>rfl),trivial⟩
     ·obtain ⟨w4_1,w4_2,w4_3,w4_4,w4_5,w4_6,w4_7,w4_8,w4_9,w4_10⟩:=e
      try dsimp only at H ⊢
      try simp only [tp]
      try simp only [vD]
      try simp only [go_sem]
      refine xE zL zA 1 ?_
      simp only [zJ,tS,tZ,dS,dZ,go_sem]
      repeat ((with_reducible refine aI ?_ ?_);exact an0)
      refine wX ?_
      refine condM' rfl trivial (fun hc=>?_) (fun hc=>?_)
      ·have hk72:(w4_1)=true:=by simpa using hc
       replace H:=zN hc H
       refine rg zA ?_
       simp only [go_sem]
       refine ⟨_,(Option.some.inj H).symm,?_⟩
       refine zI ⟨[some 0,some 1,some 2,some 3,some 4,some 5,some 6,some 8],?_,?_,by rfl,by rfl⟩
       ·simp [CvL,Cv,yB]
       ·exact ⟨cv,zB,zB,zB,cv,zB,(zQ nfA),zK xQ cl (fun _ _ _ _=>rfl),trivial⟩
      have hk72:(w4_1)=false:=by simpa using hc
      replace H:=zO hc H
      refine sq zA ?_
      simp only [go_sem]
      refine rg zA ?_
      simp only [go_sem]
      obtain ⟨q73,H,hq74⟩:=bsi H
      replace hq74:=hn2_3 _ (Option.some.inj hq74).symm
      obtain rfl:=(Option.some.inj hq74).symm
      refine ⟨_,(Option.some.inj H).symm,?_⟩
      refine zI ⟨[some 0,some 1,some 2,some 3,some 4,some 5,some 6,some 8],?_,?_,by rfl,by rfl⟩
      ·simp [CvL,Cv]
      ·exact ⟨cv,zB,zB,zB,cv,zB,(zQ nfA),zK xQ cl (fun _ _ _ _=>rfl),trivial⟩
    ·obtain ⟨w3_12,w3_13,w3_14,w3_15,w3_16,w3_17,w3_18,w3_19,w3_20,w3_21,w3_22⟩:=e
     try dsimp only at H ⊢
     try simp only [tp]
     try simp only [yR,k_normal,b_normal,kL_normal,vD]
     cases H
   ·obtain ⟨w2_1,w2_2,w2_3,w2_4,w2_5,w2_6,w2_7,w2_8,w2_9,w2_10,w2_11,w2_12,w2_13⟩:=e
    try dsimp only at H ⊢
    try simp only [tp]
    try simp only [vD]
    try simp only [go_sem]
    refine xE zL zA 5 ?_
    simp only [zJ,tS,tZ,dS,dZ,go_sem,Nat.reduceLT,Nat.reduceAdd]
    repeat ((with_reducible refine aI ?_ ?_);exact an0)
    refine wX ?_
    refine zH ?_
    refine sq zA ?_
    simp only [go_sem]
    repeat ((with_reducible refine aI ?_ ?_);exact an4)
    refine yE rfl trivial (fun hc=>?_) (fun hc=>?_)
    ·have hk75:((!w2_1) || (!w2_2))=true:=by simpa using hc
     replace H:=zO hc H
     refine sq zA ?_
     simp only [go_sem]
     refine rg zA ?_
     simp only [go_sem]
     have H:=hn2_1 _ (Option.some.inj H).symm
     obtain rfl:=Option.some.inj H
     first|rfl|simp only [Bool.and_false,Bool.false_and,Bool.and_true,Bool.true_and]
    have hk75:((!w2_1) || (!w2_2))=false:=by simpa using hc
    replace H:=zN hc H
    refine rg zA ?_
    simp only [go_sem]
    refine zH ?_
    obtain ⟨r76,e77,H⟩:=bsi H
    obtain ⟨r78,e79,H⟩:=bsi H
    refine rg ct3t12_ok ?_
    simp only [go_sem,Nat.reduceLeDiff,Nat.reduceAdd,ct3t12_10,body10,ct3t12_11,body11,e77,e79]
    repeat ((with_reducible refine aI ?_ ?_);exact an0)
    refine zH ?_
    obtain ⟨f80,H⟩:=nC H
    refine rg zA ?_
    simp only [go_sem,Nat.reduceLeDiff,Nat.reduceLT,Nat.reduceAdd,Nat.reduceBEq,f80]
    repeat ((with_reducible refine aI ?_ ?_);exact an1)
    refine zH ?_
    obtain ⟨f81,H⟩:=nI H
    obtain ⟨f82,H⟩:=nC H
    refine yZ zL zA 2 (by kernel_rfl) (by kernel_rfl) ?_
    intro an han
    simp only [uC,wM,eG,xrD,xoD,tN,vS,List.append_nil,xK,refs,uI,mask,wT,place,xU,wV,wA,hit,inL,xM,ren,rnN,nrH,nrB,nrL,nr,rZ,rS,Nat.sub_self,Nat.add_zero,Nat.zero_add,Nat.reduceSub,Nat.lt_add_one,go_sem,Nat.reduceLeDiff,Nat.reduceLT,Nat.reduceAdd,Nat.reduceSub,Nat.reduceBEq,f81,f82]
    repeat ((with_reducible refine aI ?_ ?_);exact an2)
    refine zH ?_
    obtain ⟨f83,H⟩:=nI H
    obtain ⟨r84,e85,H⟩:=bsi H
    refine yZ zL ct3t13_ok 1 (by kernel_rfl) (by kernel_rfl) ?_
    intro an han
    simp only [uC,wM,eG,xrD,xoD,tN,vS,List.append_nil,xK,refs,uI,mask,wT,place,xU,wV,wA,hit,inL,xM,ren,eS,rnN,nrH,nrB,nrL,nr,rZ,rS,Nat.sub_self,Nat.add_zero,Nat.zero_add,Nat.reduceSub,Nat.lt_add_one,go_sem,Nat.reduceLeDiff,Nat.reduceLT,Nat.reduceAdd,Nat.reduceSub,Nat.reduceBEq,reduceCtorEq,ct3t13_12,body12,f83,e85]
    repeat ((with_reducible refine aI ?_ ?_);exact an2)
    refine zH ?_
    refine zH ?_
    refine wY (c:=((!bEq r84.2.2.2 0) || (bLt 0 (r84.1.length:Nat)))) (fun hg86=>?_) (fun hg86=>?_)
    ·replace H:=zO hg86 H
     refine rg zA ?_
     simp only [go_sem,hg86]
     repeat ((with_reducible refine aI ?_ ?_);exact an7)
     refine yE rfl trivial (fun hc=>?_) (fun hc=>?_)
     rotate_left
     ·cases hc
     refine sq zA ?_
     simp only [go_sem]
     refine rg zA ?_
     simp only [go_sem]
     have H:=hn2_1 _ (Option.some.inj H).symm
     obtain rfl:=Option.some.inj H
     first|rfl|simp only [Bool.and_false,Bool.false_and,Bool.and_true,Bool.true_and]
    replace H:=zN hg86 H
    refine tM ?_
    refine xE zL zA 10 ?_
    simp only [zJ,tS,tZ,dS,dZ,go_sem,hg86]
    repeat ((with_reducible refine aI ?_ ?_);exact an7)
    refine inlG (rs:=[.tmp 4]) Try.func13 (by kernel_rfl) rfl rfl Try.ntmps13 (caps:=[]) (tc:=[.ptr 4 0 0 0,.ro 41 r84.2.1.length false (enR zM r84.2.1)]) (by first|rfl|simp only [gok,go_sem,Nat.reduceLeDiff,Nat.reduceLT,Nat.reduceAdd,Nat.reduceMul,Nat.reduceSub,Nat.reduceEqDiff,Nat.reduceBEq,Int.reduceToNat,reduceCtorEq,hg86]) rfl (by simp only [go_sem]) rfl ?_
    simp only [lC,lN,Nat.reduceAdd,Nat.reduceSub,rS,rZ,aC,aN]
    refine qK (fun e:Bool × (List Int) × (List Int)=>(tp 4 (.bool e.1::tp 41 []))) (fun e=>[.lit 23 [.int .i64 p0.Id,.int .i64 p0.Start,.int .i64 p0.Every,.int .i64 p0.Length,.int .i64 p0.Group],.dead,.dead,.dead,.lit 40 [.int .i64 p0.Id,.int .i64 p0.Start,.int .i64 p0.Every,.int .i64 p0.Length,.int .i64 p0.Group,.int .i64 w2_3,.int .i64 w2_4,.ro 3 w2_5.length false (enR zF w2_5),.ro 43 w2_6.length false (enR zD w2_6),.int .i64 w2_7,.sl 14 1 0 e.2.1.length false,.int .i64 w2_9,.int .i64 w2_10,.int .i64 w2_11,.int .i64 w2_12,.int .i64 w2_13,.sl 15 1 0 e.2.2.length false],.dead,.dead,.dead,.dead,.dead,.dead,.dead,.dead,.lit 31 [.int .i64 r84.2.2.1.Limit,.int .i64 r84.2.2.1.Stay,.ro 3 r84.2.2.1.List.length false (enR zF r84.2.2.1.List),.ro 43 r84.2.2.1.Group.length false (enR zD r84.2.2.1.Group)],.row 3 1 e.2.1.length (enR yQ e.2.1),.row 5 1 e.2.2.length (enR yG e.2.2)]) H (fun o H hn1_9 hn2_9=>?_) (fun e H=>?_)
    ·unfold F3_L9 at H
     try dsimp only at H ⊢
     try simp only [tp]
     refine sq zA ?_
     simp only [go_sem,Nat.reduceAdd]
     refine zH ?_
     refine sq zA ?_
     simp only [go_sem]
     refine xI ?_
     refine xA (fun s:Int × (List Int) × (List Int)=>(.ptr 4 0 0 0::.ro 41 r84.2.1.length false (enR zM r84.2.1)::.top::.top::.top::.int .i64 s.1::tp 40 [])) (fun s=>[.lit 23 [.int .i64 p0.Id,.int .i64 p0.Start,.int .i64 p0.Every,.int .i64 p0.Length,.int .i64 p0.Group],.dead,.dead,.dead,.lit 40 [.int .i64 p0.Id,.int .i64 p0.Start,.int .i64 p0.Every,.int .i64 p0.Length,.int .i64 p0.Group,.int .i64 w2_3,.int .i64 w2_4,.ro 3 w2_5.length false (enR zF w2_5),.ro 43 w2_6.length false (enR zD w2_6),.int .i64 w2_7,.sl 14 1 0 s.2.1.length false,.int .i64 w2_9,.int .i64 w2_10,.int .i64 w2_11,.int .i64 w2_12,.int .i64 w2_13,.sl 15 1 0 s.2.2.length false],.dead,.dead,.dead,.dead,.dead,.dead,.dead,.dead,.lit 31 [.int .i64 r84.2.2.1.Limit,.int .i64 r84.2.2.1.Stay,.ro 3 r84.2.2.1.List.length false (enR zF r84.2.2.1.List),.ro 43 r84.2.2.1.Group.length false (enR zD r84.2.2.1.Group)],.row 3 1 s.2.1.length (enR yQ s.2.1),.row 5 1 s.2.2.length (enR yG s.2.2)]) (fun e:(List Int) × (List Int)=>(tp 46 [])) (fun e=>[.lit 23 [.int .i64 p0.Id,.int .i64 p0.Start,.int .i64 p0.Every,.int .i64 p0.Length,.int .i64 p0.Group],.dead,.dead,.dead,.lit 40 [.int .i64 p0.Id,.int .i64 p0.Start,.int .i64 p0.Every,.int .i64 p0.Length,.int .i64 p0.Group,.int .i64 w2_3,.int .i64 w2_4,.ro 3 w2_5.length false (enR zF w2_5),.ro 43 w2_6.length false (enR zD w2_6),.int .i64 w2_7,.sl 14 1 0 e.1.length false,.int .i64 w2_9,.int .i64 w2_10,.int .i64 w2_11,.int .i64 w2_12,.int .i64 w2_13,.sl 15 1 0 e.2.length false],.dead,.dead,.dead,.dead,.dead,.dead,.dead,.dead,.lit 31 [.int .i64 r84.2.2.1.Limit,.int .i64 r84.2.2.1.Stay,.ro 3 r84.2.2.1.List.length false (enR zF r84.2.2.1.List),.ro 43 r84.2.2.1.Group.length false (enR zD r84.2.2.1.Group)],.row 3 1 e.1.length (enR yQ e.1),.row 5 1 e.2.length (enR yG e.2)]) H ?_ (fun s o H hn1_10 hn2_10=>?_) (fun e H=>?_)
     ·refine zI ⟨[some 0,some 1,some 2,some 3,some 4,some 5,some 6,some 7,some 8,some 9,some 10,some 11,some 12,some 13,some 10,some 12],?_,?_,by rfl,by rfl⟩
      ·simp [CvL,Cv,yB,tp]
      ·exact ⟨cv,zB,zB,zB,cv,zB,zB,zB,zB,zB,zB,zB,zB,cv,zK xQ cl (wW (f:=yQ) w2_8 [0] (fun _ _ _ _=>rfl) (yY (f:=yQ) [0] (fun _ _=>rfl) rfl)),zK xT cl (wW (f:=yG) v1_10 [(gd p3 v1_2.toNat).Cat] (fun _ _ _ _=>rfl) (yY (f:=yG) [(gd p3 v1_2.toNat).Cat] (fun _ _=>rfl) rfl)),trivial⟩
     ·obtain ⟨v10_1,v10_2,v10_3⟩:=s
      unfold F3_L10 at H
      try dsimp only at H ⊢
      try simp only [tp]
      refine zH ?_
      refine sq zA ?_
      simp only [go_sem,Nat.reduceAdd]
      repeat ((with_reducible refine aI ?_ ?_);exact an0)
      refine condM' rfl trivial (fun hc=>?_) (fun hc=>?_)
      ·have hk87:(bLt v10_1 (r84.2.1.length:Nat))=false:=by simpa using hc
       replace H:=zN hc H
       refine rg zA ?_
       simp only [go_sem]
       refine ⟨_,(Option.some.inj H).symm,?_⟩
       refine zI ⟨[some 0,some 1,some 2,some 3,some 4,some 5,some 6,some 7,some 8,some 9,some 10,some 11,some 12,some 13,some 14,some 15],?_,?_,by rfl,by rfl⟩
       ·simp [CvL,Cv]
       ·exact ⟨cv,zB,zB,zB,cv,zB,zB,zB,zB,zB,zB,zB,zB,cv,zK xQ cl (fun _ _ _ _=>rfl),zK xT cl (fun _ _ _ _=>rfl),trivial⟩
      have hk87:(bLt v10_1 (r84.2.1.length:Nat))=true:=by simpa using hc
      replace H:=zO hc H
      refine rg zA ?_
      simp only [go_sem]
      refine zH ?_
      refine xI ?_
      refine zH ?_
      obtain ⟨f88,H⟩:=nI H
      refine rg zA ?_
      simp only [go_sem,Nat.reduceLeDiff,Nat.reduceLT,Nat.reduceAdd,reduceCtorEq,f88]
      repeat ((with_reducible refine aI ?_ ?_);exact an4)
      refine zH ?_
      refine zH ?_
      obtain ⟨f89,H⟩:=yH.1 H
      replace f89:=bZ.1 f89
      replace f89:=fun g=>uG.1 (f89 g)
      refine rg zA ?_
      simp only [go_sem,Nat.reduceLeDiff,Nat.reduceLT,Nat.reduceAdd]
      repeat ((with_reducible refine And.intro ?_ ?_);focus (first|(with_reducible trivial)|omega|exact f89|(intro g;have q:=f89 (by first|exact g|(rw [g];rfl)|simpa using g);first|exact q|exact ⟨q.1,q.2.1⟩|exact q.2.2|omega|exact ⟨g,q⟩|exact ⟨trivial,q⟩|exact ⟨g,q.1,q.2.1⟩|exact ⟨g,q.2.2⟩)|(intro g;(try have q0:=f89 (by first|exact g|(rw [g];rfl)|simpa using g));and_intros<;>first|(with_reducible trivial)|assumption|exact nfc|(intro g2;rw [g,g2];rfl)|(intro g2;assumption)|(simp only [g,Bool.true_and,Bool.and_true,Bool.not_false,Bool.not_true];assumption)|grind)|(and_intros<;>first|(with_reducible trivial)|omega|assumption|exact nfc|first|exact rfl|exact trivial|exact uV|exact .inr rfl|exact .inl rfl|exact fun x hx=>absurd hx (by omega))|grind))
      refine yE rfl trivial (fun hc=>?_) (fun hc=>?_)
      ·have hk90:(((bLt (((gd r84.2.1 v10_1.toNat).Head).Seq) 0) || (bLe (v10_2.length:Nat) (((gd r84.2.1 v10_1.toNat).Head).Seq))) || (!bEq (gd v10_2 ((((gd r84.2.1 v10_1.toNat).Head).Seq).toNat)) 0))=true:=by simpa using hc
       replace H:=zO hc H
       refine sq zA ?_
       simp only [go_sem]
       refine rg zA ?_
       simp only [go_sem]
       obtain ⟨q91,H,hq92⟩:=bsi H
       replace hq92:=hn2_10 _ (Option.some.inj hq92).symm
       obtain rfl:=(Option.some.inj hq92).symm
       refine ⟨_,(Option.some.inj H).symm,?_⟩
       refine zI ⟨[some 0,some 1,some 2,some 3,some 4,some 5,some 6,some 7,some 8,some 9,some 10,some 11,some 12,some 13,some 14,some 15],?_,?_,by rfl,by rfl⟩
       ·simp [CvL,Cv]
       ·exact ⟨cv,zB,zB,zB,cv,zB,zB,zB,zB,zB,zB,zB,zB,cv,zK xQ cl (fun _ _ _ _=>rfl),zK xT cl (fun _ _ _ _=>rfl),trivial⟩
      have hk90:(((bLt (((gd r84.2.1 v10_1.toNat).Head).Seq) 0) || (bLe (v10_2.length:Nat) (((gd r84.2.1 v10_1.toNat).Head).Seq))) || (!bEq (gd v10_2 ((((gd r84.2.1 v10_1.toNat).Head).Seq).toNat)) 0))=false:=by simpa using hc
      replace H:=zN hc H
      refine rg zA ?_
      simp only [go_sem]
      obtain ⟨f93,H⟩:=nI H
      refine rg zA ?_
      simp only [go_sem,Nat.reduceLeDiff,Nat.reduceLT,Nat.reduceAdd,f93]
      repeat ((with_reducible refine aI ?_ ?_);exact an4)
      refine rg zA ?_
      simp only [go_sem]
      refine ⟨_,(Option.some.inj H).symm,?_⟩
      refine zI ⟨[some 0,some 1,some 2,some 3,some 4,some 5,some 6,some 7,some 8,some 9,some 10,some 11,some 12,some 13,some 14,some 15],?_,?_,by rfl,by rfl⟩
      ·simp [CvL,Cv,yB]
      ·exact ⟨cv,zB,zB,zB,cv,zB,zB,zB,zB,zB,zB,zB,zB,cv,zK xQ cl (fZ (f:=yQ) v10_2 ((((gd r84.2.1 v10_1.toNat).Head).Seq).toNat) 0 2 (fun _ _ _ _=>rfl) (fun y hy=>match y,hy with|0,_=>rfl|(y+1),h=>absurd h nlt)),zK xT cl (fun _ _ _ _=>rfl),trivial⟩
     ·obtain ⟨w10_4,w10_5⟩:=e
      try dsimp only at H ⊢
      try simp only [tp]
      try simp only [yR]
      refine sq zA ?_
      simp only [go_sem]
      refine rg zA ?_
      simp only [go_sem]
      refine ⟨_,(Option.some.inj H).symm,?_⟩
      refine zI ⟨[some 0,some 1,some 2,some 3,some 4,some 5,some 6,some 7,some 8,some 9,some 10,some 11,some 12,some 13,some 14,some 15],?_,?_,by rfl,by rfl⟩
      ·simp [CvL,Cv]
      ·exact ⟨cv,zB,zB,zB,cv,zB,zB,zB,zB,zB,zB,zB,zB,cv,zK xQ cl (fun _ _ _ _=>rfl),zK xT cl (fun _ _ _ _=>rfl),trivial⟩
    ·obtain ⟨w9_1,w9_2,w9_3⟩:=e
     try dsimp only at H ⊢
     try simp only [tp]
     try simp only [vD]
     try simp only [go_sem]
     refine xE zL zA 2 ?_
     simp only [zJ,tS,tZ,dS,dZ,go_sem]
     repeat ((with_reducible refine aI ?_ ?_);exact an5)
     refine wX ?_
     refine yE rfl trivial (fun hc=>?_) (fun hc=>?_)
     ·have hk94:(w9_1)=false:=by simpa using hc
      replace H:=zO hc H
      refine sq zA ?_
      simp only [go_sem]
      refine rg zA ?_
      simp only [go_sem]
      have H:=hn2_1 _ (Option.some.inj H).symm
      obtain rfl:=Option.some.inj H
      first|rfl|simp only [Bool.and_false,Bool.false_and,Bool.and_true,Bool.true_and]
     have hk94:(w9_1)=true:=by simpa using hc
     replace H:=zN hc H
     refine rg zA ?_
     simp only [go_sem]
     refine rg zA ?_
     simp only [go_sem,Nat.reduceLeDiff,Nat.reduceLT,Nat.reduceAdd,reduceCtorEq]
     repeat ((with_reducible refine aI ?_ ?_);exact an4)
     refine rg zA ?_
     simp only [go_sem]
     refine ⟨_,(Option.some.inj H).symm,?_⟩
     refine zI ⟨[some 0,some 1,some 2,some 3,some 4,some 14,some 15],?_,?_,by rfl,by rfl⟩
     ·simp [CvL,Cv,yB]
     ·exact ⟨cv,zB,zB,zB,cv,zK xQ cl (fun _ _ _ _=>rfl),zK xT cl (fun _ _ _ _=>rfl),trivial⟩
  ·obtain ⟨w1_15,w1_16,w1_17,w1_18,w1_19,w1_20,w1_21,w1_22,w1_23,w1_24,w1_25,w1_26,w1_27⟩:=e
   try dsimp only at H ⊢
   try simp only [tp]
   try simp only [yR]
   refine zH ?_
   obtain ⟨r95,e96,H⟩:=bsi H
   refine vY zL ct3t5_ok (by kernel_rfl) (by kernel_rfl) ?_
   simp only [go_sem,Nat.reduceLeDiff,Nat.reduceLT,Nat.reduceAdd,ct3t5_14,body14,e96]
   repeat ((with_reducible refine aI ?_ ?_);exact an0)
   refine zH ?_
   refine wY (c:=((!r95.2) || (bLt 1099511627776 r95.1))) (fun hg97=>?_) (fun hg97=>?_)
   ·replace H:=zO hg97 H
    refine rg zA ?_
    simp only [go_sem,hg97]
    repeat ((with_reducible refine aI ?_ ?_);exact an5)
    refine rg zA ?_
    simp only [go_sem]
    obtain rfl:=Option.some.inj H
    first|rfl|simp only [Bool.and_false,Bool.false_and,Bool.and_true,Bool.true_and]
   replace H:=zN hg97 H
   refine tM ?_
   refine xE zL zA 9 ?_
   simp only [zJ,tS,tZ,dS,dZ,go_sem,hg97]
   repeat ((with_reducible refine aI ?_ ?_);exact an5)
   refine inlG (rs:=[.tmp 4]) Try.func15 (by kernel_rfl) rfl rfl Try.ntmps15 (caps:=[]) (tc:=[.ptr 4 0 0 0,.int .i64 r95.1]) (by first|rfl|simp only [gok,go_sem,Nat.reduceLeDiff,Nat.reduceLT,Nat.reduceAdd,Nat.reduceMul,Nat.reduceSub,Nat.reduceEqDiff,Nat.reduceBEq,Int.reduceToNat,reduceCtorEq,hg97]) rfl (by simp only [go_sem]) rfl ?_
   simp only [lC,lN,Nat.reduceAdd,Nat.reduceSub,rS,rZ,aC,aN]
   refine qK (fun e:Bool=>(tp 4 (.bool e::tp 168 []))) (fun e=>[.dead,.dead,.dead,.dead,.dead,.dead,.dead]) H (fun o H hn1_11 hn2_11=>?_) (fun w11_1 H=>?_)
   ·unfold F3_L11 at H
    try dsimp only at H ⊢
    try simp only [tp]
    refine sq zA ?_
    simp only [go_sem,Nat.reduceAdd]
    refine sq zA ?_
    simp only [go_sem,Nat.reduceLeDiff,Nat.reduceAdd]
    repeat ((with_reducible refine aI ?_ ?_);exact an4)
    refine sq zA ?_
    simp only [go_sem,Nat.reduceLeDiff,Nat.reduceLT,Nat.reduceAdd]
    repeat ((with_reducible refine aI ?_ ?_);exact an4)
    refine zH ?_
    obtain ⟨r98,e99,H⟩:=bsi H
    refine rg ct3t6_ok ?_
    simp only [go_sem,Nat.reduceLeDiff,Nat.reduceLT,Nat.reduceAdd,reduceCtorEq,ct3t6_29,body29,e99]
    repeat ((with_reducible refine aI ?_ ?_);exact an0)
    refine zH ?_
    refine zH ?_
    refine wY (c:=(!bEq r98.2.2 0)) (fun hg100=>?_) (fun hg100=>?_)
    ·replace H:=zO hg100 H
     refine rg zA ?_
     simp only [go_sem,hg100]
     repeat ((with_reducible refine aI ?_ ?_);exact an5)
     refine yE rfl trivial (fun hc=>?_) (fun hc=>?_)
     rotate_left
     ·cases hc
     refine sq zA ?_
     simp only [go_sem]
     refine rg zA ?_
     simp only [go_sem]
     refine ⟨_,(Option.some.inj H).symm,?_⟩
     refine zI ⟨[some 0,some 1,some 2,some 3,some 4,some 5,some 6],?_,?_,by rfl,by rfl⟩
     ·simp [CvL,Cv]
     ·exact ⟨zB,zB,zB,zB,zB,zB,zB,trivial⟩
    replace H:=zN hg100 H
    refine tM ?_
    refine xE zL zA 5 ?_
    simp only [zJ,tS,tZ,dS,dZ,go_sem,hg100]
    repeat ((with_reducible refine aI ?_ ?_);exact an5)
    refine inlG (rs:=[.tmp 4]) Try.func13 (by kernel_rfl) rfl rfl Try.ntmps13 (caps:=[]) (tc:=[.ptr 4 0 0 0,.ro 41 r98.1.length false (enR zM r98.1)]) (by first|rfl|simp only [gok,go_sem,Nat.reduceLeDiff,Nat.reduceLT,Nat.reduceAdd,Nat.reduceMul,Nat.reduceSub,Nat.reduceEqDiff,Nat.reduceBEq,Int.reduceToNat,reduceCtorEq,hg97,hg100]) rfl (by simp only [go_sem]) rfl ?_
    simp only [lC,lN,Nat.reduceAdd,Nat.reduceSub,rS,rZ,aC,aN]
    refine qK (fun e:Bool × (List Int)=>(tp 4 (.bool e.1::tp 41 []))) (fun e=>[.dead,.dead,.dead,.dead,.lit 40 [.int .i64 p0.Id,.int .i64 p0.Start,.int .i64 p0.Every,.int .i64 p0.Length,.int .i64 p0.Group,.int .i64 w1_16,.int .i64 w1_17,.ro 3 w1_18.length false (enR zF w1_18),.ro 43 w1_19.length false (enR zD w1_19),.int .i64 r95.1,.sl 8 1 0 e.2.length false,.int .i64 (wr .i64 (w1_22+1)),.int .i64 w1_23,.int .i64 w1_24,.int .i64 w1_25,.int .i64 w1_26,.sl 6 1 0 w1_27.length false],.dead,.row 5 1 w1_27.length (enR yG w1_27),.lit 31 [.int .i64 r98.2.1.Limit,.int .i64 r98.2.1.Stay,.ro 3 r98.2.1.List.length false (enR zF r98.2.1.List),.ro 43 r98.2.1.Group.length false (enR zD r98.2.1.Group)],.row 3 1 e.2.length (enR yQ e.2)]) H (fun o H hn1_12 hn2_12=>?_) (fun e H=>?_)
    ·unfold F3_L12 at H
     try dsimp only at H ⊢
     try simp only [tp]
     refine sq zA ?_
     simp only [go_sem,Nat.reduceAdd]
     refine zH ?_
     refine sq zA ?_
     simp only [go_sem]
     refine xI ?_
     refine xA (fun s:Int × (List Int)=>(.ptr 4 0 0 0::.ro 41 r98.1.length false (enR zM r98.1)::.top::.top::.top::.int .i64 s.1::tp 40 [])) (fun s=>[.dead,.dead,.dead,.dead,.lit 40 [.int .i64 p0.Id,.int .i64 p0.Start,.int .i64 p0.Every,.int .i64 p0.Length,.int .i64 p0.Group,.int .i64 w1_16,.int .i64 w1_17,.ro 3 w1_18.length false (enR zF w1_18),.ro 43 w1_19.length false (enR zD w1_19),.int .i64 r95.1,.sl 8 1 0 s.2.length false,.int .i64 (wr .i64 (w1_22+1)),.int .i64 w1_23,.int .i64 w1_24,.int .i64 w1_25,.int .i64 w1_26,.sl 6 1 0 w1_27.length false],.dead,.row 5 1 w1_27.length (enR yG w1_27),.lit 31 [.int .i64 r98.2.1.Limit,.int .i64 r98.2.1.Stay,.ro 3 r98.2.1.List.length false (enR zF r98.2.1.List),.ro 43 r98.2.1.Group.length false (enR zD r98.2.1.Group)],.row 3 1 s.2.length (enR yQ s.2)]) (fun e:List Int=>(tp 46 [])) (fun e=>[.dead,.dead,.dead,.dead,.lit 40 [.int .i64 p0.Id,.int .i64 p0.Start,.int .i64 p0.Every,.int .i64 p0.Length,.int .i64 p0.Group,.int .i64 w1_16,.int .i64 w1_17,.ro 3 w1_18.length false (enR zF w1_18),.ro 43 w1_19.length false (enR zD w1_19),.int .i64 r95.1,.sl 8 1 0 e.length false,.int .i64 (wr .i64 (w1_22+1)),.int .i64 w1_23,.int .i64 w1_24,.int .i64 w1_25,.int .i64 w1_26,.sl 6 1 0 w1_27.length false],.dead,.row 5 1 w1_27.length (enR yG w1_27),.lit 31 [.int .i64 r98.2.1.Limit,.int .i64 r98.2.1.Stay,.ro 3 r98.2.1.List.length false (enR zF r98.2.1.List),.ro 43 r98.2.1.Group.length false (enR zD r98.2.1.Group)],.row 3 1 e.length (enR yQ e)]) H ?_ (fun s o H hn1_13 hn2_13=>?_) (fun w13_3 H=>?_)
     ·refine zI ⟨[some 0,some 1,some 2,some 3,some 4,some 5,some 6,some 7,some 5],?_,?_,by rfl,by rfl⟩
      ·simp [CvL,Cv,yB,tp]
      ·exact ⟨zB,zB,zB,zB,cv,zB,(zQ nfA),cv,zK xQ cl (fun _ _ _ _=>rfl),trivial⟩
     ·obtain ⟨v13_1,v13_2⟩:=s
      unfold F3_L13 at H
      try dsimp only at H ⊢
      try simp only [tp]
      refine zH ?_
      refine sq zA ?_
      simp only [go_sem,Nat.reduceAdd]
      repeat ((with_reducible refine aI ?_ ?_);exact an0)
      refine condM' rfl trivial (fun hc=>?_) (fun hc=>?_)
      ·have hk101:(bLt v13_1 (r98.1.length:Nat))=false:=by simpa using hc
       replace H:=zN hc H
       refine rg zA ?_
       simp only [go_sem]
       refine ⟨_,(Option.some.inj H).symm,?_⟩
       refine zI ⟨[some 0,some 1,some 2,some 3,some 4,some 5,some 6,some 7,some 8],?_,?_,by rfl,by rfl⟩
       ·simp [CvL,Cv]
       ·exact ⟨zB,zB,zB,zB,cv,zB,(zQ nfA),cv,zK xQ cl (fun _ _ _ _=>rfl),trivial⟩
      have hk101:(bLt v13_1 (r98.1.length:Nat))=true:=by simpa using hc
      replace H:=zO hc H
      refine rg zA ?_
      simp only [go_sem]
      refine zH ?_
      refine xI ?_
      refine zH ?_
      obtain ⟨f102,H⟩:=nI H
      refine rg zA ?_
      simp only [go_sem,Nat.reduceLeDiff,Nat.reduceLT,Nat.reduceAdd,reduceCtorEq,f102]
      repeat ((with_reducible refine aI ?_ ?_);exact an4)
      refine zH ?_
      refine zH ?_
      obtain ⟨f103,H⟩:=yH.1 H
      replace f103:=bZ.1 f103
      replace f103:=fun g=>uG.1 (f103 g)
      refine rg zA ?_
      simp only [go_sem,Nat.reduceLeDiff,Nat.reduceLT,Nat.reduceAdd]
      repeat ((with_reducible refine And.intro ?_ ?_);focus (first|(with_reducible trivial)|omega|exact f103|(intro g;have q:=f103 (by first|exact g|(rw [g];rfl)|simpa using g);first|exact q|exact ⟨q.1,q.2.1⟩|exact q.2.2|omega|exact ⟨g,q⟩|exact ⟨trivial,q⟩|exact ⟨g,q.1,q.2.1⟩|exact ⟨g,q.2.2⟩)|(intro g;(try have q0:=f103 (by first|exact g|(rw [g];rfl)|simpa using g));and_intros<;>first|(with_reducible trivial)|assumption|exact nfc|(intro g2;rw [g,g2];rfl)|(intro g2;assumption)|(simp only [g,Bool.true_and,Bool.and_true,Bool.not_false,Bool.not_true];assumption)|grind)|(and_intros<;>first|(with_reducible trivial)|omega|assumption|exact nfc|first|exact rfl|exact trivial|exact uV|exact .inr rfl|exact .inl rfl|exact fun x hx=>absurd hx (by omega))|grind))
      refine yE rfl trivial (fun hc=>?_) (fun hc=>?_)
      ·have hk104:(((bLt (((gd r98.1 v13_1.toNat).Head).Seq) 0) || (bLe (v13_2.length:Nat) (((gd r98.1 v13_1.toNat).Head).Seq))) || (!bEq (gd v13_2 ((((gd r98.1 v13_1.toNat).Head).Seq).toNat)) 0))=true:=by simpa using hc
       replace H:=zO hc H
       refine sq zA ?_
       simp only [go_sem]
       refine rg zA ?_
       simp only [go_sem]
       obtain ⟨q105,H,hq106⟩:=bsi H
       replace hq106:=hn2_13 _ (Option.some.inj hq106).symm
       obtain rfl:=(Option.some.inj hq106).symm
       refine ⟨_,(Option.some.inj H).symm,?_⟩
       refine zI ⟨[some 0,some 1,some 2,some 3,some 4,some 5,some 6,some 7,some 8],?_,?_,by rfl,by rfl⟩
       ·simp [CvL,Cv]
       ·exact ⟨zB,zB,zB,zB,cv,zB,(zQ nfA),cv,zK xQ cl (fun _ _ _ _=>rfl),trivial⟩
      have hk104:(((bLt (((gd r98.1 v13_1.toNat).Head).Seq) 0) || (bLe (v13_2.length:Nat) (((gd r98.1 v13_1.toNat).Head).Seq))) || (!bEq (gd v13_2 ((((gd r98.1 v13_1.toNat).Head).Seq).toNat)) 0))=false:=by simpa using hc
      replace H:=zN hc H
      refine rg zA ?_
      simp only [go_sem]
      obtain ⟨f107,H⟩:=nI H
      refine rg zA ?_
      simp only [go_sem,Nat.reduceLeDiff,Nat.reduceLT,Nat.reduceAdd,f107]
      repeat ((with_reducible refine aI ?_ ?_);exact an4)
      refine rg zA ?_
      simp only [go_sem]
      refine ⟨_,(Option.some.inj H).symm,?_⟩
      refine zI ⟨[some 0,some 1,some 2,some 3,some 4,some 5,some 6,some 7,some 8],?_,?_,by rfl,by rfl⟩
      ·simp [CvL,Cv,yB]
      ·exact ⟨zB,zB,zB,zB,cv,zB,(zQ nfA),cv,zK xQ cl (fZ (f:=yQ) v13_2 ((((gd r98.1 v13_1.toNat).Head).Seq).toNat) 0 2 (fun _ _ _ _=>rfl) (fun y hy=>match y,hy with|0,_=>rfl|(y+1),h=>absurd h nlt)),trivial⟩
     ·try dsimp only at H ⊢
      try simp only [tp]
      try simp only [yR]
      refine sq zA ?_
      simp only [go_sem]
      refine rg zA ?_
      simp only [go_sem]
      refine ⟨_,(Option.some.inj H).symm,?_⟩
      refine zI ⟨[some 0,some 1,some 2,some 3,some 4,some 5,some 6,some 7,some 8],?_,?_,by rfl,by rfl⟩
      ·simp [CvL,Cv]
      ·exact ⟨zB,zB,zB,zB,cv,zB,(zQ nfA),cv,zK xQ cl (fun _ _ _ _=>rfl),trivial⟩
    ·obtain ⟨w12_1,w12_2⟩:=e
     try dsimp only at H ⊢
     try simp only [tp]
     try simp only [vD]
     try simp only [go_sem]
     refine xE zL zA 2 ?_
     simp only [zJ,tS,tZ,dS,dZ,go_sem]
     repeat ((with_reducible refine aI ?_ ?_);exact an5)
     refine wX ?_
     refine yE rfl trivial (fun hc=>?_) (fun hc=>?_)
     ·have hk108:(w12_1)=false:=by simpa using hc
      replace H:=zO hc H
      refine sq zA ?_
      simp only [go_sem]
      refine rg zA ?_
      simp only [go_sem]
      refine ⟨_,(Option.some.inj H).symm,?_⟩
      refine zI ⟨[some 0,some 1,some 2,some 3,some 4,some 5,some 6],?_,?_,by rfl,by rfl⟩
      ·simp [CvL,Cv]
      ·exact ⟨zB,zB,zB,zB,zB,zB,zB,trivial⟩
     have hk108:(w12_1)=true:=by simpa using hc
     replace H:=zN hc H
     refine rg zA ?_
     simp only [go_sem]
     refine sq zA ?_
     simp only [go_sem,Nat.reduceLeDiff,Nat.reduceLT,Nat.reduceAdd,reduceCtorEq]
     repeat ((with_reducible refine aI ?_ ?_);exact an4)
     refine zH ?_
     obtain ⟨r109,e110,H⟩:=bsi H
     refine rg ct3t7_ok ?_
     simp only [go_sem,Nat.reduceLeDiff,Nat.reduceLT,Nat.reduceAdd,reduceCtorEq,ct3t7_16,body16,e110]
     repeat ((with_reducible refine aI ?_ ?_);exact an0)
     refine zH ?_
     obtain ⟨r111,e112,H⟩:=bsi H
     refine rg ct3t8_ok ?_
     simp only [go_sem,Nat.reduceLT,Nat.reduceAdd,ct3t8_30,body30,e112]
     repeat ((with_reducible refine aI ?_ ?_);exact an0)
     refine zH ?_
     refine eM [11] ?_ ?_
     ·simp only [go_sem,Nat.reduceBEq]
      try exact at0
     simp only [go_sem,Nat.reduceBEq,Nat.reduceAdd]
     obtain ⟨r113,e114,H⟩:=bsi H
     refine rg ct3t9_ok ?_
     simp only [go_sem,Nat.reduceLT,Nat.reduceAdd,ct3t9_31,body31,e114]
     repeat ((with_reducible refine aI ?_ ?_);exact an0)
     refine zH ?_
     refine sq zA ?_
     simp only [go_sem]
     repeat ((with_reducible refine aI ?_ ?_);exact an4)
     refine yE rfl trivial (fun hc=>?_) (fun hc=>?_)
     ·have hk115:(((!bEq r109.2 0) || (!bEq r111.2 0)) || (!bEq r113.2 0))=true:=by simpa using hc
      replace H:=zO hc H
      refine sq zA ?_
      simp only [go_sem]
      refine rg zA ?_
      simp only [go_sem]
      refine ⟨_,(Option.some.inj H).symm,?_⟩
      refine zI ⟨[some 0,some 1,some 2,some 3,some 4,some 5,some 6],?_,?_,by rfl,by rfl⟩
      ·simp [CvL,Cv]
      ·exact ⟨zB,zB,zB,zB,zB,zB,zB,trivial⟩
     have hk115:(((!bEq r109.2 0) || (!bEq r111.2 0)) || (!bEq r113.2 0))=false:=by simpa using hc
     replace H:=zN hc H
     refine rg zA ?_
     simp only [go_sem]
     refine zH ?_
     obtain ⟨r116,e117,H⟩:=bsi H
     refine rg ct3t10_ok ?_
     simp only [go_sem,Nat.reduceLT,Nat.reduceAdd,ct3t10_18,body18,e117]
     repeat ((with_reducible refine aI ?_ ?_);exact an0)
     refine zH ?_
     refine xI ?_
     refine xA (fun s:Bool × Int × Int × (List TSleeper) × (List TStored) × (List Int) × Int × Int × Int × Int=>(.ptr 4 0 0 0::tp 13 (.bool s.1::tp 158 []))) (fun s=>[.dead,.dead,.dead,.dead,.lit 40 [.int .i64 p0.Id,.int .i64 p0.Start,.int .i64 p0.Every,.int .i64 p0.Length,.int .i64 p0.Group,.int .i64 s.2.1,.int .i64 s.2.2.1,.ro 3 s.2.2.2.1.length false (enR zF s.2.2.2.1),.ro 43 s.2.2.2.2.1.length false (enR zD s.2.2.2.2.1),.int .i64 r95.1,.sl 13 1 0 s.2.2.2.2.2.1.length false,.int .i64 (wr .i64 (w1_22+1)),.int .i64 s.2.2.2.2.2.2.1,.int .i64 s.2.2.2.2.2.2.2.1,.int .i64 s.2.2.2.2.2.2.2.2.1,.int .i64 s.2.2.2.2.2.2.2.2.2,.sl 6 1 0 w1_27.length false],.dead,.row 5 1 w1_27.length (enR yG w1_27),.dead,.dead,.dead,.dead,.dead,.dead,.row 3 1 s.2.2.2.2.2.1.length (enR yQ s.2.2.2.2.2.1)]) (fun e:Int × Int × (List TSleeper) × (List TStored) × (List Int) × Int × Int × Int × Int=>(.ptr 4 0 0 0::tp 172 [])) (fun e=>[.dead,.dead,.dead,.dead,.lit 40 [.int .i64 p0.Id,.int .i64 p0.Start,.int .i64 p0.Every,.int .i64 p0.Length,.int .i64 p0.Group,.int .i64 e.1,.int .i64 e.2.1,.ro 3 e.2.2.1.length false (enR zF e.2.2.1),.ro 43 e.2.2.2.1.length false (enR zD e.2.2.2.1),.int .i64 r95.1,.sl 13 1 0 e.2.2.2.2.1.length false,.int .i64 (wr .i64 (w1_22+1)),.int .i64 e.2.2.2.2.2.1,.int .i64 e.2.2.2.2.2.2.1,.int .i64 e.2.2.2.2.2.2.2.1,.int .i64 e.2.2.2.2.2.2.2.2,.sl 6 1 0 w1_27.length false],.dead,.row 5 1 w1_27.length (enR yG w1_27),.dead,.dead,.dead,.dead,.dead,.dead,.row 3 1 e.2.2.2.2.1.length (enR yQ e.2.2.2.2.1)]) H ?_ (fun s o H hn1_14 hn2_14=>?_) (fun e H=>?_)
     ·refine zI ⟨[some 0,some 1,some 2,some 3,some 4,some 5,some 6,some 7,some 8,some 9,some 10,some 11,some 12,some 8],?_,?_,by rfl,by rfl⟩
      ·simp [CvL,Cv,yB,tp]
      ·exact ⟨zB,zB,zB,zB,cv,zB,(zQ nfA),zB,zB,zB,zB,zB,zB,zK xQ cl (fun _ _ _ _=>rfl),trivial⟩
     ·obtain ⟨v14_1,v14_2,v14_3,v14_4,v14_5,v14_6,v14_7,v14_8,v14_9,v14_10⟩:=s
      unfold F3_L14 at H
      try dsimp only at H ⊢
      try simp only [tp]
      refine zH ?_
      refine sq zA ?_
      simp only [go_sem,Nat.reduceAdd]
      refine condM' rfl trivial (fun hc=>?_) (fun hc=>?_)
      ·have hk118:(v14_1)=false:=by simpa using hc
       replace H:=zN hc H
       refine rg zA ?_
       simp only [go_sem]
       refine ⟨_,(Option.some.inj H).symm,?_⟩
       refine zI ⟨[some 0,some 1,some 2,some 3,some 4,some 5,some 6,some 7,some 8,some 9,some 10,some 11,some 12,some 13],?_,?_,by rfl,by rfl⟩
       ·simp [CvL,Cv,yB]
       ·exact ⟨zB,zB,zB,zB,cv,zB,(zQ nfA),zB,zB,zB,zB,zB,zB,zK xQ cl (fun _ _ _ _=>rfl),trivial⟩
      have hk118:(v14_1)=true:=by simpa using hc
      replace H:=zO hc H
      refine rg zA ?_
      simp only [go_sem]
      refine xI ?_
      refine zH ?_
      obtain ⟨r119,e120,H⟩:=bsi H
      refine rg ct3t11_ok ?_
      simp only [go_sem,Nat.reduceLeDiff,Nat.reduceLT,Nat.reduceAdd,reduceCtorEq,ct3t11_17,body17,e120]
      repeat ((with_reducible refine aI ?_ ?_);exact an0)
      refine sq zA ?_
      simp only [go_sem,Nat.reduceLeDiff,Nat.reduceLT,Nat.reduceAdd,reduceCtorEq]
      repeat ((with_reducible refine aI ?_ ?_);exact an4)
      refine zH ?_
      refine zH ?_
      obtain ⟨f121,H⟩:=yH.1 H
      replace f121:=bZ.1 f121
      replace f121:=fun g=>uG.1 (f121 g)
      refine rg zA ?_
      simp only [go_sem,Nat.reduceLeDiff,Nat.reduceLT,Nat.reduceAdd]
      repeat ((with_reducible refine And.intro ?_ ?_);focus (first|(with_reducible trivial)|omega|exact f121|(intro g;have q:=f121 (by first|exact g|(rw [g];rfl)|simpa using g);first|exact q|exact ⟨q.1,q.2.1⟩|exact q.2.2|omega|exact ⟨g,q⟩|exact ⟨trivial,q⟩|exact ⟨g,q.1,q.2.1⟩|exact ⟨g,q.2.2⟩)|(intro g;(try have q0:=f121 (by first|exact g|(rw [g];rfl)|simpa using g));and_intros<;>first|(with_reducible trivial)|assumption|exact nfc|(intro g2;rw [g,g2];rfl)|(intro g2;assumption)|(simp only [g,Bool.true_and,Bool.and_true,Bool.not_false,Bool.not_true];assumption)|grind)|(and_intros<;>first|(with_reducible trivial)|omega|assumption|exact nfc|first|exact rfl|exact trivial|exact uV|exact .inr rfl|exact .inl rfl|exact fun x hx=>absurd hx (by omega))|grind))
      refine yE rfl trivial (fun hc=>?_) (fun hc=>?_)
      ·have hk122:((((!bEq r119.2.2 0) || (bLt r119.1.Head.Seq 0)) || (bLe (v14_6.length:Nat) r119.1.Head.Seq)) || (!bEq (gd v14_6 r119.1.Head.Seq.toNat) 0))=true:=by simpa using hc
       replace H:=zO hc H
       refine sq zA ?_
       simp only [go_sem]
       refine rg zA ?_
       simp only [go_sem]
       obtain ⟨q123,H,hq124⟩:=bsi H
       replace hq124:=hn2_14 _ (Option.some.inj hq124).symm
       obtain rfl:=(Option.some.inj hq124).symm
       refine ⟨_,(Option.some.inj H).symm,?_⟩
       refine zI ⟨[some 0,some 1,some 2,some 3,some 4,some 5,some 6],?_,?_,by rfl,by rfl⟩
       ·simp [CvL,Cv]
       ·exact ⟨zB,zB,zB,zB,zB,zB,zB,trivial⟩
      have hk122:((((!bEq r119.2.2 0) || (bLt r119.1.Head.Seq 0)) || (bLe (v14_6.length:Nat) r119.1.Head.Seq)) || (!bEq (gd v14_6 r119.1.Head.Seq.toNat) 0))=false:=by simpa using hc
      replace H:=zN hc H
      refine rg zA ?_
      simp only [go_sem]
      refine zH ?_
      obtain ⟨f125,H⟩:=nI H
      refine rg zA ?_
      simp only [go_sem,Nat.reduceLT,Nat.reduceAdd,f125]
      repeat ((with_reducible refine aI ?_ ?_);exact an4)
      refine zH ?_
      refine zH ?_
      obtain ⟨f126,H⟩:=nI H
      have gv127:zR [.int .i64 p0.Id,.int .i64 p0.Start,.int .i64 p0.Every,.int .i64 p0.Length,.int .i64 p0.Group,.int .i64 v14_2,.int .i64 v14_3,.ro 3 v14_4.length false (enR zF v14_4),.ro 43 v14_5.length false (enR zD v14_5),.int .i64 r95.1,.sl 13 1 0 v14_6.length false,.int .i64 (wr .i64 (w1_22+1)),.int .i64 v14_7,.int .i64 v14_8,.int .i64 v14_9,.int .i64 v14_10,.sl 6 1 0 w1_27.length false] (12+(gd w1_27 r119.1.Head.Seq.toNat).toNat) = .int .i64 (gd [v14_7,v14_8,v14_9,v14_10] ((gd w1_27 r119.1.Head.Seq.toNat).toNat)):=by (have gq128:(gd w1_27 r119.1.Head.Seq.toNat).toNat=0 ∨ (gd w1_27 r119.1.Head.Seq.toNat).toNat=1 ∨ (gd w1_27 r119.1.Head.Seq.toNat).toNat=2 ∨ (gd w1_27 r119.1.Head.Seq.toNat).toNat=3:=(by omega));rcases gq128 with h|h|h|h<;>rw [h]<;>rfl
      refine rg zA ?_
      simp only [go_sem,Nat.reduceLeDiff,Nat.reduceAdd,Nat.reduceBEq,reduceCtorEq,f126,gv127]
      repeat ((with_reducible refine aI ?_ ?_);exact an4)
      refine yE rfl trivial (fun hc=>?_) (fun hc=>?_)
      ·have hk129:(bLt r119.1.Head.Seq (gd [v14_7,v14_8,v14_9,v14_10] ((gd w1_27 r119.1.Head.Seq.toNat).toNat)))=true:=by simpa using hc
       replace H:=zO hc H
       refine sq zA ?_
       simp only [go_sem]
       refine rg zA ?_
       simp only [go_sem]
       obtain ⟨q130,H,hq131⟩:=bsi H
       replace hq131:=hn2_14 _ (Option.some.inj hq131).symm
       obtain rfl:=(Option.some.inj hq131).symm
       refine ⟨_,(Option.some.inj H).symm,?_⟩
       refine zI ⟨[some 0,some 1,some 2,some 3,some 4,some 5,some 6],?_,?_,by rfl,by rfl⟩
       ·simp [CvL,Cv]
       ·exact ⟨zB,zB,zB,zB,zB,zB,zB,trivial⟩
      have hk129:(bLt r119.1.Head.Seq (gd [v14_7,v14_8,v14_9,v14_10] ((gd w1_27 r119.1.Head.Seq.toNat).toNat)))=false:=by simpa using hc
      replace H:=zN hc H
      refine rg zA ?_
      simp only [go_sem]
      refine zH ?_
      obtain ⟨f132,H⟩:=nI H
      have gv133:setL [.int .i64 p0.Id,.int .i64 p0.Start,.int .i64 p0.Every,.int .i64 p0.Length,.int .i64 p0.Group,.int .i64 v14_2,.int .i64 v14_3,.ro 3 v14_4.length false (enR zF v14_4),.ro 43 v14_5.length false (enR zD v14_5),.int .i64 r95.1,.sl 13 1 0 v14_6.length false,.int .i64 (wr .i64 (w1_22+1)),.int .i64 v14_7,.int .i64 v14_8,.int .i64 v14_9,.int .i64 v14_10,.sl 6 1 0 w1_27.length false] (12+(gd w1_27 r119.1.Head.Seq.toNat).toNat) (.int .i64 r119.1.Head.Seq)=[.int .i64 p0.Id,.int .i64 p0.Start,.int .i64 p0.Every,.int .i64 p0.Length,.int .i64 p0.Group,.int .i64 v14_2,.int .i64 v14_3,.ro 3 v14_4.length false (enR zF v14_4),.ro 43 v14_5.length false (enR zD v14_5),.int .i64 r95.1,.sl 13 1 0 v14_6.length false,.int .i64 (wr .i64 (w1_22+1)),.int .i64 (gd ([v14_7,v14_8,v14_9,v14_10].set ((gd w1_27 r119.1.Head.Seq.toNat).toNat) r119.1.Head.Seq) 0),.int .i64 (gd ([v14_7,v14_8,v14_9,v14_10].set ((gd w1_27 r119.1.Head.Seq.toNat).toNat) r119.1.Head.Seq) 1),.int .i64 (gd ([v14_7,v14_8,v14_9,v14_10].set ((gd w1_27 r119.1.Head.Seq.toNat).toNat) r119.1.Head.Seq) 2),.int .i64 (gd ([v14_7,v14_8,v14_9,v14_10].set ((gd w1_27 r119.1.Head.Seq.toNat).toNat) r119.1.Head.Seq) 3),.sl 6 1 0 w1_27.length false]:=by (have gq134:(gd w1_27 r119.1.Head.Seq.toNat).toNat=0 ∨ (gd w1_27 r119.1.Head.Seq.toNat).toNat=1 ∨ (gd w1_27 r119.1.Head.Seq.toNat).toNat=2 ∨ (gd w1_27 r119.1.Head.Seq.toNat).toNat=3:=(by omega));rcases gq134 with h|h|h|h<;>rw [h]<;>rfl
      refine rg zA ?_
      simp only [go_sem,Nat.reduceLeDiff,Nat.reduceAdd,Nat.reduceBEq,reduceCtorEq,f132,gv133]
      repeat ((with_reducible refine aI ?_ ?_);exact an4)
      refine zH ?_
      obtain ⟨f135,H⟩:=nI H
      refine rg zA ?_
      simp only [go_sem,Nat.reduceLeDiff,Nat.reduceLT,Nat.reduceAdd,f135]
      repeat ((with_reducible refine aI ?_ ?_);exact an4)
      refine sq zA ?_
      simp only [go_sem,Nat.reduceLeDiff,Nat.reduceLT,Nat.reduceAdd,reduceCtorEq]
      repeat ((with_reducible refine aI ?_ ?_);exact an4)
      refine rg zA ?_
      simp only [go_sem,Nat.reduceLeDiff,Nat.reduceLT,Nat.reduceAdd,reduceCtorEq]
      repeat ((with_reducible refine aI ?_ ?_);exact an4)
      refine ⟨_,(Option.some.inj H).symm,?_⟩
      refine zI ⟨[some 0,some 1,some 2,some 3,some 4,some 5,some 6,some 7,some 8,some 9,some 10,some 11,some 12,some 13],?_,?_,by rfl,by rfl⟩
      ·simp [CvL,Cv,yB]
      ·exact ⟨zB,zB,zB,zB,cv,zB,(zQ nfA),zB,zB,zB,zB,zB,zB,zK xQ cl (fZ (f:=yQ) v14_6 r119.1.Head.Seq.toNat 0 1 (fun _ _ _ _=>rfl) (fun y hy=>match y,hy with|0,_=>rfl|(y+1),h=>absurd h nlt)),trivial⟩
     ·obtain ⟨w14_11,w14_12,w14_13,w14_14,w14_15,w14_16,w14_17,w14_18,w14_19⟩:=e
      try dsimp only at H ⊢
      try simp only [tp]
      try simp only [yR]
      refine zH ?_
      refine sq zA ?_
      simp only [go_sem]
      refine xI ?_
      refine xA (fun s:Int=>(.ptr 4 0 0 0::tp 19 (.int .i64 s::tp 152 []))) (fun s=>[.dead,.dead,.dead,.dead,.lit 40 [.int .i64 p0.Id,.int .i64 p0.Start,.int .i64 p0.Every,.int .i64 p0.Length,.int .i64 p0.Group,.int .i64 w14_11,.int .i64 w14_12,.ro 3 w14_13.length false (enR zF w14_13),.ro 43 w14_14.length false (enR zD w14_14),.int .i64 r95.1,.sl 13 1 0 w14_15.length false,.int .i64 (wr .i64 (w1_22+1)),.int .i64 w14_16,.int .i64 w14_17,.int .i64 w14_18,.int .i64 w14_19,.sl 6 1 0 w1_27.length false],.dead,.row 5 1 w1_27.length (enR yG w1_27),.dead,.dead,.dead,.dead,.dead,.dead,.row 3 1 w14_15.length (enR yQ w14_15)]) (fun e:Unit=>(tp 173 [])) (fun e=>[.dead,.dead,.dead,.dead,.dead,.dead,.dead,.dead,.dead,.dead,.dead,.dead,.dead,.dead]) H ?_ (fun v15_1 o H hn1_15 hn2_15=>?_) (fun e H=>?_)
      ·refine zI ⟨[some 0,some 1,some 2,some 3,some 4,some 5,some 6,some 7,some 8,some 9,some 10,some 11,some 12,some 13],?_,?_,by rfl,by rfl⟩
       ·simp [CvL,Cv,yB,tp]
       ·exact ⟨zB,zB,zB,zB,cv,zB,(zQ nfA),zB,zB,zB,zB,zB,zB,(zQ nfA),trivial⟩
      ·unfold F3_L15 at H
       try dsimp only at H ⊢
       try simp only [tp]
       refine zH ?_
       refine sq zA ?_
       simp only [go_sem,Nat.reduceLeDiff,Nat.reduceLT,Nat.reduceAdd]
       repeat ((with_reducible refine aI ?_ ?_);exact an0)
       refine condM' rfl trivial (fun hc=>?_) (fun hc=>?_)
       ·have hk136:(bLt v15_1 (w14_15.length:Nat))=false:=by simpa using hc
        replace H:=zN hc H
        refine rg zA ?_
        simp only [go_sem]
        refine ⟨_,(Option.some.inj H).symm,?_⟩
        refine zI ⟨[some 0,some 1,some 2,some 3,some 4,some 5,some 6,some 7,some 8,some 9,some 10,some 11,some 12,some 13],?_,?_,by rfl,by rfl⟩
        ·simp [CvL,Cv]
        ·exact ⟨zB,zB,zB,zB,zB,zB,zB,zB,zB,zB,zB,zB,zB,zB,trivial⟩
       have hk136:(bLt v15_1 (w14_15.length:Nat))=true:=by simpa using hc
       replace H:=zO hc H
       refine rg zA ?_
       simp only [go_sem]
       refine zH ?_
       refine xI ?_
       refine zH ?_
       obtain ⟨f137,H⟩:=nI H
       refine rg zA ?_
       simp only [go_sem,Nat.reduceLeDiff,Nat.reduceLT,Nat.reduceAdd,f137]
       repeat ((with_reducible refine aI ?_ ?_);exact an4)
       refine condM' rfl trivial (fun hc=>?_) (fun hc=>?_)
       ·have hk138:(bEq (gd w14_15 v15_1.toNat) 0)=false:=by simpa using hc
        replace H:=zN hc H
        refine rg zA ?_
        simp only [go_sem]
        refine rg zA ?_
        simp only [go_sem]
        refine ⟨_,(Option.some.inj H).symm,?_⟩
        refine zI ⟨[some 0,some 1,some 2,some 3,some 4,some 5,some 6,some 7,some 8,some 9,some 10,some 11,some 12,some 13],?_,?_,by rfl,by rfl⟩
        ·simp [CvL,Cv,yB]
        ·exact ⟨zB,zB,zB,zB,cv,zB,(zQ nfA),zB,zB,zB,zB,zB,zB,(zQ nfA),trivial⟩
       have hk138:(bEq (gd w14_15 v15_1.toNat) 0)=true:=by simpa using hc
       replace H:=zO hc H
       refine sq zA ?_
       simp only [go_sem]
       refine rg zA ?_
       simp only [go_sem]
       obtain ⟨q139,H,hq140⟩:=bsi H
       replace hq140:=hn2_15 _ (Option.some.inj hq140).symm
       obtain rfl:=(Option.some.inj hq140).symm
       refine ⟨_,(Option.some.inj H).symm,?_⟩
       refine zI ⟨[some 0,some 1,some 2,some 3,some 4,some 5,some 6],?_,?_,by rfl,by rfl⟩
       ·simp [CvL,Cv]
       ·exact ⟨zB,zB,zB,zB,zB,zB,zB,trivial⟩
      ·try dsimp only at H ⊢
       try simp only [tp]
       try simp only [yR]
       refine sq zA ?_
       simp only [go_sem]
       refine rg zA ?_
       simp only [go_sem]
       refine ⟨_,(Option.some.inj H).symm,?_⟩
       refine zI ⟨[some 0,some 1,some 2,some 3,some 4,some 5,some 6],?_,?_,by rfl,by rfl⟩
       ·simp [CvL,Cv]
       ·exact ⟨zB,zB,zB,zB,zB,zB,zB,trivial⟩
   ·try dsimp only at H ⊢
    try simp only [tp]
    try simp only [vD]
    try simp only [go_sem]
    refine xE zL zA 2 ?_
    simp only [zJ,tS,tZ,dS,dZ,go_sem]
    repeat ((with_reducible refine aI ?_ ?_);exact an5)
    refine wX ?_
    refine rg zA ?_
    simp only [go_sem]
    obtain rfl:=Option.some.inj H
    first|rfl|simp only [Bool.and_false,Bool.false_and,Bool.and_true,Bool.true_and]
 ·cases hb
end Go.Proofs.Ytooepgpfaaddbaa
