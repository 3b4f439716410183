/-
  What TopSleep reaches.
-/
import Derived.Test.YtooepgpfaaddbaaY3p4
namespace Go.Proofs.Ytooepgpfaaddbaa
open Go.Am
set_option maxHeartbeats 4000000
set_option maxRecDepth 20000
set_option linter.unusedVariables false
set_option linter.unusedSimpArgs false
attribute [local go_sem] w_skip w_label w_goto w_scope k_goto b_goto l_goto s_normal s_exit s_ret s_goto w_region w_draw w_seq w_cond w_block w_exit w_ret w_loop k_normal k_exit k_ret b_normal b_exit b_ret l_normal l_exit l_ret yR m_exit m_ret m_goto kL_normal kL_exit kL_ret kJ_normal kJ_exit kJ_ret kJR_normal kJR_ret kS_normal kS_exit kS_ret kS_goto vD r_ret o_nil o_cons q_nil q_cons nxt gval gvd gvl gvw dstOf evO vG ogC og ogL ogP ogO rho rhoO strip optOk zR setL wQ absC absV absL pO hO qS ldB geth seth evStore stRes stB evBox evAlloc wS eL xJ eQ binI binB binNR binU fW nilR_t nilR_0 nilR_s evInt evStr evUn evConv cvO evPick mrg fM evNil evCall eJ qG evLen2 vcells vcOk atom tabF cnd retK resFin resL resA resC resCons fL tJ eR qX fillA fillOk putL getP nxtQ pureC_eq pureR genC_eq genR roV roL wN eB roW roWL roWOb roWObL nref nrefL binA binN eqSh eqRes qP evIndex2 evIndexS evSlice evSlice2 qT yM evConv2 cvS vB eN tO evMake wZ repL evFn evMin evMax freshC freshR sub_enR0 tC tK uT uA lenS cutS Bool.or_false Bool.false_or Bool.or_true Bool.true_or Bool.and_false Bool.false_and Option.map_some Option.map_none Option.getD_some Option.getD_none Option.bind_some Option.bind_none Option.or_some Option.or_none Option.none_or Option.isSome_none Option.isNone_none Option.isNone_some aN aC List.append_nil cond_true cond_false lC lN beq_self_eq_true Bool.and_true Bool.true_and Bool.not_true Bool.not_false true_and and_true and_self true_implies implies_true ne_eq not_false_eq_true Bool.false_eq_true Bool.true_eq_false false_implies Nat.lt_irrefl Nat.le_refl Nat.succ_ne_self imp_self Bool.cond_false_right Bool.cond_true_left decide_true decide_false Bool.not_eq_true' Bool.not_eq_false' Bool.not_not Nat.zero_mul Nat.zero_add Nat.add_zero Nat.mul_one Nat.one_mul Bool.cond_self tsz3 tby3 tagg3 tslice3 tarr3 tzero3 tzn3 tplaces3 tint3 tstr3 tnoint3 tbool3 tany3 tintk3 tbytes3 tsz4 tby4 tagg4 tslice4 tarr4 tzero4 tzn4 tplaces4 tint4 tstr4 tnoint4 tbool4 tany4 tintk4 tbytes4 tsz5 tby5 tagg5 tslice5 tarr5 tzero5 tzn5 tplaces5 tint5 tstr5 tnoint5 tbool5 tany5 tintk5 tbytes5 tsz23 tby23 tagg23 tslice23 tarr23 tzero23 tzn23 tplaces23 tint23 tstr23 tnoint23 tbool23 tany23 tintk23 tbytes23 tfld23_0 tfld23_1 tfld23_2 tfld23_3 tfld23_4 tsz24 tby24 tagg24 tslice24 tarr24 tzero24 tzn24 tplaces24 tint24 tstr24 tnoint24 tbool24 tany24 tintk24 tbytes24 tsz26 tby26 tagg26 tslice26 tarr26 tzero26 tzn26 tplaces26 tint26 tstr26 tnoint26 tbool26 tany26 tintk26 tbytes26 tsz28 tby28 tagg28 tslice28 tarr28 tzero28 tzn28 tplaces28 tint28 tstr28 tnoint28 tbool28 tany28 tintk28 tbytes28 tsz29 tby29 tagg29 tslice29 tarr29 tzero29 tzn29 tplaces29 tint29 tstr29 tnoint29 tbool29 tany29 tintk29 tbytes29 tsz31 tby31 tagg31 tslice31 tarr31 tzero31 tzn31 tplaces31 tint31 tstr31 tnoint31 tbool31 tany31 tintk31 tbytes31 tfld31_0 tfld31_1 tfld31_2 tfld31_3 tsz35 tby35 tagg35 tslice35 tarr35 tzero35 tzn35 tplaces35 tint35 tstr35 tnoint35 tbool35 tany35 tintk35 tbytes35 tsz36 tby36 tagg36 tslice36 tarr36 tzero36 tzn36 tplaces36 tint36 tstr36 tnoint36 tbool36 tany36 tintk36 tbytes36 tsz37 tby37 tagg37 tslice37 tarr37 tzero37 tzn37 tplaces37 tint37 tstr37 tnoint37 tbool37 tany37 tintk37 tbytes37 tsz38 tby38 tagg38 tslice38 tarr38 tzero38 tzn38 tplaces38 tint38 tstr38 tnoint38 tbool38 tany38 tintk38 tbytes38 tsz40 tby40 tagg40 tslice40 tarr40 tzero40 tzn40 tplaces40 tint40 tstr40 tnoint40 tbool40 tany40 tintk40 tbytes40 tfld40_0 tfld40_1 tfld40_2 tfld40_3 tfld40_4 tfld40_5 tfld40_6 tsz42 tby42 tagg42 tslice42 tarr42 tzero42 tzn42 tplaces42 tint42 tstr42 tnoint42 tbool42 tany42 tintk42 tbytes42 tfld42_0 tfld42_1 tsz46 tby46 tagg46 tslice46 tarr46 tzero46 tzn46 tplaces46 tint46 tstr46 tnoint46 tbool46 tany46 tintk46 tbytes46 tsz49 tby49 tagg49 tslice49 tarr49 tzero49 tzn49 tplaces49 tint49 tstr49 tnoint49 tbool49 tany49 tintk49 tbytes49 tfld49_0 tfld49_1 tfld49_2 tfld49_3 tfld49_4 tfld49_5 tfld49_6 tfld49_7 tfld49_8 tfld49_9 tfld49_10 tfld49_11 tfld49_12 tfld49_13 tfld49_14 tfld49_15 tfld49_16 tfld49_17 tfld49_18 tfld49_19 tsz50 tby50 tagg50 tslice50 tarr50 tzero50 tzn50 tplaces50 tint50 tstr50 tnoint50 tbool50 tany50 tintk50 tbytes50 tsz54 tby54 tagg54 tslice54 tarr54 tzero54 tzn54 tplaces54 tint54 tstr54 tnoint54 tbool54 tany54 tintk54 tbytes54 tfld54_0 tfld54_1 tsz61 tby61 tagg61 tslice61 tarr61 tzero61 tzn61 tplaces61 tint61 tstr61 tnoint61 tbool61 tany61 tintk61 tbytes61 tfld61_0 tfld61_1 tsz72 tby72 tagg72 tslice72 tarr72 tzero72 tzn72 tplaces72 tint72 tstr72 tnoint72 tbool72 tany72 tintk72 tbytes72 tfld72_0 tfld72_1 tfld72_2 tsz73 tby73 tagg73 tslice73 tarr73 tzero73 tzn73 tplaces73 tint73 tstr73 tnoint73 tbool73 tany73 tintk73 tbytes73 tsz74 tby74 tagg74 tslice74 tarr74 tzero74 tzn74 tplaces74 tint74 tstr74 tnoint74 tbool74 tany74 tintk74 tbytes74 tsz80 tby80 tagg80 tslice80 tarr80 tzero80 tzn80 tplaces80 tint80 tstr80 tnoint80 tbool80 tany80 tintk80 tbytes80 tsz82 tby82 tagg82 tslice82 tarr82 tzero82 tzn82 tplaces82 tint82 tstr82 tnoint82 tbool82 tany82 tintk82 tbytes82 tfld82_0 tfld82_1 tfld82_2 tsz91 tby91 tagg91 tslice91 tarr91 tzero91 tzn91 tplaces91 tint91 tstr91 tnoint91 tbool91 tany91 tintk91 tbytes91 tsz93 tby93 tagg93 tslice93 tarr93 tzero93 tzn93 tplaces93 tint93 tstr93 tnoint93 tbool93 tany93 tintk93 tbytes93 tsz100 tby100 tagg100 tslice100 tarr100 tzero100 tzn100 tplaces100 tint100 tstr100 tnoint100 tbool100 tany100 tintk100 tbytes100 tsz106 tby106 tagg106 tslice106 tarr106 tzero106 tzn106 tplaces106 tint106 tstr106 tnoint106 tbool106 tany106 tintk106 tbytes106 tsz115 tby115 tagg115 tslice115 tarr115 tzero115 tzn115 tplaces115 tint115 tstr115 tnoint115 tbool115 tany115 tintk115 tbytes115 tsz116 tby116 tagg116 tslice116 tarr116 tzero116 tzn116 tplaces116 tint116 tstr116 tnoint116 tbool116 tany116 tintk116 tbytes116 tsz117 tby117 tagg117 tslice117 tarr117 tzero117 tzn117 tplaces117 tint117 tstr117 tnoint117 tbool117 tany117 tintk117 tbytes117 tsz118 tby118 tagg118 tslice118 tarr118 tzero118 tzn118 tplaces118 tint118 tstr118 tnoint118 tbool118 tany118 tintk118 tbytes118 tsz121 tby121 tagg121 tslice121 tarr121 tzero121 tzn121 tplaces121 tint121 tstr121 tnoint121 tbool121 tany121 tintk121 tbytes121 tsz123 tby123 tagg123 tslice123 tarr123 tzero123 tzn123 tplaces123 tint123 tstr123 tnoint123 tbool123 tany123 tintk123 tbytes123 tsz124 tby124 tagg124 tslice124 tarr124 tzero124 tzn124 tplaces124 tint124 tstr124 tnoint124 tbool124 tany124 tintk124 tbytes124 e_u8_0 fit_u8 de_u8 vJ k_u8 e_i64_0 fit_i64 de_i64 wO k_i64 e_b_0 fit_b de_b g_b k_b tQ tR tT tU tV qH kA g_TWakeRule wG qF dF dG bV de_TComing g_TComing vR bP fG fQ eY tE uL e_A6u8_0 e_A6u8_1 e_A6u8_2 e_A6u8_3 e_A6u8_4 e_A6u8_5 fit_A6u8 de_A6u8 g_A6u8 k_A6u8 eta_A6u8 cO cP cQ cR cS cT cU cV cW cX kD kE kF kG kH kI kK kN kP kQ kR kT kU kV kW kX kY kZ jA jB jC jD jE jF jG jH jI jJ jK jL bW de_THeader fS qL bQ e_lu8_0 fit_lu8 de_lu8 g_lu8 k_lu8 e_TFrame_0 e_TFrame_1 e_TFrame_2 e_TFrame_3 e_TFrame_4 e_TFrame_5 e_TFrame_6 e_TFrame_7 e_TFrame_8 e_TFrame_9 dH dI dJ dK dL dM dN dO dP dQ dR dT dU dV dW dX dY cA cB cC cD cE cF cG cH cI cJ cK cL cM cN fit_TFrame de_TFrame zT vK eta_TFrame cY cZ bC bD bE bF bG bH bI bJ jP jQ jR jS jT jU jV jW jX jY jZ hU hZ gA gB gC gD gE gF gG gH gI gJ gK gL gM gN gO gP gQ gR gS gT bX de_TStored yA xD bR fH fR eZ tF uM jM jN jO fN eU yI xL fI qE qI kB uF vQ dB dC dD dE bU de_TBuffer zG xS bM e_li64_0 fit_li64 de_li64 g_li64 k_li64 e_A4i64_0 e_A4i64_1 e_A4i64_2 e_A4i64_3 fit_A4i64 de_A4i64 g_A4i64 k_A4i64 eta_A4i64 gW gX gY gZ fA fB fC fD fE fF tW tX tY qA qB qC qD fP eW tD uK fK bL bY de_lTFrame fT qM gU gV fO eV yO wF fJ e_u64_0 fit_u64 de_u64 g_u64 k_u64 e_A32u8_0 e_A32u8_1 e_A32u8_2 e_A32u8_3 e_A32u8_4 e_A32u8_5 e_A32u8_6 e_A32u8_7 e_A32u8_8 e_A32u8_9 e_A32u8_10 e_A32u8_11 e_A32u8_12 e_A32u8_13 e_A32u8_14 e_A32u8_15 e_A32u8_16 e_A32u8_17 e_A32u8_18 e_A32u8_19 e_A32u8_20 e_A32u8_21 e_A32u8_22 e_A32u8_23 e_A32u8_24 e_A32u8_25 e_A32u8_26 e_A32u8_27 e_A32u8_28 e_A32u8_29 e_A32u8_30 e_A32u8_31 fit_A32u8 de_A32u8 g_A32u8 k_A32u8 eta_A32u8 deR_0 deR_1 deR_2 deR_3 deR_4 deR_5 deR_6 deR_7 deR_8 deR_9 deR_10 deR_11 deR_12 litC_x0 litC_x1 litC_x2 litC_x3 litC_x4 litC_x5 litC_x6 litC_x7 litC_x8 litC_x9 litC_x10 litC_x11 strE_u8 Fit_0 Option.isSome_some yD gd_one evCopyL eH evLk_mp evLk_val evLkM bT findMb_lit findMb_row bS mapC_nil tabR sub_enR dZ xrD xoD tN vS rK rM rG aL aK iK bK sK lK iA bA sA lA or_true true_or Int.toNat_natCast shT_23 shT_37 shT_42 shT_46 shT_49 shT_121 Int.toNat_zero Int.cast_ofNat_Int kSP_normal kOP_normal kLP_exit pcC_lt upc_ii aLs roD roDOb yF edC edR eE rnm rnmL rnmB rnmC_en rnmC_upc rnmH rnm_bif rnmB_bif putH dA rhoN ptB slN litL celL pK isLit oS isRow inL fzV fzL wK tL fzH fzHF fzB fzObB eI rowOb
noncomputable def F72_L2 (p0:List Int) (v1_2:Int) (v2_1:List Int) (v2_2:Int):Option (Lp ((List Int) × Int) ((List Int) ⊕ (List Int))) :=
 bif (bLt v2_2 (gd p0 v1_2.toNat)) then (need (capb 1 (v2_1.length+1)) <| some (.next ((v2_1 ++ [wr .u8 v2_2]),wr .i64 (v2_2+1)))) else (some (.done (.inl v2_1)))
noncomputable def F72_L1 (p0:List Int) (v1_1:List Int) (v1_2:Int):Option (Lp ((List Int) × Int) ((List Int) ⊕ (List Int))) :=
 bif (bLt v1_2 (p0.length:Nat)) then (need (inb v1_2 p0.length) <| need (inb 0 v1_1.length) <| lp (yN (fun s=>F72_L2 p0 v1_2 s.1 s.2) (v1_1,wr .i64 ((wr .i64 (gd v1_1 0))+1))) (fun w2_3=>need (inb 0 w2_3.length) <| some (.next ((w2_3.set 0 (wr .u8 (gd p0 v1_2.toNat))),wr .i64 (v1_2+1)))) (fun r=>some (.done (.inr r)))) else (some (.done (.inl v1_1)))
noncomputable def F72 (p0:List Int):Option (List Int) :=
 lp (yN (fun s=>F72_L1 p0 s.1 s.2) ([0,0],0)) (fun w1_3=>need (inb 1 w1_3.length) <| some (w1_3.set 1 (wr .u8 (wr .i64 ((w1_3.length:Nat) - 2))))) some
noncomputable def body72:List AV->List ABlk->ED
 | [v0],h=>.ed [] (lK k_i64 1 (roD (yF h []) v0)/\roDOb (yF h []) v0/\(F72 (lA wO (roD (yF h []) v0))).isSome=true) (.sl 0 1 0 ((gt (F72 (lA wO (roD (yF h []) v0)))).length) false) [.row 5 1 ((gt (F72 (lA wO (roD (yF h []) v0)))).length) (enR yG (gt (F72 (lA wO (roD (yF h []) v0)))))]
 | _,_=>.fail
theorem ok72:xZ Try.prog 72 (edC body72):=by
 refine edit_fnV body72 (rs:=[.tmp 2]) Try.func72 (by kernel_rfl) rfl rfl ?_
 intro l h bs ob q0 g0 hb hob
 unfold body72 at hb
 split at hb
 ·rename_i v0
  injection hb with q1 q2 q3 q4;subst q1 q2 q3 q4
  obtain ⟨hk0_0,hk0_1,hob⟩:=hob
  obtain ⟨r,H⟩:=oE.1 hob
  rw [H,yD]
  have hw0:=uP (fun r h=>w_i64 h) hk0_0
  obtain ⟨p0,hp_p0⟩:∃ p0,p0=lA wO (roD (yF h []) v0):=⟨_,rfl⟩
  rw [← hp_p0] at H hw0
  refine ⟨[.ro 1 p0.length false (enR yQ p0)],[],rfl,⟨(EW_view hk0_1 hw0),trivial⟩,trivial,trivial,⟨(nfB_en xT),trivial⟩,⟨noroB_en,trivial⟩,(by first|(simp only [noro];done)|(simp only [noro,wP];and_intros<;>first|trivial|exact noro_bif (by simp only [noro]) (by simp only [noro])|(simp only [noro,wP,and_self]))),?_⟩
  rw [Try.ntmps72]
  simp only [lC,lN,Nat.reduceAdd,Nat.reduceSub,rS,rZ,aC,aN]
  unfold F72 at H
  try dsimp only at H
  refine sq zA ?_
  simp only [go_sem]
  refine sq zA ?_
  simp only [go_sem,Nat.reduceLeDiff,Nat.reduceAdd]
  refine zH ?_
  refine sq zA ?_
  simp only [go_sem]
  repeat ((with_reducible refine aI ?_ ?_);exact an3)
  refine xI ?_
  refine xA (fun s:(List Int) × Int=>(.top::.top::.top::.sl 1 1 0 s.1.length false::tp 4 (.ro 1 p0.length false (enR yQ p0)::.int .i64 (p0.length:Nat)::.int .i64 s.2::tp 30 []))) (fun s=>[.dead,.row 5 1 s.1.length (enR yG s.1)]) (fun e:List Int=>(.top::.top::.top::.sl 1 1 0 e.length false::tp 37 [])) (fun e=>[.dead,.row 5 1 e.length (enR yG e)]) H ?_ (fun s o H hn1_1 hn2_1=>?_) (fun w1_3 H=>?_)
  ·refine zI ⟨[some 0,some 0],?_,?_,by rfl,by rfl⟩
   ·simp [CvL,Cv,yB,tp]
   ·exact ⟨zB,zK xT cl (yY (f:=yG) [0,0] (fun _ _=>rfl) rfl),trivial⟩
  ·obtain ⟨v1_1,v1_2⟩:=s
   unfold F72_L1 at H
   try dsimp only at H ⊢
   try simp only [tp]
   refine sq zA ?_
   simp only [go_sem]
   refine zH ?_
   refine condM' rfl trivial (fun hc=>?_) (fun hc=>?_)
   ·have hk1:(bLt v1_2 (p0.length:Nat))=false:=by simpa using hc
    replace H:=zN hc H
    refine rg zA ?_
    simp only [go_sem]
    refine ⟨_,(Option.some.inj H).symm,?_⟩
    refine zI ⟨[some 0,some 1],?_,?_,by rfl,by rfl⟩
    ·simp [CvL,Cv,yB]
    ·exact ⟨zB,zK xT cl (fun _ _ _ _=>rfl),trivial⟩
   have hk1:(bLt v1_2 (p0.length:Nat))=true:=by simpa using hc
   replace H:=zO hc H
   refine rg zA ?_
   simp only [go_sem]
   refine zH ?_
   refine xI ?_
   refine zH ?_
   obtain ⟨f2,H⟩:=nI H
   refine rg zA ?_
   simp only [go_sem,Nat.reduceLT,f2]
   repeat ((with_reducible refine aI ?_ ?_);exact an4)
   refine zH ?_
   refine zH ?_
   obtain ⟨f3,H⟩:=nI H
   refine rg zA ?_
   simp only [go_sem,Nat.reduceLT,f3]
   repeat ((with_reducible refine aI ?_ ?_);exact an4)
   refine xI ?_
   refine xA (fun s:(List Int) × Int=>(.top::.top::.top::.sl 2 1 0 s.1.length false::.top::.int .i64 (gd p0 v1_2.toNat)::.int .i64 s.2::.top::.ro 1 p0.length false (enR yQ p0)::.int .i64 (p0.length:Nat)::.int .i64 v1_2::tp 30 [])) (fun s=>[.dead,.dead,.row 5 1 s.1.length (enR yG s.1)]) (fun e:List Int=>(.top::.top::.top::.sl 2 1 0 e.length false::.top::.int .i64 (gd p0 v1_2.toNat)::.top::.top::.ro 1 p0.length false (enR yQ p0)::.int .i64 (p0.length:Nat)::.int .i64 v1_2::tp 30 [])) (fun e=>[.dead,.dead,.row 5 1 e.length (enR yG e)]) H ?_ (fun s o H hn1_2 hn2_2=>?_) (fun w2_3 H=>?_)
   ·refine zI ⟨[some 0,some 1,some 1],?_,?_,by rfl,by rfl⟩
    ·simp [CvL,Cv,yB,tp]
    ·exact ⟨zB,zB,zK xT cl (fun _ _ _ _=>rfl),trivial⟩
   ·obtain ⟨v2_1,v2_2⟩:=s
    unfold F72_L2 at H
    try dsimp only at H ⊢
    try simp only [tp]
    refine zH ?_
    refine sq zA ?_
    simp only [go_sem,Nat.reduceAdd]
    refine condM' rfl trivial (fun hc=>?_) (fun hc=>?_)
    ·have hk4:(bLt v2_2 (gd p0 v1_2.toNat))=false:=by simpa using hc
     replace H:=zN hc H
     refine rg zA ?_
     simp only [go_sem,Nat.reduceBEq]
     refine ⟨_,(Option.some.inj H).symm,?_⟩
     refine zI ⟨[some 0,some 1,some 2],?_,?_,by rfl,by rfl⟩
     ·simp [CvL,Cv,yB]
     ·exact ⟨zB,zB,zK xT cl (fun _ _ _ _=>rfl),trivial⟩
    have hk4:(bLt v2_2 (gd p0 v1_2.toNat))=true:=by simpa using hc
    replace H:=zO hc H
    refine rg zA ?_
    simp only [go_sem]
    refine zH ?_
    refine xI ?_
    obtain ⟨f5,H⟩:=nC H
    refine rg zA ?_
    simp only [go_sem,Nat.reduceLeDiff,Nat.reduceAdd,Nat.reduceBEq,f5]
    repeat ((with_reducible refine aI ?_ ?_);exact an1)
    refine rg zA ?_
    simp only [go_sem]
    refine ⟨_,(Option.some.inj H).symm,?_⟩
    refine zI ⟨[some 0,some 1,some 4],?_,?_,by rfl,by rfl⟩
    ·simp [CvL,Cv,yB]
    ·exact ⟨zB,zB,zK xT cl (wW (f:=yG) v2_1 [wr .u8 v2_2] (fun _ _ _ _=>rfl) (yY (f:=yG) [wr .u8 v2_2] (fun _ _=>rfl) rfl)),trivial⟩
   ·try dsimp only at H ⊢
    try simp only [tp]
    try simp only [yR]
    obtain ⟨f6,H⟩:=nI H
    refine rg zA ?_
    simp only [go_sem,f6]
    repeat ((with_reducible refine aI ?_ ?_);exact an4)
    refine rg zA ?_
    simp only [go_sem]
    refine ⟨_,(Option.some.inj H).symm,?_⟩
    refine zI ⟨[some 0,some 2],?_,?_,by rfl,by rfl⟩
    ·simp [CvL,Cv,yB]
    ·exact ⟨zB,zK xT cl (fZ (f:=yG) w2_3 0 0 (wr .u8 (gd p0 v1_2.toNat)) (fun _ _ _ _=>rfl) (fun y hy=>match y,hy with|0,_=>rfl|(y+1),h=>absurd h nlt)),trivial⟩
  ·try dsimp only at H ⊢
   try simp only [tp]
   try simp only [yR]
   refine zH ?_
   obtain ⟨f7,H⟩:=nI H
   refine rg zA ?_
   simp only [go_sem,Int.reduceToNat,f7]
   repeat ((with_reducible refine aI ?_ ?_);exact an0)
   refine sq zA ?_
   simp only [go_sem]
   refine rg zA ?_
   simp only [go_sem]
   obtain rfl:=Option.some.inj H
   refine vH [] [some 1] ?_ ?_ ?_ ?_ (by rfl) (by rfl)
   ·simp only [go_sem]
    try exact at0
   ·simp only [go_sem]
    try exact at0
   ·simp only [go_sem]
    exact (by first|(simp [Cv,yB];done)|(simp [Cv,CvL,yB,yD];omega))
   ·simp only [go_sem,CvH]
    exact zK xT cl (fZ (f:=yG) w1_3 1 0 (wr .u8 (wr .i64 ((w1_3.length:Nat) - 2))) (fun _ _ _ _=>rfl) (fun y hy=>match y,hy with|0,_=>rfl|(y+1),h=>absurd h nlt))
 ·cases hb
noncomputable def ct54t0:Ct:=tab [(59,zV body59)]
theorem ct54t0_ok:yU Try.prog ct54t0:=zP ok59 <| zX
theorem ct54t0_59 (l:List AV) (h:List ABlk):ct54t0 59 l h=zV body59 l h:=rfl
noncomputable def ct54t1:Ct:=tab [(64,zV tA),(69,wE body69)]
theorem ct54t1_ok:yU Try.prog ct54t1:=zP ok64 <| zP ok69 <| zX
theorem ct54t1_64 (l:List AV) (h:List ABlk):ct54t1 64 l h=zV tA l h:=rfl
theorem ct54t1_69 (l:List AV) (h:List ABlk):ct54t1 69 l h=wE body69 l h:=rfl
noncomputable def ct54t2:Ct:=tab [(64,zV tA),(70,edC body70)]
theorem ct54t2_ok:yU Try.prog ct54t2:=zP ok64 <| zP ok70 <| zX
theorem ct54t2_64 (l:List AV) (h:List ABlk):ct54t2 64 l h=zV tA l h:=rfl
theorem ct54t2_70 (l:List AV) (h:List ABlk):ct54t2 70 l h=edC body70 l h:=rfl
noncomputable def ct54t3:Ct:=tab [(64,zV tA),(71,edC body71)]
theorem ct54t3_ok:yU Try.prog ct54t3:=zP ok64 <| zP ok71 <| zX
theorem ct54t3_64 (l:List AV) (h:List ABlk):ct54t3 64 l h=zV tA l h:=rfl
theorem ct54t3_71 (l:List AV) (h:List ABlk):ct54t3 71 l h=edC body71 l h:=rfl
noncomputable def ct54t4:Ct:=tab [(64,zV tA),(72,edC body72)]
theorem ct54t4_ok:yU Try.prog ct54t4:=zP ok64 <| zP ok72 <| zX
theorem ct54t4_64 (l:List AV) (h:List ABlk):ct54t4 64 l h=zV tA l h:=rfl
theorem ct54t4_72 (l:List AV) (h:List ABlk):ct54t4 72 l h=edC body72 l h:=rfl
noncomputable def F54 (p0:TTraffic) (p1:Int):Option ((List Int) × Int) :=
 (F59 p0).bind fun r1=>bif (!bEq r1 0) then (some ([],r1)) else (bif (bLt 3 p1) then (some ([],2)) else (bif p0.Group then (bif bEq p1 0 then ((F69 p0.Aids).bind fun r7=>need (capb 1 (1+r7.length)) <| some (([orI .u8 0 128] ++ r7),0)) else (bif bEq p1 1 then ((F70 p0.Aids).bind fun r11=>need (capb 1 (1+r11.length)) <| some (([orI .u8 1 128] ++ r11),0)) else (bif bEq p1 2 then ((F71 p0.Aids).bind fun r15=>need (capb 1 (1+r15.length)) <| some (([orI .u8 2 128] ++ r15),0)) else (bif bEq p1 3 then ((F72 p0.Aids).bind fun r19=>need (capb 1 (1+r19.length)) <| some (([orI .u8 3 128] ++ r19),0)) else (none))))) else (bif bEq p1 0 then ((F69 p0.Aids).bind fun r23=>need (capb 1 (1+r23.length)) <| some (([0] ++ r23),0)) else (bif bEq p1 1 then ((F70 p0.Aids).bind fun r27=>need (capb 1 (1+r27.length)) <| some (([1] ++ r27),0)) else (bif bEq p1 2 then ((F71 p0.Aids).bind fun r31=>need (capb 1 (1+r31.length)) <| some (([2] ++ r31),0)) else (bif bEq p1 3 then ((F72 p0.Aids).bind fun r35=>need (capb 1 (1+r35.length)) <| some (([3] ++ r35),0)) else (none)))))))
noncomputable def body54:List AV->List ABlk->ED
 | [v0,v1],h=>.ed [] (aK 2 wF (roD (yF h []) v0)/\roDOb (yF h []) v0/\iK .u8 (roD (yF h []) v1)/\roDOb (yF h []) v1/\(F54 (yO (aL (roD (yF h []) v0))) (iA (roD (yF h []) v1))).isSome=true) (.tup [.sl 0 1 0 (((gt (F54 (yO (aL (roD (yF h []) v0))) (iA (roD (yF h []) v1)))).1).length) false,.int .i64 ((gt (F54 (yO (aL (roD (yF h []) v0))) (iA (roD (yF h []) v1)))).2)]) [.row 5 1 (((gt (F54 (yO (aL (roD (yF h []) v0))) (iA (roD (yF h []) v1)))).1).length) (enR yG ((gt (F54 (yO (aL (roD (yF h []) v0))) (iA (roD (yF h []) v1)))).1))]
 | _,_=>.fail
theorem ok54:xZ Try.prog 54 (edC body54):=by
 refine edit_fnV body54 (rs:=[.tmp 4,.tmp 5]) Try.func54 (by kernel_rfl) rfl rfl ?_
 intro l h bs ob q0 g0 hb hob
 unfold body54 at hb
 split at hb
 ·rename_i v0 v1
  injection hb with q1 q2 q3 q4;subst q1 q2 q3 q4
  obtain ⟨hk0_0,hk0_1,hk1_0,hk1_1,hob⟩:=hob
  obtain ⟨r,H⟩:=oE.1 hob
  rw [H,yD]
  have hw0:=wA_TTraffic hk0_0
  obtain ⟨p0,hp_p0⟩:∃ p0,p0=yO (aL (roD (yF h []) v0)):=⟨_,rfl⟩
  rw [← hp_p0] at H hw0
  have hw1:=yJ hk1_0
  obtain ⟨p1,hp_p1⟩:∃ p1,p1=iA (roD (yF h []) v1):=⟨_,rfl⟩
  rw [← hp_p1] at H hw1
  refine ⟨[.agg [.bool p0.Group,.ro 1 p0.Aids.length false (enR yQ p0.Aids)],.int .u8 p1],[],rfl,⟨(EW_view hk0_1 hw0),⟨(EW_view hk1_1 hw1),trivial⟩⟩,trivial,trivial,⟨(nfB_en xT),trivial⟩,⟨noroB_en,trivial⟩,(by first|(simp only [noro,wP,and_self];done)|(simp only [noro,wP];and_intros<;>first|trivial|exact noro_bif (by simp only [noro]) (by simp only [noro])|(simp only [noro,wP,and_self]))),?_⟩
  rw [Try.ntmps54]
  simp only [lC,lN,Nat.reduceAdd,Nat.reduceSub,rS,rZ,aC,aN]
  unfold F54 at H
  try dsimp only at H
  refine sq zA ?_
  simp only [go_sem]
  refine zH ?_
  refine zH ?_
  obtain ⟨r1,e2,H⟩:=bsi H
  refine rg ct54t0_ok ?_
  simp only [go_sem,Nat.reduceLT,Nat.reduceAdd,ct54t0_59,body59,e2]
  repeat ((with_reducible refine aI ?_ ?_);exact an0)
  refine sq zA ?_
  simp only [go_sem]
  refine yE rfl trivial (fun hc=>?_) (fun hc=>?_)
  ·have hk3:(bEq r1 0)=false:=by simpa using hc
   replace H:=zO hc H
   refine sq zA ?_
   simp only [go_sem]
   refine rg zA ?_
   simp only [go_sem]
   obtain rfl:=Option.some.inj H
   refine vH [] [none] ?_ ?_ ?_ ?_ (by rfl) (by rfl)
   ·simp only [go_sem]
    try exact at0
   ·simp only [go_sem]
    try exact at0
   ·simp only [go_sem]
    exact xF (zC (by first|(simp [Cv];done)|(simp [Cv,CvL,yB,yD];omega)) (zC (by simp [Cv]) zW))
   ·simp only [go_sem,CvH]
    exact uR
  have hk3:(bEq r1 0)=true:=by simpa using hc
  replace H:=zN hc H
  refine rg zA ?_
  simp only [go_sem]
  refine zH ?_
  refine sq zA ?_
  simp only [go_sem]
  refine yE rfl trivial (fun hc=>?_) (fun hc=>?_)
  ·have hk4:(bLt 3 p1)=true:=by simpa using hc
   replace H:=zO hc H
   refine sq zA ?_
   simp only [go_sem]
   refine rg zA ?_
   simp only [go_sem]
   obtain rfl:=Option.some.inj H
   refine vH [] [none] ?_ ?_ ?_ ?_ (by rfl) (by rfl)
   ·simp only [go_sem]
    try exact at0
   ·simp only [go_sem]
    try exact at0
   ·simp only [go_sem]
    exact xF (zC (by first|(simp [Cv];done)|(simp [Cv,CvL,yB,yD];omega)) (zC (by simp [Cv]) zW))
   ·simp only [go_sem,CvH]
    exact uR
  have hk4:(bLt 3 p1)=false:=by simpa using hc
  replace H:=zN hc H
  refine rg zA ?_
  simp only [go_sem]
  refine sq zA ?_
  simp only [go_sem]
  refine zH ?_
  refine sq zA ?_
  simp only [go_sem,Nat.reduceLeDiff,Nat.reduceLT,Nat.reduceAdd]
  repeat ((with_reducible refine aI ?_ ?_);exact an4)
  refine yE rfl trivial (fun hc=>?_) (fun hc=>?_)
  ·have hk5:(p0.Group)=true:=by simpa using hc
   replace H:=zO hc H
   refine rg zA ?_
   simp only [go_sem]
   refine zH ?_
   refine wY (c:=(bEq p1 0)) (fun hv6=>?_) (fun hv6=>?_)
   ·replace H:=zO hv6 H
    have hv6_:p1=0:=of_decide_eq_true hv6
    rw [hv6_]
    obtain ⟨r7,e8,H⟩:=bsi H
    obtain ⟨f9,H⟩:=nC H
    refine yZ zL ct54t1_ok 2 (by kernel_rfl) (by kernel_rfl) ?_
    intro an han
    simp only [uC,wM,eG,xrD,xoD,tN,vS,List.append_nil,xK,refs,uI,mask,wT,place,xU,wV,wA,hit,inL,xM,ren,rnN,nrH,nrB,rZ,rS,Nat.sub_self,Nat.add_zero,Nat.zero_add,Nat.reduceSub,Nat.lt_add_one,go_sem,Nat.reduceLeDiff,Nat.reduceLT,Nat.reduceAdd,Nat.reduceSub,Nat.reduceBEq,ct54t1_64,tA,ct54t1_69,body69,e8,f9]
    repeat ((with_reducible refine aI ?_ ?_);exact an2)
    refine rg zA ?_
    simp only [go_sem]
    obtain rfl:=Option.some.inj H
    refine vH [] [some 2] ?_ ?_ ?_ ?_ (by rfl) (by rfl)
    ·simp only [go_sem]
     try exact at0
    ·simp only [go_sem]
     try exact at0
    ·simp only [go_sem]
     exact xF (zC (by first|(simp [Cv,yB];done)|(simp [Cv,yB];omega)) (zC (by simp [Cv]) zW))
    ·simp only [go_sem,CvH]
     exact zK xT cl (wW (f:=yG) [orI .u8 0 128] r7 (yY (f:=yG) [orI .u8 0 128] (fun _ _=>rfl) rfl) (fun _ _ _ _=>rfl))
   replace H:=zN hv6 H
   refine wY (c:=(bEq p1 1)) (fun hv10=>?_) (fun hv10=>?_)
   ·replace H:=zO hv10 H
    have hv10_:p1=1:=of_decide_eq_true hv10
    rw [hv10_]
    obtain ⟨r11,e12,H⟩:=bsi H
    obtain ⟨f13,H⟩:=nC H
    refine yZ zL ct54t2_ok 3 (by kernel_rfl) (by kernel_rfl) ?_
    intro an han
    simp only [uC,wM,eG,xrD,xoD,tN,vS,List.append_nil,xK,refs,uI,mask,wT,place,xU,wV,wA,hit,inL,xM,ren,rnN,nrH,nrB,rZ,rS,Nat.sub_self,Nat.add_zero,Nat.zero_add,Nat.reduceSub,Nat.lt_add_one,go_sem,Nat.reduceLeDiff,Nat.reduceLT,Nat.reduceAdd,Nat.reduceSub,Nat.reduceBEq,Int.reduceToNat,ct54t2_64,tA,ct54t2_70,body70,e12,f13]
    repeat ((with_reducible refine aI ?_ ?_);exact an2)
    refine rg zA ?_
    simp only [go_sem]
    obtain rfl:=Option.some.inj H
    refine vH [] [some 3] ?_ ?_ ?_ ?_ (by rfl) (by rfl)
    ·simp only [go_sem]
     try exact at0
    ·simp only [go_sem]
     try exact at0
    ·simp only [go_sem]
     exact xF (zC (by first|(simp [Cv,yB];done)|(simp [Cv,yB];omega)) (zC (by simp [Cv]) zW))
    ·simp only [go_sem,CvH]
     exact zK xT cl (wW (f:=yG) [orI .u8 1 128] r11 (yY (f:=yG) [orI .u8 1 128] (fun _ _=>rfl) rfl) (fun _ _ _ _=>rfl))
   replace H:=zN hv10 H
   refine wY (c:=(bEq p1 2)) (fun hv14=>?_) (fun hv14=>?_)
   ·replace H:=zO hv14 H
    have hv14_:p1=2:=of_decide_eq_true hv14
    rw [hv14_]
    obtain ⟨r15,e16,H⟩:=bsi H
    obtain ⟨f17,H⟩:=nC H
    refine yZ zL ct54t3_ok 3 (by kernel_rfl) (by kernel_rfl) ?_
    intro an han
    simp only [uC,wM,eG,xrD,xoD,tN,vS,List.append_nil,xK,refs,uI,mask,wT,place,xU,wV,wA,hit,inL,xM,ren,rnN,nrH,nrB,rZ,rS,Nat.sub_self,Nat.add_zero,Nat.zero_add,Nat.reduceSub,Nat.lt_add_one,go_sem,Nat.reduceLeDiff,Nat.reduceLT,Nat.reduceAdd,Nat.reduceSub,Nat.reduceBEq,Int.reduceToNat,ct54t3_64,tA,ct54t3_71,body71,e16,f17]
    repeat ((with_reducible refine aI ?_ ?_);exact an2)
    refine rg zA ?_
    simp only [go_sem]
    obtain rfl:=Option.some.inj H
    refine vH [] [some 3] ?_ ?_ ?_ ?_ (by rfl) (by rfl)
    ·simp only [go_sem]
     try exact at0
    ·simp only [go_sem]
     try exact at0
    ·simp only [go_sem]
     exact xF (zC (by first|(simp [Cv,yB];done)|(simp [Cv,yB];omega)) (zC (by simp [Cv]) zW))
    ·simp only [go_sem,CvH]
     exact zK xT cl (wW (f:=yG) [orI .u8 2 128] r15 (yY (f:=yG) [orI .u8 2 128] (fun _ _=>rfl) rfl) (fun _ _ _ _=>rfl))
   replace H:=zN hv14 H
   refine wY (c:=(bEq p1 3)) (fun hv18=>?_) (fun hv18=>?_)
   ·replace H:=zO hv18 H
    have hv18_:p1=3:=of_decide_eq_true hv18
    rw [hv18_]
    obtain ⟨r19,e20,H⟩:=bsi H
    obtain ⟨f21,H⟩:=nC H
    refine yZ zL ct54t4_ok 3 (by kernel_rfl) (by kernel_rfl) ?_
    intro an han
    simp only [uC,wM,eG,xrD,xoD,tN,vS,List.append_nil,xK,refs,uI,mask,wT,place,xU,wV,wA,hit,inL,xM,ren,rnN,nrH,nrB,rZ,rS,Nat.sub_self,Nat.add_zero,Nat.zero_add,Nat.reduceSub,Nat.lt_add_one,go_sem,Nat.reduceLeDiff,Nat.reduceLT,Nat.reduceAdd,Nat.reduceSub,Nat.reduceBEq,Int.reduceToNat,ct54t4_64,tA,ct54t4_72,body72,e20,f21]
    repeat ((with_reducible refine aI ?_ ?_);exact an2)
    refine rg zA ?_
    simp only [go_sem]
    obtain rfl:=Option.some.inj H
    refine vH [] [some 3] ?_ ?_ ?_ ?_ (by rfl) (by rfl)
    ·simp only [go_sem]
     try exact at0
    ·simp only [go_sem]
     try exact at0
    ·simp only [go_sem]
     exact xF (zC (by first|(simp [Cv,yB];done)|(simp [Cv,yB];omega)) (zC (by simp [Cv]) zW))
    ·simp only [go_sem,CvH]
     exact zK xT cl (wW (f:=yG) [orI .u8 3 128] r19 (yY (f:=yG) [orI .u8 3 128] (fun _ _=>rfl) rfl) (fun _ _ _ _=>rfl))
   replace H:=zN hv18 H
   cases H
  have hk5:(p0.Group)=false:=by simpa using hc
  replace H:=zN hc H
  refine rg zA ?_
  simp only [go_sem]
  refine zH ?_
  refine wY (c:=(bEq p1 0)) (fun hv22=>?_) (fun hv22=>?_)
  ·replace H:=zO hv22 H
   have hv22_:p1=0:=of_decide_eq_true hv22
   rw [hv22_]
   obtain ⟨r23,e24,H⟩:=bsi H
   obtain ⟨f25,H⟩:=nC H
   refine yZ zL ct54t1_ok 2 (by kernel_rfl) (by kernel_rfl) ?_
   intro an han
   simp only [uC,wM,eG,xrD,xoD,tN,vS,List.append_nil,xK,refs,uI,mask,wT,place,xU,wV,wA,hit,inL,xM,ren,rnN,nrH,nrB,rZ,rS,Nat.sub_self,Nat.add_zero,Nat.zero_add,Nat.reduceSub,Nat.lt_add_one,go_sem,Nat.reduceLeDiff,Nat.reduceLT,Nat.reduceAdd,Nat.reduceSub,Nat.reduceBEq,ct54t1_64,tA,ct54t1_69,body69,e24,f25]
   repeat ((with_reducible refine aI ?_ ?_);exact an2)
   refine rg zA ?_
   simp only [go_sem]
   obtain rfl:=Option.some.inj H
   refine vH [] [some 2] ?_ ?_ ?_ ?_ (by rfl) (by rfl)
   ·simp only [go_sem]
    try exact at0
   ·simp only [go_sem]
    try exact at0
   ·simp only [go_sem]
    exact xF (zC (by first|(simp [Cv,yB];done)|(simp [Cv,yB];omega)) (zC (by simp [Cv]) zW))
   ·simp only [go_sem,CvH]
    exact zK xT cl (wW (f:=yG) [0] r23 (yY (f:=yG) [0] (fun _ _=>rfl) rfl) (fun _ _ _ _=>rfl))
  replace H:=zN hv22 H
  refine wY (c:=(bEq p1 1)) (fun hv26=>?_) (fun hv26=>?_)
  ·replace H:=zO hv26 H
   have hv26_:p1=1:=of_decide_eq_true hv26
   rw [hv26_]
   obtain ⟨r27,e28,H⟩:=bsi H
   obtain ⟨f29,H⟩:=nC H
   refine yZ zL ct54t2_ok 3 (by kernel_rfl) (by kernel_rfl) ?_
   intro an han
   simp only [uC,wM,eG,xrD,xoD,tN,vS,List.append_nil,xK,refs,uI,mask,wT,place,xU,wV,wA,hit,inL,xM,ren,rnN,nrH,nrB,rZ,rS,Nat.sub_self,Nat.add_zero,Nat.zero_add,Nat.reduceSub,Nat.lt_add_one,go_sem,Nat.reduceLeDiff,Nat.reduceLT,Nat.reduceAdd,Nat.reduceSub,Nat.reduceBEq,Int.reduceToNat,ct54t2_64,tA,ct54t2_70,body70,e28,f29]
   repeat ((with_reducible refine aI ?_ ?_);exact an2)
   refine rg zA ?_
   simp only [go_sem]
   obtain rfl:=Option.some.inj H
   refine vH [] [some 3] ?_ ?_ ?_ ?_ (by rfl) (by rfl)
   ·simp only [go_sem]
    try exact at0
   ·simp only [go_sem]
    try exact at0
   ·simp only [go_sem]
    exact xF (zC (by first|(simp [Cv,yB];done)|(simp [Cv,yB];omega)) (zC (by simp [Cv]) zW))
   ·simp only [go_sem,CvH]
    exact zK xT cl (wW (f:=yG) [1] r27 (yY (f:=yG) [1] (fun _ _=>rfl) rfl) (fun _ _ _ _=>rfl))
  replace H:=zN hv26 H
  refine wY (c:=(bEq p1 2)) (fun hv30=>?_) (fun hv30=>?_)
  ·replace H:=zO hv30 H
   have hv30_:p1=2:=of_decide_eq_true hv30
   rw [hv30_]
   obtain ⟨r31,e32,H⟩:=bsi H
   obtain ⟨f33,H⟩:=nC H
   refine yZ zL ct54t3_ok 3 (by kernel_rfl) (by kernel_rfl) ?_
   intro an han
   simp only [uC,wM,eG,xrD,xoD,tN,vS,List.append_nil,xK,refs,uI,mask,wT,place,xU,wV,wA,hit,inL,xM,ren,rnN,nrH,nrB,rZ,rS,Nat.sub_self,Nat.add_zero,Nat.zero_add,Nat.reduceSub,Nat.lt_add_one,go_sem,Nat.reduceLeDiff,Nat.reduceLT,Nat.reduceAdd,Nat.reduceSub,Nat.reduceBEq,Int.reduceToNat,ct54t3_64,tA,ct54t3_71,body71,e32,f33]
   repeat ((with_reducible refine aI ?_ ?_);exact an2)
   refine rg zA ?_
   simp only [go_sem]
   obtain rfl:=Option.some.inj H
   refine vH [] [some 3] ?_ ?_ ?_ ?_ (by rfl) (by rfl)
   ·simp only [go_sem]
    try exact at0
   ·simp only [go_sem]
    try exact at0
   ·simp only [go_sem]
    exact xF (zC (by first|(simp [Cv,yB];done)|(simp [Cv,yB];omega)) (zC (by simp [Cv]) zW))
   ·simp only [go_sem,CvH]
    exact zK xT cl (wW (f:=yG) [2] r31 (yY (f:=yG) [2] (fun _ _=>rfl) rfl) (fun _ _ _ _=>rfl))
  replace H:=zN hv30 H
  refine wY (c:=(bEq p1 3)) (fun hv34=>?_) (fun hv34=>?_)
  ·replace H:=zO hv34 H
   have hv34_:p1=3:=of_decide_eq_true hv34
   rw [hv34_]
   obtain ⟨r35,e36,H⟩:=bsi H
   obtain ⟨f37,H⟩:=nC H
   refine yZ zL ct54t4_ok 3 (by kernel_rfl) (by kernel_rfl) ?_
   intro an han
   simp only [uC,wM,eG,xrD,xoD,tN,vS,List.append_nil,xK,refs,uI,mask,wT,place,xU,wV,wA,hit,inL,xM,ren,rnN,nrH,nrB,rZ,rS,Nat.sub_self,Nat.add_zero,Nat.zero_add,Nat.reduceSub,Nat.lt_add_one,go_sem,Nat.reduceLeDiff,Nat.reduceLT,Nat.reduceAdd,Nat.reduceSub,Nat.reduceBEq,Int.reduceToNat,ct54t4_64,tA,ct54t4_72,body72,e36,f37]
   repeat ((with_reducible refine aI ?_ ?_);exact an2)
   refine rg zA ?_
   simp only [go_sem]
   obtain rfl:=Option.some.inj H
   refine vH [] [some 3] ?_ ?_ ?_ ?_ (by rfl) (by rfl)
   ·simp only [go_sem]
    try exact at0
   ·simp only [go_sem]
    try exact at0
   ·simp only [go_sem]
    exact xF (zC (by first|(simp [Cv,yB];done)|(simp [Cv,yB];omega)) (zC (by simp [Cv]) zW))
   ·simp only [go_sem,CvH]
    exact zK xT cl (wW (f:=yG) [3] r35 (yY (f:=yG) [3] (fun _ _=>rfl) rfl) (fun _ _ _ _=>rfl))
  replace H:=zN hv34 H
  cases H
 ·cases hb
noncomputable def ct30t0:Ct:=tab [(54,edC body54)]
theorem ct30t0_ok:yU Try.prog ct30t0:=zP ok54 <| zX
theorem ct30t0_54 (l:List AV) (h:List ABlk):ct30t0 54 l h=edC body54 l h:=rfl
noncomputable def F30_L1 (p0:TTraffic) (v1_1:List Int) (v1_2:Int):Option (Lp ((List Int) × Int) ((List Int) ⊕ ((List Int) × Int))) :=
 bif (bLt v1_2 4) then ((F54 p0 v1_2).bind fun r2=>bif (!bEq r2.2 0) then (some (.done (.inr ([],r2.2)))) else (bif (v1_1.isEmpty || (bLt (r2.1.length:Nat) (v1_1.length:Nat))) then (need (!r2.1.isEmpty) <| some (.next (r2.1,wr .u8 (v1_2+1)))) else (some (.next (v1_1,wr .u8 (v1_2+1)))))) else (some (.done (.inl v1_1)))
noncomputable def F30 (p0:TTraffic):Option ((List Int) × Int) :=
 lp (yN (fun s=>F30_L1 p0 s.1 s.2) ([],0)) (fun w1_3=>some (w1_3,0)) some
noncomputable def body30:List AV->List ABlk->ED
 | [v0],h=>.ed [] (aK 2 wF (roD (yF h []) v0)/\roDOb (yF h []) v0/\(F30 (yO (aL (roD (yF h []) v0)))).isSome=true) (.tup [.sl 0 1 0 (((gt (F30 (yO (aL (roD (yF h []) v0))))).1).length) false,.int .i64 ((gt (F30 (yO (aL (roD (yF h []) v0))))).2)]) [.row 5 1 (((gt (F30 (yO (aL (roD (yF h []) v0))))).1).length) (enR yG ((gt (F30 (yO (aL (roD (yF h []) v0))))).1))]
 | _,_=>.fail
theorem ok30:xZ Try.prog 30 (edC body30):=by
 refine edit_fnV body30 (rs:=[.tmp 2,.tmp 3]) Try.func30 (by kernel_rfl) rfl rfl ?_
 intro l h bs ob q0 g0 hb hob
 unfold body30 at hb
 split at hb
 ·rename_i v0
  injection hb with q1 q2 q3 q4;subst q1 q2 q3 q4
  obtain ⟨hk0_0,hk0_1,hob⟩:=hob
  obtain ⟨r,H⟩:=oE.1 hob
  rw [H,yD]
  have hw0:=wA_TTraffic hk0_0
  obtain ⟨p0,hp_p0⟩:∃ p0,p0=yO (aL (roD (yF h []) v0)):=⟨_,rfl⟩
  rw [← hp_p0] at H hw0
  refine ⟨[.agg [.bool p0.Group,.ro 1 p0.Aids.length false (enR yQ p0.Aids)]],[],rfl,⟨(EW_view hk0_1 hw0),trivial⟩,trivial,trivial,⟨(nfB_en xT),trivial⟩,⟨noroB_en,trivial⟩,(by first|(simp only [noro,wP,and_self];done)|(simp only [noro,wP];and_intros<;>first|trivial|exact noro_bif (by simp only [noro]) (by simp only [noro])|(simp only [noro,wP,and_self]))),?_⟩
  rw [Try.ntmps30]
  simp only [lC,lN,Nat.reduceAdd,Nat.reduceSub,rS,rZ,aC,aN]
  unfold F30 at H
  try dsimp only at H
  refine sq zA ?_
  simp only [go_sem]
  refine zH ?_
  refine sq zA ?_
  simp only [go_sem]
  refine xI ?_
  refine xA (fun s:(List Int) × Int=>(.top::.ptr 0 0 0 0::.sl 1 1 0 s.1.length s.1.isEmpty::tp 4 (.int .u8 s.2::tp 23 []))) (fun s=>[.lit 61 [.bool p0.Group,.ro 1 p0.Aids.length false (enR yQ p0.Aids)],.row 5 1 s.1.length (enR yG s.1)]) (fun e:List Int=>(.top::.top::.sl 1 1 0 e.length e.isEmpty::tp 28 [])) (fun e=>[.dead,.row 5 1 e.length (enR yG e)]) H ?_ (fun s o H hn1_1 hn2_1=>?_) (fun w1_3 H=>?_)
  ·refine zI ⟨[some 0,none],?_,?_,by rfl,by rfl⟩
   ·simp [CvL,Cv,yB,tp]
   ·exact ⟨cv,uR,trivial⟩
  ·obtain ⟨v1_1,v1_2⟩:=s
   unfold F30_L1 at H
   try dsimp only at H ⊢
   try simp only [tp]
   refine sq zA ?_
   simp only [go_sem]
   refine zH ?_
   refine condM' rfl trivial (fun hc=>?_) (fun hc=>?_)
   ·have hk1:(bLt v1_2 4)=false:=by simpa using hc
    replace H:=zN hc H
    refine rg zA ?_
    simp only [go_sem]
    refine ⟨_,(Option.some.inj H).symm,?_⟩
    refine zI ⟨[some 0,some 1],?_,?_,by rfl,by rfl⟩
    ·simp [CvL,Cv,yB]
    ·exact ⟨zB,zK xT cl (fun _ _ _ _=>rfl),trivial⟩
   have hk1:(bLt v1_2 4)=true:=by simpa using hc
   replace H:=zO hc H
   refine rg zA ?_
   simp only [go_sem]
   refine zH ?_
   refine xI ?_
   refine sq zA ?_
   simp only [go_sem]
   refine zH ?_
   obtain ⟨r2,e3,H⟩:=bsi H
   refine rg ct30t0_ok ?_
   simp only [go_sem,Nat.reduceLT,Nat.reduceAdd,ct30t0_54,body54,e3]
   repeat ((with_reducible refine aI ?_ ?_);exact an0)
   refine zH ?_
   refine sq zA ?_
   simp only [go_sem]
   refine yE rfl trivial (fun hc=>?_) (fun hc=>?_)
   ·have hk4:(bEq r2.2 0)=false:=by simpa using hc
    replace H:=zO hc H
    refine sq zA ?_
    simp only [go_sem]
    refine rg zA ?_
    simp only [go_sem]
    have H:=hn2_1 _ (Option.some.inj H).symm
    obtain rfl:=Option.some.inj H
    refine vH [] [none] ?_ ?_ ?_ ?_ (by rfl) (by rfl)
    ·simp only [go_sem]
     try exact at0
    ·simp only [go_sem]
     try exact at0
    ·simp only [go_sem]
     exact xF (zC (by first|(simp [Cv];done)|(simp [Cv,CvL,yB,yD];omega)) (zC (by simp [Cv]) zW))
    ·simp only [go_sem,CvH]
     exact uR
   have hk4:(bEq r2.2 0)=true:=by simpa using hc
   replace H:=zN hc H
   refine rg zA ?_
   simp only [go_sem]
   refine sq zA ?_
   simp only [go_sem]
   repeat ((with_reducible refine aI ?_ ?_);exact an5)
   refine condM' rfl trivial (fun hc=>?_) (fun hc=>?_)
   ·have hk5:(v1_1.isEmpty || (bLt (r2.1.length:Nat) (v1_1.length:Nat)))=false:=by simpa using hc
    replace H:=zN hc H
    refine rg zA ?_
    simp only [go_sem]
    refine rg zA ?_
    simp only [go_sem]
    refine ⟨_,(Option.some.inj H).symm,?_⟩
    refine zI ⟨[some 0,some 1],?_,?_,by rfl,by rfl⟩
    ·simp [CvL,Cv,yB]
    ·exact ⟨cv,zK xT cl (fun _ _ _ _=>rfl),trivial⟩
   have hk5:(v1_1.isEmpty || (bLt (r2.1.length:Nat) (v1_1.length:Nat)))=true:=by simpa using hc
   replace H:=zO hc H
   refine rg zA ?_
   simp only [go_sem]
   refine rg zA ?_
   simp only [go_sem]
   obtain ⟨ne6,H⟩:=yH.1 H
   replace ne6:r2.1 ≠ []:=by simpa using ne6
   refine ⟨_,(Option.some.inj H).symm,?_⟩
   refine zI ⟨[some 0,some 2],?_,?_,by rfl,by rfl⟩
   ·simp [CvL,Cv,yB,ne6]
   ·exact ⟨cv,zK xT cl (fun _ _ _ _=>rfl),trivial⟩
  ·try dsimp only at H ⊢
   try simp only [tp]
   try simp only [yR]
   refine sq zA ?_
   simp only [go_sem]
   refine rg zA ?_
   simp only [go_sem]
   obtain rfl:=Option.some.inj H
   refine vH [] [some 1] ?_ ?_ ?_ ?_ (by rfl) (by rfl)
   ·simp only [go_sem]
    try exact at0
   ·simp only [go_sem]
    try exact at0
   ·simp only [go_sem]
    exact xF (zC (by first|(simp [Cv,yB];done)|(simp [Cv,CvL,yB,yD];omega)) (zC (by simp [Cv]) zW))
   ·simp only [go_sem,CvH]
    exact zK xT cl (fun _ _ _ _=>rfl)
 ·cases hb
noncomputable def F55 (p0:List Int):Option (Int) :=
 need (inb 0 p0.length) <| need (inb (vL .u8 (gd p0 0) 128) 4) <| need (bif (!(bLt (p0.length:Nat) (gd [33,3,2,3] ((vL .u8 (gd p0 0) 128).toNat)))) then inb 0 p0.length else true) <| bif ((bLt (p0.length:Nat) (gd [33,3,2,3] ((vL .u8 (gd p0 0) 128).toNat))) || (bEq (vL .u8 (gd p0 0) 128) 0)) then (some (gd [33,3,2,3] ((vL .u8 (gd p0 0) 128).toNat))) else (need (inb (wr .i64 ((gd [33,3,2,3] ((vL .u8 (gd p0 0) 128).toNat)) - 1)) p0.length) <| some (wr .i64 ((gd [33,3,2,3] ((vL .u8 (gd p0 0) 128).toNat))+(wr .i64 (gd p0 ((wr .i64 ((gd [33,3,2,3] ((vL .u8 (gd p0 0) 128).toNat)) - 1)).toNat))))))
noncomputable def body55:List AV->AR
 | [v0]=>.pure (lK k_u8 1 v0/\(F55 (lA vJ v0)).isSome=true) (.int .i64 (gt (F55 (lA vJ v0))))
 | _=>.fail
theorem ok55:xZ Try.prog 55 (zV body55):=by
 refine xC body55 (rs:=[.tmp 2]) Try.func55 (by kernel_rfl) rfl rfl ?_
 intro l ob v hb hob
 unfold body55 at hb
 split at hb
 ·rename_i v0
  injection hb with q1 q2;subst q1 q2
  obtain ⟨hk0_0,hob⟩:=hob
  obtain ⟨r,H⟩:=oE.1 hob
  rw [H,yD]
  have hw0:=uP (fun r h=>w_u8 h) hk0_0
  generalize lA vJ v0=p0 at H hw0
  refine ⟨[.ro 1 p0.length false (enR yG p0)],_,(fun E vs F=>yL hw0.1 F (fun vs F=>F)),rfl,rfl,?_⟩
  rw [Try.ntmps55]
  simp only [lC,lN,Nat.reduceAdd,Nat.reduceSub,rS,rZ,aC,aN]
  unfold F55 at H
  try dsimp only at H
  refine sq zA ?_
  simp only [go_sem]
  refine zH ?_
  obtain ⟨f1,H⟩:=nI H
  obtain ⟨f2,H⟩:=nI H
  have gi3:=getL_ints (k:=.i64) [33,3,2,3] ((vL .u8 (gd p0 0) 128).toNat) (by simp only [lC,lN];omega)
  simp only [List.map_cons,List.map_nil] at gi3
  refine rg zA ?_
  simp only [go_sem,Nat.reduceLeDiff,Nat.reduceLT,Nat.reduceAdd,f1,f2,gi3]
  repeat ((with_reducible refine aI ?_ ?_);exact an4)
  refine zH ?_
  refine zH ?_
  obtain ⟨f4,H⟩:=yH.1 H
  replace f4:=bZ.1 f4
  replace f4:=fun g=>uG.1 (f4 g)
  refine rg zA ?_
  simp only [go_sem,Nat.reduceLT]
  repeat ((with_reducible refine And.intro ?_ ?_);focus (first|(with_reducible trivial)|omega|exact f4|(intro g;have q:=f4 (by first|exact g|(rw [g];rfl)|simpa using g);first|exact q|exact ⟨q.1,q.2.1⟩|exact q.2.2|omega|exact ⟨g,q⟩|exact ⟨trivial,q⟩|exact ⟨g,q.1,q.2.1⟩|exact ⟨g,q.2.2⟩)|(intro g;(try have q0:=f4 (by first|exact g|(rw [g];rfl)|simpa using g));and_intros<;>first|(with_reducible trivial)|assumption|exact nfc|(intro g2;rw [g,g2];rfl)|(intro g2;assumption)|(simp only [g,Bool.true_and,Bool.and_true,Bool.not_false,Bool.not_true];assumption)|grind)|(and_intros<;>first|(with_reducible trivial)|omega|assumption|exact nfc|first|exact rfl|exact trivial|exact uV|exact .inr rfl|exact .inl rfl|exact fun x hx=>absurd hx (by omega))|grind))
  refine yE rfl trivial (fun hc=>?_) (fun hc=>?_)
  ·have hk5:((bLt (p0.length:Nat) (gd [33,3,2,3] ((vL .u8 (gd p0 0) 128).toNat))) || (bEq (vL .u8 (gd p0 0) 128) 0))=true:=by simpa using hc
   replace H:=zO hc H
   refine sq zA ?_
   simp only [go_sem]
   refine rg zA ?_
   simp only [go_sem]
   obtain rfl:=Option.some.inj H
   first|rfl|simp only [Bool.and_false,Bool.false_and,Bool.and_true,Bool.true_and]
  have hk5:((bLt (p0.length:Nat) (gd [33,3,2,3] ((vL .u8 (gd p0 0) 128).toNat))) || (bEq (vL .u8 (gd p0 0) 128) 0))=false:=by simpa using hc
  replace H:=zN hc H
  refine rg zA ?_
  simp only [go_sem]
  refine zH ?_
  obtain ⟨f6,H⟩:=nI H
  refine rg zA ?_
  simp only [go_sem,Nat.reduceLT,f6]
  repeat ((with_reducible refine aI ?_ ?_);exact an4)
  refine rg zA ?_
  simp only [go_sem]
  obtain rfl:=Option.some.inj H
  first|rfl|simp only [Bool.and_false,Bool.false_and,Bool.and_true,Bool.true_and]
 ·cases hb
noncomputable def F57_L1 (p0:List Int) (p1:List Int) (v1_1:Int):Option (Lp (Int) ((Unit) ⊕ (Bool))) :=
 bif (bLt v1_1 (p0.length:Nat)) then (need (inb v1_1 p0.length) <| need (inb v1_1 p1.length) <| bif (!bEq (gd p0 v1_1.toNat) (gd p1 v1_1.toNat)) then (some (.done (.inr false))) else (some (.next (wr .i64 (v1_1+1))))) else (some (.done (.inl ())))
noncomputable def F57 (p0:List Int) (p1:List Int):Option (Bool) :=
 bif (!bEq (p0.length:Nat) (p1.length:Nat)) then (some false) else (lp (yN (fun s=>F57_L1 p0 p1 s) 0) (fun _=>some true) some)
noncomputable def body57:List AV->AR
 | [v0,v1]=>.pure (lK k_u8 1 v0/\lK k_u8 1 v1/\(F57 (lA vJ v0) (lA vJ v1)).isSome=true) (.bool (gt (F57 (lA vJ v0) (lA vJ v1))))
 | _=>.fail
theorem ok57:xZ Try.prog 57 (zV body57):=by
 refine xC body57 (rs:=[.tmp 4]) Try.func57 (by kernel_rfl) rfl rfl ?_
 intro l ob v hb hob
 unfold body57 at hb
 split at hb
 ·rename_i v0 v1
  injection hb with q1 q2;subst q1 q2
  obtain ⟨hk0_0,hk1_0,hob⟩:=hob
  obtain ⟨r,H⟩:=oE.1 hob
  rw [H,yD]
  have hw0:=uP (fun r h=>w_u8 h) hk0_0
  have hw1:=uP (fun r h=>w_u8 h) hk1_0
  generalize lA vJ v0=p0 at H hw0
  generalize lA vJ v1=p1 at H hw1
  refine ⟨[.ro 1 p0.length false (enR yG p0),.ro 1 p1.length false (enR yG p1)],_,(fun E vs F=>yL hw0.1 F (fun vs F=>yL hw1.1 F (fun vs F=>F))),rfl,rfl,?_⟩
  rw [Try.ntmps57]
  simp only [lC,lN,Nat.reduceAdd,Nat.reduceSub,rS,rZ,aC,aN]
  unfold F57 at H
  try dsimp only at H
  refine sq zA ?_
  simp only [go_sem]
  refine zH ?_
  refine sq zA ?_
  simp only [go_sem]
  repeat ((with_reducible refine aI ?_ ?_);exact an0)
  refine yE rfl trivial (fun hc=>?_) (fun hc=>?_)
  ·have hk1:(bEq (p0.length:Nat) (p1.length:Nat))=false:=by simpa using hc
   replace H:=zO hc H
   refine sq zA ?_
   simp only [go_sem]
   refine rg zA ?_
   simp only [go_sem]
   obtain rfl:=Option.some.inj H
   first|rfl|simp only [Bool.and_false,Bool.false_and,Bool.and_true,Bool.true_and]
  have hk1:(bEq (p0.length:Nat) (p1.length:Nat))=true:=by simpa using hc
  replace H:=zN hc H
  refine rg zA ?_
  simp only [go_sem]
  refine zH ?_
  refine sq zA ?_
  simp only [go_sem]
  repeat ((with_reducible refine aI ?_ ?_);exact an0)
  refine xI ?_
  refine xA (fun s:Int=>(.ro 1 p0.length false (enR yG p0)::.ro 1 p1.length false (enR yG p1)::tp 10 (.int .i64 (p0.length:Nat)::.int .i64 s::tp 12 []))) (fun s=>[]) (fun e:Unit=>(tp 26 [])) (fun e=>[]) H ?_ (fun v1_1 o H hn1_1 hn2_1=>?_) (fun e H=>?_)
  ·refine zI ⟨[],?_,?_,by rfl,by rfl⟩
   ·simp [CvL,Cv,tp]
   ·trivial
  ·unfold F57_L1 at H
   try dsimp only at H ⊢
   try simp only [tp]
   refine sq zA ?_
   simp only [go_sem]
   refine zH ?_
   refine condM' rfl trivial (fun hc=>?_) (fun hc=>?_)
   ·have hk2:(bLt v1_1 (p0.length:Nat))=false:=by simpa using hc
    replace H:=zN hc H
    refine rg zA ?_
    simp only [go_sem]
    refine ⟨_,(Option.some.inj H).symm,?_⟩
    refine zI ⟨[],?_,?_,by rfl,by rfl⟩
    ·simp [CvL,Cv]
    ·trivial
   have hk2:(bLt v1_1 (p0.length:Nat))=true:=by simpa using hc
   replace H:=zO hc H
   refine rg zA ?_
   simp only [go_sem]
   refine zH ?_
   refine xI ?_
   refine sq zA ?_
   simp only [go_sem]
   refine zH ?_
   obtain ⟨f3,H⟩:=nI H
   obtain ⟨f4,H⟩:=nI H
   refine vY zL zA (by kernel_rfl) (by kernel_rfl) ?_
   simp only [go_sem,Nat.reduceLT,f3,f4]
   repeat ((with_reducible refine aI ?_ ?_);exact an4)
   refine yE rfl trivial (fun hc=>?_) (fun hc=>?_)
   ·have hk5:(bEq (gd p0 v1_1.toNat) (gd p1 v1_1.toNat))=false:=by simpa using hc
    replace H:=zO hc H
    refine sq zA ?_
    simp only [go_sem]
    refine rg zA ?_
    simp only [go_sem]
    have H:=hn2_1 _ (Option.some.inj H).symm
    obtain rfl:=Option.some.inj H
    first|rfl|simp only [Bool.and_false,Bool.false_and,Bool.and_true,Bool.true_and]
   have hk5:(bEq (gd p0 v1_1.toNat) (gd p1 v1_1.toNat))=true:=by simpa using hc
   replace H:=zN hc H
   refine rg zA ?_
   simp only [go_sem]
   refine rg zA ?_
   simp only [go_sem]
   refine ⟨_,(Option.some.inj H).symm,?_⟩
   refine zI ⟨[],?_,?_,by rfl,by rfl⟩
   ·simp [CvL,Cv]
   ·trivial
  ·try dsimp only at H ⊢
   try simp only [tp]
   try simp only [yR]
   refine sq zA ?_
   simp only [go_sem]
   refine rg zA ?_
   simp only [go_sem]
   obtain rfl:=Option.some.inj H
   first|rfl|simp only [Bool.and_false,Bool.false_and,Bool.and_true,Bool.true_and]
 ·cases hb
noncomputable def ct31t0:Ct:=tab [(55,zV body55)]
theorem ct31t0_ok:yU Try.prog ct31t0:=zP ok55 <| zX
theorem ct31t0_55 (l:List AV) (h:List ABlk):ct31t0 55 l h=zV body55 l h:=rfl
noncomputable def ct31t1:Ct:=tab [(56,wE body56)]
theorem ct31t1_ok:yU Try.prog ct31t1:=zP ok56 <| zX
theorem ct31t1_56 (l:List AV) (h:List ABlk):ct31t1 56 l h=wE body56 l h:=rfl
noncomputable def ct31t2:Ct:=tab [(54,edC body54)]
theorem ct31t2_ok:yU Try.prog ct31t2:=zP ok54 <| zX
theorem ct31t2_54 (l:List AV) (h:List ABlk):ct31t2 54 l h=edC body54 l h:=rfl
noncomputable def ct31t3:Ct:=tab [(57,zV body57)]
theorem ct31t3_ok:yU Try.prog ct31t3:=zP ok57 <| zX
theorem ct31t3_57 (l:List AV) (h:List ABlk):ct31t3 57 l h=zV body57 l h:=rfl
noncomputable def F31 (p0:List Int):Option (TTraffic × Int) :=
 bif (bEq (p0.length:Nat) 0) then (some ((TTraffic.mk false []),10)) else (need (inb 0 p0.length) <| bif (bLt 3 (vL .u8 (gd p0 0) 128)) then (some ((TTraffic.mk false []),12)) else ((F55 p0).bind fun r4=>bif (bLt (p0.length:Nat) r4) then (some ((TTraffic.mk false []),10)) else (bif (bLt r4 (p0.length:Nat)) then (some ((TTraffic.mk false []),11)) else (need (inb 0 p0.length) <| (F56 p0).bind fun r9=>need (inb 0 p0.length) <| (F54 (TTraffic.mk (!bEq (andI .u8 (gd p0 0) 128) 0) r9) (vL .u8 (gd p0 0) 128)).bind fun r12=>need (bif (!(!bEq r12.2 0)) then ((F57 p0 r12.1).isSome) else true) <| bif ((!bEq r12.2 0) || (!(gt (F57 p0 r12.1)))) then (some ((TTraffic.mk false []),12)) else (some ((TTraffic.mk (!bEq (andI .u8 (gd p0 0) 128) 0) r9),0))))))
noncomputable def body31:List AV->Nat->AR
 | [v0],_=>.pure (lK k_u8 1 v0/\(F31 (lA vJ v0)).isSome=true) (.tup [.agg [.bool (((gt (F31 (lA vJ v0))).1).Group),.ro 1 ((((gt (F31 (lA vJ v0))).1).Aids).length) false (enR yQ (((gt (F31 (lA vJ v0))).1).Aids))],.int .i64 ((gt (F31 (lA vJ v0))).2)])
 | _,_=>.fail
theorem ok31:xZ Try.prog 31 (wE body31):=by
 refine gen_fn body31 (rs:=[.cell 2 61,.tmp 3]) Try.func31 (by kernel_rfl) rfl rfl ?_
 intro l s ob v ns hb hob
 rcases hb with ⟨hb,rfl⟩|hb
 ·unfold body31 at hb
  split at hb
  ·rename_i v0
   injection hb with q1 q2;subst q1 q2
   obtain ⟨hk0_0,hob⟩:=hob
   obtain ⟨r,H⟩:=oE.1 hob
   rw [H,yD]
   have hw0:=uP (fun r h=>w_u8 h) hk0_0
   generalize lA vJ v0=p0 at H hw0
   refine ⟨[.ro 1 p0.length false (enR yG p0)],.tup [.agg [.bool r.1.Group,.ro 1 r.1.Aids.length false (enR yQ r.1.Aids)],.int .i64 r.2],[],(fun E vs F=>yL hw0.1 F (fun vs F=>F)),by simp only [ren,eS],trivial,?_⟩
   rw [Try.ntmps31]
   simp only [lC,lN,Nat.reduceAdd,Nat.reduceSub,rS,rZ,aC,aN]
   unfold F31 at H
   try dsimp only at H
   refine sq zA ?_
   simp only [go_sem]
   refine zH ?_
   refine sq zA ?_
   simp only [go_sem]
   repeat ((with_reducible refine aI ?_ ?_);exact an0)
   refine yE rfl trivial (fun hc=>?_) (fun hc=>?_)
   ·have hk1:(bEq (p0.length:Nat) 0)=true:=by simpa using hc
    replace H:=zO hc H
    refine sq zA ?_
    simp only [go_sem,Nat.reduceAdd]
    repeat ((with_reducible refine aI ?_ ?_);exact an4)
    refine rg zA ?_
    simp only [go_sem,Nat.reduceLT,Nat.reduceAdd]
    obtain rfl:=Option.some.inj H
    refine ⟨[0],?_,?_,[],?_,?_,rfl⟩
    ·simp only [go_sem]
     try exact at0
    ·simp only [go_sem]
     try exact at0
    ·simp only [go_sem]
     exact xF (zC (xO (zC yK (zC (zZ (α:=Int)) zW))) (zC zE zW))
    ·simp only [go_sem,CvH]
   have hk1:(bEq (p0.length:Nat) 0)=false:=by simpa using hc
   replace H:=zN hc H
   refine rg zA ?_
   simp only [go_sem]
   refine zH ?_
   refine zH ?_
   obtain ⟨f2,H⟩:=nI H
   refine rg zA ?_
   simp only [go_sem,Nat.reduceLT,f2]
   repeat ((with_reducible refine aI ?_ ?_);exact an4)
   refine yE rfl trivial (fun hc=>?_) (fun hc=>?_)
   ·have hk3:(bLt 3 (vL .u8 (gd p0 0) 128))=true:=by simpa using hc
    replace H:=zO hc H
    refine sq zA ?_
    simp only [go_sem,Nat.reduceAdd]
    repeat ((with_reducible refine aI ?_ ?_);exact an4)
    refine rg zA ?_
    simp only [go_sem,Nat.reduceLT,Nat.reduceAdd]
    obtain rfl:=Option.some.inj H
    refine ⟨[0],?_,?_,[],?_,?_,rfl⟩
    ·simp only [go_sem]
     try exact at0
    ·simp only [go_sem]
     try exact at0
    ·simp only [go_sem]
     exact xF (zC (xO (zC yK (zC (zZ (α:=Int)) zW))) (zC zE zW))
    ·simp only [go_sem,CvH]
   have hk3:(bLt 3 (vL .u8 (gd p0 0) 128))=false:=by simpa using hc
   replace H:=zN hc H
   refine rg zA ?_
   simp only [go_sem]
   refine zH ?_
   refine zH ?_
   obtain ⟨r4,e5,H⟩:=bsi H
   refine rg ct31t0_ok ?_
   simp only [go_sem,ct31t0_55,body55,e5]
   repeat ((with_reducible refine aI ?_ ?_);exact an0)
   refine xI ?_
   refine sq zA ?_
   simp only [go_sem]
   repeat ((with_reducible refine aI ?_ ?_);exact an0)
   refine yE rfl trivial (fun hc=>?_) (fun hc=>?_)
   ·have hk6:(bLt (p0.length:Nat) r4)=true:=by simpa using hc
    replace H:=zO hc H
    refine sq zA ?_
    simp only [go_sem,Nat.reduceAdd]
    repeat ((with_reducible refine aI ?_ ?_);exact an4)
    refine rg zA ?_
    simp only [go_sem,Nat.reduceLT,Nat.reduceAdd]
    obtain rfl:=Option.some.inj H
    refine ⟨[0],?_,?_,[],?_,?_,rfl⟩
    ·simp only [go_sem]
     try exact at0
    ·simp only [go_sem]
     try exact at0
    ·simp only [go_sem]
     exact xF (zC (xO (zC yK (zC (zZ (α:=Int)) zW))) (zC zE zW))
    ·simp only [go_sem,CvH]
   have hk6:(bLt (p0.length:Nat) r4)=false:=by simpa using hc
   replace H:=zN hc H
   refine sq zA ?_
   simp only [go_sem]
   repeat ((with_reducible refine aI ?_ ?_);exact an0)
   refine yE rfl trivial (fun hc=>?_) (fun hc=>?_)
   ·have hk7:(bLt r4 (p0.length:Nat))=true:=by simpa using hc
    replace H:=zO hc H
    refine sq zA ?_
    simp only [go_sem,Nat.reduceAdd]
    repeat ((with_reducible refine aI ?_ ?_);exact an4)
    refine rg zA ?_
    simp only [go_sem,Nat.reduceLT,Nat.reduceAdd]
    obtain rfl:=Option.some.inj H
    refine ⟨[0],?_,?_,[],?_,?_,rfl⟩
    ·simp only [go_sem]
     try exact at0
    ·simp only [go_sem]
     try exact at0
    ·simp only [go_sem]
     exact xF (zC (xO (zC yK (zC (zZ (α:=Int)) zW))) (zC zE zW))
    ·simp only [go_sem,CvH]
   have hk7:(bLt r4 (p0.length:Nat))=false:=by simpa using hc
   replace H:=zN hc H
   refine rg zA ?_
   simp only [go_sem]
   refine zH ?_
   obtain ⟨f8,H⟩:=nI H
   obtain ⟨r9,e10,H⟩:=bsi H
   refine yZ zL ct31t1_ok 1 (by kernel_rfl) (by kernel_rfl) ?_
   intro an han
   simp only [uC,wM,eG,xrD,xoD,tN,vS,List.append_nil,xK,refs,uI,mask,wT,place,xU,wV,wA,hit,inL,xM,ren,rnN,nrH,nrB,nrL,nr,rZ,rS,Nat.sub_self,Nat.add_zero,Nat.zero_add,Nat.reduceSub,Nat.lt_add_one,go_sem,Nat.reduceLeDiff,Nat.reduceAdd,Nat.reduceSub,Nat.reduceBEq,ct31t1_56,body56,f8,e10]
   repeat ((with_reducible refine aI ?_ ?_);exact an6)
   refine zH ?_
   refine zH ?_
   obtain ⟨f11,H⟩:=nI H
   obtain ⟨r12,e13,H⟩:=bsi H
   refine yZ zL ct31t2_ok 1 (by kernel_rfl) (by kernel_rfl) ?_
   intro an han
   simp only [uC,wM,eG,xrD,xoD,tN,vS,List.append_nil,xK,refs,uI,mask,wT,place,xU,wV,wA,hit,inL,xM,ren,eS,rnN,nrH,nrB,rZ,rS,Nat.sub_self,Nat.add_zero,Nat.zero_add,Nat.reduceSub,Nat.lt_add_one,go_sem,Nat.reduceLeDiff,Nat.reduceAdd,Nat.reduceSub,Nat.reduceBEq,ct31t2_54,body54,f11,e13]
   repeat ((with_reducible refine aI ?_ ?_);exact an6)
   refine zH ?_
   obtain ⟨f14,H⟩:=yH.1 H
   replace f14:=bZ.1 f14
   refine rg ct31t3_ok ?_
   simp only [go_sem,ct31t3_57,body57]
   repeat ((with_reducible refine And.intro ?_ ?_);focus (first|(with_reducible trivial)|omega|exact f14|(intro g;have q:=f14 (by first|exact g|(rw [g];rfl)|simpa using g);first|exact q|exact ⟨q.1,q.2.1⟩|exact q.2.2|omega|exact ⟨g,q⟩|exact ⟨trivial,q⟩|exact ⟨g,q.1,q.2.1⟩|exact ⟨g,q.2.2⟩)|(intro g;(try have q0:=f14 (by first|exact g|(rw [g];rfl)|simpa using g));and_intros<;>first|(with_reducible trivial)|assumption|exact nfc|(intro g2;rw [g,g2];rfl)|(intro g2;assumption)|(simp only [g,Bool.true_and,Bool.and_true,Bool.not_false,Bool.not_true];assumption)|grind)|(and_intros<;>first|(with_reducible trivial)|omega|assumption|exact nfc|first|exact rfl|exact trivial|exact uV|exact .inr rfl|exact .inl rfl|exact fun x hx=>absurd hx (by omega))|grind))
   refine yE rfl trivial (fun hc=>?_) (fun hc=>?_)
   ·have hk15:((!bEq r12.2 0) || (!(gt (F57 p0 r12.1))))=true:=by simpa using hc
    replace H:=zO hc H
    refine sq zA ?_
    simp only [go_sem,Nat.reduceAdd]
    repeat ((with_reducible refine aI ?_ ?_);exact an4)
    refine rg zA ?_
    simp only [go_sem,Nat.reduceLT,Nat.reduceAdd]
    obtain rfl:=Option.some.inj H
    refine ⟨[0,1],?_,?_,[],?_,?_,rfl⟩
    ·simp only [go_sem]
     try exact at0
    ·simp only [go_sem]
     try exact at0
    ·simp only [go_sem]
     exact xF (zC (xO (zC yK (zC (zZ (α:=Int)) zW))) (zC zE zW))
    ·simp only [go_sem,CvH]
   have hk15:((!bEq r12.2 0) || (!(gt (F57 p0 r12.1))))=false:=by simpa using hc
   replace H:=zN hc H
   refine rg zA ?_
   simp only [go_sem]
   refine sq zA ?_
   simp only [go_sem,Nat.reduceLT,Nat.reduceAdd]
   repeat ((with_reducible refine aI ?_ ?_);exact an4)
   refine rg zA ?_
   simp only [go_sem,Nat.reduceLT,Nat.reduceAdd]
   obtain rfl:=Option.some.inj H
   refine ⟨[0,1],?_,?_,[],?_,?_,rfl⟩
   ·simp only [go_sem]
    try exact at0
   ·simp only [go_sem]
    try exact at0
   ·simp only [go_sem]
    exact xF (zC (xO (zC yK (zC (Cv_nf (by simp only [nref])) zW))) (zC zE zW))
   ·simp only [go_sem,CvH]
  ·cases hb
 ·unfold body31 at hb
  split at hb<;>cases hb
end Go.Proofs.Ytooepgpfaaddbaa
