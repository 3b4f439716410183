/-
  What BufferMaps reaches.
-/
import Derived.Test.YtefiemaoacmdkaaB
namespace Go.Proofs.Ytefiemaoacmdkaa
open Go.Am
set_option linter.unusedVariables false
set_option linter.unusedSimpArgs false
attribute [local go_sem] w_skip w_label w_goto w_scope k_goto b_goto l_goto s_normal s_exit s_ret s_goto w_region w_draw w_seq w_cond w_block w_exit w_ret w_loop k_normal k_exit k_ret b_normal b_exit b_ret l_normal l_exit l_ret m_normal m_exit m_ret m_goto kL_normal kL_exit kL_ret kS_normal kS_exit kS_ret kS_goto r_normal r_ret o_nil o_cons q_nil q_cons nxt gval gvd gvl gvw dstOf evO ogOp ogC og ogL ogP ogO rho rhoO strip optOk getL setL setT absC absV absL pO hO evLoad ldB geth seth evStore stRes stB evBox evAlloc evFieldAddr evField evIndexAddr evBin2 binI binB binNR binU nilR_isEmpty nilR_t nilR_0 nilR_s evInt evStr evUn evConv cvO evPick mrg evExtract evNil evCall mapR evBuiltin evLen2 vcells vcOk atom tabF cnd retK resFin resL resA resC resCons evBuild evBuildP placeS placeA fillA fillOk putL getP nxtQ pureC_eq pureR genC_eq genR roV roL roOb roObL roW roWL roWOb roWObL nref nrefL binA binN eqSh eqRes evIndex evIndex2 evIndexS evSlice evSlice2 evSliceS evBound evConv2 cvS evAppend appRes srcOf evMake evBuildSlice repL evFn evMin evMax freshC freshR sub_enR0 evClear evClearR evCopy evCopyR lenS cutS Bool.or_false Bool.false_or Bool.or_true Bool.true_or Bool.and_false Bool.false_and Option.map_some Option.map_none Option.getD_some Option.getD_none Option.bind_some Option.bind_none Option.or_some Option.or_none Option.none_or Option.isSome_none Option.isNone_none Option.isNone_some List.nil_append List.cons_append List.append_nil cond_true cond_false List.length_cons List.length_nil beq_self_eq_true Bool.and_true Bool.true_and Bool.not_true Bool.not_false true_and and_true and_self true_implies implies_true ne_eq not_false_eq_true Bool.false_eq_true Bool.true_eq_false false_implies Nat.lt_irrefl Nat.le_refl Nat.succ_ne_self imp_self Bool.cond_false_right Bool.cond_true_left decide_true decide_false Bool.not_eq_true' Bool.not_eq_false' Bool.not_not Nat.zero_mul Nat.zero_add Nat.add_zero Nat.mul_one Nat.one_mul Bool.cond_self tsz3 tby3 tagg3 tslice3 tarr3 tzero3 tzn3 tplaces3 tint3 tstr3 tnoint3 tbool3 tany3 tintk3 tbytes3 tsz4 tby4 tagg4 tslice4 tarr4 tzero4 tzn4 tplaces4 tint4 tstr4 tnoint4 tbool4 tany4 tintk4 tbytes4 tsz5 tby5 tagg5 tslice5 tarr5 tzero5 tzn5 tplaces5 tint5 tstr5 tnoint5 tbool5 tany5 tintk5 tbytes5 tsz9 tby9 tagg9 tslice9 tarr9 tzero9 tzn9 tplaces9 tint9 tstr9 tnoint9 tbool9 tany9 tintk9 tbytes9 tsz22 tby22 tagg22 tslice22 tarr22 tzero22 tzn22 tplaces22 tint22 tstr22 tnoint22 tbool22 tany22 tintk22 tbytes22 tsz23 tby23 tagg23 tslice23 tarr23 tzero23 tzn23 tplaces23 tint23 tstr23 tnoint23 tbool23 tany23 tintk23 tbytes23 tsz25 tby25 tagg25 tslice25 tarr25 tzero25 tzn25 tplaces25 tint25 tstr25 tnoint25 tbool25 tany25 tintk25 tbytes25 tfld25_0 tfld25_1 tfld25_2 tfld25_3 tsz28 tby28 tagg28 tslice28 tarr28 tzero28 tzn28 tplaces28 tint28 tstr28 tnoint28 tbool28 tany28 tintk28 tbytes28 tsz30 tby30 tagg30 tslice30 tarr30 tzero30 tzn30 tplaces30 tint30 tstr30 tnoint30 tbool30 tany30 tintk30 tbytes30 tfld30_0 tfld30_1 tfld30_2 tfld30_3 tfld30_4 tfld30_5 tfld30_6 tfld30_7 tfld30_8 tfld30_9 tfld30_10 tfld30_11 tfld30_12 tfld30_13 tfld30_14 tfld30_15 tfld30_16 tfld30_17 tfld30_18 tfld30_19 tsz31 tby31 tagg31 tslice31 tarr31 tzero31 tzn31 tplaces31 tint31 tstr31 tnoint31 tbool31 tany31 tintk31 tbytes31 tsz33 tby33 tagg33 tslice33 tarr33 tzero33 tzn33 tplaces33 tint33 tstr33 tnoint33 tbool33 tany33 tintk33 tbytes33 tfld33_0 tfld33_1 tsz34 tby34 tagg34 tslice34 tarr34 tzero34 tzn34 tplaces34 tint34 tstr34 tnoint34 tbool34 tany34 tintk34 tbytes34 tsz39 tby39 tagg39 tslice39 tarr39 tzero39 tzn39 tplaces39 tint39 tstr39 tnoint39 tbool39 tany39 tintk39 tbytes39 tsz41 tby41 tagg41 tslice41 tarr41 tzero41 tzn41 tplaces41 tint41 tstr41 tnoint41 tbool41 tany41 tintk41 tbytes41 tfld41_0 tfld41_1 tsz52 tby52 tagg52 tslice52 tarr52 tzero52 tzn52 tplaces52 tint52 tstr52 tnoint52 tbool52 tany52 tintk52 tbytes52 tsz57 tby57 tagg57 tslice57 tarr57 tzero57 tzn57 tplaces57 tint57 tstr57 tnoint57 tbool57 tany57 tintk57 tbytes57 tfld57_0 tfld57_1 tfld57_2 tsz61 tby61 tagg61 tslice61 tarr61 tzero61 tzn61 tplaces61 tint61 tstr61 tnoint61 tbool61 tany61 tintk61 tbytes61 tfld61_0 tfld61_1 tfld61_2 tsz70 tby70 tagg70 tslice70 tarr70 tzero70 tzn70 tplaces70 tint70 tstr70 tnoint70 tbool70 tany70 tintk70 tbytes70 tfld70_0 tfld70_1 tfld70_2 tfld70_3 tfld70_4 tsz81 tby81 tagg81 tslice81 tarr81 tzero81 tzn81 tplaces81 tint81 tstr81 tnoint81 tbool81 tany81 tintk81 tbytes81 tsz82 tby82 tagg82 tslice82 tarr82 tzn82 tplaces82 tint82 tstr82 tnoint82 tbool82 tany82 tintk82 tbytes82 tsz95 tby95 tagg95 tslice95 tarr95 tzero95 tzn95 tplaces95 tint95 tstr95 tnoint95 tbool95 tany95 tintk95 tbytes95 tsz96 tby96 tagg96 tslice96 tarr96 tzero96 tzn96 tplaces96 tint96 tstr96 tnoint96 tbool96 tany96 tintk96 tbytes96 tsz103 tby103 tagg103 tslice103 tarr103 tzero103 tzn103 tplaces103 tint103 tstr103 tnoint103 tbool103 tany103 tintk103 tbytes103 tsz105 tby105 tagg105 tslice105 tarr105 tzero105 tzn105 tplaces105 tint105 tstr105 tnoint105 tbool105 tany105 tintk105 tbytes105 tsz110 tby110 tagg110 tslice110 tarr110 tzero110 tzn110 tplaces110 tint110 tstr110 tnoint110 tbool110 tany110 tintk110 tbytes110 tsz112 tby112 tagg112 tslice112 tarr112 tzero112 tzn112 tplaces112 tint112 tstr112 tnoint112 tbool112 tany112 tintk112 tbytes112 tsz124 tby124 tagg124 tslice124 tarr124 tzero124 tzn124 tplaces124 tint124 tstr124 tnoint124 tbool124 tany124 tintk124 tbytes124 tsz129 tby129 tagg129 tslice129 tarr129 tzero129 tzn129 tplaces129 tint129 tstr129 tnoint129 tbool129 tany129 tintk129 tbytes129 tsz142 tby142 tagg142 tslice142 tarr142 tzero142 tzn142 tplaces142 tint142 tstr142 tnoint142 tbool142 tany142 tintk142 tbytes142 e_u8_0 fit_u8 de_u8 g_u8 k_u8 e_i64_0 fit_i64 de_i64 g_i64 k_i64 e_b_0 fit_b de_b g_b k_b e_s_0 fit_s de_s g_s k_s e_A6u8_0 e_A6u8_1 e_A6u8_2 e_A6u8_3 e_A6u8_4 e_A6u8_5 fit_A6u8 de_A6u8 g_A6u8 k_A6u8 eta_A6u8 e_THeader_0 e_THeader_1 e_THeader_2 e_THeader_3 e_THeader_4 e_THeader_5 e_THeader_6 e_THeader_7 e_THeader_8 e_THeader_9 e_THeader_10 e_THeader_11 e_THeader_12 e_THeader_13 e_THeader_14 e_THeader_15 e_THeader_16 e_THeader_17 e_THeader_18 e_THeader_19 e_THeader_20 e_THeader_21 e_THeader_22 e_THeader_23 e_THeader_24 e_THeader_25 e_THeader_26 e_THeader_27 e_THeader_28 e_THeader_29 e_THeader_30 e_THeader_31 e_THeader_32 e_THeader_33 e_THeader_34 e_THeader_35 e_THeader_36 e_THeader_37 e_THeader_38 e_THeader_39 fit_THeader de_THeader g_THeader k_THeader eta_THeader e_lu8_0 fit_lu8 de_lu8 g_lu8 k_lu8 e_TFrame_0 e_TFrame_1 e_TFrame_2 e_TFrame_3 e_TFrame_4 e_TFrame_5 e_TFrame_6 e_TFrame_7 e_TFrame_8 e_TFrame_9 e_TFrame_10 e_TFrame_11 e_TFrame_12 e_TFrame_13 e_TFrame_14 e_TFrame_15 e_TFrame_16 e_TFrame_17 e_TFrame_18 e_TFrame_19 e_TFrame_20 e_TFrame_21 e_TFrame_22 e_TFrame_23 e_TFrame_24 e_TFrame_25 e_TFrame_26 e_TFrame_27 e_TFrame_28 e_TFrame_29 e_TFrame_30 e_TFrame_31 e_TFrame_32 e_TFrame_33 e_TFrame_34 e_TFrame_35 e_TFrame_36 e_TFrame_37 e_TFrame_38 e_TFrame_39 e_TFrame_40 fit_TFrame de_TFrame g_TFrame k_TFrame eta_TFrame e_TStored_0 e_TStored_1 e_TStored_2 e_TStored_3 e_TStored_4 e_TStored_5 e_TStored_6 e_TStored_7 e_TStored_8 e_TStored_9 e_TStored_10 e_TStored_11 e_TStored_12 e_TStored_13 e_TStored_14 e_TStored_15 e_TStored_16 e_TStored_17 e_TStored_18 e_TStored_19 e_TStored_20 e_TStored_21 e_TStored_22 e_TStored_23 e_TStored_24 e_TStored_25 e_TStored_26 e_TStored_27 e_TStored_28 e_TStored_29 e_TStored_30 e_TStored_31 e_TStored_32 e_TStored_33 e_TStored_34 e_TStored_35 e_TStored_36 e_TStored_37 e_TStored_38 e_TStored_39 e_TStored_40 e_TStored_41 e_TStored_42 fit_TStored de_TStored g_TStored k_TStored eta_TStored e_lTStored_0 fit_lTStored de_lTStored g_lTStored k_lTStored e_TSleeper_0 e_TSleeper_1 e_TSleeper_2 fit_TSleeper de_TSleeper g_TSleeper k_TSleeper eta_TSleeper e_lTSleeper_0 fit_lTSleeper de_lTSleeper g_lTSleeper k_lTSleeper e_TBuffer_0 e_TBuffer_1 e_TBuffer_2 e_TBuffer_3 fit_TBuffer de_TBuffer g_TBuffer k_TBuffer eta_TBuffer e_li64_0 fit_li64 de_li64 g_li64 k_li64 e_TTraffic_0 e_TTraffic_1 fit_TTraffic de_TTraffic g_TTraffic k_TTraffic eta_TTraffic e_lTFrame_0 fit_lTFrame de_lTFrame g_lTFrame k_lTFrame e_TStep_0 e_TStep_1 e_TStep_2 e_TStep_3 e_TStep_4 e_TStep_5 e_TStep_6 e_TStep_7 e_TStep_8 e_TStep_9 e_TStep_10 e_TStep_11 e_TStep_12 e_TStep_13 e_TStep_14 e_TStep_15 e_TStep_16 e_TStep_17 e_TStep_18 e_TStep_19 e_TStep_20 e_TStep_21 e_TStep_22 e_TStep_23 e_TStep_24 e_TStep_25 e_TStep_26 e_TStep_27 e_TStep_28 e_TStep_29 e_TStep_30 e_TStep_31 e_TStep_32 e_TStep_33 e_TStep_34 e_TStep_35 e_TStep_36 e_TStep_37 e_TStep_38 e_TStep_39 e_TStep_40 e_TStep_41 e_TStep_42 e_TStep_43 e_TStep_44 fit_TStep de_TStep g_TStep k_TStep eta_TStep e_lTStep_0 fit_lTStep de_lTStep g_lTStep k_lTStep e_u64_0 fit_u64 de_u64 g_u64 k_u64 deR_0 deR_1 deR_2 deR_3 deR_4 deR_5 deR_6 deR_7 deR_8 deR_9 deR_10 deR_11 deR_12 litC_x0 litC_x1 litC_x2 litC_x3 litC_x4 litC_x5 litC_x6 litC_x7 litC_x8 litC_x9 litC_x10 litC_x11 strE_u8 Fit_0 Option.isSome_some gt_some gd_one rK rG aL aK iK bK sK lK iA bA sA lA or_true true_or Int.toNat_natCast shT_28 shT_30 Int.toNat_zero Int.cast_ofNat_Int
/-! hotspot/hotspotref05.Great -/
noncomputable def F44 (p0 : TFrame) : Option (Bool) :=
  some (bLt 2400 (p0.Body.length : Nat))
noncomputable def body44 : List AV → AR
  | [v0] => .pure (aK 41 k_TFrame v0 ∧ (F44 (g_TFrame (aL v0))).isSome = true) (.bool (gt (F44 (g_TFrame (aL v0)))))
  | _ => .fail
set_option maxHeartbeats 4000000 in
set_option maxRecDepth 20000 in
theorem ok44 : FnOk Try.prog 44 (pureC body44) := by
  refine pure_fnM body44 (rs := [.tmp 2]) Try.func44 (by kernel_rfl) rfl rfl ?_
  intro l ob v hb hob
  unfold body44 at hb
  split at hb
  · rename_i v0
    injection hb with q1 q2; subst q1 q2
    obtain ⟨hk0, hob⟩ := hob
    obtain ⟨r, H⟩ := Option.isSome_iff_exists.1 hob
    rw [H, gt_some]
    have hw0 := wA_TFrame hk0
    generalize g_TFrame (aL v0) = p0 at H hw0
    refine ⟨[.agg (.int .u8 p0.Head.Kind :: .int .u8 p0.Head.Sub :: .bool p0.Head.ToDs :: .bool p0.Head.FromDs :: .bool p0.Head.More :: .bool p0.Head.Retry :: .bool p0.Head.Sleep :: .bool p0.Head.MoreData :: .bool p0.Head.Protected :: .int .i64 p0.Head.Duration :: .int .u8 p0.Head.A1.x0 :: .int .u8 p0.Head.A1.x1 :: .int .u8 p0.Head.A1.x2 :: .int .u8 p0.Head.A1.x3 :: .int .u8 p0.Head.A1.x4 :: .int .u8 p0.Head.A1.x5 :: .int .u8 p0.Head.A2.x0 :: .int .u8 p0.Head.A2.x1 :: .int .u8 p0.Head.A2.x2 :: .int .u8 p0.Head.A2.x3 :: .int .u8 p0.Head.A2.x4 :: .int .u8 p0.Head.A2.x5 :: .int .u8 p0.Head.A3.x0 :: .int .u8 p0.Head.A3.x1 :: .int .u8 p0.Head.A3.x2 :: .int .u8 p0.Head.A3.x3 :: .int .u8 p0.Head.A3.x4 :: .int .u8 p0.Head.A3.x5 :: .int .u8 p0.Head.A4.x0 :: .int .u8 p0.Head.A4.x1 :: .int .u8 p0.Head.A4.x2 :: .int .u8 p0.Head.A4.x3 :: .int .u8 p0.Head.A4.x4 :: .int .u8 p0.Head.A4.x5 :: .int .i64 p0.Head.Seq :: .int .i64 p0.Head.Frag :: .int .i64 p0.Head.Tid :: .int .u8 p0.Head.Ack :: .bool p0.Head.Amsdu :: .bool p0.Head.Eosp :: .ro 1 p0.Body.length false (enR c_u8 p0.Body) :: [])], _, (fun E vs F => FR_wk1 hw0.1 F (fun vs F => F)), rfl, rfl, ?_⟩
    rw [Try.ntmps44]
    simp only [List.length_cons, List.length_nil, Nat.reduceAdd, Nat.reduceSub, List.replicate_succ, List.replicate_zero, List.cons_append, List.nil_append]
    unfold F44 at H
    try dsimp only at H
    refine sq ctNo_ok ?_
    simp only [go_sem, Nat.reduceLeDiff, Nat.reduceLT, Nat.reduceAdd, Nat.reduceMul, Nat.reduceSub, Nat.reduceEqDiff, Nat.reduceBEq, Int.reduceToNat, reduceCtorEq]
    refine sq ctNo_ok ?_
    simp only [go_sem, Nat.reduceLeDiff, Nat.reduceLT, Nat.reduceAdd, Nat.reduceMul, Nat.reduceSub, Nat.reduceEqDiff, Nat.reduceBEq, Int.reduceToNat, reduceCtorEq]
    repeat ((with_reducible refine And.intro ?_ ?_); focus (first | (with_reducible trivial) | omega | (intro x y _ _; (repeat (first | exact nfR_enI | exact nfR_lit (by simp only [nrefL, nref, and_self]) | (refine nfR_app (fun x y => ?_) (fun x y => ?_)) | (refine nfR_ins (fun x y => ?_) (fun x y => ?_)) | (refine nfR_del (fun x y => ?_)) | (refine nfR_upc (fun x y => ?_) (by simp only [nrefL, nref, and_self])) | (refine nfR_ovw (fun x y => ?_) (fun x y => ?_)) | exact nfR_getL (by simp only [nrefL, nref, and_self]))); done) | (intro x hx; (repeat (first | (exfalso; omega) | (rcases x with _ | x; first | (and_intros <;> (first | exact rfl | exact trivial | exact ⟨Or.inr rfl, Fit_enI⟩ | exact Fit_enI | exact Or.inr rfl | exact Or.inl rfl | exact fun x hx => absurd hx (by omega) | exact ⟨Or.inl rfl, fun x hx => absurd hx (by omega)⟩)) | (first | exact rfl | exact trivial | exact ⟨Or.inr rfl, Fit_enI⟩ | exact Fit_enI | exact Or.inr rfl | exact Or.inl rfl | exact fun x hx => absurd hx (by omega) | exact ⟨Or.inl rfl, fun x hx => absurd hx (by omega)⟩)))); done) | (and_intros <;> first | (with_reducible trivial) | omega | assumption | (intro x y _ _; (repeat (first | exact nfR_enI | exact nfR_lit (by simp only [nrefL, nref, and_self]) | (refine nfR_app (fun x y => ?_) (fun x y => ?_)) | (refine nfR_ins (fun x y => ?_) (fun x y => ?_)) | (refine nfR_del (fun x y => ?_)) | (refine nfR_upc (fun x y => ?_) (by simp only [nrefL, nref, and_self])) | (refine nfR_ovw (fun x y => ?_) (fun x y => ?_)) | exact nfR_getL (by simp only [nrefL, nref, and_self]))); done) | (intro x hx; (repeat (first | (exfalso; omega) | (rcases x with _ | x; first | (and_intros <;> (first | exact rfl | exact trivial | exact ⟨Or.inr rfl, Fit_enI⟩ | exact Fit_enI | exact Or.inr rfl | exact Or.inl rfl | exact fun x hx => absurd hx (by omega) | exact ⟨Or.inl rfl, fun x hx => absurd hx (by omega)⟩)) | (first | exact rfl | exact trivial | exact ⟨Or.inr rfl, Fit_enI⟩ | exact Fit_enI | exact Or.inr rfl | exact Or.inl rfl | exact fun x hx => absurd hx (by omega) | exact ⟨Or.inl rfl, fun x hx => absurd hx (by omega)⟩)))); done)) | grind))
    refine rg ctNo_ok ?_
    simp only [go_sem, Nat.reduceLeDiff, Nat.reduceLT, Nat.reduceAdd, Nat.reduceMul, Nat.reduceSub, Nat.reduceEqDiff, Nat.reduceBEq, Int.reduceToNat, reduceCtorEq]
    obtain rfl := Option.some.inj H
    first | rfl | simp only [Bool.and_false, Bool.false_and, Bool.and_true, Bool.true_and]
  · cases hb
/-! hotspot/hotspotref34.greatQueue -/
noncomputable def ct43t0 : Ct := tab [(44, pureC body44)]
theorem ct43t0_ok : CtOk Try.prog ct43t0 := tab_cons ok44 <| tab_nil
theorem ct43t0_44 (l : List AV) (h : List ABlk) : ct43t0 44 l h = pureC body44 l h := rfl
noncomputable def F43_L1 (p0 : List TStored) (v1_1 : Int) : Option (Lp (Int) ((Unit) ⊕ (Bool))) :=
  bif (bLt v1_1 (p0.length : Nat)) then (need (inb v1_1 p0.length) <| (F44 (TFrame.mk (THeader.mk ((((gd p0 v1_1.toNat).Frame).Head).Kind) ((((gd p0 v1_1.toNat).Frame).Head).Sub) ((((gd p0 v1_1.toNat).Frame).Head).ToDs) ((((gd p0 v1_1.toNat).Frame).Head).FromDs) ((((gd p0 v1_1.toNat).Frame).Head).More) ((((gd p0 v1_1.toNat).Frame).Head).Retry) ((((gd p0 v1_1.toNat).Frame).Head).Sleep) ((((gd p0 v1_1.toNat).Frame).Head).MoreData) ((((gd p0 v1_1.toNat).Frame).Head).Protected) ((((gd p0 v1_1.toNat).Frame).Head).Duration) (A6u8.mk (((((gd p0 v1_1.toNat).Frame).Head).A1).x0) (((((gd p0 v1_1.toNat).Frame).Head).A1).x1) (((((gd p0 v1_1.toNat).Frame).Head).A1).x2) (((((gd p0 v1_1.toNat).Frame).Head).A1).x3) (((((gd p0 v1_1.toNat).Frame).Head).A1).x4) (((((gd p0 v1_1.toNat).Frame).Head).A1).x5)) (A6u8.mk (((((gd p0 v1_1.toNat).Frame).Head).A2).x0) (((((gd p0 v1_1.toNat).Frame).Head).A2).x1) (((((gd p0 v1_1.toNat).Frame).Head).A2).x2) (((((gd p0 v1_1.toNat).Frame).Head).A2).x3) (((((gd p0 v1_1.toNat).Frame).Head).A2).x4) (((((gd p0 v1_1.toNat).Frame).Head).A2).x5)) (A6u8.mk (((((gd p0 v1_1.toNat).Frame).Head).A3).x0) (((((gd p0 v1_1.toNat).Frame).Head).A3).x1) (((((gd p0 v1_1.toNat).Frame).Head).A3).x2) (((((gd p0 v1_1.toNat).Frame).Head).A3).x3) (((((gd p0 v1_1.toNat).Frame).Head).A3).x4) (((((gd p0 v1_1.toNat).Frame).Head).A3).x5)) (A6u8.mk (((((gd p0 v1_1.toNat).Frame).Head).A4).x0) (((((gd p0 v1_1.toNat).Frame).Head).A4).x1) (((((gd p0 v1_1.toNat).Frame).Head).A4).x2) (((((gd p0 v1_1.toNat).Frame).Head).A4).x3) (((((gd p0 v1_1.toNat).Frame).Head).A4).x4) (((((gd p0 v1_1.toNat).Frame).Head).A4).x5)) ((((gd p0 v1_1.toNat).Frame).Head).Seq) ((((gd p0 v1_1.toNat).Frame).Head).Frag) ((((gd p0 v1_1.toNat).Frame).Head).Tid) ((((gd p0 v1_1.toNat).Frame).Head).Ack) ((((gd p0 v1_1.toNat).Frame).Head).Amsdu) ((((gd p0 v1_1.toNat).Frame).Head).Eosp)) (((gd p0 v1_1.toNat).Frame).Body))).bind fun r2 => bif r2 then (some (.done (.inr true))) else (some (.next (wr .i64 (v1_1 + 1))))) else (some (.done (.inl ())))
noncomputable def F43 (p0 : List TStored) : Option (Bool) :=
  bif (bLt 70 (p0.length : Nat)) then (some true) else (lp (loopD (fun s => F43_L1 p0 s) 0) (fun e => some false) some)
noncomputable def body43 : List AV → AR
  | [v0] => .pure (lK k_TStored 43 v0 ∧ (F43 (lA g_TStored v0)).isSome = true) (.bool (gt (F43 (lA g_TStored v0))))
  | _ => .fail
set_option maxHeartbeats 4000000 in
set_option maxRecDepth 20000 in
theorem ok43 : FnOk Try.prog 43 (pureC body43) := by
  refine pure_fnM body43 (rs := [.tmp 2]) Try.func43 (by kernel_rfl) rfl rfl ?_
  intro l ob v hb hob
  unfold body43 at hb
  split at hb
  · rename_i v0
    injection hb with q1 q2; subst q1 q2
    obtain ⟨hk0, hob⟩ := hob
    obtain ⟨r, H⟩ := Option.isSome_iff_exists.1 hob
    rw [H, gt_some]
    have hw0 := lK_wk (fun r h => w_TStored h) hk0
    generalize lA g_TStored v0 = p0 at H hw0
    refine ⟨[.ro 43 p0.length false (enR c_TStored p0)], _, (fun E vs F => FR_wk1 hw0.1 F (fun vs F => F)), rfl, rfl, ?_⟩
    rw [Try.ntmps43]
    simp only [List.length_cons, List.length_nil, Nat.reduceAdd, Nat.reduceSub, List.replicate_succ, List.replicate_zero, List.cons_append, List.nil_append]
    unfold F43 at H
    try dsimp only at H
    refine sq ctNo_ok ?_
    simp only [go_sem, Nat.reduceLeDiff, Nat.reduceLT, Nat.reduceAdd, Nat.reduceMul, Nat.reduceSub, Nat.reduceEqDiff, Nat.reduceBEq, Int.reduceToNat, reduceCtorEq]
    refine seqM ?_
    refine sq ctNo_ok ?_
    simp only [go_sem, Nat.reduceLeDiff, Nat.reduceLT, Nat.reduceAdd, Nat.reduceMul, Nat.reduceSub, Nat.reduceEqDiff, Nat.reduceBEq, Int.reduceToNat, reduceCtorEq]
    repeat ((with_reducible refine And.intro ?_ ?_); focus (first | (with_reducible trivial) | omega | (intro x y _ _; (repeat (first | exact nfR_enI | exact nfR_lit (by simp only [nrefL, nref, and_self]) | (refine nfR_app (fun x y => ?_) (fun x y => ?_)) | (refine nfR_ins (fun x y => ?_) (fun x y => ?_)) | (refine nfR_del (fun x y => ?_)) | (refine nfR_upc (fun x y => ?_) (by simp only [nrefL, nref, and_self])) | (refine nfR_ovw (fun x y => ?_) (fun x y => ?_)) | exact nfR_getL (by simp only [nrefL, nref, and_self]))); done) | (intro x hx; (repeat (first | (exfalso; omega) | (rcases x with _ | x; first | (and_intros <;> (first | exact rfl | exact trivial | exact ⟨Or.inr rfl, Fit_enI⟩ | exact Fit_enI | exact Or.inr rfl | exact Or.inl rfl | exact fun x hx => absurd hx (by omega) | exact ⟨Or.inl rfl, fun x hx => absurd hx (by omega)⟩)) | (first | exact rfl | exact trivial | exact ⟨Or.inr rfl, Fit_enI⟩ | exact Fit_enI | exact Or.inr rfl | exact Or.inl rfl | exact fun x hx => absurd hx (by omega) | exact ⟨Or.inl rfl, fun x hx => absurd hx (by omega)⟩)))); done) | (and_intros <;> first | (with_reducible trivial) | omega | assumption | (intro x y _ _; (repeat (first | exact nfR_enI | exact nfR_lit (by simp only [nrefL, nref, and_self]) | (refine nfR_app (fun x y => ?_) (fun x y => ?_)) | (refine nfR_ins (fun x y => ?_) (fun x y => ?_)) | (refine nfR_del (fun x y => ?_)) | (refine nfR_upc (fun x y => ?_) (by simp only [nrefL, nref, and_self])) | (refine nfR_ovw (fun x y => ?_) (fun x y => ?_)) | exact nfR_getL (by simp only [nrefL, nref, and_self]))); done) | (intro x hx; (repeat (first | (exfalso; omega) | (rcases x with _ | x; first | (and_intros <;> (first | exact rfl | exact trivial | exact ⟨Or.inr rfl, Fit_enI⟩ | exact Fit_enI | exact Or.inr rfl | exact Or.inl rfl | exact fun x hx => absurd hx (by omega) | exact ⟨Or.inl rfl, fun x hx => absurd hx (by omega)⟩)) | (first | exact rfl | exact trivial | exact ⟨Or.inr rfl, Fit_enI⟩ | exact Fit_enI | exact Or.inr rfl | exact Or.inl rfl | exact fun x hx => absurd hx (by omega) | exact ⟨Or.inl rfl, fun x hx => absurd hx (by omega)⟩)))); done)) | grind))
    refine condM rfl trivial (fun hc => ?_) (fun hc => ?_)
    · replace H := cond_t hc H
      refine sq ctNo_ok ?_
      simp only [go_sem, Nat.reduceLeDiff, Nat.reduceLT, Nat.reduceAdd, Nat.reduceMul, Nat.reduceSub, Nat.reduceEqDiff, Nat.reduceBEq, Int.reduceToNat, reduceCtorEq]
      refine rg ctNo_ok ?_
      simp only [go_sem, Nat.reduceLeDiff, Nat.reduceLT, Nat.reduceAdd, Nat.reduceMul, Nat.reduceSub, Nat.reduceEqDiff, Nat.reduceBEq, Int.reduceToNat, reduceCtorEq]
      obtain rfl := Option.some.inj H
      first | rfl | simp only [Bool.and_false, Bool.false_and, Bool.and_true, Bool.true_and]
    replace H := cond_f hc H
    refine rg ctNo_ok ?_
    simp only [go_sem, Nat.reduceLeDiff, Nat.reduceLT, Nat.reduceAdd, Nat.reduceMul, Nat.reduceSub, Nat.reduceEqDiff, Nat.reduceBEq, Int.reduceToNat, reduceCtorEq]
    refine seqM ?_
    refine sq ctNo_ok ?_
    simp only [go_sem, Nat.reduceLeDiff, Nat.reduceLT, Nat.reduceAdd, Nat.reduceMul, Nat.reduceSub, Nat.reduceEqDiff, Nat.reduceBEq, Int.reduceToNat, reduceCtorEq]
    refine blkM ?_
    refine loop_den (fun s : Int => [.ro 43 p0.length false (enR c_TStored p0), .top, .top, .int .i64 s, .top, .top, .top, .top, .top, .top, .top, .top, .top, .top, .top, .top, .top, .top, .top]) (fun s => []) (fun e : Unit => [.top, .top, .top, .top, .top, .top, .top, .top, .top, .top, .top, .top, .top, .top, .top, .top, .top, .top, .top]) (fun e => []) H ?_ (fun v1_1 o H hn1_1 hn2_1 => ?_) (fun e H => ?_)
    · refine SubF_of ⟨[], ?_, ?_, by rfl, by rfl⟩
      · simp [CvL, Cv, getM]
      · trivial
    · unfold F43_L1 at H
      try dsimp only at H ⊢
      refine seqM ?_
      refine sq ctNo_ok ?_
      simp only [go_sem, Nat.reduceLeDiff, Nat.reduceLT, Nat.reduceAdd, Nat.reduceMul, Nat.reduceSub, Nat.reduceEqDiff, Nat.reduceBEq, Int.reduceToNat, reduceCtorEq]
      repeat ((with_reducible refine And.intro ?_ ?_); focus (first | (with_reducible trivial) | omega | (intro x y _ _; (repeat (first | exact nfR_enI | exact nfR_lit (by simp only [nrefL, nref, and_self]) | (refine nfR_app (fun x y => ?_) (fun x y => ?_)) | (refine nfR_ins (fun x y => ?_) (fun x y => ?_)) | (refine nfR_del (fun x y => ?_)) | (refine nfR_upc (fun x y => ?_) (by simp only [nrefL, nref, and_self])) | (refine nfR_ovw (fun x y => ?_) (fun x y => ?_)) | exact nfR_getL (by simp only [nrefL, nref, and_self]))); done) | (intro x hx; (repeat (first | (exfalso; omega) | (rcases x with _ | x; first | (and_intros <;> (first | exact rfl | exact trivial | exact ⟨Or.inr rfl, Fit_enI⟩ | exact Fit_enI | exact Or.inr rfl | exact Or.inl rfl | exact fun x hx => absurd hx (by omega) | exact ⟨Or.inl rfl, fun x hx => absurd hx (by omega)⟩)) | (first | exact rfl | exact trivial | exact ⟨Or.inr rfl, Fit_enI⟩ | exact Fit_enI | exact Or.inr rfl | exact Or.inl rfl | exact fun x hx => absurd hx (by omega) | exact ⟨Or.inl rfl, fun x hx => absurd hx (by omega)⟩)))); done) | (and_intros <;> first | (with_reducible trivial) | omega | assumption | (intro x y _ _; (repeat (first | exact nfR_enI | exact nfR_lit (by simp only [nrefL, nref, and_self]) | (refine nfR_app (fun x y => ?_) (fun x y => ?_)) | (refine nfR_ins (fun x y => ?_) (fun x y => ?_)) | (refine nfR_del (fun x y => ?_)) | (refine nfR_upc (fun x y => ?_) (by simp only [nrefL, nref, and_self])) | (refine nfR_ovw (fun x y => ?_) (fun x y => ?_)) | exact nfR_getL (by simp only [nrefL, nref, and_self]))); done) | (intro x hx; (repeat (first | (exfalso; omega) | (rcases x with _ | x; first | (and_intros <;> (first | exact rfl | exact trivial | exact ⟨Or.inr rfl, Fit_enI⟩ | exact Fit_enI | exact Or.inr rfl | exact Or.inl rfl | exact fun x hx => absurd hx (by omega) | exact ⟨Or.inl rfl, fun x hx => absurd hx (by omega)⟩)) | (first | exact rfl | exact trivial | exact ⟨Or.inr rfl, Fit_enI⟩ | exact Fit_enI | exact Or.inr rfl | exact Or.inl rfl | exact fun x hx => absurd hx (by omega) | exact ⟨Or.inl rfl, fun x hx => absurd hx (by omega)⟩)))); done)) | grind))
      refine condM' rfl trivial (fun hc => ?_) (fun hc => ?_)
      · replace H := cond_f hc H
        refine rg ctNo_ok ?_
        simp only [go_sem, Nat.reduceLeDiff, Nat.reduceLT, Nat.reduceAdd, Nat.reduceMul, Nat.reduceSub, Nat.reduceEqDiff, Nat.reduceBEq, Int.reduceToNat, reduceCtorEq]
        refine ⟨_, (Option.some.inj H).symm, ?_⟩
        refine SubF_of ⟨[], ?_, ?_, by rfl, by rfl⟩
        · simp [CvL, Cv, getM]
        · trivial
      replace H := cond_t hc H
      refine rg ctNo_ok ?_
      simp only [go_sem, Nat.reduceLeDiff, Nat.reduceLT, Nat.reduceAdd, Nat.reduceMul, Nat.reduceSub, Nat.reduceEqDiff, Nat.reduceBEq, Int.reduceToNat, reduceCtorEq]
      refine seqM ?_
      refine blkM ?_
      refine seqM ?_
      obtain ⟨f1, H⟩ := need_some.1 H
      replace f1 := inb_iff.1 f1
      obtain ⟨r2, e3, H⟩ := Option.bind_eq_some_iff.1 H
      refine rg ct43t0_ok ?_
      simp only [go_sem, Nat.reduceLeDiff, Nat.reduceLT, Nat.reduceAdd, Nat.reduceMul, Nat.reduceSub, Nat.reduceEqDiff, Nat.reduceBEq, Int.reduceToNat, reduceCtorEq, ct43t0_44, body44, f1, e3]
      repeat ((with_reducible refine And.intro ?_ ?_); focus (first | (with_reducible trivial) | omega | (intro x y _ _; (repeat (first | exact nfR_enI | exact nfR_lit (by simp only [nrefL, nref, and_self]) | (refine nfR_app (fun x y => ?_) (fun x y => ?_)) | (refine nfR_ins (fun x y => ?_) (fun x y => ?_)) | (refine nfR_del (fun x y => ?_)) | (refine nfR_upc (fun x y => ?_) (by simp only [nrefL, nref, and_self])) | (refine nfR_ovw (fun x y => ?_) (fun x y => ?_)) | exact nfR_getL (by simp only [nrefL, nref, and_self]))); done) | (intro x hx; (repeat (first | (exfalso; omega) | (rcases x with _ | x; first | (and_intros <;> (first | exact rfl | exact trivial | exact ⟨Or.inr rfl, Fit_enI⟩ | exact Fit_enI | exact Or.inr rfl | exact Or.inl rfl | exact fun x hx => absurd hx (by omega) | exact ⟨Or.inl rfl, fun x hx => absurd hx (by omega)⟩)) | (first | exact rfl | exact trivial | exact ⟨Or.inr rfl, Fit_enI⟩ | exact Fit_enI | exact Or.inr rfl | exact Or.inl rfl | exact fun x hx => absurd hx (by omega) | exact ⟨Or.inl rfl, fun x hx => absurd hx (by omega)⟩)))); done) | (and_intros <;> first | (with_reducible trivial) | omega | assumption | (intro x y _ _; (repeat (first | exact nfR_enI | exact nfR_lit (by simp only [nrefL, nref, and_self]) | (refine nfR_app (fun x y => ?_) (fun x y => ?_)) | (refine nfR_ins (fun x y => ?_) (fun x y => ?_)) | (refine nfR_del (fun x y => ?_)) | (refine nfR_upc (fun x y => ?_) (by simp only [nrefL, nref, and_self])) | (refine nfR_ovw (fun x y => ?_) (fun x y => ?_)) | exact nfR_getL (by simp only [nrefL, nref, and_self]))); done) | (intro x hx; (repeat (first | (exfalso; omega) | (rcases x with _ | x; first | (and_intros <;> (first | exact rfl | exact trivial | exact ⟨Or.inr rfl, Fit_enI⟩ | exact Fit_enI | exact Or.inr rfl | exact Or.inl rfl | exact fun x hx => absurd hx (by omega) | exact ⟨Or.inl rfl, fun x hx => absurd hx (by omega)⟩)) | (first | exact rfl | exact trivial | exact ⟨Or.inr rfl, Fit_enI⟩ | exact Fit_enI | exact Or.inr rfl | exact Or.inl rfl | exact fun x hx => absurd hx (by omega) | exact ⟨Or.inl rfl, fun x hx => absurd hx (by omega)⟩)))); done)) | grind))
      refine condM rfl trivial (fun hc => ?_) (fun hc => ?_)
      · replace H := cond_t hc H
        refine sq ctNo_ok ?_
        simp only [go_sem, Nat.reduceLeDiff, Nat.reduceLT, Nat.reduceAdd, Nat.reduceMul, Nat.reduceSub, Nat.reduceEqDiff, Nat.reduceBEq, Int.reduceToNat, reduceCtorEq]
        refine rg ctNo_ok ?_
        simp only [go_sem, Nat.reduceLeDiff, Nat.reduceLT, Nat.reduceAdd, Nat.reduceMul, Nat.reduceSub, Nat.reduceEqDiff, Nat.reduceBEq, Int.reduceToNat, reduceCtorEq]
        have H := hn2_1 _ (Option.some.inj H).symm
        obtain rfl := Option.some.inj H
        first | rfl | simp only [Bool.and_false, Bool.false_and, Bool.and_true, Bool.true_and]
      replace H := cond_f hc H
      refine rg ctNo_ok ?_
      simp only [go_sem, Nat.reduceLeDiff, Nat.reduceLT, Nat.reduceAdd, Nat.reduceMul, Nat.reduceSub, Nat.reduceEqDiff, Nat.reduceBEq, Int.reduceToNat, reduceCtorEq]
      refine rg ctNo_ok ?_
      simp only [go_sem, Nat.reduceLeDiff, Nat.reduceLT, Nat.reduceAdd, Nat.reduceMul, Nat.reduceSub, Nat.reduceEqDiff, Nat.reduceBEq, Int.reduceToNat, reduceCtorEq]
      refine ⟨_, (Option.some.inj H).symm, ?_⟩
      refine SubF_of ⟨[], ?_, ?_, by rfl, by rfl⟩
      · simp [CvL, Cv, getM]
      · trivial
    · try dsimp only at H ⊢
      try simp only [m_normal, k_normal, b_normal, kL_normal, r_normal]
      refine sq ctNo_ok ?_
      simp only [go_sem, Nat.reduceLeDiff, Nat.reduceLT, Nat.reduceAdd, Nat.reduceMul, Nat.reduceSub, Nat.reduceEqDiff, Nat.reduceBEq, Int.reduceToNat, reduceCtorEq]
      refine rg ctNo_ok ?_
      simp only [go_sem, Nat.reduceLeDiff, Nat.reduceLT, Nat.reduceAdd, Nat.reduceMul, Nat.reduceSub, Nat.reduceEqDiff, Nat.reduceBEq, Int.reduceToNat, reduceCtorEq]
      obtain rfl := Option.some.inj H
      first | rfl | simp only [Bool.and_false, Bool.false_and, Bool.and_true, Bool.true_and]
  · cases hb
/-! hotspot/hotspotref34.Great -/
noncomputable def ct11t0 : Ct := tab [(43, pureC body43), (44, pureC body44)]
theorem ct11t0_ok : CtOk Try.prog ct11t0 := tab_cons ok43 <| tab_cons ok44 <| tab_nil
theorem ct11t0_43 (l : List AV) (h : List ABlk) : ct11t0 43 l h = pureC body43 l h := rfl
theorem ct11t0_44 (l : List AV) (h : List ABlk) : ct11t0 44 l h = pureC body44 l h := rfl
noncomputable def ct11t1 : Ct := tab [(43, pureC body43)]
theorem ct11t1_ok : CtOk Try.prog ct11t1 := tab_cons ok43 <| tab_nil
theorem ct11t1_43 (l : List AV) (h : List ABlk) : ct11t1 43 l h = pureC body43 l h := rfl
noncomputable def F11_L1 (p0 : TBuffer) (v1_1 : Int) : Option (Lp (Int) ((Unit) ⊕ (Bool))) :=
  bif (bLt v1_1 (p0.List.length : Nat)) then (need (inb v1_1 p0.List.length) <| (F43 ((gd p0.List v1_1.toNat).Held)).bind fun r4 => bif r4 then (some (.done (.inr true))) else (some (.next (wr .i64 (v1_1 + 1))))) else (some (.done (.inl ())))
noncomputable def F11 (p0 : TBuffer) (p1 : TFrame) : Option (Bool) :=
  need (bif (!(bLt 40 (p0.List.length : Nat))) then ((F43 p0.Group).isSome) else true) <| need (bif (!((bLt 40 (p0.List.length : Nat)) || (gt (F43 p0.Group)))) then ((F44 p1).isSome) else true) <| bif (((bLt 40 (p0.List.length : Nat)) || (gt (F43 p0.Group))) || (gt (F44 p1))) then (some true) else (lp (loopD (fun s => F11_L1 p0 s) 0) (fun e => some false) some)
noncomputable def body11 : List AV → AR
  | [v0, v1] => .pure (aK 4 k_TBuffer v0 ∧ aK 41 k_TFrame v1 ∧ (F11 (g_TBuffer (aL v0)) (g_TFrame (aL v1))).isSome = true) (.bool (gt (F11 (g_TBuffer (aL v0)) (g_TFrame (aL v1)))))
  | _ => .fail
set_option maxHeartbeats 4000000 in
set_option maxRecDepth 20000 in
theorem ok11 : FnOk Try.prog 11 (pureC body11) := by
  refine pure_fnM body11 (rs := [.tmp 4]) Try.func11 (by kernel_rfl) rfl rfl ?_
  intro l ob v hb hob
  unfold body11 at hb
  split at hb
  · rename_i v0 v1
    injection hb with q1 q2; subst q1 q2
    obtain ⟨hk0, hk1, hob⟩ := hob
    obtain ⟨r, H⟩ := Option.isSome_iff_exists.1 hob
    rw [H, gt_some]
    have hw0 := wA_TBuffer hk0
    have hw1 := wA_TFrame hk1
    generalize g_TBuffer (aL v0) = p0 at H hw0
    generalize g_TFrame (aL v1) = p1 at H hw1
    refine ⟨[.agg [.int .i64 p0.Limit, .int .i64 p0.Stay, .ro 3 p0.List.length false (enR c_TSleeper p0.List), .ro 43 p0.Group.length false (enR c_TStored p0.Group)], .agg (.int .u8 p1.Head.Kind :: .int .u8 p1.Head.Sub :: .bool p1.Head.ToDs :: .bool p1.Head.FromDs :: .bool p1.Head.More :: .bool p1.Head.Retry :: .bool p1.Head.Sleep :: .bool p1.Head.MoreData :: .bool p1.Head.Protected :: .int .i64 p1.Head.Duration :: .int .u8 p1.Head.A1.x0 :: .int .u8 p1.Head.A1.x1 :: .int .u8 p1.Head.A1.x2 :: .int .u8 p1.Head.A1.x3 :: .int .u8 p1.Head.A1.x4 :: .int .u8 p1.Head.A1.x5 :: .int .u8 p1.Head.A2.x0 :: .int .u8 p1.Head.A2.x1 :: .int .u8 p1.Head.A2.x2 :: .int .u8 p1.Head.A2.x3 :: .int .u8 p1.Head.A2.x4 :: .int .u8 p1.Head.A2.x5 :: .int .u8 p1.Head.A3.x0 :: .int .u8 p1.Head.A3.x1 :: .int .u8 p1.Head.A3.x2 :: .int .u8 p1.Head.A3.x3 :: .int .u8 p1.Head.A3.x4 :: .int .u8 p1.Head.A3.x5 :: .int .u8 p1.Head.A4.x0 :: .int .u8 p1.Head.A4.x1 :: .int .u8 p1.Head.A4.x2 :: .int .u8 p1.Head.A4.x3 :: .int .u8 p1.Head.A4.x4 :: .int .u8 p1.Head.A4.x5 :: .int .i64 p1.Head.Seq :: .int .i64 p1.Head.Frag :: .int .i64 p1.Head.Tid :: .int .u8 p1.Head.Ack :: .bool p1.Head.Amsdu :: .bool p1.Head.Eosp :: .ro 1 p1.Body.length false (enR c_u8 p1.Body) :: [])], _, (fun E vs F => FR_wk1 hw0.1 F (fun vs F => FR_wk1 hw1.1 F (fun vs F => F))), rfl, rfl, ?_⟩
    rw [Try.ntmps11]
    simp only [List.length_cons, List.length_nil, Nat.reduceAdd, Nat.reduceSub, List.replicate_succ, List.replicate_zero, List.cons_append, List.nil_append]
    unfold F11 at H
    try dsimp only at H
    refine sq ctNo_ok ?_
    simp only [go_sem, Nat.reduceLeDiff, Nat.reduceLT, Nat.reduceAdd, Nat.reduceMul, Nat.reduceSub, Nat.reduceEqDiff, Nat.reduceBEq, Int.reduceToNat, reduceCtorEq]
    refine seqM ?_
    refine seqM ?_
    obtain ⟨f1, H⟩ := need_some.1 H
    replace f1 := g_iff.1 f1
    obtain ⟨f2, H⟩ := need_some.1 H
    replace f2 := g_iff.1 f2
    refine rg ct11t0_ok ?_
    simp only [go_sem, Nat.reduceLeDiff, Nat.reduceLT, Nat.reduceAdd, Nat.reduceMul, Nat.reduceSub, Nat.reduceEqDiff, Nat.reduceBEq, Int.reduceToNat, reduceCtorEq, ct11t0_43, body43, ct11t0_44, body44]
    repeat ((with_reducible refine And.intro ?_ ?_); focus (first | (with_reducible trivial) | omega | exact f1 | exact f2 | (intro g; have q := f1 (by first | exact g | simpa using g); first | exact q | exact ⟨q.1, q.2.1⟩ | exact q.2.2 | omega | exact ⟨g, q⟩ | exact ⟨trivial, q⟩) | (intro g; have q := f2 (by first | exact g | simpa using g); first | exact q | exact ⟨q.1, q.2.1⟩ | exact q.2.2 | omega | exact ⟨g, q⟩ | exact ⟨trivial, q⟩) | (intro x y _ _; (repeat (first | exact nfR_enI | exact nfR_lit (by simp only [nrefL, nref, and_self]) | (refine nfR_app (fun x y => ?_) (fun x y => ?_)) | (refine nfR_ins (fun x y => ?_) (fun x y => ?_)) | (refine nfR_del (fun x y => ?_)) | (refine nfR_upc (fun x y => ?_) (by simp only [nrefL, nref, and_self])) | (refine nfR_ovw (fun x y => ?_) (fun x y => ?_)) | exact nfR_getL (by simp only [nrefL, nref, and_self]))); done) | (intro x hx; (repeat (first | (exfalso; omega) | (rcases x with _ | x; first | (and_intros <;> (first | exact rfl | exact trivial | exact ⟨Or.inr rfl, Fit_enI⟩ | exact Fit_enI | exact Or.inr rfl | exact Or.inl rfl | exact fun x hx => absurd hx (by omega) | exact ⟨Or.inl rfl, fun x hx => absurd hx (by omega)⟩)) | (first | exact rfl | exact trivial | exact ⟨Or.inr rfl, Fit_enI⟩ | exact Fit_enI | exact Or.inr rfl | exact Or.inl rfl | exact fun x hx => absurd hx (by omega) | exact ⟨Or.inl rfl, fun x hx => absurd hx (by omega)⟩)))); done) | (and_intros <;> first | (with_reducible trivial) | omega | assumption | (intro x y _ _; (repeat (first | exact nfR_enI | exact nfR_lit (by simp only [nrefL, nref, and_self]) | (refine nfR_app (fun x y => ?_) (fun x y => ?_)) | (refine nfR_ins (fun x y => ?_) (fun x y => ?_)) | (refine nfR_del (fun x y => ?_)) | (refine nfR_upc (fun x y => ?_) (by simp only [nrefL, nref, and_self])) | (refine nfR_ovw (fun x y => ?_) (fun x y => ?_)) | exact nfR_getL (by simp only [nrefL, nref, and_self]))); done) | (intro x hx; (repeat (first | (exfalso; omega) | (rcases x with _ | x; first | (and_intros <;> (first | exact rfl | exact trivial | exact ⟨Or.inr rfl, Fit_enI⟩ | exact Fit_enI | exact Or.inr rfl | exact Or.inl rfl | exact fun x hx => absurd hx (by omega) | exact ⟨Or.inl rfl, fun x hx => absurd hx (by omega)⟩)) | (first | exact rfl | exact trivial | exact ⟨Or.inr rfl, Fit_enI⟩ | exact Fit_enI | exact Or.inr rfl | exact Or.inl rfl | exact fun x hx => absurd hx (by omega) | exact ⟨Or.inl rfl, fun x hx => absurd hx (by omega)⟩)))); done)) | (intro g; and_intros <;> first | (with_reducible trivial) | assumption | exact f1 g | exact f2 g | (intro x y _ _; (repeat (first | exact nfR_enI | exact nfR_lit (by simp only [nrefL, nref, and_self]) | (refine nfR_app (fun x y => ?_) (fun x y => ?_)) | (refine nfR_ins (fun x y => ?_) (fun x y => ?_)) | (refine nfR_del (fun x y => ?_)) | (refine nfR_upc (fun x y => ?_) (by simp only [nrefL, nref, and_self])) | (refine nfR_ovw (fun x y => ?_) (fun x y => ?_)) | exact nfR_getL (by simp only [nrefL, nref, and_self]))); done) | (intro x hx; (repeat (first | (exfalso; omega) | (rcases x with _ | x; first | (and_intros <;> (first | exact rfl | exact trivial | exact ⟨Or.inr rfl, Fit_enI⟩ | exact Fit_enI | exact Or.inr rfl | exact Or.inl rfl | exact fun x hx => absurd hx (by omega) | exact ⟨Or.inl rfl, fun x hx => absurd hx (by omega)⟩)) | (first | exact rfl | exact trivial | exact ⟨Or.inr rfl, Fit_enI⟩ | exact Fit_enI | exact Or.inr rfl | exact Or.inl rfl | exact fun x hx => absurd hx (by omega) | exact ⟨Or.inl rfl, fun x hx => absurd hx (by omega)⟩)))); done) | (and_intros <;> first | (with_reducible trivial) | omega | assumption | (intro x y _ _; (repeat (first | exact nfR_enI | exact nfR_lit (by simp only [nrefL, nref, and_self]) | (refine nfR_app (fun x y => ?_) (fun x y => ?_)) | (refine nfR_ins (fun x y => ?_) (fun x y => ?_)) | (refine nfR_del (fun x y => ?_)) | (refine nfR_upc (fun x y => ?_) (by simp only [nrefL, nref, and_self])) | (refine nfR_ovw (fun x y => ?_) (fun x y => ?_)) | exact nfR_getL (by simp only [nrefL, nref, and_self]))); done) | (intro x hx; (repeat (first | (exfalso; omega) | (rcases x with _ | x; first | (and_intros <;> (first | exact rfl | exact trivial | exact ⟨Or.inr rfl, Fit_enI⟩ | exact Fit_enI | exact Or.inr rfl | exact Or.inl rfl | exact fun x hx => absurd hx (by omega) | exact ⟨Or.inl rfl, fun x hx => absurd hx (by omega)⟩)) | (first | exact rfl | exact trivial | exact ⟨Or.inr rfl, Fit_enI⟩ | exact Fit_enI | exact Or.inr rfl | exact Or.inl rfl | exact fun x hx => absurd hx (by omega) | exact ⟨Or.inl rfl, fun x hx => absurd hx (by omega)⟩)))); done))) | grind))
    refine condM rfl trivial (fun hc => ?_) (fun hc => ?_)
    · replace H := cond_t hc H
      refine sq ctNo_ok ?_
      simp only [go_sem, Nat.reduceLeDiff, Nat.reduceLT, Nat.reduceAdd, Nat.reduceMul, Nat.reduceSub, Nat.reduceEqDiff, Nat.reduceBEq, Int.reduceToNat, reduceCtorEq]
      refine rg ctNo_ok ?_
      simp only [go_sem, Nat.reduceLeDiff, Nat.reduceLT, Nat.reduceAdd, Nat.reduceMul, Nat.reduceSub, Nat.reduceEqDiff, Nat.reduceBEq, Int.reduceToNat, reduceCtorEq]
      obtain rfl := Option.some.inj H
      first | rfl | simp only [Bool.and_false, Bool.false_and, Bool.and_true, Bool.true_and]
    replace H := cond_f hc H
    refine rg ctNo_ok ?_
    simp only [go_sem, Nat.reduceLeDiff, Nat.reduceLT, Nat.reduceAdd, Nat.reduceMul, Nat.reduceSub, Nat.reduceEqDiff, Nat.reduceBEq, Int.reduceToNat, reduceCtorEq]
    refine seqM ?_
    refine sq ctNo_ok ?_
    simp only [go_sem, Nat.reduceLeDiff, Nat.reduceLT, Nat.reduceAdd, Nat.reduceMul, Nat.reduceSub, Nat.reduceEqDiff, Nat.reduceBEq, Int.reduceToNat, reduceCtorEq]
    refine blkM ?_
    refine loop_den (fun s : Int => (.top :: .top :: .ptr 0 0 0 0 :: .top :: .top :: .int .i64 s :: .top :: .top :: .top :: .top :: .top :: .top :: .top :: .top :: .top :: .top :: .top :: .top :: .top :: .top :: .top :: .top :: .top :: .top :: .top :: .top :: .top :: .top :: .top :: .top :: .top :: .top :: .top :: [])) (fun s => [.lit 25 [.int .i64 p0.Limit, .int .i64 p0.Stay, .ro 3 p0.List.length false (enR c_TSleeper p0.List), .ro 43 p0.Group.length false (enR c_TStored p0.Group)], .dead]) (fun e : Unit => (.top :: .top :: .top :: .top :: .top :: .top :: .top :: .top :: .top :: .top :: .top :: .top :: .top :: .top :: .top :: .top :: .top :: .top :: .top :: .top :: .top :: .top :: .top :: .top :: .top :: .top :: .top :: .top :: .top :: .top :: .top :: .top :: .top :: [])) (fun e => [.dead, .dead]) H ?_ (fun v1_1 o H hn1_1 hn2_1 => ?_) (fun e H => ?_)
    · refine SubF_of ⟨[some 0, some 1], ?_, ?_, by rfl, by rfl⟩
      · simp [CvL, Cv, getM]
      · exact ⟨(by simp [CvB, CvL, Cv, blkAt, geth, getM]), CvB_dead, trivial⟩
    · unfold F11_L1 at H
      try dsimp only at H ⊢
      refine seqM ?_
      refine sq ctNo_ok ?_
      simp only [go_sem, Nat.reduceLeDiff, Nat.reduceLT, Nat.reduceAdd, Nat.reduceMul, Nat.reduceSub, Nat.reduceEqDiff, Nat.reduceBEq, Int.reduceToNat, reduceCtorEq]
      repeat ((with_reducible refine And.intro ?_ ?_); focus (first | (with_reducible trivial) | omega | (intro x y _ _; (repeat (first | exact nfR_enI | exact nfR_lit (by simp only [nrefL, nref, and_self]) | (refine nfR_app (fun x y => ?_) (fun x y => ?_)) | (refine nfR_ins (fun x y => ?_) (fun x y => ?_)) | (refine nfR_del (fun x y => ?_)) | (refine nfR_upc (fun x y => ?_) (by simp only [nrefL, nref, and_self])) | (refine nfR_ovw (fun x y => ?_) (fun x y => ?_)) | exact nfR_getL (by simp only [nrefL, nref, and_self]))); done) | (intro x hx; (repeat (first | (exfalso; omega) | (rcases x with _ | x; first | (and_intros <;> (first | exact rfl | exact trivial | exact ⟨Or.inr rfl, Fit_enI⟩ | exact Fit_enI | exact Or.inr rfl | exact Or.inl rfl | exact fun x hx => absurd hx (by omega) | exact ⟨Or.inl rfl, fun x hx => absurd hx (by omega)⟩)) | (first | exact rfl | exact trivial | exact ⟨Or.inr rfl, Fit_enI⟩ | exact Fit_enI | exact Or.inr rfl | exact Or.inl rfl | exact fun x hx => absurd hx (by omega) | exact ⟨Or.inl rfl, fun x hx => absurd hx (by omega)⟩)))); done) | (and_intros <;> first | (with_reducible trivial) | omega | assumption | (intro x y _ _; (repeat (first | exact nfR_enI | exact nfR_lit (by simp only [nrefL, nref, and_self]) | (refine nfR_app (fun x y => ?_) (fun x y => ?_)) | (refine nfR_ins (fun x y => ?_) (fun x y => ?_)) | (refine nfR_del (fun x y => ?_)) | (refine nfR_upc (fun x y => ?_) (by simp only [nrefL, nref, and_self])) | (refine nfR_ovw (fun x y => ?_) (fun x y => ?_)) | exact nfR_getL (by simp only [nrefL, nref, and_self]))); done) | (intro x hx; (repeat (first | (exfalso; omega) | (rcases x with _ | x; first | (and_intros <;> (first | exact rfl | exact trivial | exact ⟨Or.inr rfl, Fit_enI⟩ | exact Fit_enI | exact Or.inr rfl | exact Or.inl rfl | exact fun x hx => absurd hx (by omega) | exact ⟨Or.inl rfl, fun x hx => absurd hx (by omega)⟩)) | (first | exact rfl | exact trivial | exact ⟨Or.inr rfl, Fit_enI⟩ | exact Fit_enI | exact Or.inr rfl | exact Or.inl rfl | exact fun x hx => absurd hx (by omega) | exact ⟨Or.inl rfl, fun x hx => absurd hx (by omega)⟩)))); done)) | grind))
      refine condM' rfl trivial (fun hc => ?_) (fun hc => ?_)
      · replace H := cond_f hc H
        refine rg ctNo_ok ?_
        simp only [go_sem, Nat.reduceLeDiff, Nat.reduceLT, Nat.reduceAdd, Nat.reduceMul, Nat.reduceSub, Nat.reduceEqDiff, Nat.reduceBEq, Int.reduceToNat, reduceCtorEq]
        refine ⟨_, (Option.some.inj H).symm, ?_⟩
        refine SubF_of ⟨[some 0, some 1], ?_, ?_, by rfl, by rfl⟩
        · simp [CvL, Cv, getM]
        · exact ⟨CvB_dead, CvB_dead, trivial⟩
      replace H := cond_t hc H
      refine rg ctNo_ok ?_
      simp only [go_sem, Nat.reduceLeDiff, Nat.reduceLT, Nat.reduceAdd, Nat.reduceMul, Nat.reduceSub, Nat.reduceEqDiff, Nat.reduceBEq, Int.reduceToNat, reduceCtorEq]
      refine seqM ?_
      refine blkM ?_
      refine seqM ?_
      obtain ⟨f3, H⟩ := need_some.1 H
      replace f3 := inb_iff.1 f3
      obtain ⟨r4, e5, H⟩ := Option.bind_eq_some_iff.1 H
      refine rg ct11t1_ok ?_
      simp only [go_sem, Nat.reduceLeDiff, Nat.reduceLT, Nat.reduceAdd, Nat.reduceMul, Nat.reduceSub, Nat.reduceEqDiff, Nat.reduceBEq, Int.reduceToNat, reduceCtorEq, ct11t1_43, body43, f3, e5]
      repeat ((with_reducible refine And.intro ?_ ?_); focus (first | (with_reducible trivial) | omega | (intro x y _ _; (repeat (first | exact nfR_enI | exact nfR_lit (by simp only [nrefL, nref, and_self]) | (refine nfR_app (fun x y => ?_) (fun x y => ?_)) | (refine nfR_ins (fun x y => ?_) (fun x y => ?_)) | (refine nfR_del (fun x y => ?_)) | (refine nfR_upc (fun x y => ?_) (by simp only [nrefL, nref, and_self])) | (refine nfR_ovw (fun x y => ?_) (fun x y => ?_)) | exact nfR_getL (by simp only [nrefL, nref, and_self]))); done) | (intro x hx; (repeat (first | (exfalso; omega) | (rcases x with _ | x; first | (and_intros <;> (first | exact rfl | exact trivial | exact ⟨Or.inr rfl, Fit_enI⟩ | exact Fit_enI | exact Or.inr rfl | exact Or.inl rfl | exact fun x hx => absurd hx (by omega) | exact ⟨Or.inl rfl, fun x hx => absurd hx (by omega)⟩)) | (first | exact rfl | exact trivial | exact ⟨Or.inr rfl, Fit_enI⟩ | exact Fit_enI | exact Or.inr rfl | exact Or.inl rfl | exact fun x hx => absurd hx (by omega) | exact ⟨Or.inl rfl, fun x hx => absurd hx (by omega)⟩)))); done) | (and_intros <;> first | (with_reducible trivial) | omega | assumption | (intro x y _ _; (repeat (first | exact nfR_enI | exact nfR_lit (by simp only [nrefL, nref, and_self]) | (refine nfR_app (fun x y => ?_) (fun x y => ?_)) | (refine nfR_ins (fun x y => ?_) (fun x y => ?_)) | (refine nfR_del (fun x y => ?_)) | (refine nfR_upc (fun x y => ?_) (by simp only [nrefL, nref, and_self])) | (refine nfR_ovw (fun x y => ?_) (fun x y => ?_)) | exact nfR_getL (by simp only [nrefL, nref, and_self]))); done) | (intro x hx; (repeat (first | (exfalso; omega) | (rcases x with _ | x; first | (and_intros <;> (first | exact rfl | exact trivial | exact ⟨Or.inr rfl, Fit_enI⟩ | exact Fit_enI | exact Or.inr rfl | exact Or.inl rfl | exact fun x hx => absurd hx (by omega) | exact ⟨Or.inl rfl, fun x hx => absurd hx (by omega)⟩)) | (first | exact rfl | exact trivial | exact ⟨Or.inr rfl, Fit_enI⟩ | exact Fit_enI | exact Or.inr rfl | exact Or.inl rfl | exact fun x hx => absurd hx (by omega) | exact ⟨Or.inl rfl, fun x hx => absurd hx (by omega)⟩)))); done)) | grind))
      refine condM rfl trivial (fun hc => ?_) (fun hc => ?_)
      · replace H := cond_t hc H
        refine sq ctNo_ok ?_
        simp only [go_sem, Nat.reduceLeDiff, Nat.reduceLT, Nat.reduceAdd, Nat.reduceMul, Nat.reduceSub, Nat.reduceEqDiff, Nat.reduceBEq, Int.reduceToNat, reduceCtorEq]
        refine rg ctNo_ok ?_
        simp only [go_sem, Nat.reduceLeDiff, Nat.reduceLT, Nat.reduceAdd, Nat.reduceMul, Nat.reduceSub, Nat.reduceEqDiff, Nat.reduceBEq, Int.reduceToNat, reduceCtorEq]
        have H := hn2_1 _ (Option.some.inj H).symm
        obtain rfl := Option.some.inj H
        first | rfl | simp only [Bool.and_false, Bool.false_and, Bool.and_true, Bool.true_and]
      replace H := cond_f hc H
      refine rg ctNo_ok ?_
      simp only [go_sem, Nat.reduceLeDiff, Nat.reduceLT, Nat.reduceAdd, Nat.reduceMul, Nat.reduceSub, Nat.reduceEqDiff, Nat.reduceBEq, Int.reduceToNat, reduceCtorEq]
      refine rg ctNo_ok ?_
      simp only [go_sem, Nat.reduceLeDiff, Nat.reduceLT, Nat.reduceAdd, Nat.reduceMul, Nat.reduceSub, Nat.reduceEqDiff, Nat.reduceBEq, Int.reduceToNat, reduceCtorEq]
      refine ⟨_, (Option.some.inj H).symm, ?_⟩
      refine SubF_of ⟨[some 0, some 1], ?_, ?_, by rfl, by rfl⟩
      · simp [CvL, Cv, getM]
      · exact ⟨(by simp [CvB, CvL, Cv, blkAt, geth, getM]), CvB_dead, trivial⟩
    · try dsimp only at H ⊢
      try simp only [m_normal, k_normal, b_normal, kL_normal, r_normal]
      refine sq ctNo_ok ?_
      simp only [go_sem, Nat.reduceLeDiff, Nat.reduceLT, Nat.reduceAdd, Nat.reduceMul, Nat.reduceSub, Nat.reduceEqDiff, Nat.reduceBEq, Int.reduceToNat, reduceCtorEq]
      refine rg ctNo_ok ?_
      simp only [go_sem, Nat.reduceLeDiff, Nat.reduceLT, Nat.reduceAdd, Nat.reduceMul, Nat.reduceSub, Nat.reduceEqDiff, Nat.reduceBEq, Int.reduceToNat, reduceCtorEq]
      obtain rfl := Option.some.inj H
      first | rfl | simp only [Bool.and_false, Bool.false_and, Bool.and_true, Bool.true_and]
  · cases hb
/-! hotspot/buffer.moment -/
noncomputable def F61 (p0 : Int) : Option (Bool) :=
  some ((bLe 0 p0) && (bLe p0 1099511627776))
noncomputable def body61 : List AV → AR
  | [v0] => .pure (iK .i64 v0 ∧ (F61 (iA v0)).isSome = true) (.bool (gt (F61 (iA v0))))
  | _ => .fail
set_option maxHeartbeats 4000000 in
set_option maxRecDepth 20000 in
theorem ok61 : FnOk Try.prog 61 (pureC body61) := by
  refine pure_fnM body61 (rs := [.tmp 2]) Try.func61 (by kernel_rfl) rfl rfl ?_
  intro l ob v hb hob
  unfold body61 at hb
  split at hb
  · rename_i v0
    injection hb with q1 q2; subst q1 q2
    obtain ⟨hk0, hob⟩ := hob
    obtain ⟨r, H⟩ := Option.isSome_iff_exists.1 hob
    rw [H, gt_some]
    have hw0 := iK_wk hk0
    generalize iA v0 = p0 at H hw0
    refine ⟨[.int .i64 p0], _, (fun E vs F => FR_wk1 hw0.1 F (fun vs F => F)), rfl, rfl, ?_⟩
    rw [Try.ntmps61]
    simp only [List.length_cons, List.length_nil, Nat.reduceAdd, Nat.reduceSub, List.replicate_succ, List.replicate_zero, List.cons_append, List.nil_append]
    unfold F61 at H
    try dsimp only at H
    refine sq ctNo_ok ?_
    simp only [go_sem, Nat.reduceLeDiff, Nat.reduceLT, Nat.reduceAdd, Nat.reduceMul, Nat.reduceSub, Nat.reduceEqDiff, Nat.reduceBEq, Int.reduceToNat, reduceCtorEq]
    refine sq ctNo_ok ?_
    simp only [go_sem, Nat.reduceLeDiff, Nat.reduceLT, Nat.reduceAdd, Nat.reduceMul, Nat.reduceSub, Nat.reduceEqDiff, Nat.reduceBEq, Int.reduceToNat, reduceCtorEq]
    repeat ((with_reducible refine And.intro ?_ ?_); focus (first | (with_reducible trivial) | omega | grind))
    refine rg ctNo_ok ?_
    simp only [go_sem, Nat.reduceLeDiff, Nat.reduceLT, Nat.reduceAdd, Nat.reduceMul, Nat.reduceSub, Nat.reduceEqDiff, Nat.reduceBEq, Int.reduceToNat, reduceCtorEq]
    obtain rfl := Option.some.inj H
    first | rfl | simp only [Bool.and_false, Bool.false_and, Bool.and_true, Bool.true_and]
  · cases hb
/-! hotspot/buffer.checkQueue -/
noncomputable def ct46t0 : Ct := tab [(61, pureC body61)]
theorem ct46t0_ok : CtOk Try.prog ct46t0 := tab_cons ok61 <| tab_nil
theorem ct46t0_61 (l : List AV) (h : List ABlk) : ct46t0 61 l h = pureC body61 l h := rfl
noncomputable def F46_L1 (p0 : List TStored) (p2 : Int) (v1_1 : Int) : Option (Lp (Int) ((Unit) ⊕ (Bool))) :=
  bif (bLt v1_1 (p0.length : Nat)) then (need (inb v1_1 p0.length) <| need (bif (!(bLt p2 ((gd p0 v1_1.toNat).Cat))) then ((F61 ((gd p0 v1_1.toNat).At)).isSome) else true) <| need (bif ((!((bLt p2 ((gd p0 v1_1.toNat).Cat)) || (!(gt (F61 ((gd p0 v1_1.toNat).At)))))) && (bLt 0 v1_1)) then inb (wr .i64 (v1_1 - 1)) p0.length else true) <| bif (((bLt p2 ((gd p0 v1_1.toNat).Cat)) || (!(gt (F61 ((gd p0 v1_1.toNat).At))))) || ((bLt 0 v1_1) && (bLt ((gd p0 v1_1.toNat).At) ((gd p0 ((wr .i64 (v1_1 - 1)).toNat)).At)))) then (some (.done (.inr false))) else (some (.next (wr .i64 (v1_1 + 1))))) else (some (.done (.inl ())))
noncomputable def F46 (p0 : List TStored) (p1 : Int) (p2 : Int) : Option (Bool) :=
  bif (bLt p1 (p0.length : Nat)) then (some false) else (lp (loopD (fun s => F46_L1 p0 p2 s) 0) (fun e => some true) some)
noncomputable def body46 : List AV → AR
  | [v0, v1, v2] => .pure (lK k_TStored 43 v0 ∧ iK .i64 v1 ∧ iK .u8 v2 ∧ (F46 (lA g_TStored v0) (iA v1) (iA v2)).isSome = true) (.bool (gt (F46 (lA g_TStored v0) (iA v1) (iA v2))))
  | _ => .fail
set_option maxHeartbeats 4000000 in
set_option maxRecDepth 20000 in
theorem ok46 : FnOk Try.prog 46 (pureC body46) := by
  refine pure_fnM body46 (rs := [.tmp 6]) Try.func46 (by kernel_rfl) rfl rfl ?_
  intro l ob v hb hob
  unfold body46 at hb
  split at hb
  · rename_i v0 v1 v2
    injection hb with q1 q2; subst q1 q2
    obtain ⟨hk0, hk1, hk2, hob⟩ := hob
    obtain ⟨r, H⟩ := Option.isSome_iff_exists.1 hob
    rw [H, gt_some]
    have hw0 := lK_wk (fun r h => w_TStored h) hk0
    have hw1 := iK_wk hk1
    have hw2 := iK_wk hk2
    generalize lA g_TStored v0 = p0 at H hw0
    generalize iA v1 = p1 at H hw1
    generalize iA v2 = p2 at H hw2
    refine ⟨[.ro 43 p0.length false (enR c_TStored p0), .int .i64 p1, .int .u8 p2], _, (fun E vs F => FR_wk1 hw0.1 F (fun vs F => FR_wk1 hw1.1 F (fun vs F => FR_wk1 hw2.1 F (fun vs F => F)))), rfl, rfl, ?_⟩
    rw [Try.ntmps46]
    simp only [List.length_cons, List.length_nil, Nat.reduceAdd, Nat.reduceSub, List.replicate_succ, List.replicate_zero, List.cons_append, List.nil_append]
    unfold F46 at H
    try dsimp only at H
    refine sq ctNo_ok ?_
    simp only [go_sem, Nat.reduceLeDiff, Nat.reduceLT, Nat.reduceAdd, Nat.reduceMul, Nat.reduceSub, Nat.reduceEqDiff, Nat.reduceBEq, Int.reduceToNat, reduceCtorEq]
    refine seqM ?_
    refine sq ctNo_ok ?_
    simp only [go_sem, Nat.reduceLeDiff, Nat.reduceLT, Nat.reduceAdd, Nat.reduceMul, Nat.reduceSub, Nat.reduceEqDiff, Nat.reduceBEq, Int.reduceToNat, reduceCtorEq]
    repeat ((with_reducible refine And.intro ?_ ?_); focus (first | (with_reducible trivial) | omega | (intro x y _ _; (repeat (first | exact nfR_enI | exact nfR_lit (by simp only [nrefL, nref, and_self]) | (refine nfR_app (fun x y => ?_) (fun x y => ?_)) | (refine nfR_ins (fun x y => ?_) (fun x y => ?_)) | (refine nfR_del (fun x y => ?_)) | (refine nfR_upc (fun x y => ?_) (by simp only [nrefL, nref, and_self])) | (refine nfR_ovw (fun x y => ?_) (fun x y => ?_)) | exact nfR_getL (by simp only [nrefL, nref, and_self]))); done) | (intro x hx; (repeat (first | (exfalso; omega) | (rcases x with _ | x; first | (and_intros <;> (first | exact rfl | exact trivial | exact ⟨Or.inr rfl, Fit_enI⟩ | exact Fit_enI | exact Or.inr rfl | exact Or.inl rfl | exact fun x hx => absurd hx (by omega) | exact ⟨Or.inl rfl, fun x hx => absurd hx (by omega)⟩)) | (first | exact rfl | exact trivial | exact ⟨Or.inr rfl, Fit_enI⟩ | exact Fit_enI | exact Or.inr rfl | exact Or.inl rfl | exact fun x hx => absurd hx (by omega) | exact ⟨Or.inl rfl, fun x hx => absurd hx (by omega)⟩)))); done) | (and_intros <;> first | (with_reducible trivial) | omega | assumption | (intro x y _ _; (repeat (first | exact nfR_enI | exact nfR_lit (by simp only [nrefL, nref, and_self]) | (refine nfR_app (fun x y => ?_) (fun x y => ?_)) | (refine nfR_ins (fun x y => ?_) (fun x y => ?_)) | (refine nfR_del (fun x y => ?_)) | (refine nfR_upc (fun x y => ?_) (by simp only [nrefL, nref, and_self])) | (refine nfR_ovw (fun x y => ?_) (fun x y => ?_)) | exact nfR_getL (by simp only [nrefL, nref, and_self]))); done) | (intro x hx; (repeat (first | (exfalso; omega) | (rcases x with _ | x; first | (and_intros <;> (first | exact rfl | exact trivial | exact ⟨Or.inr rfl, Fit_enI⟩ | exact Fit_enI | exact Or.inr rfl | exact Or.inl rfl | exact fun x hx => absurd hx (by omega) | exact ⟨Or.inl rfl, fun x hx => absurd hx (by omega)⟩)) | (first | exact rfl | exact trivial | exact ⟨Or.inr rfl, Fit_enI⟩ | exact Fit_enI | exact Or.inr rfl | exact Or.inl rfl | exact fun x hx => absurd hx (by omega) | exact ⟨Or.inl rfl, fun x hx => absurd hx (by omega)⟩)))); done)) | grind))
    refine condM rfl trivial (fun hc => ?_) (fun hc => ?_)
    · replace H := cond_t hc H
      refine sq ctNo_ok ?_
      simp only [go_sem, Nat.reduceLeDiff, Nat.reduceLT, Nat.reduceAdd, Nat.reduceMul, Nat.reduceSub, Nat.reduceEqDiff, Nat.reduceBEq, Int.reduceToNat, reduceCtorEq]
      refine rg ctNo_ok ?_
      simp only [go_sem, Nat.reduceLeDiff, Nat.reduceLT, Nat.reduceAdd, Nat.reduceMul, Nat.reduceSub, Nat.reduceEqDiff, Nat.reduceBEq, Int.reduceToNat, reduceCtorEq]
      obtain rfl := Option.some.inj H
      first | rfl | simp only [Bool.and_false, Bool.false_and, Bool.and_true, Bool.true_and]
    replace H := cond_f hc H
    refine rg ctNo_ok ?_
    simp only [go_sem, Nat.reduceLeDiff, Nat.reduceLT, Nat.reduceAdd, Nat.reduceMul, Nat.reduceSub, Nat.reduceEqDiff, Nat.reduceBEq, Int.reduceToNat, reduceCtorEq]
    refine seqM ?_
    refine sq ctNo_ok ?_
    simp only [go_sem, Nat.reduceLeDiff, Nat.reduceLT, Nat.reduceAdd, Nat.reduceMul, Nat.reduceSub, Nat.reduceEqDiff, Nat.reduceBEq, Int.reduceToNat, reduceCtorEq]
    repeat ((with_reducible refine And.intro ?_ ?_); focus (first | (with_reducible trivial) | omega | (intro x y _ _; (repeat (first | exact nfR_enI | exact nfR_lit (by simp only [nrefL, nref, and_self]) | (refine nfR_app (fun x y => ?_) (fun x y => ?_)) | (refine nfR_ins (fun x y => ?_) (fun x y => ?_)) | (refine nfR_del (fun x y => ?_)) | (refine nfR_upc (fun x y => ?_) (by simp only [nrefL, nref, and_self])) | (refine nfR_ovw (fun x y => ?_) (fun x y => ?_)) | exact nfR_getL (by simp only [nrefL, nref, and_self]))); done) | (intro x hx; (repeat (first | (exfalso; omega) | (rcases x with _ | x; first | (and_intros <;> (first | exact rfl | exact trivial | exact ⟨Or.inr rfl, Fit_enI⟩ | exact Fit_enI | exact Or.inr rfl | exact Or.inl rfl | exact fun x hx => absurd hx (by omega) | exact ⟨Or.inl rfl, fun x hx => absurd hx (by omega)⟩)) | (first | exact rfl | exact trivial | exact ⟨Or.inr rfl, Fit_enI⟩ | exact Fit_enI | exact Or.inr rfl | exact Or.inl rfl | exact fun x hx => absurd hx (by omega) | exact ⟨Or.inl rfl, fun x hx => absurd hx (by omega)⟩)))); done) | (and_intros <;> first | (with_reducible trivial) | omega | assumption | (intro x y _ _; (repeat (first | exact nfR_enI | exact nfR_lit (by simp only [nrefL, nref, and_self]) | (refine nfR_app (fun x y => ?_) (fun x y => ?_)) | (refine nfR_ins (fun x y => ?_) (fun x y => ?_)) | (refine nfR_del (fun x y => ?_)) | (refine nfR_upc (fun x y => ?_) (by simp only [nrefL, nref, and_self])) | (refine nfR_ovw (fun x y => ?_) (fun x y => ?_)) | exact nfR_getL (by simp only [nrefL, nref, and_self]))); done) | (intro x hx; (repeat (first | (exfalso; omega) | (rcases x with _ | x; first | (and_intros <;> (first | exact rfl | exact trivial | exact ⟨Or.inr rfl, Fit_enI⟩ | exact Fit_enI | exact Or.inr rfl | exact Or.inl rfl | exact fun x hx => absurd hx (by omega) | exact ⟨Or.inl rfl, fun x hx => absurd hx (by omega)⟩)) | (first | exact rfl | exact trivial | exact ⟨Or.inr rfl, Fit_enI⟩ | exact Fit_enI | exact Or.inr rfl | exact Or.inl rfl | exact fun x hx => absurd hx (by omega) | exact ⟨Or.inl rfl, fun x hx => absurd hx (by omega)⟩)))); done)) | grind))
    refine blkM ?_
    refine loop_den (fun s : Int => (.ro 43 p0.length false (enR c_TStored p0) :: .top :: .int .u8 p2 :: .top :: .top :: .top :: .top :: .top :: .top :: .top :: .top :: .top :: .top :: .ro 43 p0.length false (enR c_TStored p0) :: .int .i64 (p0.length : Nat) :: .int .i64 s :: .top :: .top :: .top :: .top :: .top :: .top :: .top :: .top :: .top :: .top :: .top :: .top :: .top :: .top :: .top :: .top :: .top :: .top :: .top :: .top :: .top :: .top :: .top :: .top :: .top :: .top :: .top :: .top :: .top :: .top :: [])) (fun s => []) (fun e : Unit => (.top :: .top :: .top :: .top :: .top :: .top :: .top :: .top :: .top :: .top :: .top :: .top :: .top :: .top :: .top :: .top :: .top :: .top :: .top :: .top :: .top :: .top :: .top :: .top :: .top :: .top :: .top :: .top :: .top :: .top :: .top :: .top :: .top :: .top :: .top :: .top :: .top :: .top :: .top :: .top :: .top :: .top :: .top :: .top :: .top :: .top :: [])) (fun e => []) H ?_ (fun v1_1 o H hn1_1 hn2_1 => ?_) (fun e H => ?_)
    · refine SubF_of ⟨[], ?_, ?_, by rfl, by rfl⟩
      · simp [CvL, Cv, getM]
      · trivial
    · unfold F46_L1 at H
      try dsimp only at H ⊢
      refine sq ctNo_ok ?_
      simp only [go_sem, Nat.reduceLeDiff, Nat.reduceLT, Nat.reduceAdd, Nat.reduceMul, Nat.reduceSub, Nat.reduceEqDiff, Nat.reduceBEq, Int.reduceToNat, reduceCtorEq]
      refine seqM ?_
      refine condM' rfl trivial (fun hc => ?_) (fun hc => ?_)
      · replace H := cond_f hc H
        refine rg ctNo_ok ?_
        simp only [go_sem, Nat.reduceLeDiff, Nat.reduceLT, Nat.reduceAdd, Nat.reduceMul, Nat.reduceSub, Nat.reduceEqDiff, Nat.reduceBEq, Int.reduceToNat, reduceCtorEq]
        refine ⟨_, (Option.some.inj H).symm, ?_⟩
        refine SubF_of ⟨[], ?_, ?_, by rfl, by rfl⟩
        · simp [CvL, Cv, getM]
        · trivial
      replace H := cond_t hc H
      refine rg ctNo_ok ?_
      simp only [go_sem, Nat.reduceLeDiff, Nat.reduceLT, Nat.reduceAdd, Nat.reduceMul, Nat.reduceSub, Nat.reduceEqDiff, Nat.reduceBEq, Int.reduceToNat, reduceCtorEq]
      refine seqM ?_
      refine blkM ?_
      refine seqM ?_
      obtain ⟨f1, H⟩ := need_some.1 H
      replace f1 := inb_iff.1 f1
      refine rg ctNo_ok ?_
      simp only [go_sem, Nat.reduceLeDiff, Nat.reduceLT, Nat.reduceAdd, Nat.reduceMul, Nat.reduceSub, Nat.reduceEqDiff, Nat.reduceBEq, Int.reduceToNat, reduceCtorEq, f1]
      repeat ((with_reducible refine And.intro ?_ ?_); focus (first | (with_reducible trivial) | omega | grind))
      refine seqM ?_
      obtain ⟨f2, H⟩ := need_some.1 H
      replace f2 := g_iff.1 f2
      obtain ⟨f3, H⟩ := need_some.1 H
      replace f3 := g_iff.1 f3
      replace f3 := fun g => inb_iff.1 (f3 g)
      refine draw_quiet shT_ok ct46t0_ok (by kernel_rfl) (by kernel_rfl) ?_
      simp only [go_sem, Nat.reduceLeDiff, Nat.reduceLT, Nat.reduceAdd, Nat.reduceMul, Nat.reduceSub, Nat.reduceEqDiff, Nat.reduceBEq, Int.reduceToNat, reduceCtorEq, ct46t0_61, body61]
      repeat ((with_reducible refine And.intro ?_ ?_); focus (first | (with_reducible trivial) | omega | exact f2 | exact f3 | (intro g; have q := f2 (by first | exact g | simpa using g); first | exact q | exact ⟨q.1, q.2.1⟩ | exact q.2.2 | omega | exact ⟨g, q⟩ | exact ⟨trivial, q⟩) | (intro g; have q := f3 (by first | exact g | simpa using g); first | exact q | exact ⟨q.1, q.2.1⟩ | exact q.2.2 | omega | exact ⟨g, q⟩ | exact ⟨trivial, q⟩) | (intro x y _ _; (repeat (first | exact nfR_enI | exact nfR_lit (by simp only [nrefL, nref, and_self]) | (refine nfR_app (fun x y => ?_) (fun x y => ?_)) | (refine nfR_ins (fun x y => ?_) (fun x y => ?_)) | (refine nfR_del (fun x y => ?_)) | (refine nfR_upc (fun x y => ?_) (by simp only [nrefL, nref, and_self])) | (refine nfR_ovw (fun x y => ?_) (fun x y => ?_)) | exact nfR_getL (by simp only [nrefL, nref, and_self]))); done) | (intro x hx; (repeat (first | (exfalso; omega) | (rcases x with _ | x; first | (and_intros <;> (first | exact rfl | exact trivial | exact ⟨Or.inr rfl, Fit_enI⟩ | exact Fit_enI | exact Or.inr rfl | exact Or.inl rfl | exact fun x hx => absurd hx (by omega) | exact ⟨Or.inl rfl, fun x hx => absurd hx (by omega)⟩)) | (first | exact rfl | exact trivial | exact ⟨Or.inr rfl, Fit_enI⟩ | exact Fit_enI | exact Or.inr rfl | exact Or.inl rfl | exact fun x hx => absurd hx (by omega) | exact ⟨Or.inl rfl, fun x hx => absurd hx (by omega)⟩)))); done) | (and_intros <;> first | (with_reducible trivial) | omega | assumption | (intro x y _ _; (repeat (first | exact nfR_enI | exact nfR_lit (by simp only [nrefL, nref, and_self]) | (refine nfR_app (fun x y => ?_) (fun x y => ?_)) | (refine nfR_ins (fun x y => ?_) (fun x y => ?_)) | (refine nfR_del (fun x y => ?_)) | (refine nfR_upc (fun x y => ?_) (by simp only [nrefL, nref, and_self])) | (refine nfR_ovw (fun x y => ?_) (fun x y => ?_)) | exact nfR_getL (by simp only [nrefL, nref, and_self]))); done) | (intro x hx; (repeat (first | (exfalso; omega) | (rcases x with _ | x; first | (and_intros <;> (first | exact rfl | exact trivial | exact ⟨Or.inr rfl, Fit_enI⟩ | exact Fit_enI | exact Or.inr rfl | exact Or.inl rfl | exact fun x hx => absurd hx (by omega) | exact ⟨Or.inl rfl, fun x hx => absurd hx (by omega)⟩)) | (first | exact rfl | exact trivial | exact ⟨Or.inr rfl, Fit_enI⟩ | exact Fit_enI | exact Or.inr rfl | exact Or.inl rfl | exact fun x hx => absurd hx (by omega) | exact ⟨Or.inl rfl, fun x hx => absurd hx (by omega)⟩)))); done)) | (intro g; and_intros <;> first | (with_reducible trivial) | assumption | exact f2 g | exact f3 g | (intro x y _ _; (repeat (first | exact nfR_enI | exact nfR_lit (by simp only [nrefL, nref, and_self]) | (refine nfR_app (fun x y => ?_) (fun x y => ?_)) | (refine nfR_ins (fun x y => ?_) (fun x y => ?_)) | (refine nfR_del (fun x y => ?_)) | (refine nfR_upc (fun x y => ?_) (by simp only [nrefL, nref, and_self])) | (refine nfR_ovw (fun x y => ?_) (fun x y => ?_)) | exact nfR_getL (by simp only [nrefL, nref, and_self]))); done) | (intro x hx; (repeat (first | (exfalso; omega) | (rcases x with _ | x; first | (and_intros <;> (first | exact rfl | exact trivial | exact ⟨Or.inr rfl, Fit_enI⟩ | exact Fit_enI | exact Or.inr rfl | exact Or.inl rfl | exact fun x hx => absurd hx (by omega) | exact ⟨Or.inl rfl, fun x hx => absurd hx (by omega)⟩)) | (first | exact rfl | exact trivial | exact ⟨Or.inr rfl, Fit_enI⟩ | exact Fit_enI | exact Or.inr rfl | exact Or.inl rfl | exact fun x hx => absurd hx (by omega) | exact ⟨Or.inl rfl, fun x hx => absurd hx (by omega)⟩)))); done) | (and_intros <;> first | (with_reducible trivial) | omega | assumption | (intro x y _ _; (repeat (first | exact nfR_enI | exact nfR_lit (by simp only [nrefL, nref, and_self]) | (refine nfR_app (fun x y => ?_) (fun x y => ?_)) | (refine nfR_ins (fun x y => ?_) (fun x y => ?_)) | (refine nfR_del (fun x y => ?_)) | (refine nfR_upc (fun x y => ?_) (by simp only [nrefL, nref, and_self])) | (refine nfR_ovw (fun x y => ?_) (fun x y => ?_)) | exact nfR_getL (by simp only [nrefL, nref, and_self]))); done) | (intro x hx; (repeat (first | (exfalso; omega) | (rcases x with _ | x; first | (and_intros <;> (first | exact rfl | exact trivial | exact ⟨Or.inr rfl, Fit_enI⟩ | exact Fit_enI | exact Or.inr rfl | exact Or.inl rfl | exact fun x hx => absurd hx (by omega) | exact ⟨Or.inl rfl, fun x hx => absurd hx (by omega)⟩)) | (first | exact rfl | exact trivial | exact ⟨Or.inr rfl, Fit_enI⟩ | exact Fit_enI | exact Or.inr rfl | exact Or.inl rfl | exact fun x hx => absurd hx (by omega) | exact ⟨Or.inl rfl, fun x hx => absurd hx (by omega)⟩)))); done))) | grind))
      refine condM rfl trivial (fun hc => ?_) (fun hc => ?_)
      · replace H := cond_t hc H
        refine sq ctNo_ok ?_
        simp only [go_sem, Nat.reduceLeDiff, Nat.reduceLT, Nat.reduceAdd, Nat.reduceMul, Nat.reduceSub, Nat.reduceEqDiff, Nat.reduceBEq, Int.reduceToNat, reduceCtorEq]
        refine rg ctNo_ok ?_
        simp only [go_sem, Nat.reduceLeDiff, Nat.reduceLT, Nat.reduceAdd, Nat.reduceMul, Nat.reduceSub, Nat.reduceEqDiff, Nat.reduceBEq, Int.reduceToNat, reduceCtorEq]
        have H := hn2_1 _ (Option.some.inj H).symm
        obtain rfl := Option.some.inj H
        first | rfl | simp only [Bool.and_false, Bool.false_and, Bool.and_true, Bool.true_and]
      replace H := cond_f hc H
      refine rg ctNo_ok ?_
      simp only [go_sem, Nat.reduceLeDiff, Nat.reduceLT, Nat.reduceAdd, Nat.reduceMul, Nat.reduceSub, Nat.reduceEqDiff, Nat.reduceBEq, Int.reduceToNat, reduceCtorEq]
      refine rg ctNo_ok ?_
      simp only [go_sem, Nat.reduceLeDiff, Nat.reduceLT, Nat.reduceAdd, Nat.reduceMul, Nat.reduceSub, Nat.reduceEqDiff, Nat.reduceBEq, Int.reduceToNat, reduceCtorEq]
      refine ⟨_, (Option.some.inj H).symm, ?_⟩
      refine SubF_of ⟨[], ?_, ?_, by rfl, by rfl⟩
      · simp [CvL, Cv, getM]
      · trivial
    · try dsimp only at H ⊢
      try simp only [m_normal, k_normal, b_normal, kL_normal, r_normal]
      refine sq ctNo_ok ?_
      simp only [go_sem, Nat.reduceLeDiff, Nat.reduceLT, Nat.reduceAdd, Nat.reduceMul, Nat.reduceSub, Nat.reduceEqDiff, Nat.reduceBEq, Int.reduceToNat, reduceCtorEq]
      refine rg ctNo_ok ?_
      simp only [go_sem, Nat.reduceLeDiff, Nat.reduceLT, Nat.reduceAdd, Nat.reduceMul, Nat.reduceSub, Nat.reduceEqDiff, Nat.reduceBEq, Int.reduceToNat, reduceCtorEq]
      obtain rfl := Option.some.inj H
      first | rfl | simp only [Bool.and_false, Bool.false_and, Bool.and_true, Bool.true_and]
  · cases hb
/-! hotspot/buffer.asleep$1 -/
noncomputable def F86 (p0 : TSleeper) : Option (Bool) :=
  some p0.Asleep
noncomputable def body86 : List AV → AR
  | [v0] => .pure (aK 3 k_TSleeper v0 ∧ (F86 (g_TSleeper (aL v0))).isSome = true) (.bool (gt (F86 (g_TSleeper (aL v0)))))
  | _ => .fail
set_option maxHeartbeats 4000000 in
set_option maxRecDepth 20000 in
theorem ok86 : FnOk Try.prog 86 (pureC body86) := by
  refine pure_fnM body86 (rs := [.tmp 2]) Try.func86 (by kernel_rfl) rfl rfl ?_
  intro l ob v hb hob
  unfold body86 at hb
  split at hb
  · rename_i v0
    injection hb with q1 q2; subst q1 q2
    obtain ⟨hk0, hob⟩ := hob
    obtain ⟨r, H⟩ := Option.isSome_iff_exists.1 hob
    rw [H, gt_some]
    have hw0 := wA_TSleeper hk0
    generalize g_TSleeper (aL v0) = p0 at H hw0
    refine ⟨[.agg [.int .i64 p0.Aid, .bool p0.Asleep, .ro 43 p0.Held.length false (enR c_TStored p0.Held)]], _, (fun E vs F => FR_wk1 hw0.1 F (fun vs F => F)), rfl, rfl, ?_⟩
    rw [Try.ntmps86]
    simp only [List.length_cons, List.length_nil, Nat.reduceAdd, Nat.reduceSub, List.replicate_succ, List.replicate_zero, List.cons_append, List.nil_append]
    unfold F86 at H
    try dsimp only at H
    refine sq ctNo_ok ?_
    simp only [go_sem, Nat.reduceLeDiff, Nat.reduceLT, Nat.reduceAdd, Nat.reduceMul, Nat.reduceSub, Nat.reduceEqDiff, Nat.reduceBEq, Int.reduceToNat, reduceCtorEq]
    refine sq ctNo_ok ?_
    simp only [go_sem, Nat.reduceLeDiff, Nat.reduceLT, Nat.reduceAdd, Nat.reduceMul, Nat.reduceSub, Nat.reduceEqDiff, Nat.reduceBEq, Int.reduceToNat, reduceCtorEq]
    refine rg ctNo_ok ?_
    simp only [go_sem, Nat.reduceLeDiff, Nat.reduceLT, Nat.reduceAdd, Nat.reduceMul, Nat.reduceSub, Nat.reduceEqDiff, Nat.reduceBEq, Int.reduceToNat, reduceCtorEq]
    obtain rfl := Option.some.inj H
    first | rfl | simp only [Bool.and_false, Bool.false_and, Bool.and_true, Bool.true_and]
  · cases hb
/-! slices.IndexFunc[[]hotspot/api.Sleeper,hotspot/api.Sleeper] -/
noncomputable def ct106_0t0 : Ct := tab [(86, pureC body86)]
theorem ct106_0t0_ok : CtOk Try.prog ct106_0t0 := tab_cons ok86 <| tab_nil
theorem ct106_0t0_86 (l : List AV) (h : List ABlk) : ct106_0t0 86 l h = pureC body86 l h := rfl
noncomputable def F106_0_L1 (p0 : List TSleeper) (v1_1 : Int) : Option (Lp (Int) ((Unit) ⊕ (Int))) :=
  bif (bLt v1_1 (p0.length : Nat)) then (need (inb v1_1 p0.length) <| (F86 (gd p0 v1_1.toNat)).bind fun r2 => bif r2 then (some (.done (.inr v1_1))) else (some (.next (wr .i64 (v1_1 + 1))))) else (some (.done (.inl ())))
noncomputable def F106_0 (p0 : List TSleeper) : Option (Int) :=
  lp (loopD (fun s => F106_0_L1 p0 s) 0) (fun e => some (-1)) some
noncomputable def body106_0 : List AV → AR
  | [v0, .fn 86 []] => .pure (lK k_TSleeper 3 v0 ∧ (F106_0 (lA g_TSleeper v0)).isSome = true) (.int .i64 (gt (F106_0 (lA g_TSleeper v0))))
  | _ => .fail
set_option maxHeartbeats 4000000 in
set_option maxRecDepth 20000 in
theorem ok106_0 : FnOk Try.prog 106 (pureC body106_0) := by
  refine pure_fnM body106_0 (rs := [.tmp 4]) Try.func106 (by kernel_rfl) rfl rfl ?_
  intro l ob v hb hob
  unfold body106_0 at hb
  split at hb
  · rename_i v0
    injection hb with q1 q2; subst q1 q2
    obtain ⟨hk0, hob⟩ := hob
    obtain ⟨r, H⟩ := Option.isSome_iff_exists.1 hob
    rw [H, gt_some]
    have hw0 := lK_wk (fun r h => w_TSleeper h) hk0
    generalize lA g_TSleeper v0 = p0 at H hw0
    refine ⟨[.ro 3 p0.length false (enR c_TSleeper p0), .fn 86 []], _, (fun E vs F => FR_wk1 hw0.1 F (fun vs F => FR_wk1 (fn_wk LW_nil) F (fun vs F => F))), rfl, rfl, ?_⟩
    rw [Try.ntmps106]
    simp only [List.length_cons, List.length_nil, Nat.reduceAdd, Nat.reduceSub, List.replicate_succ, List.replicate_zero, List.cons_append, List.nil_append]
    unfold F106_0 at H
    try dsimp only at H
    refine sq ctNo_ok ?_
    simp only [go_sem, Nat.reduceLeDiff, Nat.reduceLT, Nat.reduceAdd, Nat.reduceMul, Nat.reduceSub, Nat.reduceEqDiff, Nat.reduceBEq, Int.reduceToNat, reduceCtorEq]
    refine seqM ?_
    refine sq ctNo_ok ?_
    simp only [go_sem, Nat.reduceLeDiff, Nat.reduceLT, Nat.reduceAdd, Nat.reduceMul, Nat.reduceSub, Nat.reduceEqDiff, Nat.reduceBEq, Int.reduceToNat, reduceCtorEq]
    repeat ((with_reducible refine And.intro ?_ ?_); focus (first | (with_reducible trivial) | omega | (intro x y _ _; (repeat (first | exact nfR_enI | exact nfR_lit (by simp only [nrefL, nref, and_self]) | (refine nfR_app (fun x y => ?_) (fun x y => ?_)) | (refine nfR_ins (fun x y => ?_) (fun x y => ?_)) | (refine nfR_del (fun x y => ?_)) | (refine nfR_upc (fun x y => ?_) (by simp only [nrefL, nref, and_self])) | (refine nfR_ovw (fun x y => ?_) (fun x y => ?_)) | exact nfR_getL (by simp only [nrefL, nref, and_self]))); done) | (intro x hx; (repeat (first | (exfalso; omega) | (rcases x with _ | x; first | (and_intros <;> (first | exact rfl | exact trivial | exact ⟨Or.inr rfl, Fit_enI⟩ | exact Fit_enI | exact Or.inr rfl | exact Or.inl rfl | exact fun x hx => absurd hx (by omega) | exact ⟨Or.inl rfl, fun x hx => absurd hx (by omega)⟩)) | (first | exact rfl | exact trivial | exact ⟨Or.inr rfl, Fit_enI⟩ | exact Fit_enI | exact Or.inr rfl | exact Or.inl rfl | exact fun x hx => absurd hx (by omega) | exact ⟨Or.inl rfl, fun x hx => absurd hx (by omega)⟩)))); done) | (and_intros <;> first | (with_reducible trivial) | omega | assumption | (intro x y _ _; (repeat (first | exact nfR_enI | exact nfR_lit (by simp only [nrefL, nref, and_self]) | (refine nfR_app (fun x y => ?_) (fun x y => ?_)) | (refine nfR_ins (fun x y => ?_) (fun x y => ?_)) | (refine nfR_del (fun x y => ?_)) | (refine nfR_upc (fun x y => ?_) (by simp only [nrefL, nref, and_self])) | (refine nfR_ovw (fun x y => ?_) (fun x y => ?_)) | exact nfR_getL (by simp only [nrefL, nref, and_self]))); done) | (intro x hx; (repeat (first | (exfalso; omega) | (rcases x with _ | x; first | (and_intros <;> (first | exact rfl | exact trivial | exact ⟨Or.inr rfl, Fit_enI⟩ | exact Fit_enI | exact Or.inr rfl | exact Or.inl rfl | exact fun x hx => absurd hx (by omega) | exact ⟨Or.inl rfl, fun x hx => absurd hx (by omega)⟩)) | (first | exact rfl | exact trivial | exact ⟨Or.inr rfl, Fit_enI⟩ | exact Fit_enI | exact Or.inr rfl | exact Or.inl rfl | exact fun x hx => absurd hx (by omega) | exact ⟨Or.inl rfl, fun x hx => absurd hx (by omega)⟩)))); done)) | grind))
    refine blkM ?_
    refine loop_den (fun s : Int => [.ro 3 p0.length false (enR c_TSleeper p0), .fn 86 [], .top, .top, .top, .top, .top, .int .i64 (p0.length : Nat), .int .i64 s, .top, .top, .top, .top, .top, .top, .top, .top, .top, .top]) (fun s => []) (fun e : Unit => [.top, .top, .top, .top, .top, .top, .top, .top, .top, .top, .top, .top, .top, .top, .top, .top, .top, .top, .top]) (fun e => []) H ?_ (fun v1_1 o H hn1_1 hn2_1 => ?_) (fun e H => ?_)
    · refine SubF_of ⟨[], ?_, ?_, by rfl, by rfl⟩
      · simp [CvL, Cv, getM]
      · trivial
    · unfold F106_0_L1 at H
      try dsimp only at H ⊢
      refine sq ctNo_ok ?_
      simp only [go_sem, Nat.reduceLeDiff, Nat.reduceLT, Nat.reduceAdd, Nat.reduceMul, Nat.reduceSub, Nat.reduceEqDiff, Nat.reduceBEq, Int.reduceToNat, reduceCtorEq]
      refine seqM ?_
      refine condM' rfl trivial (fun hc => ?_) (fun hc => ?_)
      · replace H := cond_f hc H
        refine rg ctNo_ok ?_
        simp only [go_sem, Nat.reduceLeDiff, Nat.reduceLT, Nat.reduceAdd, Nat.reduceMul, Nat.reduceSub, Nat.reduceEqDiff, Nat.reduceBEq, Int.reduceToNat, reduceCtorEq]
        refine ⟨_, (Option.some.inj H).symm, ?_⟩
        refine SubF_of ⟨[], ?_, ?_, by rfl, by rfl⟩
        · simp [CvL, Cv, getM]
        · trivial
      replace H := cond_t hc H
      refine rg ctNo_ok ?_
      simp only [go_sem, Nat.reduceLeDiff, Nat.reduceLT, Nat.reduceAdd, Nat.reduceMul, Nat.reduceSub, Nat.reduceEqDiff, Nat.reduceBEq, Int.reduceToNat, reduceCtorEq]
      refine seqM ?_
      refine blkM ?_
      refine sq ctNo_ok ?_
      simp only [go_sem, Nat.reduceLeDiff, Nat.reduceLT, Nat.reduceAdd, Nat.reduceMul, Nat.reduceSub, Nat.reduceEqDiff, Nat.reduceBEq, Int.reduceToNat, reduceCtorEq]
      refine seqM ?_
      obtain ⟨f1, H⟩ := need_some.1 H
      replace f1 := inb_iff.1 f1
      obtain ⟨r2, e3, H⟩ := Option.bind_eq_some_iff.1 H
      refine rg ct106_0t0_ok ?_
      simp only [go_sem, Nat.reduceLeDiff, Nat.reduceLT, Nat.reduceAdd, Nat.reduceMul, Nat.reduceSub, Nat.reduceEqDiff, Nat.reduceBEq, Int.reduceToNat, reduceCtorEq, ct106_0t0_86, body86, f1, e3]
      repeat ((with_reducible refine And.intro ?_ ?_); focus (first | (with_reducible trivial) | omega | (intro x y _ _; (repeat (first | exact nfR_enI | exact nfR_lit (by simp only [nrefL, nref, and_self]) | (refine nfR_app (fun x y => ?_) (fun x y => ?_)) | (refine nfR_ins (fun x y => ?_) (fun x y => ?_)) | (refine nfR_del (fun x y => ?_)) | (refine nfR_upc (fun x y => ?_) (by simp only [nrefL, nref, and_self])) | (refine nfR_ovw (fun x y => ?_) (fun x y => ?_)) | exact nfR_getL (by simp only [nrefL, nref, and_self]))); done) | (intro x hx; (repeat (first | (exfalso; omega) | (rcases x with _ | x; first | (and_intros <;> (first | exact rfl | exact trivial | exact ⟨Or.inr rfl, Fit_enI⟩ | exact Fit_enI | exact Or.inr rfl | exact Or.inl rfl | exact fun x hx => absurd hx (by omega) | exact ⟨Or.inl rfl, fun x hx => absurd hx (by omega)⟩)) | (first | exact rfl | exact trivial | exact ⟨Or.inr rfl, Fit_enI⟩ | exact Fit_enI | exact Or.inr rfl | exact Or.inl rfl | exact fun x hx => absurd hx (by omega) | exact ⟨Or.inl rfl, fun x hx => absurd hx (by omega)⟩)))); done) | (and_intros <;> first | (with_reducible trivial) | omega | assumption | (intro x y _ _; (repeat (first | exact nfR_enI | exact nfR_lit (by simp only [nrefL, nref, and_self]) | (refine nfR_app (fun x y => ?_) (fun x y => ?_)) | (refine nfR_ins (fun x y => ?_) (fun x y => ?_)) | (refine nfR_del (fun x y => ?_)) | (refine nfR_upc (fun x y => ?_) (by simp only [nrefL, nref, and_self])) | (refine nfR_ovw (fun x y => ?_) (fun x y => ?_)) | exact nfR_getL (by simp only [nrefL, nref, and_self]))); done) | (intro x hx; (repeat (first | (exfalso; omega) | (rcases x with _ | x; first | (and_intros <;> (first | exact rfl | exact trivial | exact ⟨Or.inr rfl, Fit_enI⟩ | exact Fit_enI | exact Or.inr rfl | exact Or.inl rfl | exact fun x hx => absurd hx (by omega) | exact ⟨Or.inl rfl, fun x hx => absurd hx (by omega)⟩)) | (first | exact rfl | exact trivial | exact ⟨Or.inr rfl, Fit_enI⟩ | exact Fit_enI | exact Or.inr rfl | exact Or.inl rfl | exact fun x hx => absurd hx (by omega) | exact ⟨Or.inl rfl, fun x hx => absurd hx (by omega)⟩)))); done)) | grind))
      refine condM rfl trivial (fun hc => ?_) (fun hc => ?_)
      · replace H := cond_t hc H
        refine sq ctNo_ok ?_
        simp only [go_sem, Nat.reduceLeDiff, Nat.reduceLT, Nat.reduceAdd, Nat.reduceMul, Nat.reduceSub, Nat.reduceEqDiff, Nat.reduceBEq, Int.reduceToNat, reduceCtorEq]
        refine rg ctNo_ok ?_
        simp only [go_sem, Nat.reduceLeDiff, Nat.reduceLT, Nat.reduceAdd, Nat.reduceMul, Nat.reduceSub, Nat.reduceEqDiff, Nat.reduceBEq, Int.reduceToNat, reduceCtorEq]
        have H := hn2_1 _ (Option.some.inj H).symm
        obtain rfl := Option.some.inj H
        first | rfl | simp only [Bool.and_false, Bool.false_and, Bool.and_true, Bool.true_and]
      replace H := cond_f hc H
      refine rg ctNo_ok ?_
      simp only [go_sem, Nat.reduceLeDiff, Nat.reduceLT, Nat.reduceAdd, Nat.reduceMul, Nat.reduceSub, Nat.reduceEqDiff, Nat.reduceBEq, Int.reduceToNat, reduceCtorEq]
      refine rg ctNo_ok ?_
      simp only [go_sem, Nat.reduceLeDiff, Nat.reduceLT, Nat.reduceAdd, Nat.reduceMul, Nat.reduceSub, Nat.reduceEqDiff, Nat.reduceBEq, Int.reduceToNat, reduceCtorEq]
      refine ⟨_, (Option.some.inj H).symm, ?_⟩
      refine SubF_of ⟨[], ?_, ?_, by rfl, by rfl⟩
      · simp [CvL, Cv, getM]
      · trivial
    · try dsimp only at H ⊢
      try simp only [m_normal, k_normal, b_normal, kL_normal, r_normal]
      refine sq ctNo_ok ?_
      simp only [go_sem, Nat.reduceLeDiff, Nat.reduceLT, Nat.reduceAdd, Nat.reduceMul, Nat.reduceSub, Nat.reduceEqDiff, Nat.reduceBEq, Int.reduceToNat, reduceCtorEq]
      refine rg ctNo_ok ?_
      simp only [go_sem, Nat.reduceLeDiff, Nat.reduceLT, Nat.reduceAdd, Nat.reduceMul, Nat.reduceSub, Nat.reduceEqDiff, Nat.reduceBEq, Int.reduceToNat, reduceCtorEq]
      obtain rfl := Option.some.inj H
      first | rfl | simp only [Bool.and_false, Bool.false_and, Bool.and_true, Bool.true_and]
  · cases hb
/-! slices.ContainsFunc[[]hotspot/api.Sleeper,hotspot/api.Sleeper] -/
noncomputable def ct85_0t0 : Ct := tab [(106, pureC body106_0)]
theorem ct85_0t0_ok : CtOk Try.prog ct85_0t0 := tab_cons ok106_0 <| tab_nil
theorem ct85_0t0_106 (l : List AV) (h : List ABlk) : ct85_0t0 106 l h = pureC body106_0 l h := rfl
noncomputable def F85_0 (p0 : List TSleeper) : Option (Bool) :=
  (F106_0 p0).bind fun r1 => some (bLe 0 r1)
noncomputable def body85_0 : List AV → AR
  | [v0, .fn 86 []] => .pure (lK k_TSleeper 3 v0 ∧ (F85_0 (lA g_TSleeper v0)).isSome = true) (.bool (gt (F85_0 (lA g_TSleeper v0))))
  | _ => .fail
set_option maxHeartbeats 4000000 in
set_option maxRecDepth 20000 in
theorem ok85_0 : FnOk Try.prog 85 (pureC body85_0) := by
  refine pure_fnM body85_0 (rs := [.tmp 4]) Try.func85 (by kernel_rfl) rfl rfl ?_
  intro l ob v hb hob
  unfold body85_0 at hb
  split at hb
  · rename_i v0
    injection hb with q1 q2; subst q1 q2
    obtain ⟨hk0, hob⟩ := hob
    obtain ⟨r, H⟩ := Option.isSome_iff_exists.1 hob
    rw [H, gt_some]
    have hw0 := lK_wk (fun r h => w_TSleeper h) hk0
    generalize lA g_TSleeper v0 = p0 at H hw0
    refine ⟨[.ro 3 p0.length false (enR c_TSleeper p0), .fn 86 []], _, (fun E vs F => FR_wk1 hw0.1 F (fun vs F => FR_wk1 (fn_wk LW_nil) F (fun vs F => F))), rfl, rfl, ?_⟩
    rw [Try.ntmps85]
    simp only [List.length_cons, List.length_nil, Nat.reduceAdd, Nat.reduceSub, List.replicate_succ, List.replicate_zero, List.cons_append, List.nil_append]
    unfold F85_0 at H
    try dsimp only at H
    refine sq ctNo_ok ?_
    simp only [go_sem, Nat.reduceLeDiff, Nat.reduceLT, Nat.reduceAdd, Nat.reduceMul, Nat.reduceSub, Nat.reduceEqDiff, Nat.reduceBEq, Int.reduceToNat, reduceCtorEq]
    refine seqM ?_
    obtain ⟨r1, e2, H⟩ := Option.bind_eq_some_iff.1 H
    refine rg ct85_0t0_ok ?_
    simp only [go_sem, Nat.reduceLeDiff, Nat.reduceLT, Nat.reduceAdd, Nat.reduceMul, Nat.reduceSub, Nat.reduceEqDiff, Nat.reduceBEq, Int.reduceToNat, reduceCtorEq, ct85_0t0_106, body106_0, e2]
    repeat ((with_reducible refine And.intro ?_ ?_); focus (first | (with_reducible trivial) | omega | (intro x y _ _; (repeat (first | exact nfR_enI | exact nfR_lit (by simp only [nrefL, nref, and_self]) | (refine nfR_app (fun x y => ?_) (fun x y => ?_)) | (refine nfR_ins (fun x y => ?_) (fun x y => ?_)) | (refine nfR_del (fun x y => ?_)) | (refine nfR_upc (fun x y => ?_) (by simp only [nrefL, nref, and_self])) | (refine nfR_ovw (fun x y => ?_) (fun x y => ?_)) | exact nfR_getL (by simp only [nrefL, nref, and_self]))); done) | (intro x hx; (repeat (first | (exfalso; omega) | (rcases x with _ | x; first | (and_intros <;> (first | exact rfl | exact trivial | exact ⟨Or.inr rfl, Fit_enI⟩ | exact Fit_enI | exact Or.inr rfl | exact Or.inl rfl | exact fun x hx => absurd hx (by omega) | exact ⟨Or.inl rfl, fun x hx => absurd hx (by omega)⟩)) | (first | exact rfl | exact trivial | exact ⟨Or.inr rfl, Fit_enI⟩ | exact Fit_enI | exact Or.inr rfl | exact Or.inl rfl | exact fun x hx => absurd hx (by omega) | exact ⟨Or.inl rfl, fun x hx => absurd hx (by omega)⟩)))); done) | (and_intros <;> first | (with_reducible trivial) | omega | assumption | (intro x y _ _; (repeat (first | exact nfR_enI | exact nfR_lit (by simp only [nrefL, nref, and_self]) | (refine nfR_app (fun x y => ?_) (fun x y => ?_)) | (refine nfR_ins (fun x y => ?_) (fun x y => ?_)) | (refine nfR_del (fun x y => ?_)) | (refine nfR_upc (fun x y => ?_) (by simp only [nrefL, nref, and_self])) | (refine nfR_ovw (fun x y => ?_) (fun x y => ?_)) | exact nfR_getL (by simp only [nrefL, nref, and_self]))); done) | (intro x hx; (repeat (first | (exfalso; omega) | (rcases x with _ | x; first | (and_intros <;> (first | exact rfl | exact trivial | exact ⟨Or.inr rfl, Fit_enI⟩ | exact Fit_enI | exact Or.inr rfl | exact Or.inl rfl | exact fun x hx => absurd hx (by omega) | exact ⟨Or.inl rfl, fun x hx => absurd hx (by omega)⟩)) | (first | exact rfl | exact trivial | exact ⟨Or.inr rfl, Fit_enI⟩ | exact Fit_enI | exact Or.inr rfl | exact Or.inl rfl | exact fun x hx => absurd hx (by omega) | exact ⟨Or.inl rfl, fun x hx => absurd hx (by omega)⟩)))); done)) | grind))
    refine rg ctNo_ok ?_
    simp only [go_sem, Nat.reduceLeDiff, Nat.reduceLT, Nat.reduceAdd, Nat.reduceMul, Nat.reduceSub, Nat.reduceEqDiff, Nat.reduceBEq, Int.reduceToNat, reduceCtorEq]
    obtain rfl := Option.some.inj H
    first | rfl | simp only [Bool.and_false, Bool.false_and, Bool.and_true, Bool.true_and]
  · cases hb
/-! hotspot/buffer.asleep -/
noncomputable def ct47t0 : Ct := tab [(85, pureC body85_0)]
theorem ct47t0_ok : CtOk Try.prog ct47t0 := tab_cons ok85_0 <| tab_nil
theorem ct47t0_85 (l : List AV) (h : List ABlk) : ct47t0 85 l h = pureC body85_0 l h := rfl
noncomputable def F47 (p0 : TBuffer) : Option (Bool) :=
  (F85_0 p0.List).bind fun r1 => some r1
noncomputable def body47 : List AV → AR
  | [v0] => .pure (aK 4 k_TBuffer v0 ∧ (F47 (g_TBuffer (aL v0))).isSome = true) (.bool (gt (F47 (g_TBuffer (aL v0)))))
  | _ => .fail
set_option maxHeartbeats 4000000 in
set_option maxRecDepth 20000 in
theorem ok47 : FnOk Try.prog 47 (pureC body47) := by
  refine pure_fnM body47 (rs := [.tmp 2]) Try.func47 (by kernel_rfl) rfl rfl ?_
  intro l ob v hb hob
  unfold body47 at hb
  split at hb
  · rename_i v0
    injection hb with q1 q2; subst q1 q2
    obtain ⟨hk0, hob⟩ := hob
    obtain ⟨r, H⟩ := Option.isSome_iff_exists.1 hob
    rw [H, gt_some]
    have hw0 := wA_TBuffer hk0
    generalize g_TBuffer (aL v0) = p0 at H hw0
    refine ⟨[.agg [.int .i64 p0.Limit, .int .i64 p0.Stay, .ro 3 p0.List.length false (enR c_TSleeper p0.List), .ro 43 p0.Group.length false (enR c_TStored p0.Group)]], _, (fun E vs F => FR_wk1 hw0.1 F (fun vs F => F)), rfl, rfl, ?_⟩
    rw [Try.ntmps47]
    simp only [List.length_cons, List.length_nil, Nat.reduceAdd, Nat.reduceSub, List.replicate_succ, List.replicate_zero, List.cons_append, List.nil_append]
    unfold F47 at H
    try dsimp only at H
    refine sq ctNo_ok ?_
    simp only [go_sem, Nat.reduceLeDiff, Nat.reduceLT, Nat.reduceAdd, Nat.reduceMul, Nat.reduceSub, Nat.reduceEqDiff, Nat.reduceBEq, Int.reduceToNat, reduceCtorEq]
    refine seqM ?_
    obtain ⟨r1, e2, H⟩ := Option.bind_eq_some_iff.1 H
    refine rg ct47t0_ok ?_
    simp only [go_sem, Nat.reduceLeDiff, Nat.reduceLT, Nat.reduceAdd, Nat.reduceMul, Nat.reduceSub, Nat.reduceEqDiff, Nat.reduceBEq, Int.reduceToNat, reduceCtorEq, ct47t0_85, body85_0, e2]
    repeat ((with_reducible refine And.intro ?_ ?_); focus (first | (with_reducible trivial) | omega | (intro x y _ _; (repeat (first | exact nfR_enI | exact nfR_lit (by simp only [nrefL, nref, and_self]) | (refine nfR_app (fun x y => ?_) (fun x y => ?_)) | (refine nfR_ins (fun x y => ?_) (fun x y => ?_)) | (refine nfR_del (fun x y => ?_)) | (refine nfR_upc (fun x y => ?_) (by simp only [nrefL, nref, and_self])) | (refine nfR_ovw (fun x y => ?_) (fun x y => ?_)) | exact nfR_getL (by simp only [nrefL, nref, and_self]))); done) | (intro x hx; (repeat (first | (exfalso; omega) | (rcases x with _ | x; first | (and_intros <;> (first | exact rfl | exact trivial | exact ⟨Or.inr rfl, Fit_enI⟩ | exact Fit_enI | exact Or.inr rfl | exact Or.inl rfl | exact fun x hx => absurd hx (by omega) | exact ⟨Or.inl rfl, fun x hx => absurd hx (by omega)⟩)) | (first | exact rfl | exact trivial | exact ⟨Or.inr rfl, Fit_enI⟩ | exact Fit_enI | exact Or.inr rfl | exact Or.inl rfl | exact fun x hx => absurd hx (by omega) | exact ⟨Or.inl rfl, fun x hx => absurd hx (by omega)⟩)))); done) | (and_intros <;> first | (with_reducible trivial) | omega | assumption | (intro x y _ _; (repeat (first | exact nfR_enI | exact nfR_lit (by simp only [nrefL, nref, and_self]) | (refine nfR_app (fun x y => ?_) (fun x y => ?_)) | (refine nfR_ins (fun x y => ?_) (fun x y => ?_)) | (refine nfR_del (fun x y => ?_)) | (refine nfR_upc (fun x y => ?_) (by simp only [nrefL, nref, and_self])) | (refine nfR_ovw (fun x y => ?_) (fun x y => ?_)) | exact nfR_getL (by simp only [nrefL, nref, and_self]))); done) | (intro x hx; (repeat (first | (exfalso; omega) | (rcases x with _ | x; first | (and_intros <;> (first | exact rfl | exact trivial | exact ⟨Or.inr rfl, Fit_enI⟩ | exact Fit_enI | exact Or.inr rfl | exact Or.inl rfl | exact fun x hx => absurd hx (by omega) | exact ⟨Or.inl rfl, fun x hx => absurd hx (by omega)⟩)) | (first | exact rfl | exact trivial | exact ⟨Or.inr rfl, Fit_enI⟩ | exact Fit_enI | exact Or.inr rfl | exact Or.inl rfl | exact fun x hx => absurd hx (by omega) | exact ⟨Or.inl rfl, fun x hx => absurd hx (by omega)⟩)))); done)) | grind))
    refine rg ctNo_ok ?_
    simp only [go_sem, Nat.reduceLeDiff, Nat.reduceLT, Nat.reduceAdd, Nat.reduceMul, Nat.reduceSub, Nat.reduceEqDiff, Nat.reduceBEq, Int.reduceToNat, reduceCtorEq]
    obtain rfl := Option.some.inj H
    first | rfl | simp only [Bool.and_false, Bool.false_and, Bool.and_true, Bool.true_and]
  · cases hb
/-! hotspot/buffer.Check -/
noncomputable def ct18t0 : Ct := tab [(46, pureC body46)]
theorem ct18t0_ok : CtOk Try.prog ct18t0 := tab_cons ok46 <| tab_nil
theorem ct18t0_46 (l : List AV) (h : List ABlk) : ct18t0 46 l h = pureC body46 l h := rfl
noncomputable def ct18t1 : Ct := tab [(46, pureC body46), (47, pureC body47)]
theorem ct18t1_ok : CtOk Try.prog ct18t1 := tab_cons ok46 <| tab_cons ok47 <| tab_nil
theorem ct18t1_46 (l : List AV) (h : List ABlk) : ct18t1 46 l h = pureC body46 l h := rfl
theorem ct18t1_47 (l : List AV) (h : List ABlk) : ct18t1 47 l h = pureC body47 l h := rfl
noncomputable def F18_L1 (p0 : TBuffer) (v1_1 : Bool) (v1_2 : Int) (v1_3 : Int) : Option (Lp (Bool × Int × Int) ((Bool) ⊕ (Int))) :=
  bif (bLt v1_3 (p0.List.length : Nat)) then (need (inb v1_3 p0.List.length) <| need (bif ((v1_1 && (bLt v1_2 ((gd p0.List v1_3.toNat).Aid))) && (bLe ((gd p0.List v1_3.toNat).Aid) 255)) then ((F46 ((gd p0.List v1_3.toNat).Held) p0.Limit 3).isSome) else true) <| some (.next (((((v1_1 && (bLt v1_2 ((gd p0.List v1_3.toNat).Aid))) && (bLe ((gd p0.List v1_3.toNat).Aid) 255)) && (gt (F46 ((gd p0.List v1_3.toNat).Held) p0.Limit 3))) && ((gd p0.List v1_3.toNat).Asleep || (bEq (((gd p0.List v1_3.toNat).Held).length : Nat) 0))), (gd p0.List v1_3.toNat).Aid, wr .i64 (v1_3 + 1)))) else (some (.done (.inl v1_1)))
noncomputable def F18 (p0 : TBuffer) : Option (Int) :=
  lp (loopD (fun s => F18_L1 p0 s.1 s.2.1 s.2.2) ((((((bLe 1 p0.Limit) && (bLe p0.Limit 64)) && (bLe 1 p0.Stay)) && (bLe p0.Stay 1073741824)) && (bLe (p0.List.length : Nat) 32)), 0, 0)) (fun w1_4 => need (bif (!(!w1_4)) then ((F46 p0.Group p0.Limit 0).isSome) else true) <| need (bif ((!((!w1_4) || (!(gt (F46 p0.Group p0.Limit 0))))) && (bLt 0 (p0.Group.length : Nat))) then ((F47 p0).isSome) else true) <| bif (((!w1_4) || (!(gt (F46 p0.Group p0.Limit 0)))) || ((bLt 0 (p0.Group.length : Nat)) && (!(gt (F47 p0))))) then (some 8) else (some 0)) some
noncomputable def body18 : List AV → AR
  | [v0] => .pure (aK 4 k_TBuffer v0 ∧ (F18 (g_TBuffer (aL v0))).isSome = true) (.int .i64 (gt (F18 (g_TBuffer (aL v0)))))
  | _ => .fail
set_option maxHeartbeats 4000000 in
set_option maxRecDepth 20000 in
theorem ok18 : FnOk Try.prog 18 (pureC body18) := by
  refine pure_fnM body18 (rs := [.tmp 2]) Try.func18 (by kernel_rfl) rfl rfl ?_
  intro l ob v hb hob
  unfold body18 at hb
  split at hb
  · rename_i v0
    injection hb with q1 q2; subst q1 q2
    obtain ⟨hk0, hob⟩ := hob
    obtain ⟨r, H⟩ := Option.isSome_iff_exists.1 hob
    rw [H, gt_some]
    have hw0 := wA_TBuffer hk0
    generalize g_TBuffer (aL v0) = p0 at H hw0
    refine ⟨[.agg [.int .i64 p0.Limit, .int .i64 p0.Stay, .ro 3 p0.List.length false (enR c_TSleeper p0.List), .ro 43 p0.Group.length false (enR c_TStored p0.Group)]], _, (fun E vs F => FR_wk1 hw0.1 F (fun vs F => F)), rfl, rfl, ?_⟩
    rw [Try.ntmps18]
    simp only [List.length_cons, List.length_nil, Nat.reduceAdd, Nat.reduceSub, List.replicate_succ, List.replicate_zero, List.cons_append, List.nil_append]
    unfold F18 at H
    try dsimp only at H
    refine sq ctNo_ok ?_
    simp only [go_sem, Nat.reduceLeDiff, Nat.reduceLT, Nat.reduceAdd, Nat.reduceMul, Nat.reduceSub, Nat.reduceEqDiff, Nat.reduceBEq, Int.reduceToNat, reduceCtorEq]
    refine sq ctNo_ok ?_
    simp only [go_sem, Nat.reduceLeDiff, Nat.reduceLT, Nat.reduceAdd, Nat.reduceMul, Nat.reduceSub, Nat.reduceEqDiff, Nat.reduceBEq, Int.reduceToNat, reduceCtorEq]
    repeat ((with_reducible refine And.intro ?_ ?_); focus (first | (with_reducible trivial) | omega | (intro x y _ _; (repeat (first | exact nfR_enI | exact nfR_lit (by simp only [nrefL, nref, and_self]) | (refine nfR_app (fun x y => ?_) (fun x y => ?_)) | (refine nfR_ins (fun x y => ?_) (fun x y => ?_)) | (refine nfR_del (fun x y => ?_)) | (refine nfR_upc (fun x y => ?_) (by simp only [nrefL, nref, and_self])) | (refine nfR_ovw (fun x y => ?_) (fun x y => ?_)) | exact nfR_getL (by simp only [nrefL, nref, and_self]))); done) | (intro x hx; (repeat (first | (exfalso; omega) | (rcases x with _ | x; first | (and_intros <;> (first | exact rfl | exact trivial | exact ⟨Or.inr rfl, Fit_enI⟩ | exact Fit_enI | exact Or.inr rfl | exact Or.inl rfl | exact fun x hx => absurd hx (by omega) | exact ⟨Or.inl rfl, fun x hx => absurd hx (by omega)⟩)) | (first | exact rfl | exact trivial | exact ⟨Or.inr rfl, Fit_enI⟩ | exact Fit_enI | exact Or.inr rfl | exact Or.inl rfl | exact fun x hx => absurd hx (by omega) | exact ⟨Or.inl rfl, fun x hx => absurd hx (by omega)⟩)))); done) | (and_intros <;> first | (with_reducible trivial) | omega | assumption | (intro x y _ _; (repeat (first | exact nfR_enI | exact nfR_lit (by simp only [nrefL, nref, and_self]) | (refine nfR_app (fun x y => ?_) (fun x y => ?_)) | (refine nfR_ins (fun x y => ?_) (fun x y => ?_)) | (refine nfR_del (fun x y => ?_)) | (refine nfR_upc (fun x y => ?_) (by simp only [nrefL, nref, and_self])) | (refine nfR_ovw (fun x y => ?_) (fun x y => ?_)) | exact nfR_getL (by simp only [nrefL, nref, and_self]))); done) | (intro x hx; (repeat (first | (exfalso; omega) | (rcases x with _ | x; first | (and_intros <;> (first | exact rfl | exact trivial | exact ⟨Or.inr rfl, Fit_enI⟩ | exact Fit_enI | exact Or.inr rfl | exact Or.inl rfl | exact fun x hx => absurd hx (by omega) | exact ⟨Or.inl rfl, fun x hx => absurd hx (by omega)⟩)) | (first | exact rfl | exact trivial | exact ⟨Or.inr rfl, Fit_enI⟩ | exact Fit_enI | exact Or.inr rfl | exact Or.inl rfl | exact fun x hx => absurd hx (by omega) | exact ⟨Or.inl rfl, fun x hx => absurd hx (by omega)⟩)))); done)) | grind))
    refine sq ctNo_ok ?_
    simp only [go_sem, Nat.reduceLeDiff, Nat.reduceLT, Nat.reduceAdd, Nat.reduceMul, Nat.reduceSub, Nat.reduceEqDiff, Nat.reduceBEq, Int.reduceToNat, reduceCtorEq]
    refine seqM ?_
    refine sq ctNo_ok ?_
    simp only [go_sem, Nat.reduceLeDiff, Nat.reduceLT, Nat.reduceAdd, Nat.reduceMul, Nat.reduceSub, Nat.reduceEqDiff, Nat.reduceBEq, Int.reduceToNat, reduceCtorEq]
    repeat ((with_reducible refine And.intro ?_ ?_); focus (first | (with_reducible trivial) | omega | (intro x y _ _; (repeat (first | exact nfR_enI | exact nfR_lit (by simp only [nrefL, nref, and_self]) | (refine nfR_app (fun x y => ?_) (fun x y => ?_)) | (refine nfR_ins (fun x y => ?_) (fun x y => ?_)) | (refine nfR_del (fun x y => ?_)) | (refine nfR_upc (fun x y => ?_) (by simp only [nrefL, nref, and_self])) | (refine nfR_ovw (fun x y => ?_) (fun x y => ?_)) | exact nfR_getL (by simp only [nrefL, nref, and_self]))); done) | (intro x hx; (repeat (first | (exfalso; omega) | (rcases x with _ | x; first | (and_intros <;> (first | exact rfl | exact trivial | exact ⟨Or.inr rfl, Fit_enI⟩ | exact Fit_enI | exact Or.inr rfl | exact Or.inl rfl | exact fun x hx => absurd hx (by omega) | exact ⟨Or.inl rfl, fun x hx => absurd hx (by omega)⟩)) | (first | exact rfl | exact trivial | exact ⟨Or.inr rfl, Fit_enI⟩ | exact Fit_enI | exact Or.inr rfl | exact Or.inl rfl | exact fun x hx => absurd hx (by omega) | exact ⟨Or.inl rfl, fun x hx => absurd hx (by omega)⟩)))); done) | (and_intros <;> first | (with_reducible trivial) | omega | assumption | (intro x y _ _; (repeat (first | exact nfR_enI | exact nfR_lit (by simp only [nrefL, nref, and_self]) | (refine nfR_app (fun x y => ?_) (fun x y => ?_)) | (refine nfR_ins (fun x y => ?_) (fun x y => ?_)) | (refine nfR_del (fun x y => ?_)) | (refine nfR_upc (fun x y => ?_) (by simp only [nrefL, nref, and_self])) | (refine nfR_ovw (fun x y => ?_) (fun x y => ?_)) | exact nfR_getL (by simp only [nrefL, nref, and_self]))); done) | (intro x hx; (repeat (first | (exfalso; omega) | (rcases x with _ | x; first | (and_intros <;> (first | exact rfl | exact trivial | exact ⟨Or.inr rfl, Fit_enI⟩ | exact Fit_enI | exact Or.inr rfl | exact Or.inl rfl | exact fun x hx => absurd hx (by omega) | exact ⟨Or.inl rfl, fun x hx => absurd hx (by omega)⟩)) | (first | exact rfl | exact trivial | exact ⟨Or.inr rfl, Fit_enI⟩ | exact Fit_enI | exact Or.inr rfl | exact Or.inl rfl | exact fun x hx => absurd hx (by omega) | exact ⟨Or.inl rfl, fun x hx => absurd hx (by omega)⟩)))); done)) | grind))
    refine blkM ?_
    refine loop_den (fun s : Bool × Int × Int => (.top :: .ptr 0 0 0 0 :: .top :: .bool s.1 :: .int .i64 s.2.1 :: .top :: .top :: .top :: .top :: .top :: .top :: .top :: .top :: .top :: .top :: .top :: .top :: .top :: .top :: .top :: .top :: .top :: .top :: .top :: .top :: .top :: .top :: .top :: .top :: .top :: .top :: .top :: .ro 3 p0.List.length false (enR c_TSleeper p0.List) :: .int .i64 (p0.List.length : Nat) :: .int .i64 s.2.2 :: .top :: .top :: .top :: .top :: .top :: .top :: .top :: .top :: .top :: .top :: .top :: .top :: .top :: .top :: .top :: .top :: .top :: .top :: .top :: .top :: .top :: .top :: .top :: .top :: .top :: .top :: .top :: .top :: .top :: .top :: .top :: .top :: .top :: .top :: .top :: .top :: .top :: .top :: .top :: .top :: .top :: .top :: .top :: .top :: .top :: .top :: .top :: .top :: .top :: .top :: .top :: .top :: .top :: .top :: .top :: .top :: [])) (fun s => [.lit 25 [.int .i64 p0.Limit, .int .i64 p0.Stay, .ro 3 p0.List.length false (enR c_TSleeper p0.List), .ro 43 p0.Group.length false (enR c_TStored p0.Group)]]) (fun e : Bool => (.top :: .ptr 0 0 0 0 :: .top :: .bool e :: .top :: .top :: .top :: .top :: .top :: .top :: .top :: .top :: .top :: .top :: .top :: .top :: .top :: .top :: .top :: .top :: .top :: .top :: .top :: .top :: .top :: .top :: .top :: .top :: .top :: .top :: .top :: .top :: .top :: .top :: .top :: .top :: .top :: .top :: .top :: .top :: .top :: .top :: .top :: .top :: .top :: .top :: .top :: .top :: .top :: .top :: .top :: .top :: .top :: .top :: .top :: .top :: .top :: .top :: .top :: .top :: .top :: .top :: .top :: .top :: .top :: .top :: .top :: .top :: .top :: .top :: .top :: .top :: .top :: .top :: .top :: .top :: .top :: .top :: .top :: .top :: .top :: .top :: .top :: .top :: .top :: .top :: .top :: .top :: .top :: .top :: .top :: [])) (fun e => [.lit 25 [.int .i64 p0.Limit, .int .i64 p0.Stay, .ro 3 p0.List.length false (enR c_TSleeper p0.List), .ro 43 p0.Group.length false (enR c_TStored p0.Group)]]) H ?_ (fun s o H hn1_1 hn2_1 => ?_) (fun w1_4 H => ?_)
    · refine SubF_of ⟨[some 0], ?_, ?_, by rfl, by rfl⟩
      · simp [CvL, Cv, getM]
      · exact ⟨(by simp [CvB, CvL, Cv, blkAt, geth, getM]), trivial⟩
    · obtain ⟨v1_1, v1_2, v1_3⟩ := s
      unfold F18_L1 at H
      try dsimp only at H ⊢
      refine sq ctNo_ok ?_
      simp only [go_sem, Nat.reduceLeDiff, Nat.reduceLT, Nat.reduceAdd, Nat.reduceMul, Nat.reduceSub, Nat.reduceEqDiff, Nat.reduceBEq, Int.reduceToNat, reduceCtorEq]
      refine seqM ?_
      refine condM' rfl trivial (fun hc => ?_) (fun hc => ?_)
      · replace H := cond_f hc H
        refine rg ctNo_ok ?_
        simp only [go_sem, Nat.reduceLeDiff, Nat.reduceLT, Nat.reduceAdd, Nat.reduceMul, Nat.reduceSub, Nat.reduceEqDiff, Nat.reduceBEq, Int.reduceToNat, reduceCtorEq]
        refine ⟨_, (Option.some.inj H).symm, ?_⟩
        refine SubF_of ⟨[some 0], ?_, ?_, by rfl, by rfl⟩
        · simp [CvL, Cv, getM]
        · exact ⟨(by simp [CvB, CvL, Cv, blkAt, geth, getM]), trivial⟩
      replace H := cond_t hc H
      refine rg ctNo_ok ?_
      simp only [go_sem, Nat.reduceLeDiff, Nat.reduceLT, Nat.reduceAdd, Nat.reduceMul, Nat.reduceSub, Nat.reduceEqDiff, Nat.reduceBEq, Int.reduceToNat, reduceCtorEq]
      refine seqM ?_
      refine blkM ?_
      refine seqM ?_
      obtain ⟨f1, H⟩ := need_some.1 H
      replace f1 := inb_iff.1 f1
      refine rg ctNo_ok ?_
      simp only [go_sem, Nat.reduceLeDiff, Nat.reduceLT, Nat.reduceAdd, Nat.reduceMul, Nat.reduceSub, Nat.reduceEqDiff, Nat.reduceBEq, Int.reduceToNat, reduceCtorEq, f1]
      repeat ((with_reducible refine And.intro ?_ ?_); focus (first | (with_reducible trivial) | omega | grind))
      refine seqM ?_
      obtain ⟨f2, H⟩ := need_some.1 H
      replace f2 := g_iff.1 f2
      refine rg ct18t0_ok ?_
      simp only [go_sem, Nat.reduceLeDiff, Nat.reduceLT, Nat.reduceAdd, Nat.reduceMul, Nat.reduceSub, Nat.reduceEqDiff, Nat.reduceBEq, Int.reduceToNat, reduceCtorEq, ct18t0_46, body46]
      repeat ((with_reducible refine And.intro ?_ ?_); focus (first | (with_reducible trivial) | omega | exact f2 | (intro g; have q := f2 (by first | exact g | simpa using g); first | exact q | exact ⟨q.1, q.2.1⟩ | exact q.2.2 | omega | exact ⟨g, q⟩ | exact ⟨trivial, q⟩) | (intro x y _ _; (repeat (first | exact nfR_enI | exact nfR_lit (by simp only [nrefL, nref, and_self]) | (refine nfR_app (fun x y => ?_) (fun x y => ?_)) | (refine nfR_ins (fun x y => ?_) (fun x y => ?_)) | (refine nfR_del (fun x y => ?_)) | (refine nfR_upc (fun x y => ?_) (by simp only [nrefL, nref, and_self])) | (refine nfR_ovw (fun x y => ?_) (fun x y => ?_)) | exact nfR_getL (by simp only [nrefL, nref, and_self]))); done) | (intro x hx; (repeat (first | (exfalso; omega) | (rcases x with _ | x; first | (and_intros <;> (first | exact rfl | exact trivial | exact ⟨Or.inr rfl, Fit_enI⟩ | exact Fit_enI | exact Or.inr rfl | exact Or.inl rfl | exact fun x hx => absurd hx (by omega) | exact ⟨Or.inl rfl, fun x hx => absurd hx (by omega)⟩)) | (first | exact rfl | exact trivial | exact ⟨Or.inr rfl, Fit_enI⟩ | exact Fit_enI | exact Or.inr rfl | exact Or.inl rfl | exact fun x hx => absurd hx (by omega) | exact ⟨Or.inl rfl, fun x hx => absurd hx (by omega)⟩)))); done) | (and_intros <;> first | (with_reducible trivial) | omega | assumption | (intro x y _ _; (repeat (first | exact nfR_enI | exact nfR_lit (by simp only [nrefL, nref, and_self]) | (refine nfR_app (fun x y => ?_) (fun x y => ?_)) | (refine nfR_ins (fun x y => ?_) (fun x y => ?_)) | (refine nfR_del (fun x y => ?_)) | (refine nfR_upc (fun x y => ?_) (by simp only [nrefL, nref, and_self])) | (refine nfR_ovw (fun x y => ?_) (fun x y => ?_)) | exact nfR_getL (by simp only [nrefL, nref, and_self]))); done) | (intro x hx; (repeat (first | (exfalso; omega) | (rcases x with _ | x; first | (and_intros <;> (first | exact rfl | exact trivial | exact ⟨Or.inr rfl, Fit_enI⟩ | exact Fit_enI | exact Or.inr rfl | exact Or.inl rfl | exact fun x hx => absurd hx (by omega) | exact ⟨Or.inl rfl, fun x hx => absurd hx (by omega)⟩)) | (first | exact rfl | exact trivial | exact ⟨Or.inr rfl, Fit_enI⟩ | exact Fit_enI | exact Or.inr rfl | exact Or.inl rfl | exact fun x hx => absurd hx (by omega) | exact ⟨Or.inl rfl, fun x hx => absurd hx (by omega)⟩)))); done)) | (intro g; and_intros <;> first | (with_reducible trivial) | assumption | exact f2 g | (intro x y _ _; (repeat (first | exact nfR_enI | exact nfR_lit (by simp only [nrefL, nref, and_self]) | (refine nfR_app (fun x y => ?_) (fun x y => ?_)) | (refine nfR_ins (fun x y => ?_) (fun x y => ?_)) | (refine nfR_del (fun x y => ?_)) | (refine nfR_upc (fun x y => ?_) (by simp only [nrefL, nref, and_self])) | (refine nfR_ovw (fun x y => ?_) (fun x y => ?_)) | exact nfR_getL (by simp only [nrefL, nref, and_self]))); done) | (intro x hx; (repeat (first | (exfalso; omega) | (rcases x with _ | x; first | (and_intros <;> (first | exact rfl | exact trivial | exact ⟨Or.inr rfl, Fit_enI⟩ | exact Fit_enI | exact Or.inr rfl | exact Or.inl rfl | exact fun x hx => absurd hx (by omega) | exact ⟨Or.inl rfl, fun x hx => absurd hx (by omega)⟩)) | (first | exact rfl | exact trivial | exact ⟨Or.inr rfl, Fit_enI⟩ | exact Fit_enI | exact Or.inr rfl | exact Or.inl rfl | exact fun x hx => absurd hx (by omega) | exact ⟨Or.inl rfl, fun x hx => absurd hx (by omega)⟩)))); done) | (and_intros <;> first | (with_reducible trivial) | omega | assumption | (intro x y _ _; (repeat (first | exact nfR_enI | exact nfR_lit (by simp only [nrefL, nref, and_self]) | (refine nfR_app (fun x y => ?_) (fun x y => ?_)) | (refine nfR_ins (fun x y => ?_) (fun x y => ?_)) | (refine nfR_del (fun x y => ?_)) | (refine nfR_upc (fun x y => ?_) (by simp only [nrefL, nref, and_self])) | (refine nfR_ovw (fun x y => ?_) (fun x y => ?_)) | exact nfR_getL (by simp only [nrefL, nref, and_self]))); done) | (intro x hx; (repeat (first | (exfalso; omega) | (rcases x with _ | x; first | (and_intros <;> (first | exact rfl | exact trivial | exact ⟨Or.inr rfl, Fit_enI⟩ | exact Fit_enI | exact Or.inr rfl | exact Or.inl rfl | exact fun x hx => absurd hx (by omega) | exact ⟨Or.inl rfl, fun x hx => absurd hx (by omega)⟩)) | (first | exact rfl | exact trivial | exact ⟨Or.inr rfl, Fit_enI⟩ | exact Fit_enI | exact Or.inr rfl | exact Or.inl rfl | exact fun x hx => absurd hx (by omega) | exact ⟨Or.inl rfl, fun x hx => absurd hx (by omega)⟩)))); done))) | grind))
      refine rg ctNo_ok ?_
      simp only [go_sem, Nat.reduceLeDiff, Nat.reduceLT, Nat.reduceAdd, Nat.reduceMul, Nat.reduceSub, Nat.reduceEqDiff, Nat.reduceBEq, Int.reduceToNat, reduceCtorEq]
      refine rg ctNo_ok ?_
      simp only [go_sem, Nat.reduceLeDiff, Nat.reduceLT, Nat.reduceAdd, Nat.reduceMul, Nat.reduceSub, Nat.reduceEqDiff, Nat.reduceBEq, Int.reduceToNat, reduceCtorEq]
      refine ⟨_, (Option.some.inj H).symm, ?_⟩
      refine SubF_of ⟨[some 0], ?_, ?_, by rfl, by rfl⟩
      · simp [CvL, Cv, getM]
      · exact ⟨(by simp [CvB, CvL, Cv, blkAt, geth, getM]), trivial⟩
    · try dsimp only at H ⊢
      try simp only [m_normal, k_normal, b_normal, kL_normal, r_normal]
      refine seqM ?_
      refine seqM ?_
      obtain ⟨f3, H⟩ := need_some.1 H
      replace f3 := g_iff.1 f3
      obtain ⟨f4, H⟩ := need_some.1 H
      replace f4 := g_iff.1 f4
      refine rg ct18t1_ok ?_
      simp only [go_sem, Nat.reduceLeDiff, Nat.reduceLT, Nat.reduceAdd, Nat.reduceMul, Nat.reduceSub, Nat.reduceEqDiff, Nat.reduceBEq, Int.reduceToNat, reduceCtorEq, ct18t1_46, body46, ct18t1_47, body47]
      repeat ((with_reducible refine And.intro ?_ ?_); focus (first | (with_reducible trivial) | omega | exact f3 | exact f4 | (intro g; have q := f3 (by first | exact g | simpa using g); first | exact q | exact ⟨q.1, q.2.1⟩ | exact q.2.2 | omega | exact ⟨g, q⟩ | exact ⟨trivial, q⟩) | (intro g; have q := f4 (by first | exact g | simpa using g); first | exact q | exact ⟨q.1, q.2.1⟩ | exact q.2.2 | omega | exact ⟨g, q⟩ | exact ⟨trivial, q⟩) | (intro x y _ _; (repeat (first | exact nfR_enI | exact nfR_lit (by simp only [nrefL, nref, and_self]) | (refine nfR_app (fun x y => ?_) (fun x y => ?_)) | (refine nfR_ins (fun x y => ?_) (fun x y => ?_)) | (refine nfR_del (fun x y => ?_)) | (refine nfR_upc (fun x y => ?_) (by simp only [nrefL, nref, and_self])) | (refine nfR_ovw (fun x y => ?_) (fun x y => ?_)) | exact nfR_getL (by simp only [nrefL, nref, and_self]))); done) | (intro x hx; (repeat (first | (exfalso; omega) | (rcases x with _ | x; first | (and_intros <;> (first | exact rfl | exact trivial | exact ⟨Or.inr rfl, Fit_enI⟩ | exact Fit_enI | exact Or.inr rfl | exact Or.inl rfl | exact fun x hx => absurd hx (by omega) | exact ⟨Or.inl rfl, fun x hx => absurd hx (by omega)⟩)) | (first | exact rfl | exact trivial | exact ⟨Or.inr rfl, Fit_enI⟩ | exact Fit_enI | exact Or.inr rfl | exact Or.inl rfl | exact fun x hx => absurd hx (by omega) | exact ⟨Or.inl rfl, fun x hx => absurd hx (by omega)⟩)))); done) | (and_intros <;> first | (with_reducible trivial) | omega | assumption | (intro x y _ _; (repeat (first | exact nfR_enI | exact nfR_lit (by simp only [nrefL, nref, and_self]) | (refine nfR_app (fun x y => ?_) (fun x y => ?_)) | (refine nfR_ins (fun x y => ?_) (fun x y => ?_)) | (refine nfR_del (fun x y => ?_)) | (refine nfR_upc (fun x y => ?_) (by simp only [nrefL, nref, and_self])) | (refine nfR_ovw (fun x y => ?_) (fun x y => ?_)) | exact nfR_getL (by simp only [nrefL, nref, and_self]))); done) | (intro x hx; (repeat (first | (exfalso; omega) | (rcases x with _ | x; first | (and_intros <;> (first | exact rfl | exact trivial | exact ⟨Or.inr rfl, Fit_enI⟩ | exact Fit_enI | exact Or.inr rfl | exact Or.inl rfl | exact fun x hx => absurd hx (by omega) | exact ⟨Or.inl rfl, fun x hx => absurd hx (by omega)⟩)) | (first | exact rfl | exact trivial | exact ⟨Or.inr rfl, Fit_enI⟩ | exact Fit_enI | exact Or.inr rfl | exact Or.inl rfl | exact fun x hx => absurd hx (by omega) | exact ⟨Or.inl rfl, fun x hx => absurd hx (by omega)⟩)))); done)) | (intro g; and_intros <;> first | (with_reducible trivial) | assumption | exact f3 g | exact f4 g | (intro x y _ _; (repeat (first | exact nfR_enI | exact nfR_lit (by simp only [nrefL, nref, and_self]) | (refine nfR_app (fun x y => ?_) (fun x y => ?_)) | (refine nfR_ins (fun x y => ?_) (fun x y => ?_)) | (refine nfR_del (fun x y => ?_)) | (refine nfR_upc (fun x y => ?_) (by simp only [nrefL, nref, and_self])) | (refine nfR_ovw (fun x y => ?_) (fun x y => ?_)) | exact nfR_getL (by simp only [nrefL, nref, and_self]))); done) | (intro x hx; (repeat (first | (exfalso; omega) | (rcases x with _ | x; first | (and_intros <;> (first | exact rfl | exact trivial | exact ⟨Or.inr rfl, Fit_enI⟩ | exact Fit_enI | exact Or.inr rfl | exact Or.inl rfl | exact fun x hx => absurd hx (by omega) | exact ⟨Or.inl rfl, fun x hx => absurd hx (by omega)⟩)) | (first | exact rfl | exact trivial | exact ⟨Or.inr rfl, Fit_enI⟩ | exact Fit_enI | exact Or.inr rfl | exact Or.inl rfl | exact fun x hx => absurd hx (by omega) | exact ⟨Or.inl rfl, fun x hx => absurd hx (by omega)⟩)))); done) | (and_intros <;> first | (with_reducible trivial) | omega | assumption | (intro x y _ _; (repeat (first | exact nfR_enI | exact nfR_lit (by simp only [nrefL, nref, and_self]) | (refine nfR_app (fun x y => ?_) (fun x y => ?_)) | (refine nfR_ins (fun x y => ?_) (fun x y => ?_)) | (refine nfR_del (fun x y => ?_)) | (refine nfR_upc (fun x y => ?_) (by simp only [nrefL, nref, and_self])) | (refine nfR_ovw (fun x y => ?_) (fun x y => ?_)) | exact nfR_getL (by simp only [nrefL, nref, and_self]))); done) | (intro x hx; (repeat (first | (exfalso; omega) | (rcases x with _ | x; first | (and_intros <;> (first | exact rfl | exact trivial | exact ⟨Or.inr rfl, Fit_enI⟩ | exact Fit_enI | exact Or.inr rfl | exact Or.inl rfl | exact fun x hx => absurd hx (by omega) | exact ⟨Or.inl rfl, fun x hx => absurd hx (by omega)⟩)) | (first | exact rfl | exact trivial | exact ⟨Or.inr rfl, Fit_enI⟩ | exact Fit_enI | exact Or.inr rfl | exact Or.inl rfl | exact fun x hx => absurd hx (by omega) | exact ⟨Or.inl rfl, fun x hx => absurd hx (by omega)⟩)))); done))) | grind))
      refine condM rfl trivial (fun hc => ?_) (fun hc => ?_)
      · replace H := cond_t hc H
        refine sq ctNo_ok ?_
        simp only [go_sem, Nat.reduceLeDiff, Nat.reduceLT, Nat.reduceAdd, Nat.reduceMul, Nat.reduceSub, Nat.reduceEqDiff, Nat.reduceBEq, Int.reduceToNat, reduceCtorEq]
        refine rg ctNo_ok ?_
        simp only [go_sem, Nat.reduceLeDiff, Nat.reduceLT, Nat.reduceAdd, Nat.reduceMul, Nat.reduceSub, Nat.reduceEqDiff, Nat.reduceBEq, Int.reduceToNat, reduceCtorEq]
        obtain rfl := Option.some.inj H
        first | rfl | simp only [Bool.and_false, Bool.false_and, Bool.and_true, Bool.true_and]
      replace H := cond_f hc H
      refine rg ctNo_ok ?_
      simp only [go_sem, Nat.reduceLeDiff, Nat.reduceLT, Nat.reduceAdd, Nat.reduceMul, Nat.reduceSub, Nat.reduceEqDiff, Nat.reduceBEq, Int.reduceToNat, reduceCtorEq]
      refine sq ctNo_ok ?_
      simp only [go_sem, Nat.reduceLeDiff, Nat.reduceLT, Nat.reduceAdd, Nat.reduceMul, Nat.reduceSub, Nat.reduceEqDiff, Nat.reduceBEq, Int.reduceToNat, reduceCtorEq]
      refine rg ctNo_ok ?_
      simp only [go_sem, Nat.reduceLeDiff, Nat.reduceLT, Nat.reduceAdd, Nat.reduceMul, Nat.reduceSub, Nat.reduceEqDiff, Nat.reduceBEq, Int.reduceToNat, reduceCtorEq]
      obtain rfl := Option.some.inj H
      first | rfl | simp only [Bool.and_false, Bool.false_and, Bool.and_true, Bool.true_and]
  · cases hb
/-! hotspot/buffer.New -/
noncomputable def ct12t0 : Ct := tab [(18, pureC body18)]
theorem ct12t0_ok : CtOk Try.prog ct12t0 := tab_cons ok18 <| tab_nil
theorem ct12t0_18 (l : List AV) (h : List ABlk) : ct12t0 18 l h = pureC body18 l h := rfl
noncomputable def F12 (p0 : Int) (p1 : Int) : Option (TBuffer × Int) :=
  (F18 (TBuffer.mk p0 p1 [] [])).bind fun r1 => bif (!bEq r1 0) then (some ((TBuffer.mk 0 0 [] []), 2)) else (some ((TBuffer.mk p0 p1 [] []), 0))
noncomputable def body12 : List AV → Nat → AR
  | [v0, v1], _ => .pure (iK .i64 v0 ∧ iK .i64 v1 ∧ (F12 (iA v0) (iA v1)).isSome = true) (.tup [.agg [.int .i64 (((gt (F12 (iA v0) (iA v1))).1).Limit), .int .i64 (((gt (F12 (iA v0) (iA v1))).1).Stay), .ro 3 ((((gt (F12 (iA v0) (iA v1))).1).List).length) false (enR c_TSleeper (((gt (F12 (iA v0) (iA v1))).1).List)), .ro 43 ((((gt (F12 (iA v0) (iA v1))).1).Group).length) false (enR c_TStored (((gt (F12 (iA v0) (iA v1))).1).Group))], .int .i64 ((gt (F12 (iA v0) (iA v1))).2)])
  | _, _ => .fail
set_option maxHeartbeats 4000000 in
set_option maxRecDepth 20000 in
theorem ok12 : FnOk Try.prog 12 (genC body12) := by
  refine gen_fn body12 (rs := [.cell 4 25, .tmp 5]) Try.func12 (by kernel_rfl) rfl rfl ?_
  intro l s ob v ns hb hob
  rcases hb with ⟨hb, rfl⟩ | hb
  · unfold body12 at hb
    split at hb
    · rename_i v0 v1
      injection hb with q1 q2; subst q1 q2
      obtain ⟨hk0, hk1, hob⟩ := hob
      obtain ⟨r, H⟩ := Option.isSome_iff_exists.1 hob
      rw [H, gt_some]
      have hw0 := iK_wk hk0
      have hw1 := iK_wk hk1
      generalize iA v0 = p0 at H hw0
      generalize iA v1 = p1 at H hw1
      refine ⟨[.int .i64 p0, .int .i64 p1], .tup [.agg [.int .i64 r.1.Limit, .int .i64 r.1.Stay, .ro 3 r.1.List.length false (enR c_TSleeper r.1.List), .ro 43 r.1.Group.length false (enR c_TStored r.1.Group)], .int .i64 r.2], [], (fun E vs F => FR_wk1 hw0.1 F (fun vs F => FR_wk1 hw1.1 F (fun vs F => F))), by simp only [ren, renL], trivial, ?_⟩
      rw [Try.ntmps12]
      simp only [List.length_cons, List.length_nil, Nat.reduceAdd, Nat.reduceSub, List.replicate_succ, List.replicate_zero, List.cons_append, List.nil_append]
      unfold F12 at H
      try dsimp only at H
      refine sq ctNo_ok ?_
      simp only [go_sem, Nat.reduceLeDiff, Nat.reduceLT, Nat.reduceAdd, Nat.reduceMul, Nat.reduceSub, Nat.reduceEqDiff, Nat.reduceBEq, Int.reduceToNat, reduceCtorEq]
      refine sq ctNo_ok ?_
      simp only [go_sem, Nat.reduceLeDiff, Nat.reduceLT, Nat.reduceAdd, Nat.reduceMul, Nat.reduceSub, Nat.reduceEqDiff, Nat.reduceBEq, Int.reduceToNat, reduceCtorEq]
      repeat ((with_reducible refine And.intro ?_ ?_); focus (first | (with_reducible trivial) | omega | grind))
      refine seqM ?_
      refine seqM ?_
      obtain ⟨r1, e2, H⟩ := Option.bind_eq_some_iff.1 H
      refine rg ct12t0_ok ?_
      simp only [go_sem, Nat.reduceLeDiff, Nat.reduceLT, Nat.reduceAdd, Nat.reduceMul, Nat.reduceSub, Nat.reduceEqDiff, Nat.reduceBEq, Int.reduceToNat, reduceCtorEq, ct12t0_18, body18, e2]
      repeat ((with_reducible refine And.intro ?_ ?_); focus (first | (with_reducible trivial) | omega | (intro x y _ _; (repeat (first | exact nfR_enI | exact nfR_lit (by simp only [nrefL, nref, and_self]) | (refine nfR_app (fun x y => ?_) (fun x y => ?_)) | (refine nfR_ins (fun x y => ?_) (fun x y => ?_)) | (refine nfR_del (fun x y => ?_)) | (refine nfR_upc (fun x y => ?_) (by simp only [nrefL, nref, and_self])) | (refine nfR_ovw (fun x y => ?_) (fun x y => ?_)) | exact nfR_getL (by simp only [nrefL, nref, and_self]))); done) | (intro x hx; (repeat (first | (exfalso; omega) | (rcases x with _ | x; first | (and_intros <;> (first | exact rfl | exact trivial | exact ⟨Or.inr rfl, Fit_enI⟩ | exact Fit_enI | exact Or.inr rfl | exact Or.inl rfl | exact fun x hx => absurd hx (by omega) | exact ⟨Or.inl rfl, fun x hx => absurd hx (by omega)⟩)) | (first | exact rfl | exact trivial | exact ⟨Or.inr rfl, Fit_enI⟩ | exact Fit_enI | exact Or.inr rfl | exact Or.inl rfl | exact fun x hx => absurd hx (by omega) | exact ⟨Or.inl rfl, fun x hx => absurd hx (by omega)⟩)))); done) | (and_intros <;> first | (with_reducible trivial) | omega | assumption | (intro x y _ _; (repeat (first | exact nfR_enI | exact nfR_lit (by simp only [nrefL, nref, and_self]) | (refine nfR_app (fun x y => ?_) (fun x y => ?_)) | (refine nfR_ins (fun x y => ?_) (fun x y => ?_)) | (refine nfR_del (fun x y => ?_)) | (refine nfR_upc (fun x y => ?_) (by simp only [nrefL, nref, and_self])) | (refine nfR_ovw (fun x y => ?_) (fun x y => ?_)) | exact nfR_getL (by simp only [nrefL, nref, and_self]))); done) | (intro x hx; (repeat (first | (exfalso; omega) | (rcases x with _ | x; first | (and_intros <;> (first | exact rfl | exact trivial | exact ⟨Or.inr rfl, Fit_enI⟩ | exact Fit_enI | exact Or.inr rfl | exact Or.inl rfl | exact fun x hx => absurd hx (by omega) | exact ⟨Or.inl rfl, fun x hx => absurd hx (by omega)⟩)) | (first | exact rfl | exact trivial | exact ⟨Or.inr rfl, Fit_enI⟩ | exact Fit_enI | exact Or.inr rfl | exact Or.inl rfl | exact fun x hx => absurd hx (by omega) | exact ⟨Or.inl rfl, fun x hx => absurd hx (by omega)⟩)))); done)) | grind))
      refine condM rfl trivial (fun hc => ?_) (fun hc => ?_)
      · replace H := cond_t hc H
        refine sq ctNo_ok ?_
        simp only [go_sem, Nat.reduceLeDiff, Nat.reduceLT, Nat.reduceAdd, Nat.reduceMul, Nat.reduceSub, Nat.reduceEqDiff, Nat.reduceBEq, Int.reduceToNat, reduceCtorEq]
        repeat ((with_reducible refine And.intro ?_ ?_); focus (first | (with_reducible trivial) | omega | grind))
        refine rg ctNo_ok ?_
        simp only [go_sem, Nat.reduceLeDiff, Nat.reduceLT, Nat.reduceAdd, Nat.reduceMul, Nat.reduceSub, Nat.reduceEqDiff, Nat.reduceBEq, Int.reduceToNat, reduceCtorEq]
        obtain rfl := Option.some.inj H
        refine ⟨[0, 1], ?_, ?_, [], ?_, ?_, rfl⟩
        · simp only [List.length_cons, List.length_nil, Nat.zero_mul, Nat.add_zero, fzV, fzL, fzOb, fzObL, fzH, fzHF, fzB, fzObB, fzObH, inL, rowOb, geth, cond_true, cond_false, Bool.or_false, Bool.or_true, Bool.false_or, Bool.true_or, and_self, true_and, and_true, Nat.reduceEqDiff, Nat.reduceBEq, beq_self_eq_true, sub_enR0, Nat.reduceAdd, Nat.zero_add, Nat.le_refl, List.nil_append]
          try (and_intros <;> first | trivial | omega | (intro x y _ _; repeat (first | exact nfR_lit (by simp only [nrefL, nref, and_self]) | exact nfR_enI | (refine nfR_app (fun x y => ?_) (fun x y => ?_)) | (refine nfR_ins (fun x y => ?_) (fun x y => ?_)) | (refine nfR_del (fun x y => ?_)) | (refine nfR_upc (fun x y => ?_) (by simp only [nrefL, nref, and_self])) | (refine nfR_ovw (fun x y => ?_) (fun x y => ?_)) | exact nfR_getL (by simp only [nrefL, nref, and_self]))))
        · simp only [List.length_cons, List.length_nil, Nat.zero_mul, Nat.add_zero, fzV, fzL, fzOb, fzObL, fzH, fzHF, fzB, fzObB, fzObH, inL, rowOb, geth, cond_true, cond_false, Bool.or_false, Bool.or_true, Bool.false_or, Bool.true_or, and_self, true_and, and_true, Nat.reduceEqDiff, Nat.reduceBEq, beq_self_eq_true, sub_enR0, Nat.reduceAdd, Nat.zero_add, Nat.le_refl, List.nil_append]
          try (and_intros <;> first | trivial | omega | (intro x y _ _; repeat (first | exact nfR_lit (by simp only [nrefL, nref, and_self]) | exact nfR_enI | (refine nfR_app (fun x y => ?_) (fun x y => ?_)) | (refine nfR_ins (fun x y => ?_) (fun x y => ?_)) | (refine nfR_del (fun x y => ?_)) | (refine nfR_upc (fun x y => ?_) (by simp only [nrefL, nref, and_self])) | (refine nfR_ovw (fun x y => ?_) (fun x y => ?_)) | exact nfR_getL (by simp only [nrefL, nref, and_self]))))
        · simp only [List.length_cons, List.length_nil, Nat.zero_mul, Nat.add_zero, fzV, fzL, fzOb, fzObL, fzH, fzHF, fzB, fzObB, fzObH, inL, rowOb, geth, cond_true, cond_false, Bool.or_false, Bool.or_true, Bool.false_or, Bool.true_or, and_self, true_and, and_true, Nat.reduceEqDiff, Nat.reduceBEq, beq_self_eq_true, sub_enR0, Nat.reduceAdd, Nat.zero_add, Nat.le_refl, List.nil_append]
          exact Cv_tup (CvL_cons (Cv_agg (CvL_cons Cv_int (CvL_cons Cv_int (CvL_cons (Cv_ronil (α := TSleeper)) (CvL_cons (Cv_ronil (α := TStored)) CvL_nil))))) (CvL_cons Cv_int CvL_nil))
        · simp only [List.length_cons, List.length_nil, Nat.zero_mul, Nat.add_zero, fzV, fzL, fzOb, fzObL, fzH, fzHF, fzB, fzObB, fzObH, inL, rowOb, geth, cond_true, cond_false, Bool.or_false, Bool.or_true, Bool.false_or, Bool.true_or, and_self, true_and, and_true, Nat.reduceEqDiff, Nat.reduceBEq, beq_self_eq_true, sub_enR0, Nat.reduceAdd, Nat.zero_add, Nat.le_refl, List.nil_append, CvH]
      replace H := cond_f hc H
      refine rg ctNo_ok ?_
      simp only [go_sem, Nat.reduceLeDiff, Nat.reduceLT, Nat.reduceAdd, Nat.reduceMul, Nat.reduceSub, Nat.reduceEqDiff, Nat.reduceBEq, Int.reduceToNat, reduceCtorEq]
      refine sq ctNo_ok ?_
      simp only [go_sem, Nat.reduceLeDiff, Nat.reduceLT, Nat.reduceAdd, Nat.reduceMul, Nat.reduceSub, Nat.reduceEqDiff, Nat.reduceBEq, Int.reduceToNat, reduceCtorEq]
      repeat ((with_reducible refine And.intro ?_ ?_); focus (first | (with_reducible trivial) | omega | grind))
      refine rg ctNo_ok ?_
      simp only [go_sem, Nat.reduceLeDiff, Nat.reduceLT, Nat.reduceAdd, Nat.reduceMul, Nat.reduceSub, Nat.reduceEqDiff, Nat.reduceBEq, Int.reduceToNat, reduceCtorEq]
      obtain rfl := Option.some.inj H
      refine ⟨[0, 1], ?_, ?_, [], ?_, ?_, rfl⟩
      · simp only [List.length_cons, List.length_nil, Nat.zero_mul, Nat.add_zero, fzV, fzL, fzOb, fzObL, fzH, fzHF, fzB, fzObB, fzObH, inL, rowOb, geth, cond_true, cond_false, Bool.or_false, Bool.or_true, Bool.false_or, Bool.true_or, and_self, true_and, and_true, Nat.reduceEqDiff, Nat.reduceBEq, beq_self_eq_true, sub_enR0, Nat.reduceAdd, Nat.zero_add, Nat.le_refl, List.nil_append]
        try (and_intros <;> first | trivial | omega | (intro x y _ _; repeat (first | exact nfR_lit (by simp only [nrefL, nref, and_self]) | exact nfR_enI | (refine nfR_app (fun x y => ?_) (fun x y => ?_)) | (refine nfR_ins (fun x y => ?_) (fun x y => ?_)) | (refine nfR_del (fun x y => ?_)) | (refine nfR_upc (fun x y => ?_) (by simp only [nrefL, nref, and_self])) | (refine nfR_ovw (fun x y => ?_) (fun x y => ?_)) | exact nfR_getL (by simp only [nrefL, nref, and_self]))))
      · simp only [List.length_cons, List.length_nil, Nat.zero_mul, Nat.add_zero, fzV, fzL, fzOb, fzObL, fzH, fzHF, fzB, fzObB, fzObH, inL, rowOb, geth, cond_true, cond_false, Bool.or_false, Bool.or_true, Bool.false_or, Bool.true_or, and_self, true_and, and_true, Nat.reduceEqDiff, Nat.reduceBEq, beq_self_eq_true, sub_enR0, Nat.reduceAdd, Nat.zero_add, Nat.le_refl, List.nil_append]
        try (and_intros <;> first | trivial | omega | (intro x y _ _; repeat (first | exact nfR_lit (by simp only [nrefL, nref, and_self]) | exact nfR_enI | (refine nfR_app (fun x y => ?_) (fun x y => ?_)) | (refine nfR_ins (fun x y => ?_) (fun x y => ?_)) | (refine nfR_del (fun x y => ?_)) | (refine nfR_upc (fun x y => ?_) (by simp only [nrefL, nref, and_self])) | (refine nfR_ovw (fun x y => ?_) (fun x y => ?_)) | exact nfR_getL (by simp only [nrefL, nref, and_self]))))
      · simp only [List.length_cons, List.length_nil, Nat.zero_mul, Nat.add_zero, fzV, fzL, fzOb, fzObL, fzH, fzHF, fzB, fzObB, fzObH, inL, rowOb, geth, cond_true, cond_false, Bool.or_false, Bool.or_true, Bool.false_or, Bool.true_or, and_self, true_and, and_true, Nat.reduceEqDiff, Nat.reduceBEq, beq_self_eq_true, sub_enR0, Nat.reduceAdd, Nat.zero_add, Nat.le_refl, List.nil_append]
        exact Cv_tup (CvL_cons (Cv_agg (CvL_cons Cv_int (CvL_cons Cv_int (CvL_cons (Cv_ronil (α := TSleeper)) (CvL_cons (Cv_ronil (α := TStored)) CvL_nil))))) (CvL_cons Cv_int CvL_nil))
      · simp only [List.length_cons, List.length_nil, Nat.zero_mul, Nat.add_zero, fzV, fzL, fzOb, fzObL, fzH, fzHF, fzB, fzObB, fzObH, inL, rowOb, geth, cond_true, cond_false, Bool.or_false, Bool.or_true, Bool.false_or, Bool.true_or, and_self, true_and, and_true, Nat.reduceEqDiff, Nat.reduceBEq, beq_self_eq_true, sub_enR0, Nat.reduceAdd, Nat.zero_add, Nat.le_refl, List.nil_append, CvH]
    · cases hb
  · unfold body12 at hb
    split at hb <;> cases hb
/-! hotspot/hotspotref34.Moment -/
noncomputable def F87 (p0 : Int) : Option (Bool) :=
  some ((bLe 0 p0) && (bLe p0 1099511627776))
noncomputable def body87 : List AV → AR
  | [v0] => .pure (iK .i64 v0 ∧ (F87 (iA v0)).isSome = true) (.bool (gt (F87 (iA v0))))
  | _ => .fail
set_option maxHeartbeats 4000000 in
set_option maxRecDepth 20000 in
theorem ok87 : FnOk Try.prog 87 (pureC body87) := by
  refine pure_fnM body87 (rs := [.tmp 2]) Try.func87 (by kernel_rfl) rfl rfl ?_
  intro l ob v hb hob
  unfold body87 at hb
  split at hb
  · rename_i v0
    injection hb with q1 q2; subst q1 q2
    obtain ⟨hk0, hob⟩ := hob
    obtain ⟨r, H⟩ := Option.isSome_iff_exists.1 hob
    rw [H, gt_some]
    have hw0 := iK_wk hk0
    generalize iA v0 = p0 at H hw0
    refine ⟨[.int .i64 p0], _, (fun E vs F => FR_wk1 hw0.1 F (fun vs F => F)), rfl, rfl, ?_⟩
    rw [Try.ntmps87]
    simp only [List.length_cons, List.length_nil, Nat.reduceAdd, Nat.reduceSub, List.replicate_succ, List.replicate_zero, List.cons_append, List.nil_append]
    unfold F87 at H
    try dsimp only at H
    refine sq ctNo_ok ?_
    simp only [go_sem, Nat.reduceLeDiff, Nat.reduceLT, Nat.reduceAdd, Nat.reduceMul, Nat.reduceSub, Nat.reduceEqDiff, Nat.reduceBEq, Int.reduceToNat, reduceCtorEq]
    refine sq ctNo_ok ?_
    simp only [go_sem, Nat.reduceLeDiff, Nat.reduceLT, Nat.reduceAdd, Nat.reduceMul, Nat.reduceSub, Nat.reduceEqDiff, Nat.reduceBEq, Int.reduceToNat, reduceCtorEq]
    repeat ((with_reducible refine And.intro ?_ ?_); focus (first | (with_reducible trivial) | omega | grind))
    refine rg ctNo_ok ?_
    simp only [go_sem, Nat.reduceLeDiff, Nat.reduceLT, Nat.reduceAdd, Nat.reduceMul, Nat.reduceSub, Nat.reduceEqDiff, Nat.reduceBEq, Int.reduceToNat, reduceCtorEq]
    obtain rfl := Option.some.inj H
    first | rfl | simp only [Bool.and_false, Bool.false_and, Bool.and_true, Bool.true_and]
  · cases hb
/-! hotspot/hotspotref34.ValidQueue -/
noncomputable def ct48t0 : Ct := tab [(87, pureC body87)]
theorem ct48t0_ok : CtOk Try.prog ct48t0 := tab_cons ok87 <| tab_nil
theorem ct48t0_87 (l : List AV) (h : List ABlk) : ct48t0 87 l h = pureC body87 l h := rfl
noncomputable def F48_L1 (p0 : List TStored) (p2 : Int) (v1_1 : Int) : Option (Lp (Int) ((Unit) ⊕ (Bool))) :=
  bif (bLt v1_1 (p0.length : Nat)) then (need (inb v1_1 p0.length) <| need (bif (!(bLt p2 (wr .i64 ((gd p0 v1_1.toNat).Cat)))) then inb v1_1 p0.length else true) <| need (bif (!(bLt p2 (wr .i64 ((gd p0 v1_1.toNat).Cat)))) then ((F87 ((gd p0 v1_1.toNat).At)).isSome) else true) <| need (bif ((!((bLt p2 (wr .i64 ((gd p0 v1_1.toNat).Cat))) || (!(gt (F87 ((gd p0 v1_1.toNat).At)))))) && (bLt 0 v1_1)) then inb (wr .i64 (v1_1 - 1)) p0.length else true) <| need (bif ((!((bLt p2 (wr .i64 ((gd p0 v1_1.toNat).Cat))) || (!(gt (F87 ((gd p0 v1_1.toNat).At)))))) && (bLt 0 v1_1)) then inb v1_1 p0.length else true) <| bif (((bLt p2 (wr .i64 ((gd p0 v1_1.toNat).Cat))) || (!(gt (F87 ((gd p0 v1_1.toNat).At))))) || ((bLt 0 v1_1) && (bLt ((gd p0 v1_1.toNat).At) ((gd p0 ((wr .i64 (v1_1 - 1)).toNat)).At)))) then (some (.done (.inr false))) else (some (.next (wr .i64 (v1_1 + 1))))) else (some (.done (.inl ())))
noncomputable def F48 (p0 : List TStored) (p1 : Int) (p2 : Int) : Option (Bool) :=
  bif (bLt p1 (p0.length : Nat)) then (some false) else (lp (loopD (fun s => F48_L1 p0 p2 s) 0) (fun e => some true) some)
noncomputable def body48 : List AV → AR
  | [v0, v1, v2] => .pure (lK k_TStored 43 v0 ∧ iK .i64 v1 ∧ iK .i64 v2 ∧ (F48 (lA g_TStored v0) (iA v1) (iA v2)).isSome = true) (.bool (gt (F48 (lA g_TStored v0) (iA v1) (iA v2))))
  | _ => .fail
set_option maxHeartbeats 4000000 in
set_option maxRecDepth 20000 in
theorem ok48 : FnOk Try.prog 48 (pureC body48) := by
  refine pure_fnM body48 (rs := [.tmp 6]) Try.func48 (by kernel_rfl) rfl rfl ?_
  intro l ob v hb hob
  unfold body48 at hb
  split at hb
  · rename_i v0 v1 v2
    injection hb with q1 q2; subst q1 q2
    obtain ⟨hk0, hk1, hk2, hob⟩ := hob
    obtain ⟨r, H⟩ := Option.isSome_iff_exists.1 hob
    rw [H, gt_some]
    have hw0 := lK_wk (fun r h => w_TStored h) hk0
    have hw1 := iK_wk hk1
    have hw2 := iK_wk hk2
    generalize lA g_TStored v0 = p0 at H hw0
    generalize iA v1 = p1 at H hw1
    generalize iA v2 = p2 at H hw2
    refine ⟨[.ro 43 p0.length false (enR c_TStored p0), .int .i64 p1, .int .i64 p2], _, (fun E vs F => FR_wk1 hw0.1 F (fun vs F => FR_wk1 hw1.1 F (fun vs F => FR_wk1 hw2.1 F (fun vs F => F)))), rfl, rfl, ?_⟩
    rw [Try.ntmps48]
    simp only [List.length_cons, List.length_nil, Nat.reduceAdd, Nat.reduceSub, List.replicate_succ, List.replicate_zero, List.cons_append, List.nil_append]
    unfold F48 at H
    try dsimp only at H
    refine sq ctNo_ok ?_
    simp only [go_sem, Nat.reduceLeDiff, Nat.reduceLT, Nat.reduceAdd, Nat.reduceMul, Nat.reduceSub, Nat.reduceEqDiff, Nat.reduceBEq, Int.reduceToNat, reduceCtorEq]
    refine seqM ?_
    refine sq ctNo_ok ?_
    simp only [go_sem, Nat.reduceLeDiff, Nat.reduceLT, Nat.reduceAdd, Nat.reduceMul, Nat.reduceSub, Nat.reduceEqDiff, Nat.reduceBEq, Int.reduceToNat, reduceCtorEq]
    repeat ((with_reducible refine And.intro ?_ ?_); focus (first | (with_reducible trivial) | omega | (intro x y _ _; (repeat (first | exact nfR_enI | exact nfR_lit (by simp only [nrefL, nref, and_self]) | (refine nfR_app (fun x y => ?_) (fun x y => ?_)) | (refine nfR_ins (fun x y => ?_) (fun x y => ?_)) | (refine nfR_del (fun x y => ?_)) | (refine nfR_upc (fun x y => ?_) (by simp only [nrefL, nref, and_self])) | (refine nfR_ovw (fun x y => ?_) (fun x y => ?_)) | exact nfR_getL (by simp only [nrefL, nref, and_self]))); done) | (intro x hx; (repeat (first | (exfalso; omega) | (rcases x with _ | x; first | (and_intros <;> (first | exact rfl | exact trivial | exact ⟨Or.inr rfl, Fit_enI⟩ | exact Fit_enI | exact Or.inr rfl | exact Or.inl rfl | exact fun x hx => absurd hx (by omega) | exact ⟨Or.inl rfl, fun x hx => absurd hx (by omega)⟩)) | (first | exact rfl | exact trivial | exact ⟨Or.inr rfl, Fit_enI⟩ | exact Fit_enI | exact Or.inr rfl | exact Or.inl rfl | exact fun x hx => absurd hx (by omega) | exact ⟨Or.inl rfl, fun x hx => absurd hx (by omega)⟩)))); done) | (and_intros <;> first | (with_reducible trivial) | omega | assumption | (intro x y _ _; (repeat (first | exact nfR_enI | exact nfR_lit (by simp only [nrefL, nref, and_self]) | (refine nfR_app (fun x y => ?_) (fun x y => ?_)) | (refine nfR_ins (fun x y => ?_) (fun x y => ?_)) | (refine nfR_del (fun x y => ?_)) | (refine nfR_upc (fun x y => ?_) (by simp only [nrefL, nref, and_self])) | (refine nfR_ovw (fun x y => ?_) (fun x y => ?_)) | exact nfR_getL (by simp only [nrefL, nref, and_self]))); done) | (intro x hx; (repeat (first | (exfalso; omega) | (rcases x with _ | x; first | (and_intros <;> (first | exact rfl | exact trivial | exact ⟨Or.inr rfl, Fit_enI⟩ | exact Fit_enI | exact Or.inr rfl | exact Or.inl rfl | exact fun x hx => absurd hx (by omega) | exact ⟨Or.inl rfl, fun x hx => absurd hx (by omega)⟩)) | (first | exact rfl | exact trivial | exact ⟨Or.inr rfl, Fit_enI⟩ | exact Fit_enI | exact Or.inr rfl | exact Or.inl rfl | exact fun x hx => absurd hx (by omega) | exact ⟨Or.inl rfl, fun x hx => absurd hx (by omega)⟩)))); done)) | grind))
    refine condM rfl trivial (fun hc => ?_) (fun hc => ?_)
    · replace H := cond_t hc H
      refine sq ctNo_ok ?_
      simp only [go_sem, Nat.reduceLeDiff, Nat.reduceLT, Nat.reduceAdd, Nat.reduceMul, Nat.reduceSub, Nat.reduceEqDiff, Nat.reduceBEq, Int.reduceToNat, reduceCtorEq]
      refine rg ctNo_ok ?_
      simp only [go_sem, Nat.reduceLeDiff, Nat.reduceLT, Nat.reduceAdd, Nat.reduceMul, Nat.reduceSub, Nat.reduceEqDiff, Nat.reduceBEq, Int.reduceToNat, reduceCtorEq]
      obtain rfl := Option.some.inj H
      first | rfl | simp only [Bool.and_false, Bool.false_and, Bool.and_true, Bool.true_and]
    replace H := cond_f hc H
    refine rg ctNo_ok ?_
    simp only [go_sem, Nat.reduceLeDiff, Nat.reduceLT, Nat.reduceAdd, Nat.reduceMul, Nat.reduceSub, Nat.reduceEqDiff, Nat.reduceBEq, Int.reduceToNat, reduceCtorEq]
    refine seqM ?_
    refine sq ctNo_ok ?_
    simp only [go_sem, Nat.reduceLeDiff, Nat.reduceLT, Nat.reduceAdd, Nat.reduceMul, Nat.reduceSub, Nat.reduceEqDiff, Nat.reduceBEq, Int.reduceToNat, reduceCtorEq]
    refine blkM ?_
    refine loop_den (fun s : Int => (.ro 43 p0.length false (enR c_TStored p0) :: .top :: .int .i64 p2 :: .top :: .top :: .top :: .top :: .int .i64 s :: .top :: .top :: .top :: .top :: .top :: .top :: .top :: .top :: .top :: .top :: .top :: .top :: .top :: .top :: .top :: .top :: .top :: .top :: .top :: .top :: .top :: .top :: .top :: .top :: .top :: .top :: .top :: .top :: .top :: .top :: .top :: .top :: .top :: .top :: .top :: .top :: .top :: .top :: .top :: .top :: .top :: .top :: .top :: .top :: .top :: [])) (fun s => []) (fun e : Unit => (.top :: .top :: .top :: .top :: .top :: .top :: .top :: .top :: .top :: .top :: .top :: .top :: .top :: .top :: .top :: .top :: .top :: .top :: .top :: .top :: .top :: .top :: .top :: .top :: .top :: .top :: .top :: .top :: .top :: .top :: .top :: .top :: .top :: .top :: .top :: .top :: .top :: .top :: .top :: .top :: .top :: .top :: .top :: .top :: .top :: .top :: .top :: .top :: .top :: .top :: .top :: .top :: .top :: [])) (fun e => []) H ?_ (fun v1_1 o H hn1_1 hn2_1 => ?_) (fun e H => ?_)
    · refine SubF_of ⟨[], ?_, ?_, by rfl, by rfl⟩
      · simp [CvL, Cv, getM]
      · trivial
    · unfold F48_L1 at H
      try dsimp only at H ⊢
      refine seqM ?_
      refine sq ctNo_ok ?_
      simp only [go_sem, Nat.reduceLeDiff, Nat.reduceLT, Nat.reduceAdd, Nat.reduceMul, Nat.reduceSub, Nat.reduceEqDiff, Nat.reduceBEq, Int.reduceToNat, reduceCtorEq]
      repeat ((with_reducible refine And.intro ?_ ?_); focus (first | (with_reducible trivial) | omega | (intro x y _ _; (repeat (first | exact nfR_enI | exact nfR_lit (by simp only [nrefL, nref, and_self]) | (refine nfR_app (fun x y => ?_) (fun x y => ?_)) | (refine nfR_ins (fun x y => ?_) (fun x y => ?_)) | (refine nfR_del (fun x y => ?_)) | (refine nfR_upc (fun x y => ?_) (by simp only [nrefL, nref, and_self])) | (refine nfR_ovw (fun x y => ?_) (fun x y => ?_)) | exact nfR_getL (by simp only [nrefL, nref, and_self]))); done) | (intro x hx; (repeat (first | (exfalso; omega) | (rcases x with _ | x; first | (and_intros <;> (first | exact rfl | exact trivial | exact ⟨Or.inr rfl, Fit_enI⟩ | exact Fit_enI | exact Or.inr rfl | exact Or.inl rfl | exact fun x hx => absurd hx (by omega) | exact ⟨Or.inl rfl, fun x hx => absurd hx (by omega)⟩)) | (first | exact rfl | exact trivial | exact ⟨Or.inr rfl, Fit_enI⟩ | exact Fit_enI | exact Or.inr rfl | exact Or.inl rfl | exact fun x hx => absurd hx (by omega) | exact ⟨Or.inl rfl, fun x hx => absurd hx (by omega)⟩)))); done) | (and_intros <;> first | (with_reducible trivial) | omega | assumption | (intro x y _ _; (repeat (first | exact nfR_enI | exact nfR_lit (by simp only [nrefL, nref, and_self]) | (refine nfR_app (fun x y => ?_) (fun x y => ?_)) | (refine nfR_ins (fun x y => ?_) (fun x y => ?_)) | (refine nfR_del (fun x y => ?_)) | (refine nfR_upc (fun x y => ?_) (by simp only [nrefL, nref, and_self])) | (refine nfR_ovw (fun x y => ?_) (fun x y => ?_)) | exact nfR_getL (by simp only [nrefL, nref, and_self]))); done) | (intro x hx; (repeat (first | (exfalso; omega) | (rcases x with _ | x; first | (and_intros <;> (first | exact rfl | exact trivial | exact ⟨Or.inr rfl, Fit_enI⟩ | exact Fit_enI | exact Or.inr rfl | exact Or.inl rfl | exact fun x hx => absurd hx (by omega) | exact ⟨Or.inl rfl, fun x hx => absurd hx (by omega)⟩)) | (first | exact rfl | exact trivial | exact ⟨Or.inr rfl, Fit_enI⟩ | exact Fit_enI | exact Or.inr rfl | exact Or.inl rfl | exact fun x hx => absurd hx (by omega) | exact ⟨Or.inl rfl, fun x hx => absurd hx (by omega)⟩)))); done)) | grind))
      refine condM' rfl trivial (fun hc => ?_) (fun hc => ?_)
      · replace H := cond_f hc H
        refine rg ctNo_ok ?_
        simp only [go_sem, Nat.reduceLeDiff, Nat.reduceLT, Nat.reduceAdd, Nat.reduceMul, Nat.reduceSub, Nat.reduceEqDiff, Nat.reduceBEq, Int.reduceToNat, reduceCtorEq]
        refine ⟨_, (Option.some.inj H).symm, ?_⟩
        refine SubF_of ⟨[], ?_, ?_, by rfl, by rfl⟩
        · simp [CvL, Cv, getM]
        · trivial
      replace H := cond_t hc H
      refine rg ctNo_ok ?_
      simp only [go_sem, Nat.reduceLeDiff, Nat.reduceLT, Nat.reduceAdd, Nat.reduceMul, Nat.reduceSub, Nat.reduceEqDiff, Nat.reduceBEq, Int.reduceToNat, reduceCtorEq]
      refine seqM ?_
      refine blkM ?_
      refine seqM ?_
      obtain ⟨f1, H⟩ := need_some.1 H
      replace f1 := inb_iff.1 f1
      obtain ⟨f2, H⟩ := need_some.1 H
      replace f2 := g_iff.1 f2
      replace f2 := fun g => inb_iff.1 (f2 g)
      obtain ⟨f3, H⟩ := need_some.1 H
      replace f3 := g_iff.1 f3
      obtain ⟨f4, H⟩ := need_some.1 H
      replace f4 := g_iff.1 f4
      replace f4 := fun g => inb_iff.1 (f4 g)
      obtain ⟨f5, H⟩ := need_some.1 H
      replace f5 := g_iff.1 f5
      replace f5 := fun g => inb_iff.1 (f5 g)
      refine draw_quiet shT_ok ct48t0_ok (by kernel_rfl) (by kernel_rfl) ?_
      simp only [go_sem, Nat.reduceLeDiff, Nat.reduceLT, Nat.reduceAdd, Nat.reduceMul, Nat.reduceSub, Nat.reduceEqDiff, Nat.reduceBEq, Int.reduceToNat, reduceCtorEq, ct48t0_87, body87, f1]
      repeat ((with_reducible refine And.intro ?_ ?_); focus (first | (with_reducible trivial) | omega | exact f2 | exact f3 | exact f4 | exact f5 | (intro g; have q := f2 (by first | exact g | simpa using g); first | exact q | exact ⟨q.1, q.2.1⟩ | exact q.2.2 | omega | exact ⟨g, q⟩ | exact ⟨trivial, q⟩) | (intro g; have q := f3 (by first | exact g | simpa using g); first | exact q | exact ⟨q.1, q.2.1⟩ | exact q.2.2 | omega | exact ⟨g, q⟩ | exact ⟨trivial, q⟩) | (intro g; have q := f4 (by first | exact g | simpa using g); first | exact q | exact ⟨q.1, q.2.1⟩ | exact q.2.2 | omega | exact ⟨g, q⟩ | exact ⟨trivial, q⟩) | (intro g; have q := f5 (by first | exact g | simpa using g); first | exact q | exact ⟨q.1, q.2.1⟩ | exact q.2.2 | omega | exact ⟨g, q⟩ | exact ⟨trivial, q⟩) | (intro x y _ _; (repeat (first | exact nfR_enI | exact nfR_lit (by simp only [nrefL, nref, and_self]) | (refine nfR_app (fun x y => ?_) (fun x y => ?_)) | (refine nfR_ins (fun x y => ?_) (fun x y => ?_)) | (refine nfR_del (fun x y => ?_)) | (refine nfR_upc (fun x y => ?_) (by simp only [nrefL, nref, and_self])) | (refine nfR_ovw (fun x y => ?_) (fun x y => ?_)) | exact nfR_getL (by simp only [nrefL, nref, and_self]))); done) | (intro x hx; (repeat (first | (exfalso; omega) | (rcases x with _ | x; first | (and_intros <;> (first | exact rfl | exact trivial | exact ⟨Or.inr rfl, Fit_enI⟩ | exact Fit_enI | exact Or.inr rfl | exact Or.inl rfl | exact fun x hx => absurd hx (by omega) | exact ⟨Or.inl rfl, fun x hx => absurd hx (by omega)⟩)) | (first | exact rfl | exact trivial | exact ⟨Or.inr rfl, Fit_enI⟩ | exact Fit_enI | exact Or.inr rfl | exact Or.inl rfl | exact fun x hx => absurd hx (by omega) | exact ⟨Or.inl rfl, fun x hx => absurd hx (by omega)⟩)))); done) | (and_intros <;> first | (with_reducible trivial) | omega | assumption | (intro x y _ _; (repeat (first | exact nfR_enI | exact nfR_lit (by simp only [nrefL, nref, and_self]) | (refine nfR_app (fun x y => ?_) (fun x y => ?_)) | (refine nfR_ins (fun x y => ?_) (fun x y => ?_)) | (refine nfR_del (fun x y => ?_)) | (refine nfR_upc (fun x y => ?_) (by simp only [nrefL, nref, and_self])) | (refine nfR_ovw (fun x y => ?_) (fun x y => ?_)) | exact nfR_getL (by simp only [nrefL, nref, and_self]))); done) | (intro x hx; (repeat (first | (exfalso; omega) | (rcases x with _ | x; first | (and_intros <;> (first | exact rfl | exact trivial | exact ⟨Or.inr rfl, Fit_enI⟩ | exact Fit_enI | exact Or.inr rfl | exact Or.inl rfl | exact fun x hx => absurd hx (by omega) | exact ⟨Or.inl rfl, fun x hx => absurd hx (by omega)⟩)) | (first | exact rfl | exact trivial | exact ⟨Or.inr rfl, Fit_enI⟩ | exact Fit_enI | exact Or.inr rfl | exact Or.inl rfl | exact fun x hx => absurd hx (by omega) | exact ⟨Or.inl rfl, fun x hx => absurd hx (by omega)⟩)))); done)) | (intro g; and_intros <;> first | (with_reducible trivial) | assumption | exact f2 g | exact f3 g | exact f4 g | exact f5 g | (intro x y _ _; (repeat (first | exact nfR_enI | exact nfR_lit (by simp only [nrefL, nref, and_self]) | (refine nfR_app (fun x y => ?_) (fun x y => ?_)) | (refine nfR_ins (fun x y => ?_) (fun x y => ?_)) | (refine nfR_del (fun x y => ?_)) | (refine nfR_upc (fun x y => ?_) (by simp only [nrefL, nref, and_self])) | (refine nfR_ovw (fun x y => ?_) (fun x y => ?_)) | exact nfR_getL (by simp only [nrefL, nref, and_self]))); done) | (intro x hx; (repeat (first | (exfalso; omega) | (rcases x with _ | x; first | (and_intros <;> (first | exact rfl | exact trivial | exact ⟨Or.inr rfl, Fit_enI⟩ | exact Fit_enI | exact Or.inr rfl | exact Or.inl rfl | exact fun x hx => absurd hx (by omega) | exact ⟨Or.inl rfl, fun x hx => absurd hx (by omega)⟩)) | (first | exact rfl | exact trivial | exact ⟨Or.inr rfl, Fit_enI⟩ | exact Fit_enI | exact Or.inr rfl | exact Or.inl rfl | exact fun x hx => absurd hx (by omega) | exact ⟨Or.inl rfl, fun x hx => absurd hx (by omega)⟩)))); done) | (and_intros <;> first | (with_reducible trivial) | omega | assumption | (intro x y _ _; (repeat (first | exact nfR_enI | exact nfR_lit (by simp only [nrefL, nref, and_self]) | (refine nfR_app (fun x y => ?_) (fun x y => ?_)) | (refine nfR_ins (fun x y => ?_) (fun x y => ?_)) | (refine nfR_del (fun x y => ?_)) | (refine nfR_upc (fun x y => ?_) (by simp only [nrefL, nref, and_self])) | (refine nfR_ovw (fun x y => ?_) (fun x y => ?_)) | exact nfR_getL (by simp only [nrefL, nref, and_self]))); done) | (intro x hx; (repeat (first | (exfalso; omega) | (rcases x with _ | x; first | (and_intros <;> (first | exact rfl | exact trivial | exact ⟨Or.inr rfl, Fit_enI⟩ | exact Fit_enI | exact Or.inr rfl | exact Or.inl rfl | exact fun x hx => absurd hx (by omega) | exact ⟨Or.inl rfl, fun x hx => absurd hx (by omega)⟩)) | (first | exact rfl | exact trivial | exact ⟨Or.inr rfl, Fit_enI⟩ | exact Fit_enI | exact Or.inr rfl | exact Or.inl rfl | exact fun x hx => absurd hx (by omega) | exact ⟨Or.inl rfl, fun x hx => absurd hx (by omega)⟩)))); done))) | grind))
      refine condM rfl trivial (fun hc => ?_) (fun hc => ?_)
      · replace H := cond_t hc H
        refine sq ctNo_ok ?_
        simp only [go_sem, Nat.reduceLeDiff, Nat.reduceLT, Nat.reduceAdd, Nat.reduceMul, Nat.reduceSub, Nat.reduceEqDiff, Nat.reduceBEq, Int.reduceToNat, reduceCtorEq]
        refine rg ctNo_ok ?_
        simp only [go_sem, Nat.reduceLeDiff, Nat.reduceLT, Nat.reduceAdd, Nat.reduceMul, Nat.reduceSub, Nat.reduceEqDiff, Nat.reduceBEq, Int.reduceToNat, reduceCtorEq]
        have H := hn2_1 _ (Option.some.inj H).symm
        obtain rfl := Option.some.inj H
        first | rfl | simp only [Bool.and_false, Bool.false_and, Bool.and_true, Bool.true_and]
      replace H := cond_f hc H
      refine rg ctNo_ok ?_
      simp only [go_sem, Nat.reduceLeDiff, Nat.reduceLT, Nat.reduceAdd, Nat.reduceMul, Nat.reduceSub, Nat.reduceEqDiff, Nat.reduceBEq, Int.reduceToNat, reduceCtorEq]
      refine rg ctNo_ok ?_
      simp only [go_sem, Nat.reduceLeDiff, Nat.reduceLT, Nat.reduceAdd, Nat.reduceMul, Nat.reduceSub, Nat.reduceEqDiff, Nat.reduceBEq, Int.reduceToNat, reduceCtorEq]
      refine ⟨_, (Option.some.inj H).symm, ?_⟩
      refine SubF_of ⟨[], ?_, ?_, by rfl, by rfl⟩
      · simp [CvL, Cv, getM]
      · trivial
    · try dsimp only at H ⊢
      try simp only [m_normal, k_normal, b_normal, kL_normal, r_normal]
      refine sq ctNo_ok ?_
      simp only [go_sem, Nat.reduceLeDiff, Nat.reduceLT, Nat.reduceAdd, Nat.reduceMul, Nat.reduceSub, Nat.reduceEqDiff, Nat.reduceBEq, Int.reduceToNat, reduceCtorEq]
      refine rg ctNo_ok ?_
      simp only [go_sem, Nat.reduceLeDiff, Nat.reduceLT, Nat.reduceAdd, Nat.reduceMul, Nat.reduceSub, Nat.reduceEqDiff, Nat.reduceBEq, Int.reduceToNat, reduceCtorEq]
      obtain rfl := Option.some.inj H
      first | rfl | simp only [Bool.and_false, Bool.false_and, Bool.and_true, Bool.true_and]
  · cases hb
/-! hotspot/hotspotref34.Asleep -/
noncomputable def F49_L1 (p0 : TBuffer) (v1_1 : Int) : Option (Lp (Int) ((Unit) ⊕ (Bool))) :=
  bif (bLt v1_1 (p0.List.length : Nat)) then (need (inb v1_1 p0.List.length) <| bif (gd p0.List v1_1.toNat).Asleep then (some (.done (.inr true))) else (some (.next (wr .i64 (v1_1 + 1))))) else (some (.done (.inl ())))
noncomputable def F49 (p0 : TBuffer) : Option (Bool) :=
  lp (loopD (fun s => F49_L1 p0 s) 0) (fun e => some false) some
noncomputable def body49 : List AV → AR
  | [v0] => .pure (aK 4 k_TBuffer v0 ∧ (F49 (g_TBuffer (aL v0))).isSome = true) (.bool (gt (F49 (g_TBuffer (aL v0)))))
  | _ => .fail
set_option maxHeartbeats 4000000 in
set_option maxRecDepth 20000 in
theorem ok49 : FnOk Try.prog 49 (pureC body49) := by
  refine pure_fnM body49 (rs := [.tmp 2]) Try.func49 (by kernel_rfl) rfl rfl ?_
  intro l ob v hb hob
  unfold body49 at hb
  split at hb
  · rename_i v0
    injection hb with q1 q2; subst q1 q2
    obtain ⟨hk0, hob⟩ := hob
    obtain ⟨r, H⟩ := Option.isSome_iff_exists.1 hob
    rw [H, gt_some]
    have hw0 := wA_TBuffer hk0
    generalize g_TBuffer (aL v0) = p0 at H hw0
    refine ⟨[.agg [.int .i64 p0.Limit, .int .i64 p0.Stay, .ro 3 p0.List.length false (enR c_TSleeper p0.List), .ro 43 p0.Group.length false (enR c_TStored p0.Group)]], _, (fun E vs F => FR_wk1 hw0.1 F (fun vs F => F)), rfl, rfl, ?_⟩
    rw [Try.ntmps49]
    simp only [List.length_cons, List.length_nil, Nat.reduceAdd, Nat.reduceSub, List.replicate_succ, List.replicate_zero, List.cons_append, List.nil_append]
    unfold F49 at H
    try dsimp only at H
    refine sq ctNo_ok ?_
    simp only [go_sem, Nat.reduceLeDiff, Nat.reduceLT, Nat.reduceAdd, Nat.reduceMul, Nat.reduceSub, Nat.reduceEqDiff, Nat.reduceBEq, Int.reduceToNat, reduceCtorEq]
    refine seqM ?_
    refine sq ctNo_ok ?_
    simp only [go_sem, Nat.reduceLeDiff, Nat.reduceLT, Nat.reduceAdd, Nat.reduceMul, Nat.reduceSub, Nat.reduceEqDiff, Nat.reduceBEq, Int.reduceToNat, reduceCtorEq]
    refine blkM ?_
    refine loop_den (fun s : Int => [.top, .ptr 0 0 0 0, .top, .int .i64 s, .top, .top, .top, .top, .top, .top, .top, .top, .top, .top, .top, .top, .top]) (fun s => [.lit 25 [.int .i64 p0.Limit, .int .i64 p0.Stay, .ro 3 p0.List.length false (enR c_TSleeper p0.List), .ro 43 p0.Group.length false (enR c_TStored p0.Group)]]) (fun e : Unit => [.top, .top, .top, .top, .top, .top, .top, .top, .top, .top, .top, .top, .top, .top, .top, .top, .top]) (fun e => [.dead]) H ?_ (fun v1_1 o H hn1_1 hn2_1 => ?_) (fun e H => ?_)
    · refine SubF_of ⟨[some 0], ?_, ?_, by rfl, by rfl⟩
      · simp [CvL, Cv, getM]
      · exact ⟨(by simp [CvB, CvL, Cv, blkAt, geth, getM]), trivial⟩
    · unfold F49_L1 at H
      try dsimp only at H ⊢
      refine seqM ?_
      refine sq ctNo_ok ?_
      simp only [go_sem, Nat.reduceLeDiff, Nat.reduceLT, Nat.reduceAdd, Nat.reduceMul, Nat.reduceSub, Nat.reduceEqDiff, Nat.reduceBEq, Int.reduceToNat, reduceCtorEq]
      repeat ((with_reducible refine And.intro ?_ ?_); focus (first | (with_reducible trivial) | omega | (intro x y _ _; (repeat (first | exact nfR_enI | exact nfR_lit (by simp only [nrefL, nref, and_self]) | (refine nfR_app (fun x y => ?_) (fun x y => ?_)) | (refine nfR_ins (fun x y => ?_) (fun x y => ?_)) | (refine nfR_del (fun x y => ?_)) | (refine nfR_upc (fun x y => ?_) (by simp only [nrefL, nref, and_self])) | (refine nfR_ovw (fun x y => ?_) (fun x y => ?_)) | exact nfR_getL (by simp only [nrefL, nref, and_self]))); done) | (intro x hx; (repeat (first | (exfalso; omega) | (rcases x with _ | x; first | (and_intros <;> (first | exact rfl | exact trivial | exact ⟨Or.inr rfl, Fit_enI⟩ | exact Fit_enI | exact Or.inr rfl | exact Or.inl rfl | exact fun x hx => absurd hx (by omega) | exact ⟨Or.inl rfl, fun x hx => absurd hx (by omega)⟩)) | (first | exact rfl | exact trivial | exact ⟨Or.inr rfl, Fit_enI⟩ | exact Fit_enI | exact Or.inr rfl | exact Or.inl rfl | exact fun x hx => absurd hx (by omega) | exact ⟨Or.inl rfl, fun x hx => absurd hx (by omega)⟩)))); done) | (and_intros <;> first | (with_reducible trivial) | omega | assumption | (intro x y _ _; (repeat (first | exact nfR_enI | exact nfR_lit (by simp only [nrefL, nref, and_self]) | (refine nfR_app (fun x y => ?_) (fun x y => ?_)) | (refine nfR_ins (fun x y => ?_) (fun x y => ?_)) | (refine nfR_del (fun x y => ?_)) | (refine nfR_upc (fun x y => ?_) (by simp only [nrefL, nref, and_self])) | (refine nfR_ovw (fun x y => ?_) (fun x y => ?_)) | exact nfR_getL (by simp only [nrefL, nref, and_self]))); done) | (intro x hx; (repeat (first | (exfalso; omega) | (rcases x with _ | x; first | (and_intros <;> (first | exact rfl | exact trivial | exact ⟨Or.inr rfl, Fit_enI⟩ | exact Fit_enI | exact Or.inr rfl | exact Or.inl rfl | exact fun x hx => absurd hx (by omega) | exact ⟨Or.inl rfl, fun x hx => absurd hx (by omega)⟩)) | (first | exact rfl | exact trivial | exact ⟨Or.inr rfl, Fit_enI⟩ | exact Fit_enI | exact Or.inr rfl | exact Or.inl rfl | exact fun x hx => absurd hx (by omega) | exact ⟨Or.inl rfl, fun x hx => absurd hx (by omega)⟩)))); done)) | grind))
      refine condM' rfl trivial (fun hc => ?_) (fun hc => ?_)
      · replace H := cond_f hc H
        refine rg ctNo_ok ?_
        simp only [go_sem, Nat.reduceLeDiff, Nat.reduceLT, Nat.reduceAdd, Nat.reduceMul, Nat.reduceSub, Nat.reduceEqDiff, Nat.reduceBEq, Int.reduceToNat, reduceCtorEq]
        refine ⟨_, (Option.some.inj H).symm, ?_⟩
        refine SubF_of ⟨[some 0], ?_, ?_, by rfl, by rfl⟩
        · simp [CvL, Cv, getM]
        · exact ⟨CvB_dead, trivial⟩
      replace H := cond_t hc H
      refine rg ctNo_ok ?_
      simp only [go_sem, Nat.reduceLeDiff, Nat.reduceLT, Nat.reduceAdd, Nat.reduceMul, Nat.reduceSub, Nat.reduceEqDiff, Nat.reduceBEq, Int.reduceToNat, reduceCtorEq]
      refine seqM ?_
      refine blkM ?_
      refine seqM ?_
      obtain ⟨f1, H⟩ := need_some.1 H
      replace f1 := inb_iff.1 f1
      refine rg ctNo_ok ?_
      simp only [go_sem, Nat.reduceLeDiff, Nat.reduceLT, Nat.reduceAdd, Nat.reduceMul, Nat.reduceSub, Nat.reduceEqDiff, Nat.reduceBEq, Int.reduceToNat, reduceCtorEq, f1]
      repeat ((with_reducible refine And.intro ?_ ?_); focus (first | (with_reducible trivial) | omega | grind))
      refine condM rfl trivial (fun hc => ?_) (fun hc => ?_)
      · replace H := cond_t hc H
        refine sq ctNo_ok ?_
        simp only [go_sem, Nat.reduceLeDiff, Nat.reduceLT, Nat.reduceAdd, Nat.reduceMul, Nat.reduceSub, Nat.reduceEqDiff, Nat.reduceBEq, Int.reduceToNat, reduceCtorEq]
        refine rg ctNo_ok ?_
        simp only [go_sem, Nat.reduceLeDiff, Nat.reduceLT, Nat.reduceAdd, Nat.reduceMul, Nat.reduceSub, Nat.reduceEqDiff, Nat.reduceBEq, Int.reduceToNat, reduceCtorEq]
        have H := hn2_1 _ (Option.some.inj H).symm
        obtain rfl := Option.some.inj H
        first | rfl | simp only [Bool.and_false, Bool.false_and, Bool.and_true, Bool.true_and]
      replace H := cond_f hc H
      refine rg ctNo_ok ?_
      simp only [go_sem, Nat.reduceLeDiff, Nat.reduceLT, Nat.reduceAdd, Nat.reduceMul, Nat.reduceSub, Nat.reduceEqDiff, Nat.reduceBEq, Int.reduceToNat, reduceCtorEq]
      refine rg ctNo_ok ?_
      simp only [go_sem, Nat.reduceLeDiff, Nat.reduceLT, Nat.reduceAdd, Nat.reduceMul, Nat.reduceSub, Nat.reduceEqDiff, Nat.reduceBEq, Int.reduceToNat, reduceCtorEq]
      refine ⟨_, (Option.some.inj H).symm, ?_⟩
      refine SubF_of ⟨[some 0], ?_, ?_, by rfl, by rfl⟩
      · simp [CvL, Cv, getM]
      · exact ⟨(by simp [CvB, CvL, Cv, blkAt, geth, getM]), trivial⟩
    · try dsimp only at H ⊢
      try simp only [m_normal, k_normal, b_normal, kL_normal, r_normal]
      refine sq ctNo_ok ?_
      simp only [go_sem, Nat.reduceLeDiff, Nat.reduceLT, Nat.reduceAdd, Nat.reduceMul, Nat.reduceSub, Nat.reduceEqDiff, Nat.reduceBEq, Int.reduceToNat, reduceCtorEq]
      refine rg ctNo_ok ?_
      simp only [go_sem, Nat.reduceLeDiff, Nat.reduceLT, Nat.reduceAdd, Nat.reduceMul, Nat.reduceSub, Nat.reduceEqDiff, Nat.reduceBEq, Int.reduceToNat, reduceCtorEq]
      obtain rfl := Option.some.inj H
      first | rfl | simp only [Bool.and_false, Bool.false_and, Bool.and_true, Bool.true_and]
  · cases hb
/-! hotspot/hotspotref34.Valid -/
noncomputable def ct19t0 : Ct := tab [(48, pureC body48)]
theorem ct19t0_ok : CtOk Try.prog ct19t0 := tab_cons ok48 <| tab_nil
theorem ct19t0_48 (l : List AV) (h : List ABlk) : ct19t0 48 l h = pureC body48 l h := rfl
noncomputable def ct19t1 : Ct := tab [(49, pureC body49)]
theorem ct19t1_ok : CtOk Try.prog ct19t1 := tab_cons ok49 <| tab_nil
theorem ct19t1_49 (l : List AV) (h : List ABlk) : ct19t1 49 l h = pureC body49 l h := rfl
noncomputable def F19_L1 (p0 : TBuffer) (v1_1 : Int) : Option (Lp (Int) ((Unit) ⊕ (Bool))) :=
  bif (bLt v1_1 (p0.List.length : Nat)) then (need (inb v1_1 p0.List.length) <| need (bif ((!((bLt ((gd p0.List v1_1.toNat).Aid) 1) || (bLt 255 ((gd p0.List v1_1.toNat).Aid)))) && (bLt 0 v1_1)) then inb (wr .i64 (v1_1 - 1)) p0.List.length else true) <| need (bif (!(((bLt ((gd p0.List v1_1.toNat).Aid) 1) || (bLt 255 ((gd p0.List v1_1.toNat).Aid))) || ((bLt 0 v1_1) && (bLe ((gd p0.List v1_1.toNat).Aid) ((gd p0.List ((wr .i64 (v1_1 - 1)).toNat)).Aid))))) then ((F48 ((gd p0.List v1_1.toNat).Held) p0.Limit 3).isSome) else true) <| bif (((((bLt ((gd p0.List v1_1.toNat).Aid) 1) || (bLt 255 ((gd p0.List v1_1.toNat).Aid))) || ((bLt 0 v1_1) && (bLe ((gd p0.List v1_1.toNat).Aid) ((gd p0.List ((wr .i64 (v1_1 - 1)).toNat)).Aid)))) || (!(gt (F48 ((gd p0.List v1_1.toNat).Held) p0.Limit 3)))) || ((!((gd p0.List v1_1.toNat).Asleep)) && (bLt 0 (((gd p0.List v1_1.toNat).Held).length : Nat)))) then (some (.done (.inr false))) else (some (.next (wr .i64 (v1_1 + 1))))) else (some (.done (.inl ())))
noncomputable def F19 (p0 : TBuffer) : Option (Bool) :=
  need (bif (!(((((bLt p0.Limit 1) || (bLt 64 p0.Limit)) || (bLt p0.Stay 1)) || (bLt 1073741824 p0.Stay)) || (bLt 32 (p0.List.length : Nat)))) then ((F48 p0.Group p0.Limit 0).isSome) else true) <| bif ((((((bLt p0.Limit 1) || (bLt 64 p0.Limit)) || (bLt p0.Stay 1)) || (bLt 1073741824 p0.Stay)) || (bLt 32 (p0.List.length : Nat))) || (!(gt (F48 p0.Group p0.Limit 0)))) then (some false) else (lp (loopD (fun s => F19_L1 p0 s) 0) (fun e => need (bif (!(bEq (p0.Group.length : Nat) 0)) then ((F49 p0).isSome) else true) <| some ((bEq (p0.Group.length : Nat) 0) || (gt (F49 p0)))) some)
noncomputable def body19 : List AV → AR
  | [v0] => .pure (aK 4 k_TBuffer v0 ∧ (F19 (g_TBuffer (aL v0))).isSome = true) (.bool (gt (F19 (g_TBuffer (aL v0)))))
  | _ => .fail
set_option maxHeartbeats 4000000 in
set_option maxRecDepth 20000 in
theorem ok19 : FnOk Try.prog 19 (pureC body19) := by
  refine pure_fnM body19 (rs := [.tmp 2]) Try.func19 (by kernel_rfl) rfl rfl ?_
  intro l ob v hb hob
  unfold body19 at hb
  split at hb
  · rename_i v0
    injection hb with q1 q2; subst q1 q2
    obtain ⟨hk0, hob⟩ := hob
    obtain ⟨r, H⟩ := Option.isSome_iff_exists.1 hob
    rw [H, gt_some]
    have hw0 := wA_TBuffer hk0
    generalize g_TBuffer (aL v0) = p0 at H hw0
    refine ⟨[.agg [.int .i64 p0.Limit, .int .i64 p0.Stay, .ro 3 p0.List.length false (enR c_TSleeper p0.List), .ro 43 p0.Group.length false (enR c_TStored p0.Group)]], _, (fun E vs F => FR_wk1 hw0.1 F (fun vs F => F)), rfl, rfl, ?_⟩
    rw [Try.ntmps19]
    simp only [List.length_cons, List.length_nil, Nat.reduceAdd, Nat.reduceSub, List.replicate_succ, List.replicate_zero, List.cons_append, List.nil_append]
    unfold F19 at H
    try dsimp only at H
    refine sq ctNo_ok ?_
    simp only [go_sem, Nat.reduceLeDiff, Nat.reduceLT, Nat.reduceAdd, Nat.reduceMul, Nat.reduceSub, Nat.reduceEqDiff, Nat.reduceBEq, Int.reduceToNat, reduceCtorEq]
    refine seqM ?_
    refine seqM ?_
    obtain ⟨f1, H⟩ := need_some.1 H
    replace f1 := g_iff.1 f1
    refine rg ct19t0_ok ?_
    simp only [go_sem, Nat.reduceLeDiff, Nat.reduceLT, Nat.reduceAdd, Nat.reduceMul, Nat.reduceSub, Nat.reduceEqDiff, Nat.reduceBEq, Int.reduceToNat, reduceCtorEq, ct19t0_48, body48]
    repeat ((with_reducible refine And.intro ?_ ?_); focus (first | (with_reducible trivial) | omega | exact f1 | (intro g; have q := f1 (by first | exact g | simpa using g); first | exact q | exact ⟨q.1, q.2.1⟩ | exact q.2.2 | omega | exact ⟨g, q⟩ | exact ⟨trivial, q⟩) | (intro x y _ _; (repeat (first | exact nfR_enI | exact nfR_lit (by simp only [nrefL, nref, and_self]) | (refine nfR_app (fun x y => ?_) (fun x y => ?_)) | (refine nfR_ins (fun x y => ?_) (fun x y => ?_)) | (refine nfR_del (fun x y => ?_)) | (refine nfR_upc (fun x y => ?_) (by simp only [nrefL, nref, and_self])) | (refine nfR_ovw (fun x y => ?_) (fun x y => ?_)) | exact nfR_getL (by simp only [nrefL, nref, and_self]))); done) | (intro x hx; (repeat (first | (exfalso; omega) | (rcases x with _ | x; first | (and_intros <;> (first | exact rfl | exact trivial | exact ⟨Or.inr rfl, Fit_enI⟩ | exact Fit_enI | exact Or.inr rfl | exact Or.inl rfl | exact fun x hx => absurd hx (by omega) | exact ⟨Or.inl rfl, fun x hx => absurd hx (by omega)⟩)) | (first | exact rfl | exact trivial | exact ⟨Or.inr rfl, Fit_enI⟩ | exact Fit_enI | exact Or.inr rfl | exact Or.inl rfl | exact fun x hx => absurd hx (by omega) | exact ⟨Or.inl rfl, fun x hx => absurd hx (by omega)⟩)))); done) | (and_intros <;> first | (with_reducible trivial) | omega | assumption | (intro x y _ _; (repeat (first | exact nfR_enI | exact nfR_lit (by simp only [nrefL, nref, and_self]) | (refine nfR_app (fun x y => ?_) (fun x y => ?_)) | (refine nfR_ins (fun x y => ?_) (fun x y => ?_)) | (refine nfR_del (fun x y => ?_)) | (refine nfR_upc (fun x y => ?_) (by simp only [nrefL, nref, and_self])) | (refine nfR_ovw (fun x y => ?_) (fun x y => ?_)) | exact nfR_getL (by simp only [nrefL, nref, and_self]))); done) | (intro x hx; (repeat (first | (exfalso; omega) | (rcases x with _ | x; first | (and_intros <;> (first | exact rfl | exact trivial | exact ⟨Or.inr rfl, Fit_enI⟩ | exact Fit_enI | exact Or.inr rfl | exact Or.inl rfl | exact fun x hx => absurd hx (by omega) | exact ⟨Or.inl rfl, fun x hx => absurd hx (by omega)⟩)) | (first | exact rfl | exact trivial | exact ⟨Or.inr rfl, Fit_enI⟩ | exact Fit_enI | exact Or.inr rfl | exact Or.inl rfl | exact fun x hx => absurd hx (by omega) | exact ⟨Or.inl rfl, fun x hx => absurd hx (by omega)⟩)))); done)) | (intro g; and_intros <;> first | (with_reducible trivial) | assumption | exact f1 g | (intro x y _ _; (repeat (first | exact nfR_enI | exact nfR_lit (by simp only [nrefL, nref, and_self]) | (refine nfR_app (fun x y => ?_) (fun x y => ?_)) | (refine nfR_ins (fun x y => ?_) (fun x y => ?_)) | (refine nfR_del (fun x y => ?_)) | (refine nfR_upc (fun x y => ?_) (by simp only [nrefL, nref, and_self])) | (refine nfR_ovw (fun x y => ?_) (fun x y => ?_)) | exact nfR_getL (by simp only [nrefL, nref, and_self]))); done) | (intro x hx; (repeat (first | (exfalso; omega) | (rcases x with _ | x; first | (and_intros <;> (first | exact rfl | exact trivial | exact ⟨Or.inr rfl, Fit_enI⟩ | exact Fit_enI | exact Or.inr rfl | exact Or.inl rfl | exact fun x hx => absurd hx (by omega) | exact ⟨Or.inl rfl, fun x hx => absurd hx (by omega)⟩)) | (first | exact rfl | exact trivial | exact ⟨Or.inr rfl, Fit_enI⟩ | exact Fit_enI | exact Or.inr rfl | exact Or.inl rfl | exact fun x hx => absurd hx (by omega) | exact ⟨Or.inl rfl, fun x hx => absurd hx (by omega)⟩)))); done) | (and_intros <;> first | (with_reducible trivial) | omega | assumption | (intro x y _ _; (repeat (first | exact nfR_enI | exact nfR_lit (by simp only [nrefL, nref, and_self]) | (refine nfR_app (fun x y => ?_) (fun x y => ?_)) | (refine nfR_ins (fun x y => ?_) (fun x y => ?_)) | (refine nfR_del (fun x y => ?_)) | (refine nfR_upc (fun x y => ?_) (by simp only [nrefL, nref, and_self])) | (refine nfR_ovw (fun x y => ?_) (fun x y => ?_)) | exact nfR_getL (by simp only [nrefL, nref, and_self]))); done) | (intro x hx; (repeat (first | (exfalso; omega) | (rcases x with _ | x; first | (and_intros <;> (first | exact rfl | exact trivial | exact ⟨Or.inr rfl, Fit_enI⟩ | exact Fit_enI | exact Or.inr rfl | exact Or.inl rfl | exact fun x hx => absurd hx (by omega) | exact ⟨Or.inl rfl, fun x hx => absurd hx (by omega)⟩)) | (first | exact rfl | exact trivial | exact ⟨Or.inr rfl, Fit_enI⟩ | exact Fit_enI | exact Or.inr rfl | exact Or.inl rfl | exact fun x hx => absurd hx (by omega) | exact ⟨Or.inl rfl, fun x hx => absurd hx (by omega)⟩)))); done))) | grind))
    refine condM rfl trivial (fun hc => ?_) (fun hc => ?_)
    · replace H := cond_t hc H
      refine sq ctNo_ok ?_
      simp only [go_sem, Nat.reduceLeDiff, Nat.reduceLT, Nat.reduceAdd, Nat.reduceMul, Nat.reduceSub, Nat.reduceEqDiff, Nat.reduceBEq, Int.reduceToNat, reduceCtorEq]
      refine rg ctNo_ok ?_
      simp only [go_sem, Nat.reduceLeDiff, Nat.reduceLT, Nat.reduceAdd, Nat.reduceMul, Nat.reduceSub, Nat.reduceEqDiff, Nat.reduceBEq, Int.reduceToNat, reduceCtorEq]
      obtain rfl := Option.some.inj H
      first | rfl | simp only [Bool.and_false, Bool.false_and, Bool.and_true, Bool.true_and]
    replace H := cond_f hc H
    refine rg ctNo_ok ?_
    simp only [go_sem, Nat.reduceLeDiff, Nat.reduceLT, Nat.reduceAdd, Nat.reduceMul, Nat.reduceSub, Nat.reduceEqDiff, Nat.reduceBEq, Int.reduceToNat, reduceCtorEq]
    refine seqM ?_
    refine sq ctNo_ok ?_
    simp only [go_sem, Nat.reduceLeDiff, Nat.reduceLT, Nat.reduceAdd, Nat.reduceMul, Nat.reduceSub, Nat.reduceEqDiff, Nat.reduceBEq, Int.reduceToNat, reduceCtorEq]
    refine blkM ?_
    refine loop_den (fun s : Int => (.top :: .ptr 0 0 0 0 :: .top :: .int .i64 s :: .top :: .top :: .top :: .top :: .top :: .top :: .top :: .top :: .top :: .top :: .top :: .top :: .top :: .top :: .top :: .top :: .top :: .top :: .top :: .top :: .top :: .top :: .top :: .top :: .top :: .top :: .top :: .top :: .top :: .top :: .top :: .top :: .top :: .top :: .top :: .top :: .top :: .top :: .top :: .top :: .top :: .top :: .top :: .top :: .top :: .top :: .top :: .top :: .top :: .top :: .top :: .top :: .top :: .top :: .top :: .top :: .top :: .top :: .top :: .top :: .top :: .top :: .top :: .top :: .top :: .top :: .top :: .top :: .top :: .top :: .top :: .top :: .top :: .top :: .top :: .top :: .top :: .top :: .top :: .top :: .top :: .top :: .top :: .top :: .top :: .top :: .top :: .top :: .top :: .top :: .top :: .top :: .top :: .top :: .top :: .top :: [])) (fun s => [.lit 25 [.int .i64 p0.Limit, .int .i64 p0.Stay, .ro 3 p0.List.length false (enR c_TSleeper p0.List), .ro 43 p0.Group.length false (enR c_TStored p0.Group)]]) (fun e : Unit => (.top :: .ptr 0 0 0 0 :: .top :: .top :: .top :: .top :: .top :: .top :: .top :: .top :: .top :: .top :: .top :: .top :: .top :: .top :: .top :: .top :: .top :: .top :: .top :: .top :: .top :: .top :: .top :: .top :: .top :: .top :: .top :: .top :: .top :: .top :: .top :: .top :: .top :: .top :: .top :: .top :: .top :: .top :: .top :: .top :: .top :: .top :: .top :: .top :: .top :: .top :: .top :: .top :: .top :: .top :: .top :: .top :: .top :: .top :: .top :: .top :: .top :: .top :: .top :: .top :: .top :: .top :: .top :: .top :: .top :: .top :: .top :: .top :: .top :: .top :: .top :: .top :: .top :: .top :: .top :: .top :: .top :: .top :: .top :: .top :: .top :: .top :: .top :: .top :: .top :: .top :: .top :: .top :: .top :: .top :: .top :: .top :: .top :: .top :: .top :: .top :: .top :: .top :: [])) (fun e => [.lit 25 [.int .i64 p0.Limit, .int .i64 p0.Stay, .ro 3 p0.List.length false (enR c_TSleeper p0.List), .ro 43 p0.Group.length false (enR c_TStored p0.Group)]]) H ?_ (fun v1_1 o H hn1_1 hn2_1 => ?_) (fun e H => ?_)
    · refine SubF_of ⟨[some 0], ?_, ?_, by rfl, by rfl⟩
      · simp [CvL, Cv, getM]
      · exact ⟨(by simp [CvB, CvL, Cv, blkAt, geth, getM]), trivial⟩
    · unfold F19_L1 at H
      try dsimp only at H ⊢
      refine seqM ?_
      refine sq ctNo_ok ?_
      simp only [go_sem, Nat.reduceLeDiff, Nat.reduceLT, Nat.reduceAdd, Nat.reduceMul, Nat.reduceSub, Nat.reduceEqDiff, Nat.reduceBEq, Int.reduceToNat, reduceCtorEq]
      repeat ((with_reducible refine And.intro ?_ ?_); focus (first | (with_reducible trivial) | omega | (intro x y _ _; (repeat (first | exact nfR_enI | exact nfR_lit (by simp only [nrefL, nref, and_self]) | (refine nfR_app (fun x y => ?_) (fun x y => ?_)) | (refine nfR_ins (fun x y => ?_) (fun x y => ?_)) | (refine nfR_del (fun x y => ?_)) | (refine nfR_upc (fun x y => ?_) (by simp only [nrefL, nref, and_self])) | (refine nfR_ovw (fun x y => ?_) (fun x y => ?_)) | exact nfR_getL (by simp only [nrefL, nref, and_self]))); done) | (intro x hx; (repeat (first | (exfalso; omega) | (rcases x with _ | x; first | (and_intros <;> (first | exact rfl | exact trivial | exact ⟨Or.inr rfl, Fit_enI⟩ | exact Fit_enI | exact Or.inr rfl | exact Or.inl rfl | exact fun x hx => absurd hx (by omega) | exact ⟨Or.inl rfl, fun x hx => absurd hx (by omega)⟩)) | (first | exact rfl | exact trivial | exact ⟨Or.inr rfl, Fit_enI⟩ | exact Fit_enI | exact Or.inr rfl | exact Or.inl rfl | exact fun x hx => absurd hx (by omega) | exact ⟨Or.inl rfl, fun x hx => absurd hx (by omega)⟩)))); done) | (and_intros <;> first | (with_reducible trivial) | omega | assumption | (intro x y _ _; (repeat (first | exact nfR_enI | exact nfR_lit (by simp only [nrefL, nref, and_self]) | (refine nfR_app (fun x y => ?_) (fun x y => ?_)) | (refine nfR_ins (fun x y => ?_) (fun x y => ?_)) | (refine nfR_del (fun x y => ?_)) | (refine nfR_upc (fun x y => ?_) (by simp only [nrefL, nref, and_self])) | (refine nfR_ovw (fun x y => ?_) (fun x y => ?_)) | exact nfR_getL (by simp only [nrefL, nref, and_self]))); done) | (intro x hx; (repeat (first | (exfalso; omega) | (rcases x with _ | x; first | (and_intros <;> (first | exact rfl | exact trivial | exact ⟨Or.inr rfl, Fit_enI⟩ | exact Fit_enI | exact Or.inr rfl | exact Or.inl rfl | exact fun x hx => absurd hx (by omega) | exact ⟨Or.inl rfl, fun x hx => absurd hx (by omega)⟩)) | (first | exact rfl | exact trivial | exact ⟨Or.inr rfl, Fit_enI⟩ | exact Fit_enI | exact Or.inr rfl | exact Or.inl rfl | exact fun x hx => absurd hx (by omega) | exact ⟨Or.inl rfl, fun x hx => absurd hx (by omega)⟩)))); done)) | grind))
      refine condM' rfl trivial (fun hc => ?_) (fun hc => ?_)
      · replace H := cond_f hc H
        refine rg ctNo_ok ?_
        simp only [go_sem, Nat.reduceLeDiff, Nat.reduceLT, Nat.reduceAdd, Nat.reduceMul, Nat.reduceSub, Nat.reduceEqDiff, Nat.reduceBEq, Int.reduceToNat, reduceCtorEq]
        refine ⟨_, (Option.some.inj H).symm, ?_⟩
        refine SubF_of ⟨[some 0], ?_, ?_, by rfl, by rfl⟩
        · simp [CvL, Cv, getM]
        · exact ⟨(by simp [CvB, CvL, Cv, blkAt, geth, getM]), trivial⟩
      replace H := cond_t hc H
      refine rg ctNo_ok ?_
      simp only [go_sem, Nat.reduceLeDiff, Nat.reduceLT, Nat.reduceAdd, Nat.reduceMul, Nat.reduceSub, Nat.reduceEqDiff, Nat.reduceBEq, Int.reduceToNat, reduceCtorEq]
      refine seqM ?_
      refine blkM ?_
      refine seqM ?_
      obtain ⟨f2, H⟩ := need_some.1 H
      replace f2 := inb_iff.1 f2
      refine rg ctNo_ok ?_
      simp only [go_sem, Nat.reduceLeDiff, Nat.reduceLT, Nat.reduceAdd, Nat.reduceMul, Nat.reduceSub, Nat.reduceEqDiff, Nat.reduceBEq, Int.reduceToNat, reduceCtorEq, f2]
      repeat ((with_reducible refine And.intro ?_ ?_); focus (first | (with_reducible trivial) | omega | grind))
      refine seqM ?_
      obtain ⟨f3, H⟩ := need_some.1 H
      replace f3 := g_iff.1 f3
      replace f3 := fun g => inb_iff.1 (f3 g)
      obtain ⟨f4, H⟩ := need_some.1 H
      replace f4 := g_iff.1 f4
      refine draw_quiet shT_ok ct19t0_ok (by kernel_rfl) (by kernel_rfl) ?_
      simp only [go_sem, Nat.reduceLeDiff, Nat.reduceLT, Nat.reduceAdd, Nat.reduceMul, Nat.reduceSub, Nat.reduceEqDiff, Nat.reduceBEq, Int.reduceToNat, reduceCtorEq, ct19t0_48, body48]
      repeat ((with_reducible refine And.intro ?_ ?_); focus (first | (with_reducible trivial) | omega | exact f3 | exact f4 | (intro g; have q := f3 (by first | exact g | simpa using g); first | exact q | exact ⟨q.1, q.2.1⟩ | exact q.2.2 | omega | exact ⟨g, q⟩ | exact ⟨trivial, q⟩) | (intro g; have q := f4 (by first | exact g | simpa using g); first | exact q | exact ⟨q.1, q.2.1⟩ | exact q.2.2 | omega | exact ⟨g, q⟩ | exact ⟨trivial, q⟩) | (intro x y _ _; (repeat (first | exact nfR_enI | exact nfR_lit (by simp only [nrefL, nref, and_self]) | (refine nfR_app (fun x y => ?_) (fun x y => ?_)) | (refine nfR_ins (fun x y => ?_) (fun x y => ?_)) | (refine nfR_del (fun x y => ?_)) | (refine nfR_upc (fun x y => ?_) (by simp only [nrefL, nref, and_self])) | (refine nfR_ovw (fun x y => ?_) (fun x y => ?_)) | exact nfR_getL (by simp only [nrefL, nref, and_self]))); done) | (intro x hx; (repeat (first | (exfalso; omega) | (rcases x with _ | x; first | (and_intros <;> (first | exact rfl | exact trivial | exact ⟨Or.inr rfl, Fit_enI⟩ | exact Fit_enI | exact Or.inr rfl | exact Or.inl rfl | exact fun x hx => absurd hx (by omega) | exact ⟨Or.inl rfl, fun x hx => absurd hx (by omega)⟩)) | (first | exact rfl | exact trivial | exact ⟨Or.inr rfl, Fit_enI⟩ | exact Fit_enI | exact Or.inr rfl | exact Or.inl rfl | exact fun x hx => absurd hx (by omega) | exact ⟨Or.inl rfl, fun x hx => absurd hx (by omega)⟩)))); done) | (and_intros <;> first | (with_reducible trivial) | omega | assumption | (intro x y _ _; (repeat (first | exact nfR_enI | exact nfR_lit (by simp only [nrefL, nref, and_self]) | (refine nfR_app (fun x y => ?_) (fun x y => ?_)) | (refine nfR_ins (fun x y => ?_) (fun x y => ?_)) | (refine nfR_del (fun x y => ?_)) | (refine nfR_upc (fun x y => ?_) (by simp only [nrefL, nref, and_self])) | (refine nfR_ovw (fun x y => ?_) (fun x y => ?_)) | exact nfR_getL (by simp only [nrefL, nref, and_self]))); done) | (intro x hx; (repeat (first | (exfalso; omega) | (rcases x with _ | x; first | (and_intros <;> (first | exact rfl | exact trivial | exact ⟨Or.inr rfl, Fit_enI⟩ | exact Fit_enI | exact Or.inr rfl | exact Or.inl rfl | exact fun x hx => absurd hx (by omega) | exact ⟨Or.inl rfl, fun x hx => absurd hx (by omega)⟩)) | (first | exact rfl | exact trivial | exact ⟨Or.inr rfl, Fit_enI⟩ | exact Fit_enI | exact Or.inr rfl | exact Or.inl rfl | exact fun x hx => absurd hx (by omega) | exact ⟨Or.inl rfl, fun x hx => absurd hx (by omega)⟩)))); done)) | (intro g; and_intros <;> first | (with_reducible trivial) | assumption | exact f3 g | exact f4 g | (intro x y _ _; (repeat (first | exact nfR_enI | exact nfR_lit (by simp only [nrefL, nref, and_self]) | (refine nfR_app (fun x y => ?_) (fun x y => ?_)) | (refine nfR_ins (fun x y => ?_) (fun x y => ?_)) | (refine nfR_del (fun x y => ?_)) | (refine nfR_upc (fun x y => ?_) (by simp only [nrefL, nref, and_self])) | (refine nfR_ovw (fun x y => ?_) (fun x y => ?_)) | exact nfR_getL (by simp only [nrefL, nref, and_self]))); done) | (intro x hx; (repeat (first | (exfalso; omega) | (rcases x with _ | x; first | (and_intros <;> (first | exact rfl | exact trivial | exact ⟨Or.inr rfl, Fit_enI⟩ | exact Fit_enI | exact Or.inr rfl | exact Or.inl rfl | exact fun x hx => absurd hx (by omega) | exact ⟨Or.inl rfl, fun x hx => absurd hx (by omega)⟩)) | (first | exact rfl | exact trivial | exact ⟨Or.inr rfl, Fit_enI⟩ | exact Fit_enI | exact Or.inr rfl | exact Or.inl rfl | exact fun x hx => absurd hx (by omega) | exact ⟨Or.inl rfl, fun x hx => absurd hx (by omega)⟩)))); done) | (and_intros <;> first | (with_reducible trivial) | omega | assumption | (intro x y _ _; (repeat (first | exact nfR_enI | exact nfR_lit (by simp only [nrefL, nref, and_self]) | (refine nfR_app (fun x y => ?_) (fun x y => ?_)) | (refine nfR_ins (fun x y => ?_) (fun x y => ?_)) | (refine nfR_del (fun x y => ?_)) | (refine nfR_upc (fun x y => ?_) (by simp only [nrefL, nref, and_self])) | (refine nfR_ovw (fun x y => ?_) (fun x y => ?_)) | exact nfR_getL (by simp only [nrefL, nref, and_self]))); done) | (intro x hx; (repeat (first | (exfalso; omega) | (rcases x with _ | x; first | (and_intros <;> (first | exact rfl | exact trivial | exact ⟨Or.inr rfl, Fit_enI⟩ | exact Fit_enI | exact Or.inr rfl | exact Or.inl rfl | exact fun x hx => absurd hx (by omega) | exact ⟨Or.inl rfl, fun x hx => absurd hx (by omega)⟩)) | (first | exact rfl | exact trivial | exact ⟨Or.inr rfl, Fit_enI⟩ | exact Fit_enI | exact Or.inr rfl | exact Or.inl rfl | exact fun x hx => absurd hx (by omega) | exact ⟨Or.inl rfl, fun x hx => absurd hx (by omega)⟩)))); done))) | grind))
      refine condM rfl trivial (fun hc => ?_) (fun hc => ?_)
      · replace H := cond_t hc H
        refine sq ctNo_ok ?_
        simp only [go_sem, Nat.reduceLeDiff, Nat.reduceLT, Nat.reduceAdd, Nat.reduceMul, Nat.reduceSub, Nat.reduceEqDiff, Nat.reduceBEq, Int.reduceToNat, reduceCtorEq]
        refine rg ctNo_ok ?_
        simp only [go_sem, Nat.reduceLeDiff, Nat.reduceLT, Nat.reduceAdd, Nat.reduceMul, Nat.reduceSub, Nat.reduceEqDiff, Nat.reduceBEq, Int.reduceToNat, reduceCtorEq]
        have H := hn2_1 _ (Option.some.inj H).symm
        obtain rfl := Option.some.inj H
        first | rfl | simp only [Bool.and_false, Bool.false_and, Bool.and_true, Bool.true_and]
      replace H := cond_f hc H
      refine rg ctNo_ok ?_
      simp only [go_sem, Nat.reduceLeDiff, Nat.reduceLT, Nat.reduceAdd, Nat.reduceMul, Nat.reduceSub, Nat.reduceEqDiff, Nat.reduceBEq, Int.reduceToNat, reduceCtorEq]
      refine rg ctNo_ok ?_
      simp only [go_sem, Nat.reduceLeDiff, Nat.reduceLT, Nat.reduceAdd, Nat.reduceMul, Nat.reduceSub, Nat.reduceEqDiff, Nat.reduceBEq, Int.reduceToNat, reduceCtorEq]
      refine ⟨_, (Option.some.inj H).symm, ?_⟩
      refine SubF_of ⟨[some 0], ?_, ?_, by rfl, by rfl⟩
      · simp [CvL, Cv, getM]
      · exact ⟨(by simp [CvB, CvL, Cv, blkAt, geth, getM]), trivial⟩
    · try dsimp only at H ⊢
      try simp only [m_normal, k_normal, b_normal, kL_normal, r_normal]
      refine seqM ?_
      obtain ⟨f5, H⟩ := need_some.1 H
      replace f5 := g_iff.1 f5
      refine rg ct19t1_ok ?_
      simp only [go_sem, Nat.reduceLeDiff, Nat.reduceLT, Nat.reduceAdd, Nat.reduceMul, Nat.reduceSub, Nat.reduceEqDiff, Nat.reduceBEq, Int.reduceToNat, reduceCtorEq, ct19t1_49, body49]
      repeat ((with_reducible refine And.intro ?_ ?_); focus (first | (with_reducible trivial) | omega | exact f5 | (intro g; have q := f5 (by first | exact g | simpa using g); first | exact q | exact ⟨q.1, q.2.1⟩ | exact q.2.2 | omega | exact ⟨g, q⟩ | exact ⟨trivial, q⟩) | (intro x y _ _; (repeat (first | exact nfR_enI | exact nfR_lit (by simp only [nrefL, nref, and_self]) | (refine nfR_app (fun x y => ?_) (fun x y => ?_)) | (refine nfR_ins (fun x y => ?_) (fun x y => ?_)) | (refine nfR_del (fun x y => ?_)) | (refine nfR_upc (fun x y => ?_) (by simp only [nrefL, nref, and_self])) | (refine nfR_ovw (fun x y => ?_) (fun x y => ?_)) | exact nfR_getL (by simp only [nrefL, nref, and_self]))); done) | (intro x hx; (repeat (first | (exfalso; omega) | (rcases x with _ | x; first | (and_intros <;> (first | exact rfl | exact trivial | exact ⟨Or.inr rfl, Fit_enI⟩ | exact Fit_enI | exact Or.inr rfl | exact Or.inl rfl | exact fun x hx => absurd hx (by omega) | exact ⟨Or.inl rfl, fun x hx => absurd hx (by omega)⟩)) | (first | exact rfl | exact trivial | exact ⟨Or.inr rfl, Fit_enI⟩ | exact Fit_enI | exact Or.inr rfl | exact Or.inl rfl | exact fun x hx => absurd hx (by omega) | exact ⟨Or.inl rfl, fun x hx => absurd hx (by omega)⟩)))); done) | (and_intros <;> first | (with_reducible trivial) | omega | assumption | (intro x y _ _; (repeat (first | exact nfR_enI | exact nfR_lit (by simp only [nrefL, nref, and_self]) | (refine nfR_app (fun x y => ?_) (fun x y => ?_)) | (refine nfR_ins (fun x y => ?_) (fun x y => ?_)) | (refine nfR_del (fun x y => ?_)) | (refine nfR_upc (fun x y => ?_) (by simp only [nrefL, nref, and_self])) | (refine nfR_ovw (fun x y => ?_) (fun x y => ?_)) | exact nfR_getL (by simp only [nrefL, nref, and_self]))); done) | (intro x hx; (repeat (first | (exfalso; omega) | (rcases x with _ | x; first | (and_intros <;> (first | exact rfl | exact trivial | exact ⟨Or.inr rfl, Fit_enI⟩ | exact Fit_enI | exact Or.inr rfl | exact Or.inl rfl | exact fun x hx => absurd hx (by omega) | exact ⟨Or.inl rfl, fun x hx => absurd hx (by omega)⟩)) | (first | exact rfl | exact trivial | exact ⟨Or.inr rfl, Fit_enI⟩ | exact Fit_enI | exact Or.inr rfl | exact Or.inl rfl | exact fun x hx => absurd hx (by omega) | exact ⟨Or.inl rfl, fun x hx => absurd hx (by omega)⟩)))); done)) | (intro g; and_intros <;> first | (with_reducible trivial) | assumption | exact f5 g | (intro x y _ _; (repeat (first | exact nfR_enI | exact nfR_lit (by simp only [nrefL, nref, and_self]) | (refine nfR_app (fun x y => ?_) (fun x y => ?_)) | (refine nfR_ins (fun x y => ?_) (fun x y => ?_)) | (refine nfR_del (fun x y => ?_)) | (refine nfR_upc (fun x y => ?_) (by simp only [nrefL, nref, and_self])) | (refine nfR_ovw (fun x y => ?_) (fun x y => ?_)) | exact nfR_getL (by simp only [nrefL, nref, and_self]))); done) | (intro x hx; (repeat (first | (exfalso; omega) | (rcases x with _ | x; first | (and_intros <;> (first | exact rfl | exact trivial | exact ⟨Or.inr rfl, Fit_enI⟩ | exact Fit_enI | exact Or.inr rfl | exact Or.inl rfl | exact fun x hx => absurd hx (by omega) | exact ⟨Or.inl rfl, fun x hx => absurd hx (by omega)⟩)) | (first | exact rfl | exact trivial | exact ⟨Or.inr rfl, Fit_enI⟩ | exact Fit_enI | exact Or.inr rfl | exact Or.inl rfl | exact fun x hx => absurd hx (by omega) | exact ⟨Or.inl rfl, fun x hx => absurd hx (by omega)⟩)))); done) | (and_intros <;> first | (with_reducible trivial) | omega | assumption | (intro x y _ _; (repeat (first | exact nfR_enI | exact nfR_lit (by simp only [nrefL, nref, and_self]) | (refine nfR_app (fun x y => ?_) (fun x y => ?_)) | (refine nfR_ins (fun x y => ?_) (fun x y => ?_)) | (refine nfR_del (fun x y => ?_)) | (refine nfR_upc (fun x y => ?_) (by simp only [nrefL, nref, and_self])) | (refine nfR_ovw (fun x y => ?_) (fun x y => ?_)) | exact nfR_getL (by simp only [nrefL, nref, and_self]))); done) | (intro x hx; (repeat (first | (exfalso; omega) | (rcases x with _ | x; first | (and_intros <;> (first | exact rfl | exact trivial | exact ⟨Or.inr rfl, Fit_enI⟩ | exact Fit_enI | exact Or.inr rfl | exact Or.inl rfl | exact fun x hx => absurd hx (by omega) | exact ⟨Or.inl rfl, fun x hx => absurd hx (by omega)⟩)) | (first | exact rfl | exact trivial | exact ⟨Or.inr rfl, Fit_enI⟩ | exact Fit_enI | exact Or.inr rfl | exact Or.inl rfl | exact fun x hx => absurd hx (by omega) | exact ⟨Or.inl rfl, fun x hx => absurd hx (by omega)⟩)))); done))) | grind))
      refine rg ctNo_ok ?_
      simp only [go_sem, Nat.reduceLeDiff, Nat.reduceLT, Nat.reduceAdd, Nat.reduceMul, Nat.reduceSub, Nat.reduceEqDiff, Nat.reduceBEq, Int.reduceToNat, reduceCtorEq]
      obtain rfl := Option.some.inj H
      first | rfl | simp only [Bool.and_false, Bool.false_and, Bool.and_true, Bool.true_and]
  · cases hb
/-! hotspot/hotspotref34.New -/
noncomputable def ct13t0 : Ct := tab [(19, pureC body19)]
theorem ct13t0_ok : CtOk Try.prog ct13t0 := tab_cons ok19 <| tab_nil
theorem ct13t0_19 (l : List AV) (h : List ABlk) : ct13t0 19 l h = pureC body19 l h := rfl
noncomputable def F13 (p0 : Int) (p1 : Int) : Option (TBuffer × Int) :=
  (F19 (TBuffer.mk p0 p1 [] [])).bind fun r1 => bif (!r1) then (some ((TBuffer.mk 0 0 [] []), 2)) else (some ((TBuffer.mk p0 p1 [] []), 0))
noncomputable def body13 : List AV → Nat → AR
  | [v0, v1], _ => .pure (iK .i64 v0 ∧ iK .i64 v1 ∧ (F13 (iA v0) (iA v1)).isSome = true) (.tup [.agg [.int .i64 (((gt (F13 (iA v0) (iA v1))).1).Limit), .int .i64 (((gt (F13 (iA v0) (iA v1))).1).Stay), .ro 3 ((((gt (F13 (iA v0) (iA v1))).1).List).length) false (enR c_TSleeper (((gt (F13 (iA v0) (iA v1))).1).List)), .ro 43 ((((gt (F13 (iA v0) (iA v1))).1).Group).length) false (enR c_TStored (((gt (F13 (iA v0) (iA v1))).1).Group))], .int .i64 ((gt (F13 (iA v0) (iA v1))).2)])
  | _, _ => .fail
set_option maxHeartbeats 4000000 in
set_option maxRecDepth 20000 in
theorem ok13 : FnOk Try.prog 13 (genC body13) := by
  refine gen_fn body13 (rs := [.cell 4 25, .tmp 5]) Try.func13 (by kernel_rfl) rfl rfl ?_
  intro l s ob v ns hb hob
  rcases hb with ⟨hb, rfl⟩ | hb
  · unfold body13 at hb
    split at hb
    · rename_i v0 v1
      injection hb with q1 q2; subst q1 q2
      obtain ⟨hk0, hk1, hob⟩ := hob
      obtain ⟨r, H⟩ := Option.isSome_iff_exists.1 hob
      rw [H, gt_some]
      have hw0 := iK_wk hk0
      have hw1 := iK_wk hk1
      generalize iA v0 = p0 at H hw0
      generalize iA v1 = p1 at H hw1
      refine ⟨[.int .i64 p0, .int .i64 p1], .tup [.agg [.int .i64 r.1.Limit, .int .i64 r.1.Stay, .ro 3 r.1.List.length false (enR c_TSleeper r.1.List), .ro 43 r.1.Group.length false (enR c_TStored r.1.Group)], .int .i64 r.2], [], (fun E vs F => FR_wk1 hw0.1 F (fun vs F => FR_wk1 hw1.1 F (fun vs F => F))), by simp only [ren, renL], trivial, ?_⟩
      rw [Try.ntmps13]
      simp only [List.length_cons, List.length_nil, Nat.reduceAdd, Nat.reduceSub, List.replicate_succ, List.replicate_zero, List.cons_append, List.nil_append]
      unfold F13 at H
      try dsimp only at H
      refine sq ctNo_ok ?_
      simp only [go_sem, Nat.reduceLeDiff, Nat.reduceLT, Nat.reduceAdd, Nat.reduceMul, Nat.reduceSub, Nat.reduceEqDiff, Nat.reduceBEq, Int.reduceToNat, reduceCtorEq]
      refine sq ctNo_ok ?_
      simp only [go_sem, Nat.reduceLeDiff, Nat.reduceLT, Nat.reduceAdd, Nat.reduceMul, Nat.reduceSub, Nat.reduceEqDiff, Nat.reduceBEq, Int.reduceToNat, reduceCtorEq]
      repeat ((with_reducible refine And.intro ?_ ?_); focus (first | (with_reducible trivial) | omega | grind))
      refine seqM ?_
      refine seqM ?_
      obtain ⟨r1, e2, H⟩ := Option.bind_eq_some_iff.1 H
      refine rg ct13t0_ok ?_
      simp only [go_sem, Nat.reduceLeDiff, Nat.reduceLT, Nat.reduceAdd, Nat.reduceMul, Nat.reduceSub, Nat.reduceEqDiff, Nat.reduceBEq, Int.reduceToNat, reduceCtorEq, ct13t0_19, body19, e2]
      repeat ((with_reducible refine And.intro ?_ ?_); focus (first | (with_reducible trivial) | omega | (intro x y _ _; (repeat (first | exact nfR_enI | exact nfR_lit (by simp only [nrefL, nref, and_self]) | (refine nfR_app (fun x y => ?_) (fun x y => ?_)) | (refine nfR_ins (fun x y => ?_) (fun x y => ?_)) | (refine nfR_del (fun x y => ?_)) | (refine nfR_upc (fun x y => ?_) (by simp only [nrefL, nref, and_self])) | (refine nfR_ovw (fun x y => ?_) (fun x y => ?_)) | exact nfR_getL (by simp only [nrefL, nref, and_self]))); done) | (intro x hx; (repeat (first | (exfalso; omega) | (rcases x with _ | x; first | (and_intros <;> (first | exact rfl | exact trivial | exact ⟨Or.inr rfl, Fit_enI⟩ | exact Fit_enI | exact Or.inr rfl | exact Or.inl rfl | exact fun x hx => absurd hx (by omega) | exact ⟨Or.inl rfl, fun x hx => absurd hx (by omega)⟩)) | (first | exact rfl | exact trivial | exact ⟨Or.inr rfl, Fit_enI⟩ | exact Fit_enI | exact Or.inr rfl | exact Or.inl rfl | exact fun x hx => absurd hx (by omega) | exact ⟨Or.inl rfl, fun x hx => absurd hx (by omega)⟩)))); done) | (and_intros <;> first | (with_reducible trivial) | omega | assumption | (intro x y _ _; (repeat (first | exact nfR_enI | exact nfR_lit (by simp only [nrefL, nref, and_self]) | (refine nfR_app (fun x y => ?_) (fun x y => ?_)) | (refine nfR_ins (fun x y => ?_) (fun x y => ?_)) | (refine nfR_del (fun x y => ?_)) | (refine nfR_upc (fun x y => ?_) (by simp only [nrefL, nref, and_self])) | (refine nfR_ovw (fun x y => ?_) (fun x y => ?_)) | exact nfR_getL (by simp only [nrefL, nref, and_self]))); done) | (intro x hx; (repeat (first | (exfalso; omega) | (rcases x with _ | x; first | (and_intros <;> (first | exact rfl | exact trivial | exact ⟨Or.inr rfl, Fit_enI⟩ | exact Fit_enI | exact Or.inr rfl | exact Or.inl rfl | exact fun x hx => absurd hx (by omega) | exact ⟨Or.inl rfl, fun x hx => absurd hx (by omega)⟩)) | (first | exact rfl | exact trivial | exact ⟨Or.inr rfl, Fit_enI⟩ | exact Fit_enI | exact Or.inr rfl | exact Or.inl rfl | exact fun x hx => absurd hx (by omega) | exact ⟨Or.inl rfl, fun x hx => absurd hx (by omega)⟩)))); done)) | grind))
      refine condM rfl trivial (fun hc => ?_) (fun hc => ?_)
      · replace H := cond_t hc H
        refine sq ctNo_ok ?_
        simp only [go_sem, Nat.reduceLeDiff, Nat.reduceLT, Nat.reduceAdd, Nat.reduceMul, Nat.reduceSub, Nat.reduceEqDiff, Nat.reduceBEq, Int.reduceToNat, reduceCtorEq]
        repeat ((with_reducible refine And.intro ?_ ?_); focus (first | (with_reducible trivial) | omega | grind))
        refine rg ctNo_ok ?_
        simp only [go_sem, Nat.reduceLeDiff, Nat.reduceLT, Nat.reduceAdd, Nat.reduceMul, Nat.reduceSub, Nat.reduceEqDiff, Nat.reduceBEq, Int.reduceToNat, reduceCtorEq]
        obtain rfl := Option.some.inj H
        refine ⟨[0, 1], ?_, ?_, [], ?_, ?_, rfl⟩
        · simp only [List.length_cons, List.length_nil, Nat.zero_mul, Nat.add_zero, fzV, fzL, fzOb, fzObL, fzH, fzHF, fzB, fzObB, fzObH, inL, rowOb, geth, cond_true, cond_false, Bool.or_false, Bool.or_true, Bool.false_or, Bool.true_or, and_self, true_and, and_true, Nat.reduceEqDiff, Nat.reduceBEq, beq_self_eq_true, sub_enR0, Nat.reduceAdd, Nat.zero_add, Nat.le_refl, List.nil_append]
          try (and_intros <;> first | trivial | omega | (intro x y _ _; repeat (first | exact nfR_lit (by simp only [nrefL, nref, and_self]) | exact nfR_enI | (refine nfR_app (fun x y => ?_) (fun x y => ?_)) | (refine nfR_ins (fun x y => ?_) (fun x y => ?_)) | (refine nfR_del (fun x y => ?_)) | (refine nfR_upc (fun x y => ?_) (by simp only [nrefL, nref, and_self])) | (refine nfR_ovw (fun x y => ?_) (fun x y => ?_)) | exact nfR_getL (by simp only [nrefL, nref, and_self]))))
        · simp only [List.length_cons, List.length_nil, Nat.zero_mul, Nat.add_zero, fzV, fzL, fzOb, fzObL, fzH, fzHF, fzB, fzObB, fzObH, inL, rowOb, geth, cond_true, cond_false, Bool.or_false, Bool.or_true, Bool.false_or, Bool.true_or, and_self, true_and, and_true, Nat.reduceEqDiff, Nat.reduceBEq, beq_self_eq_true, sub_enR0, Nat.reduceAdd, Nat.zero_add, Nat.le_refl, List.nil_append]
          try (and_intros <;> first | trivial | omega | (intro x y _ _; repeat (first | exact nfR_lit (by simp only [nrefL, nref, and_self]) | exact nfR_enI | (refine nfR_app (fun x y => ?_) (fun x y => ?_)) | (refine nfR_ins (fun x y => ?_) (fun x y => ?_)) | (refine nfR_del (fun x y => ?_)) | (refine nfR_upc (fun x y => ?_) (by simp only [nrefL, nref, and_self])) | (refine nfR_ovw (fun x y => ?_) (fun x y => ?_)) | exact nfR_getL (by simp only [nrefL, nref, and_self]))))
        · simp only [List.length_cons, List.length_nil, Nat.zero_mul, Nat.add_zero, fzV, fzL, fzOb, fzObL, fzH, fzHF, fzB, fzObB, fzObH, inL, rowOb, geth, cond_true, cond_false, Bool.or_false, Bool.or_true, Bool.false_or, Bool.true_or, and_self, true_and, and_true, Nat.reduceEqDiff, Nat.reduceBEq, beq_self_eq_true, sub_enR0, Nat.reduceAdd, Nat.zero_add, Nat.le_refl, List.nil_append]
          exact Cv_tup (CvL_cons (Cv_agg (CvL_cons Cv_int (CvL_cons Cv_int (CvL_cons (Cv_ronil (α := TSleeper)) (CvL_cons (Cv_ronil (α := TStored)) CvL_nil))))) (CvL_cons Cv_int CvL_nil))
        · simp only [List.length_cons, List.length_nil, Nat.zero_mul, Nat.add_zero, fzV, fzL, fzOb, fzObL, fzH, fzHF, fzB, fzObB, fzObH, inL, rowOb, geth, cond_true, cond_false, Bool.or_false, Bool.or_true, Bool.false_or, Bool.true_or, and_self, true_and, and_true, Nat.reduceEqDiff, Nat.reduceBEq, beq_self_eq_true, sub_enR0, Nat.reduceAdd, Nat.zero_add, Nat.le_refl, List.nil_append, CvH]
      replace H := cond_f hc H
      refine rg ctNo_ok ?_
      simp only [go_sem, Nat.reduceLeDiff, Nat.reduceLT, Nat.reduceAdd, Nat.reduceMul, Nat.reduceSub, Nat.reduceEqDiff, Nat.reduceBEq, Int.reduceToNat, reduceCtorEq]
      refine sq ctNo_ok ?_
      simp only [go_sem, Nat.reduceLeDiff, Nat.reduceLT, Nat.reduceAdd, Nat.reduceMul, Nat.reduceSub, Nat.reduceEqDiff, Nat.reduceBEq, Int.reduceToNat, reduceCtorEq]
      repeat ((with_reducible refine And.intro ?_ ?_); focus (first | (with_reducible trivial) | omega | grind))
      refine rg ctNo_ok ?_
      simp only [go_sem, Nat.reduceLeDiff, Nat.reduceLT, Nat.reduceAdd, Nat.reduceMul, Nat.reduceSub, Nat.reduceEqDiff, Nat.reduceBEq, Int.reduceToNat, reduceCtorEq]
      obtain rfl := Option.some.inj H
      refine ⟨[0, 1], ?_, ?_, [], ?_, ?_, rfl⟩
      · simp only [List.length_cons, List.length_nil, Nat.zero_mul, Nat.add_zero, fzV, fzL, fzOb, fzObL, fzH, fzHF, fzB, fzObB, fzObH, inL, rowOb, geth, cond_true, cond_false, Bool.or_false, Bool.or_true, Bool.false_or, Bool.true_or, and_self, true_and, and_true, Nat.reduceEqDiff, Nat.reduceBEq, beq_self_eq_true, sub_enR0, Nat.reduceAdd, Nat.zero_add, Nat.le_refl, List.nil_append]
        try (and_intros <;> first | trivial | omega | (intro x y _ _; repeat (first | exact nfR_lit (by simp only [nrefL, nref, and_self]) | exact nfR_enI | (refine nfR_app (fun x y => ?_) (fun x y => ?_)) | (refine nfR_ins (fun x y => ?_) (fun x y => ?_)) | (refine nfR_del (fun x y => ?_)) | (refine nfR_upc (fun x y => ?_) (by simp only [nrefL, nref, and_self])) | (refine nfR_ovw (fun x y => ?_) (fun x y => ?_)) | exact nfR_getL (by simp only [nrefL, nref, and_self]))))
      · simp only [List.length_cons, List.length_nil, Nat.zero_mul, Nat.add_zero, fzV, fzL, fzOb, fzObL, fzH, fzHF, fzB, fzObB, fzObH, inL, rowOb, geth, cond_true, cond_false, Bool.or_false, Bool.or_true, Bool.false_or, Bool.true_or, and_self, true_and, and_true, Nat.reduceEqDiff, Nat.reduceBEq, beq_self_eq_true, sub_enR0, Nat.reduceAdd, Nat.zero_add, Nat.le_refl, List.nil_append]
        try (and_intros <;> first | trivial | omega | (intro x y _ _; repeat (first | exact nfR_lit (by simp only [nrefL, nref, and_self]) | exact nfR_enI | (refine nfR_app (fun x y => ?_) (fun x y => ?_)) | (refine nfR_ins (fun x y => ?_) (fun x y => ?_)) | (refine nfR_del (fun x y => ?_)) | (refine nfR_upc (fun x y => ?_) (by simp only [nrefL, nref, and_self])) | (refine nfR_ovw (fun x y => ?_) (fun x y => ?_)) | exact nfR_getL (by simp only [nrefL, nref, and_self]))))
      · simp only [List.length_cons, List.length_nil, Nat.zero_mul, Nat.add_zero, fzV, fzL, fzOb, fzObL, fzH, fzHF, fzB, fzObB, fzObH, inL, rowOb, geth, cond_true, cond_false, Bool.or_false, Bool.or_true, Bool.false_or, Bool.true_or, and_self, true_and, and_true, Nat.reduceEqDiff, Nat.reduceBEq, beq_self_eq_true, sub_enR0, Nat.reduceAdd, Nat.zero_add, Nat.le_refl, List.nil_append]
        exact Cv_tup (CvL_cons (Cv_agg (CvL_cons Cv_int (CvL_cons Cv_int (CvL_cons (Cv_ronil (α := TSleeper)) (CvL_cons (Cv_ronil (α := TStored)) CvL_nil))))) (CvL_cons Cv_int CvL_nil))
      · simp only [List.length_cons, List.length_nil, Nat.zero_mul, Nat.add_zero, fzV, fzL, fzOb, fzObL, fzH, fzHF, fzB, fzObB, fzObH, inL, rowOb, geth, cond_true, cond_false, Bool.or_false, Bool.or_true, Bool.false_or, Bool.true_or, and_self, true_and, and_true, Nat.reduceEqDiff, Nat.reduceBEq, beq_self_eq_true, sub_enR0, Nat.reduceAdd, Nat.zero_add, Nat.le_refl, List.nil_append, CvH]
    · cases hb
  · unfold body13 at hb
    split at hb <;> cases hb
/-! hotspot/buffer.Map -/
noncomputable def ct14t0 : Ct := tab [(18, pureC body18)]
theorem ct14t0_ok : CtOk Try.prog ct14t0 := tab_cons ok18 <| tab_nil
theorem ct14t0_18 (l : List AV) (h : List ABlk) : ct14t0 18 l h = pureC body18 l h := rfl
noncomputable def F14_L1 (p0 : TBuffer) (v1_1 : Int) (v1_2 : List Int) : Option (Lp (Int × (List Int)) ((List Int) ⊕ (TTraffic × Int))) :=
  bif (bLt v1_1 (p0.List.length : Nat)) then (need (inb v1_1 p0.List.length) <| bif (bLt 0 (((gd p0.List v1_1.toNat).Held).length : Nat)) then (need (capb 8 (v1_2.length + 1)) <| some (.next (wr .i64 (v1_1 + 1), (v1_2 ++ [(gd p0.List v1_1.toNat).Aid])))) else (some (.next (wr .i64 (v1_1 + 1), v1_2)))) else (some (.done (.inl v1_2)))
noncomputable def F14 (p0 : TBuffer) : Option (TTraffic × Int) :=
  (F18 p0).bind fun r1 => bif (!bEq r1 0) then (some ((TTraffic.mk false []), r1)) else (lp (loopD (fun s => F14_L1 p0 s.1 s.2) (0, [])) (fun w1_3 => some ((TTraffic.mk (bLt 0 (p0.Group.length : Nat)) w1_3), 0)) some)
noncomputable def body14 : List AV → Nat → AR
  | [v0], _ => .pure (aK 4 k_TBuffer v0 ∧ (F14 (g_TBuffer (aL v0))).isSome = true) (.tup [.agg [.bool (((gt (F14 (g_TBuffer (aL v0)))).1).Group), .ro 1 ((((gt (F14 (g_TBuffer (aL v0)))).1).Aids).length) false (enR c_i64 (((gt (F14 (g_TBuffer (aL v0)))).1).Aids))], .int .i64 ((gt (F14 (g_TBuffer (aL v0)))).2)])
  | _, _ => .fail
set_option maxHeartbeats 4000000 in
set_option maxRecDepth 20000 in
theorem ok14 : FnOk Try.prog 14 (genC body14) := by
  refine gen_fn body14 (rs := [.cell 2 41, .tmp 3]) Try.func14 (by kernel_rfl) rfl rfl ?_
  intro l s ob v ns hb hob
  rcases hb with ⟨hb, rfl⟩ | hb
  · unfold body14 at hb
    split at hb
    · rename_i v0
      injection hb with q1 q2; subst q1 q2
      obtain ⟨hk0, hob⟩ := hob
      obtain ⟨r, H⟩ := Option.isSome_iff_exists.1 hob
      rw [H, gt_some]
      have hw0 := wA_TBuffer hk0
      generalize g_TBuffer (aL v0) = p0 at H hw0
      refine ⟨[.agg [.int .i64 p0.Limit, .int .i64 p0.Stay, .ro 3 p0.List.length false (enR c_TSleeper p0.List), .ro 43 p0.Group.length false (enR c_TStored p0.Group)]], .tup [.agg [.bool r.1.Group, .ro 1 r.1.Aids.length false (enR c_i64 r.1.Aids)], .int .i64 r.2], [], (fun E vs F => FR_wk1 hw0.1 F (fun vs F => F)), by simp only [ren, renL], trivial, ?_⟩
      rw [Try.ntmps14]
      simp only [List.length_cons, List.length_nil, Nat.reduceAdd, Nat.reduceSub, List.replicate_succ, List.replicate_zero, List.cons_append, List.nil_append]
      unfold F14 at H
      try dsimp only at H
      refine sq ctNo_ok ?_
      simp only [go_sem, Nat.reduceLeDiff, Nat.reduceLT, Nat.reduceAdd, Nat.reduceMul, Nat.reduceSub, Nat.reduceEqDiff, Nat.reduceBEq, Int.reduceToNat, reduceCtorEq]
      refine seqM ?_
      refine seqM ?_
      obtain ⟨r1, e2, H⟩ := Option.bind_eq_some_iff.1 H
      refine rg ct14t0_ok ?_
      simp only [go_sem, Nat.reduceLeDiff, Nat.reduceLT, Nat.reduceAdd, Nat.reduceMul, Nat.reduceSub, Nat.reduceEqDiff, Nat.reduceBEq, Int.reduceToNat, reduceCtorEq, ct14t0_18, body18, e2]
      repeat ((with_reducible refine And.intro ?_ ?_); focus (first | (with_reducible trivial) | omega | (intro x y _ _; (repeat (first | exact nfR_enI | exact nfR_lit (by simp only [nrefL, nref, and_self]) | (refine nfR_app (fun x y => ?_) (fun x y => ?_)) | (refine nfR_ins (fun x y => ?_) (fun x y => ?_)) | (refine nfR_del (fun x y => ?_)) | (refine nfR_upc (fun x y => ?_) (by simp only [nrefL, nref, and_self])) | (refine nfR_ovw (fun x y => ?_) (fun x y => ?_)) | exact nfR_getL (by simp only [nrefL, nref, and_self]))); done) | (intro x hx; (repeat (first | (exfalso; omega) | (rcases x with _ | x; first | (and_intros <;> (first | exact rfl | exact trivial | exact ⟨Or.inr rfl, Fit_enI⟩ | exact Fit_enI | exact Or.inr rfl | exact Or.inl rfl | exact fun x hx => absurd hx (by omega) | exact ⟨Or.inl rfl, fun x hx => absurd hx (by omega)⟩)) | (first | exact rfl | exact trivial | exact ⟨Or.inr rfl, Fit_enI⟩ | exact Fit_enI | exact Or.inr rfl | exact Or.inl rfl | exact fun x hx => absurd hx (by omega) | exact ⟨Or.inl rfl, fun x hx => absurd hx (by omega)⟩)))); done) | (and_intros <;> first | (with_reducible trivial) | omega | assumption | (intro x y _ _; (repeat (first | exact nfR_enI | exact nfR_lit (by simp only [nrefL, nref, and_self]) | (refine nfR_app (fun x y => ?_) (fun x y => ?_)) | (refine nfR_ins (fun x y => ?_) (fun x y => ?_)) | (refine nfR_del (fun x y => ?_)) | (refine nfR_upc (fun x y => ?_) (by simp only [nrefL, nref, and_self])) | (refine nfR_ovw (fun x y => ?_) (fun x y => ?_)) | exact nfR_getL (by simp only [nrefL, nref, and_self]))); done) | (intro x hx; (repeat (first | (exfalso; omega) | (rcases x with _ | x; first | (and_intros <;> (first | exact rfl | exact trivial | exact ⟨Or.inr rfl, Fit_enI⟩ | exact Fit_enI | exact Or.inr rfl | exact Or.inl rfl | exact fun x hx => absurd hx (by omega) | exact ⟨Or.inl rfl, fun x hx => absurd hx (by omega)⟩)) | (first | exact rfl | exact trivial | exact ⟨Or.inr rfl, Fit_enI⟩ | exact Fit_enI | exact Or.inr rfl | exact Or.inl rfl | exact fun x hx => absurd hx (by omega) | exact ⟨Or.inl rfl, fun x hx => absurd hx (by omega)⟩)))); done)) | grind))
      refine sq ctNo_ok ?_
      simp only [go_sem, Nat.reduceLeDiff, Nat.reduceLT, Nat.reduceAdd, Nat.reduceMul, Nat.reduceSub, Nat.reduceEqDiff, Nat.reduceBEq, Int.reduceToNat, reduceCtorEq]
      refine condM rfl trivial (fun hc => ?_) (fun hc => ?_)
      · replace H := cond_t hc H
        refine sq ctNo_ok ?_
        simp only [go_sem, Nat.reduceLeDiff, Nat.reduceLT, Nat.reduceAdd, Nat.reduceMul, Nat.reduceSub, Nat.reduceEqDiff, Nat.reduceBEq, Int.reduceToNat, reduceCtorEq]
        repeat ((with_reducible refine And.intro ?_ ?_); focus (first | (with_reducible trivial) | omega | grind))
        refine rg ctNo_ok ?_
        simp only [go_sem, Nat.reduceLeDiff, Nat.reduceLT, Nat.reduceAdd, Nat.reduceMul, Nat.reduceSub, Nat.reduceEqDiff, Nat.reduceBEq, Int.reduceToNat, reduceCtorEq]
        obtain rfl := Option.some.inj H
        refine ⟨[0, 1], ?_, ?_, [], ?_, ?_, rfl⟩
        · simp only [List.length_cons, List.length_nil, Nat.zero_mul, Nat.add_zero, fzV, fzL, fzOb, fzObL, fzH, fzHF, fzB, fzObB, fzObH, inL, rowOb, geth, cond_true, cond_false, Bool.or_false, Bool.or_true, Bool.false_or, Bool.true_or, and_self, true_and, and_true, Nat.reduceEqDiff, Nat.reduceBEq, beq_self_eq_true, sub_enR0, Nat.reduceAdd, Nat.zero_add, Nat.le_refl, List.nil_append]
          try (and_intros <;> first | trivial | omega | (intro x y _ _; repeat (first | exact nfR_lit (by simp only [nrefL, nref, and_self]) | exact nfR_enI | (refine nfR_app (fun x y => ?_) (fun x y => ?_)) | (refine nfR_ins (fun x y => ?_) (fun x y => ?_)) | (refine nfR_del (fun x y => ?_)) | (refine nfR_upc (fun x y => ?_) (by simp only [nrefL, nref, and_self])) | (refine nfR_ovw (fun x y => ?_) (fun x y => ?_)) | exact nfR_getL (by simp only [nrefL, nref, and_self]))))
        · simp only [List.length_cons, List.length_nil, Nat.zero_mul, Nat.add_zero, fzV, fzL, fzOb, fzObL, fzH, fzHF, fzB, fzObB, fzObH, inL, rowOb, geth, cond_true, cond_false, Bool.or_false, Bool.or_true, Bool.false_or, Bool.true_or, and_self, true_and, and_true, Nat.reduceEqDiff, Nat.reduceBEq, beq_self_eq_true, sub_enR0, Nat.reduceAdd, Nat.zero_add, Nat.le_refl, List.nil_append]
          try (and_intros <;> first | trivial | omega | (intro x y _ _; repeat (first | exact nfR_lit (by simp only [nrefL, nref, and_self]) | exact nfR_enI | (refine nfR_app (fun x y => ?_) (fun x y => ?_)) | (refine nfR_ins (fun x y => ?_) (fun x y => ?_)) | (refine nfR_del (fun x y => ?_)) | (refine nfR_upc (fun x y => ?_) (by simp only [nrefL, nref, and_self])) | (refine nfR_ovw (fun x y => ?_) (fun x y => ?_)) | exact nfR_getL (by simp only [nrefL, nref, and_self]))))
        · simp only [List.length_cons, List.length_nil, Nat.zero_mul, Nat.add_zero, fzV, fzL, fzOb, fzObL, fzH, fzHF, fzB, fzObB, fzObH, inL, rowOb, geth, cond_true, cond_false, Bool.or_false, Bool.or_true, Bool.false_or, Bool.true_or, and_self, true_and, and_true, Nat.reduceEqDiff, Nat.reduceBEq, beq_self_eq_true, sub_enR0, Nat.reduceAdd, Nat.zero_add, Nat.le_refl, List.nil_append]
          exact Cv_tup (CvL_cons (Cv_agg (CvL_cons Cv_bool (CvL_cons (Cv_ronil (α := Int)) CvL_nil))) (CvL_cons Cv_int CvL_nil))
        · simp only [List.length_cons, List.length_nil, Nat.zero_mul, Nat.add_zero, fzV, fzL, fzOb, fzObL, fzH, fzHF, fzB, fzObB, fzObH, inL, rowOb, geth, cond_true, cond_false, Bool.or_false, Bool.or_true, Bool.false_or, Bool.true_or, and_self, true_and, and_true, Nat.reduceEqDiff, Nat.reduceBEq, beq_self_eq_true, sub_enR0, Nat.reduceAdd, Nat.zero_add, Nat.le_refl, List.nil_append, CvH]
      replace H := cond_f hc H
      refine rg ctNo_ok ?_
      simp only [go_sem, Nat.reduceLeDiff, Nat.reduceLT, Nat.reduceAdd, Nat.reduceMul, Nat.reduceSub, Nat.reduceEqDiff, Nat.reduceBEq, Int.reduceToNat, reduceCtorEq]
      refine sq ctNo_ok ?_
      simp only [go_sem, Nat.reduceLeDiff, Nat.reduceLT, Nat.reduceAdd, Nat.reduceMul, Nat.reduceSub, Nat.reduceEqDiff, Nat.reduceBEq, Int.reduceToNat, reduceCtorEq]
      repeat ((with_reducible refine And.intro ?_ ?_); focus (first | (with_reducible trivial) | omega | (intro x y _ _; (repeat (first | exact nfR_enI | exact nfR_lit (by simp only [nrefL, nref, and_self]) | (refine nfR_app (fun x y => ?_) (fun x y => ?_)) | (refine nfR_ins (fun x y => ?_) (fun x y => ?_)) | (refine nfR_del (fun x y => ?_)) | (refine nfR_upc (fun x y => ?_) (by simp only [nrefL, nref, and_self])) | (refine nfR_ovw (fun x y => ?_) (fun x y => ?_)) | exact nfR_getL (by simp only [nrefL, nref, and_self]))); done) | (intro x hx; (repeat (first | (exfalso; omega) | (rcases x with _ | x; first | (and_intros <;> (first | exact rfl | exact trivial | exact ⟨Or.inr rfl, Fit_enI⟩ | exact Fit_enI | exact Or.inr rfl | exact Or.inl rfl | exact fun x hx => absurd hx (by omega) | exact ⟨Or.inl rfl, fun x hx => absurd hx (by omega)⟩)) | (first | exact rfl | exact trivial | exact ⟨Or.inr rfl, Fit_enI⟩ | exact Fit_enI | exact Or.inr rfl | exact Or.inl rfl | exact fun x hx => absurd hx (by omega) | exact ⟨Or.inl rfl, fun x hx => absurd hx (by omega)⟩)))); done) | (and_intros <;> first | (with_reducible trivial) | omega | assumption | (intro x y _ _; (repeat (first | exact nfR_enI | exact nfR_lit (by simp only [nrefL, nref, and_self]) | (refine nfR_app (fun x y => ?_) (fun x y => ?_)) | (refine nfR_ins (fun x y => ?_) (fun x y => ?_)) | (refine nfR_del (fun x y => ?_)) | (refine nfR_upc (fun x y => ?_) (by simp only [nrefL, nref, and_self])) | (refine nfR_ovw (fun x y => ?_) (fun x y => ?_)) | exact nfR_getL (by simp only [nrefL, nref, and_self]))); done) | (intro x hx; (repeat (first | (exfalso; omega) | (rcases x with _ | x; first | (and_intros <;> (first | exact rfl | exact trivial | exact ⟨Or.inr rfl, Fit_enI⟩ | exact Fit_enI | exact Or.inr rfl | exact Or.inl rfl | exact fun x hx => absurd hx (by omega) | exact ⟨Or.inl rfl, fun x hx => absurd hx (by omega)⟩)) | (first | exact rfl | exact trivial | exact ⟨Or.inr rfl, Fit_enI⟩ | exact Fit_enI | exact Or.inr rfl | exact Or.inl rfl | exact fun x hx => absurd hx (by omega) | exact ⟨Or.inl rfl, fun x hx => absurd hx (by omega)⟩)))); done)) | grind))
      refine seqM ?_
      refine sq ctNo_ok ?_
      simp only [go_sem, Nat.reduceLeDiff, Nat.reduceLT, Nat.reduceAdd, Nat.reduceMul, Nat.reduceSub, Nat.reduceEqDiff, Nat.reduceBEq, Int.reduceToNat, reduceCtorEq]
      repeat ((with_reducible refine And.intro ?_ ?_); focus (first | (with_reducible trivial) | omega | (intro x y _ _; (repeat (first | exact nfR_enI | exact nfR_lit (by simp only [nrefL, nref, and_self]) | (refine nfR_app (fun x y => ?_) (fun x y => ?_)) | (refine nfR_ins (fun x y => ?_) (fun x y => ?_)) | (refine nfR_del (fun x y => ?_)) | (refine nfR_upc (fun x y => ?_) (by simp only [nrefL, nref, and_self])) | (refine nfR_ovw (fun x y => ?_) (fun x y => ?_)) | exact nfR_getL (by simp only [nrefL, nref, and_self]))); done) | (intro x hx; (repeat (first | (exfalso; omega) | (rcases x with _ | x; first | (and_intros <;> (first | exact rfl | exact trivial | exact ⟨Or.inr rfl, Fit_enI⟩ | exact Fit_enI | exact Or.inr rfl | exact Or.inl rfl | exact fun x hx => absurd hx (by omega) | exact ⟨Or.inl rfl, fun x hx => absurd hx (by omega)⟩)) | (first | exact rfl | exact trivial | exact ⟨Or.inr rfl, Fit_enI⟩ | exact Fit_enI | exact Or.inr rfl | exact Or.inl rfl | exact fun x hx => absurd hx (by omega) | exact ⟨Or.inl rfl, fun x hx => absurd hx (by omega)⟩)))); done) | (and_intros <;> first | (with_reducible trivial) | omega | assumption | (intro x y _ _; (repeat (first | exact nfR_enI | exact nfR_lit (by simp only [nrefL, nref, and_self]) | (refine nfR_app (fun x y => ?_) (fun x y => ?_)) | (refine nfR_ins (fun x y => ?_) (fun x y => ?_)) | (refine nfR_del (fun x y => ?_)) | (refine nfR_upc (fun x y => ?_) (by simp only [nrefL, nref, and_self])) | (refine nfR_ovw (fun x y => ?_) (fun x y => ?_)) | exact nfR_getL (by simp only [nrefL, nref, and_self]))); done) | (intro x hx; (repeat (first | (exfalso; omega) | (rcases x with _ | x; first | (and_intros <;> (first | exact rfl | exact trivial | exact ⟨Or.inr rfl, Fit_enI⟩ | exact Fit_enI | exact Or.inr rfl | exact Or.inl rfl | exact fun x hx => absurd hx (by omega) | exact ⟨Or.inl rfl, fun x hx => absurd hx (by omega)⟩)) | (first | exact rfl | exact trivial | exact ⟨Or.inr rfl, Fit_enI⟩ | exact Fit_enI | exact Or.inr rfl | exact Or.inl rfl | exact fun x hx => absurd hx (by omega) | exact ⟨Or.inl rfl, fun x hx => absurd hx (by omega)⟩)))); done)) | grind))
      refine blkM ?_
      refine loop_den (fun s : Int × (List Int) => (.top :: .top :: .ptr 1 0 0 0 :: .top :: .top :: .ptr 2 0 0 0 :: .top :: .top :: .top :: .top :: .top :: .top :: .top :: .top :: .top :: .top :: .top :: .top :: .top :: .top :: .ro 3 p0.List.length false (enR c_TSleeper p0.List) :: .int .i64 (p0.List.length : Nat) :: .int .i64 s.1 :: .top :: .top :: .top :: .top :: .top :: .top :: .top :: .top :: .top :: .top :: .top :: .top :: .top :: .top :: .top :: .top :: [])) (fun s => [.dead, .lit 41 [.bool false, .ro 0 0 true (fun _ _ => .top)], .lit 41 [.bool (bLt 0 (p0.Group.length : Nat)), .sl 3 1 0 s.2.length false], .row 3 1 s.2.length (enR c_i64 s.2)]) (fun e : List Int => (.top :: .top :: .ptr 1 0 0 0 :: .top :: .top :: .ptr 2 0 0 0 :: .top :: .top :: .top :: .top :: .top :: .top :: .top :: .top :: .top :: .top :: .top :: .top :: .top :: .top :: .top :: .top :: .top :: .top :: .top :: .top :: .top :: .top :: .top :: .top :: .top :: .top :: .top :: .top :: .top :: .top :: .top :: .top :: .top :: [])) (fun e => [.dead, .lit 41 [.bool false, .ro 0 0 true (fun _ _ => .top)], .lit 41 [.bool (bLt 0 (p0.Group.length : Nat)), .sl 3 1 0 e.length false], .row 3 1 e.length (enR c_i64 e)]) H ?_ (fun s o H hn1_1 hn2_1 => ?_) (fun w1_3 H => ?_)
      · refine SubF_of ⟨[some 0, some 1, some 2, none], ?_, ?_, by rfl, by rfl⟩
        · simp [CvL, Cv, getM]
        · exact ⟨CvB_dead, (by simp [CvB, CvL, Cv, blkAt, geth, getM]), (by simp [CvB, CvL, Cv, blkAt, geth, getM]), CvB_none, trivial⟩
      · obtain ⟨v1_1, v1_2⟩ := s
        unfold F14_L1 at H
        try dsimp only at H ⊢
        refine sq ctNo_ok ?_
        simp only [go_sem, Nat.reduceLeDiff, Nat.reduceLT, Nat.reduceAdd, Nat.reduceMul, Nat.reduceSub, Nat.reduceEqDiff, Nat.reduceBEq, Int.reduceToNat, reduceCtorEq]
        refine seqM ?_
        refine condM' rfl trivial (fun hc => ?_) (fun hc => ?_)
        · replace H := cond_f hc H
          refine rg ctNo_ok ?_
          simp only [go_sem, Nat.reduceLeDiff, Nat.reduceLT, Nat.reduceAdd, Nat.reduceMul, Nat.reduceSub, Nat.reduceEqDiff, Nat.reduceBEq, Int.reduceToNat, reduceCtorEq]
          refine ⟨_, (Option.some.inj H).symm, ?_⟩
          refine SubF_of ⟨[some 0, some 1, some 2, some 3], ?_, ?_, by rfl, by rfl⟩
          · simp [CvL, Cv, getM]
          · exact ⟨CvB_dead, (by simp [CvB, CvL, Cv, blkAt, geth, getM]), (by simp [CvB, CvL, Cv, blkAt, geth, getM]), CvB_row nr_i64 (by first | rfl | simp) (fun _ _ _ _ => rfl), trivial⟩
        replace H := cond_t hc H
        refine rg ctNo_ok ?_
        simp only [go_sem, Nat.reduceLeDiff, Nat.reduceLT, Nat.reduceAdd, Nat.reduceMul, Nat.reduceSub, Nat.reduceEqDiff, Nat.reduceBEq, Int.reduceToNat, reduceCtorEq]
        refine seqM ?_
        refine blkM ?_
        refine seqM ?_
        obtain ⟨f3, H⟩ := need_some.1 H
        replace f3 := inb_iff.1 f3
        refine rg ctNo_ok ?_
        simp only [go_sem, Nat.reduceLeDiff, Nat.reduceLT, Nat.reduceAdd, Nat.reduceMul, Nat.reduceSub, Nat.reduceEqDiff, Nat.reduceBEq, Int.reduceToNat, reduceCtorEq, f3]
        repeat ((with_reducible refine And.intro ?_ ?_); focus (first | (with_reducible trivial) | omega | grind))
        refine sq ctNo_ok ?_
        simp only [go_sem, Nat.reduceLeDiff, Nat.reduceLT, Nat.reduceAdd, Nat.reduceMul, Nat.reduceSub, Nat.reduceEqDiff, Nat.reduceBEq, Int.reduceToNat, reduceCtorEq]
        repeat ((with_reducible refine And.intro ?_ ?_); focus (first | (with_reducible trivial) | omega | (intro x y _ _; (repeat (first | exact nfR_enI | exact nfR_lit (by simp only [nrefL, nref, and_self]) | (refine nfR_app (fun x y => ?_) (fun x y => ?_)) | (refine nfR_ins (fun x y => ?_) (fun x y => ?_)) | (refine nfR_del (fun x y => ?_)) | (refine nfR_upc (fun x y => ?_) (by simp only [nrefL, nref, and_self])) | (refine nfR_ovw (fun x y => ?_) (fun x y => ?_)) | exact nfR_getL (by simp only [nrefL, nref, and_self]))); done) | (intro x hx; (repeat (first | (exfalso; omega) | (rcases x with _ | x; first | (and_intros <;> (first | exact rfl | exact trivial | exact ⟨Or.inr rfl, Fit_enI⟩ | exact Fit_enI | exact Or.inr rfl | exact Or.inl rfl | exact fun x hx => absurd hx (by omega) | exact ⟨Or.inl rfl, fun x hx => absurd hx (by omega)⟩)) | (first | exact rfl | exact trivial | exact ⟨Or.inr rfl, Fit_enI⟩ | exact Fit_enI | exact Or.inr rfl | exact Or.inl rfl | exact fun x hx => absurd hx (by omega) | exact ⟨Or.inl rfl, fun x hx => absurd hx (by omega)⟩)))); done) | (and_intros <;> first | (with_reducible trivial) | omega | assumption | (intro x y _ _; (repeat (first | exact nfR_enI | exact nfR_lit (by simp only [nrefL, nref, and_self]) | (refine nfR_app (fun x y => ?_) (fun x y => ?_)) | (refine nfR_ins (fun x y => ?_) (fun x y => ?_)) | (refine nfR_del (fun x y => ?_)) | (refine nfR_upc (fun x y => ?_) (by simp only [nrefL, nref, and_self])) | (refine nfR_ovw (fun x y => ?_) (fun x y => ?_)) | exact nfR_getL (by simp only [nrefL, nref, and_self]))); done) | (intro x hx; (repeat (first | (exfalso; omega) | (rcases x with _ | x; first | (and_intros <;> (first | exact rfl | exact trivial | exact ⟨Or.inr rfl, Fit_enI⟩ | exact Fit_enI | exact Or.inr rfl | exact Or.inl rfl | exact fun x hx => absurd hx (by omega) | exact ⟨Or.inl rfl, fun x hx => absurd hx (by omega)⟩)) | (first | exact rfl | exact trivial | exact ⟨Or.inr rfl, Fit_enI⟩ | exact Fit_enI | exact Or.inr rfl | exact Or.inl rfl | exact fun x hx => absurd hx (by omega) | exact ⟨Or.inl rfl, fun x hx => absurd hx (by omega)⟩)))); done)) | grind))
        refine condM' rfl trivial (fun hc => ?_) (fun hc => ?_)
        · replace H := cond_f hc H
          refine rg ctNo_ok ?_
          simp only [go_sem, Nat.reduceLeDiff, Nat.reduceLT, Nat.reduceAdd, Nat.reduceMul, Nat.reduceSub, Nat.reduceEqDiff, Nat.reduceBEq, Int.reduceToNat, reduceCtorEq]
          refine rg ctNo_ok ?_
          simp only [go_sem, Nat.reduceLeDiff, Nat.reduceLT, Nat.reduceAdd, Nat.reduceMul, Nat.reduceSub, Nat.reduceEqDiff, Nat.reduceBEq, Int.reduceToNat, reduceCtorEq]
          refine ⟨_, (Option.some.inj H).symm, ?_⟩
          refine SubF_of ⟨[some 0, some 1, some 2, some 3], ?_, ?_, by rfl, by rfl⟩
          · simp [CvL, Cv, getM]
          · exact ⟨CvB_dead, (by simp [CvB, CvL, Cv, blkAt, geth, getM]), (by simp [CvB, CvL, Cv, blkAt, geth, getM]), CvB_row nr_i64 (by first | rfl | simp) (fun _ _ _ _ => rfl), trivial⟩
        replace H := cond_t hc H
        obtain ⟨f4, H⟩ := need_some.1 H
        replace f4 := capb_iff.1 f4
        refine rg ctNo_ok ?_
        simp only [go_sem, Nat.reduceLeDiff, Nat.reduceLT, Nat.reduceAdd, Nat.reduceMul, Nat.reduceSub, Nat.reduceEqDiff, Nat.reduceBEq, Int.reduceToNat, reduceCtorEq, f4]
        repeat ((with_reducible refine And.intro ?_ ?_); focus (first | (with_reducible trivial) | omega | (intro x y _ _; (repeat (first | exact nfR_enI | exact nfR_lit (by simp only [nrefL, nref, and_self]) | (refine nfR_app (fun x y => ?_) (fun x y => ?_)) | (refine nfR_ins (fun x y => ?_) (fun x y => ?_)) | (refine nfR_del (fun x y => ?_)) | (refine nfR_upc (fun x y => ?_) (by simp only [nrefL, nref, and_self])) | (refine nfR_ovw (fun x y => ?_) (fun x y => ?_)) | exact nfR_getL (by simp only [nrefL, nref, and_self]))); done) | (intro x hx; (repeat (first | (exfalso; omega) | (rcases x with _ | x; first | (and_intros <;> (first | exact rfl | exact trivial | exact ⟨Or.inr rfl, Fit_enI⟩ | exact Fit_enI | exact Or.inr rfl | exact Or.inl rfl | exact fun x hx => absurd hx (by omega) | exact ⟨Or.inl rfl, fun x hx => absurd hx (by omega)⟩)) | (first | exact rfl | exact trivial | exact ⟨Or.inr rfl, Fit_enI⟩ | exact Fit_enI | exact Or.inr rfl | exact Or.inl rfl | exact fun x hx => absurd hx (by omega) | exact ⟨Or.inl rfl, fun x hx => absurd hx (by omega)⟩)))); done) | (and_intros <;> first | (with_reducible trivial) | omega | assumption | (intro x y _ _; (repeat (first | exact nfR_enI | exact nfR_lit (by simp only [nrefL, nref, and_self]) | (refine nfR_app (fun x y => ?_) (fun x y => ?_)) | (refine nfR_ins (fun x y => ?_) (fun x y => ?_)) | (refine nfR_del (fun x y => ?_)) | (refine nfR_upc (fun x y => ?_) (by simp only [nrefL, nref, and_self])) | (refine nfR_ovw (fun x y => ?_) (fun x y => ?_)) | exact nfR_getL (by simp only [nrefL, nref, and_self]))); done) | (intro x hx; (repeat (first | (exfalso; omega) | (rcases x with _ | x; first | (and_intros <;> (first | exact rfl | exact trivial | exact ⟨Or.inr rfl, Fit_enI⟩ | exact Fit_enI | exact Or.inr rfl | exact Or.inl rfl | exact fun x hx => absurd hx (by omega) | exact ⟨Or.inl rfl, fun x hx => absurd hx (by omega)⟩)) | (first | exact rfl | exact trivial | exact ⟨Or.inr rfl, Fit_enI⟩ | exact Fit_enI | exact Or.inr rfl | exact Or.inl rfl | exact fun x hx => absurd hx (by omega) | exact ⟨Or.inl rfl, fun x hx => absurd hx (by omega)⟩)))); done)) | grind))
        refine rg ctNo_ok ?_
        simp only [go_sem, Nat.reduceLeDiff, Nat.reduceLT, Nat.reduceAdd, Nat.reduceMul, Nat.reduceSub, Nat.reduceEqDiff, Nat.reduceBEq, Int.reduceToNat, reduceCtorEq]
        refine ⟨_, (Option.some.inj H).symm, ?_⟩
        refine SubF_of ⟨[some 0, some 1, some 2, some 6], ?_, ?_, by rfl, by rfl⟩
        · simp [CvL, Cv, getM]
        · exact ⟨CvB_dead, (by simp [CvB, CvL, Cv, blkAt, geth, getM]), (by simp [CvB, CvL, Cv, blkAt, geth, getM]), CvB_row nr_i64 (by first | rfl | simp) (app_row (f := c_i64) v1_2 [(gd p0.List v1_1.toNat).Aid] (fun _ _ _ _ => rfl) (lit_row (f := c_i64) [(gd p0.List v1_1.toNat).Aid] (fun _ _ => rfl) rfl)), trivial⟩
      · try dsimp only at H ⊢
        try simp only [m_normal, k_normal, b_normal, kL_normal, r_normal]
        refine sq ctNo_ok ?_
        simp only [go_sem, Nat.reduceLeDiff, Nat.reduceLT, Nat.reduceAdd, Nat.reduceMul, Nat.reduceSub, Nat.reduceEqDiff, Nat.reduceBEq, Int.reduceToNat, reduceCtorEq]
        repeat ((with_reducible refine And.intro ?_ ?_); focus (first | (with_reducible trivial) | omega | grind))
        refine rg ctNo_ok ?_
        simp only [go_sem, Nat.reduceLeDiff, Nat.reduceLT, Nat.reduceAdd, Nat.reduceMul, Nat.reduceSub, Nat.reduceEqDiff, Nat.reduceBEq, Int.reduceToNat, reduceCtorEq]
        obtain rfl := Option.some.inj H
        refine ⟨[3, 1, 2], ?_, ?_, [], ?_, ?_, rfl⟩
        · simp only [List.length_cons, List.length_nil, Nat.zero_mul, Nat.add_zero, fzV, fzL, fzOb, fzObL, fzH, fzHF, fzB, fzObB, fzObH, inL, rowOb, geth, cond_true, cond_false, Bool.or_false, Bool.or_true, Bool.false_or, Bool.true_or, and_self, true_and, and_true, Nat.reduceEqDiff, Nat.reduceBEq, beq_self_eq_true, sub_enR0, Nat.reduceAdd, Nat.zero_add, Nat.le_refl, List.nil_append]
          try (and_intros <;> first | trivial | omega | (intro x y _ _; repeat (first | exact nfR_lit (by simp only [nrefL, nref, and_self]) | exact nfR_enI | (refine nfR_app (fun x y => ?_) (fun x y => ?_)) | (refine nfR_ins (fun x y => ?_) (fun x y => ?_)) | (refine nfR_del (fun x y => ?_)) | (refine nfR_upc (fun x y => ?_) (by simp only [nrefL, nref, and_self])) | (refine nfR_ovw (fun x y => ?_) (fun x y => ?_)) | exact nfR_getL (by simp only [nrefL, nref, and_self]))))
        · simp only [List.length_cons, List.length_nil, Nat.zero_mul, Nat.add_zero, fzV, fzL, fzOb, fzObL, fzH, fzHF, fzB, fzObB, fzObH, inL, rowOb, geth, cond_true, cond_false, Bool.or_false, Bool.or_true, Bool.false_or, Bool.true_or, and_self, true_and, and_true, Nat.reduceEqDiff, Nat.reduceBEq, beq_self_eq_true, sub_enR0, Nat.reduceAdd, Nat.zero_add, Nat.le_refl, List.nil_append]
          try (and_intros <;> first | trivial | omega | (intro x y _ _; repeat (first | exact nfR_lit (by simp only [nrefL, nref, and_self]) | exact nfR_enI | (refine nfR_app (fun x y => ?_) (fun x y => ?_)) | (refine nfR_ins (fun x y => ?_) (fun x y => ?_)) | (refine nfR_del (fun x y => ?_)) | (refine nfR_upc (fun x y => ?_) (by simp only [nrefL, nref, and_self])) | (refine nfR_ovw (fun x y => ?_) (fun x y => ?_)) | exact nfR_getL (by simp only [nrefL, nref, and_self]))))
        · simp only [List.length_cons, List.length_nil, Nat.zero_mul, Nat.add_zero, fzV, fzL, fzOb, fzObL, fzH, fzHF, fzB, fzObB, fzObH, inL, rowOb, geth, cond_true, cond_false, Bool.or_false, Bool.or_true, Bool.false_or, Bool.true_or, and_self, true_and, and_true, Nat.reduceEqDiff, Nat.reduceBEq, beq_self_eq_true, sub_enR0, Nat.reduceAdd, Nat.zero_add, Nat.le_refl, List.nil_append]
          exact Cv_tup (CvL_cons (Cv_agg (CvL_cons Cv_bool (CvL_cons (ro_row (by first | rfl | simp) (fun _ _ _ _ => rfl)) CvL_nil))) (CvL_cons Cv_int CvL_nil))
        · simp only [List.length_cons, List.length_nil, Nat.zero_mul, Nat.add_zero, fzV, fzL, fzOb, fzObL, fzH, fzHF, fzB, fzObB, fzObH, inL, rowOb, geth, cond_true, cond_false, Bool.or_false, Bool.or_true, Bool.false_or, Bool.true_or, and_self, true_and, and_true, Nat.reduceEqDiff, Nat.reduceBEq, beq_self_eq_true, sub_enR0, Nat.reduceAdd, Nat.zero_add, Nat.le_refl, List.nil_append, CvH]
    · cases hb
  · unfold body14 at hb
    split at hb <;> cases hb
end Go.Proofs.Ytefiemaoacmdkaa
