/-
  What the law reaches.
-/
import Derived.Test.YtjhkehdbjnhplaaY6p2
namespace Go.Proofs.Ytjhkehdbjnhplaa
open Go.Am
set_option linter.unusedVariables false
set_option linter.unusedSimpArgs false
attribute [local go_sem] w_skip w_label w_goto w_scope k_goto b_goto l_goto s_normal s_exit s_ret s_goto w_region w_draw w_seq w_cond w_block w_exit w_ret w_loop k_normal k_exit k_ret b_normal b_exit b_ret l_normal l_exit l_ret m_normal m_exit m_ret m_goto kL_normal kL_exit kL_ret kS_normal kS_exit kS_ret kS_goto r_normal r_ret o_nil o_cons q_nil q_cons nxt gval gvd gvl gvw dstOf evO ogOp ogC og ogL ogP ogO rho rhoO strip optOk getL setL setT absC absV absL pO hO evLoad ldB geth seth evStore stRes stB evBox evAlloc evFieldAddr evField evIndexAddr evBin2 binI binB binNR binU nilR_isEmpty nilR_t nilR_0 nilR_s evInt evStr evUn evConv cvO evPick mrg evExtract evNil evCall mapR evBuiltin evLen2 vcells vcOk atom tabF cnd retK resFin resL resA resC resCons evBuild evBuildP placeS placeA fillA fillOk putL getP nxtQ pureC_eq pureR genC_eq genR roV roL roOb roObL roW roWL roWOb roWObL nref nrefL binA binN eqSh eqRes evIndex evIndex2 evIndexS evSlice evSlice2 evSliceS evBound evConv2 cvS evAppend appRes srcOf evMake evBuildSlice repL evFn evMin evMax freshC freshR sub_enR0 evClear evClearR evCopy evCopyR lenS cutS Bool.or_false Bool.false_or Bool.or_true Bool.true_or Bool.and_false Bool.false_and Option.map_some Option.map_none Option.getD_some Option.getD_none Option.bind_some Option.bind_none Option.or_some Option.or_none Option.none_or Option.isSome_none Option.isNone_none Option.isNone_some List.nil_append List.cons_append List.append_nil cond_true cond_false List.length_cons List.length_nil beq_self_eq_true Bool.and_true Bool.true_and Bool.not_true Bool.not_false true_and and_true and_self true_implies implies_true ne_eq not_false_eq_true Bool.false_eq_true Bool.true_eq_false false_implies Nat.lt_irrefl Nat.le_refl Nat.succ_ne_self imp_self Bool.cond_false_right Bool.cond_true_left decide_true decide_false Bool.not_eq_true' Bool.not_eq_false' Bool.not_not Nat.zero_mul Nat.zero_add Nat.add_zero Nat.mul_one Nat.one_mul Bool.cond_self tsz3 tby3 tagg3 tslice3 tarr3 tzero3 tzn3 tplaces3 tint3 tstr3 tnoint3 tbool3 tany3 tintk3 tbytes3 tsz4 tby4 tagg4 tslice4 tarr4 tzero4 tzn4 tplaces4 tint4 tstr4 tnoint4 tbool4 tany4 tintk4 tbytes4 tsz5 tby5 tagg5 tslice5 tarr5 tzero5 tzn5 tplaces5 tint5 tstr5 tnoint5 tbool5 tany5 tintk5 tbytes5 tsz9 tby9 tagg9 tslice9 tarr9 tzero9 tzn9 tplaces9 tint9 tstr9 tnoint9 tbool9 tany9 tintk9 tbytes9 tsz23 tby23 tagg23 tslice23 tarr23 tzero23 tzn23 tplaces23 tint23 tstr23 tnoint23 tbool23 tany23 tintk23 tbytes23 tfld23_0 tfld23_1 tfld23_2 tfld23_3 tsz24 tby24 tagg24 tslice24 tarr24 tzero24 tzn24 tplaces24 tint24 tstr24 tnoint24 tbool24 tany24 tintk24 tbytes24 tsz25 tby25 tagg25 tslice25 tarr25 tzero25 tzn25 tplaces25 tint25 tstr25 tnoint25 tbool25 tany25 tintk25 tbytes25 tsz35 tby35 tagg35 tslice35 tarr35 tzero35 tzn35 tplaces35 tint35 tstr35 tnoint35 tbool35 tany35 tintk35 tbytes35 tsz36 tby36 tagg36 tslice36 tarr36 tzero36 tzn36 tplaces36 tint36 tstr36 tnoint36 tbool36 tany36 tintk36 tbytes36 tsz37 tby37 tagg37 tslice37 tarr37 tzero37 tzn37 tplaces37 tint37 tstr37 tnoint37 tbool37 tany37 tintk37 tbytes37 tsz39 tby39 tagg39 tslice39 tarr39 tzero39 tzn39 tplaces39 tint39 tstr39 tnoint39 tbool39 tany39 tintk39 tbytes39 tfld39_0 tfld39_1 tfld39_2 tfld39_3 tfld39_4 tfld39_5 tfld39_6 tfld39_7 tfld39_8 tfld39_9 tsz45 tby45 tagg45 tslice45 tarr45 tzero45 tzn45 tplaces45 tint45 tstr45 tnoint45 tbool45 tany45 tintk45 tbytes45 tfld45_0 tfld45_1 tfld45_2 tsz54 tby54 tagg54 tslice54 tarr54 tzero54 tzn54 tplaces54 tint54 tstr54 tnoint54 tbool54 tany54 tintk54 tbytes54 tsz79 tby79 tagg79 tslice79 tarr79 tzero79 tzn79 tplaces79 tint79 tstr79 tnoint79 tbool79 tany79 tintk79 tbytes79 tfld79_0 tfld79_1 tsz81 tby81 tagg81 tslice81 tarr81 tzero81 tzn81 tplaces81 tint81 tstr81 tnoint81 tbool81 tany81 tintk81 tbytes81 tsz83 tby83 tagg83 tslice83 tarr83 tzero83 tzn83 tplaces83 tint83 tstr83 tnoint83 tbool83 tany83 tintk83 tbytes83 tsz84 tby84 tagg84 tslice84 tarr84 tzero84 tzn84 tplaces84 tint84 tstr84 tnoint84 tbool84 tany84 tintk84 tbytes84 tsz87 tby87 tagg87 tslice87 tarr87 tzn87 tplaces87 tint87 tstr87 tnoint87 tbool87 tany87 tintk87 tbytes87 tfld87_0 tfld87_1 tfld87_2 tfld87_3 tsz88 tby88 tagg88 tslice88 tarr88 tzero88 tzn88 tplaces88 tint88 tstr88 tnoint88 tbool88 tany88 tintk88 tbytes88 tsz93 tby93 tagg93 tslice93 tarr93 tzero93 tzn93 tplaces93 tint93 tstr93 tnoint93 tbool93 tany93 tintk93 tbytes93 tsz96 tby96 tagg96 tslice96 tarr96 tzero96 tzn96 tplaces96 tint96 tstr96 tnoint96 tbool96 tany96 tintk96 tbytes96 tfld96_0 tfld96_1 tsz101 tby101 tagg101 tslice101 tarr101 tzero101 tzn101 tplaces101 tint101 tstr101 tnoint101 tbool101 tany101 tintk101 tbytes101 tsz109 tby109 tagg109 tslice109 tarr109 tzero109 tzn109 tplaces109 tint109 tstr109 tnoint109 tbool109 tany109 tintk109 tbytes109 tsz113 tby113 tagg113 tslice113 tarr113 tzero113 tzn113 tplaces113 tint113 tstr113 tnoint113 tbool113 tany113 tintk113 tbytes113 tsz119 tby119 tagg119 tslice119 tarr119 tzero119 tzn119 tplaces119 tint119 tstr119 tnoint119 tbool119 tany119 tintk119 tbytes119 tsz124 tby124 tagg124 tslice124 tarr124 tzero124 tzn124 tplaces124 tint124 tstr124 tnoint124 tbool124 tany124 tintk124 tbytes124 tsz126 tby126 tagg126 tslice126 tarr126 tzero126 tzn126 tplaces126 tint126 tstr126 tnoint126 tbool126 tany126 tintk126 tbytes126 tsz129 tby129 tagg129 tslice129 tarr129 tzero129 tzn129 tplaces129 tint129 tstr129 tnoint129 tbool129 tany129 tintk129 tbytes129 tsz130 tby130 tagg130 tslice130 tarr130 tzero130 tzn130 tplaces130 tint130 tstr130 tnoint130 tbool130 tany130 tintk130 tbytes130 tsz132 tby132 tagg132 tslice132 tarr132 tzero132 tzn132 tplaces132 tint132 tstr132 tnoint132 tbool132 tany132 tintk132 tbytes132 tfld132_0 tfld132_1 tsz139 tby139 tagg139 tslice139 tarr139 tzero139 tzn139 tplaces139 tint139 tstr139 tnoint139 tbool139 tany139 tintk139 tbytes139 tfld139_0 tfld139_1 tfld139_2 tfld139_3 tsz141 tby141 tagg141 tslice141 tarr141 tzero141 tzn141 tplaces141 tint141 tstr141 tnoint141 tbool141 tany141 tintk141 tbytes141 tsz149 tby149 tagg149 tslice149 tarr149 tzero149 tzn149 tplaces149 tint149 tstr149 tnoint149 tbool149 tany149 tintk149 tbytes149 tsz152 tby152 tagg152 tslice152 tarr152 tzero152 tzn152 tplaces152 tint152 tstr152 tnoint152 tbool152 tany152 tintk152 tbytes152 tsz155 tby155 tagg155 tslice155 tarr155 tzero155 tzn155 tplaces155 tint155 tstr155 tnoint155 tbool155 tany155 tintk155 tbytes155 tsz156 tby156 tagg156 tslice156 tarr156 tzero156 tzn156 tplaces156 tint156 tstr156 tnoint156 tbool156 tany156 tintk156 tbytes156 e_u8_0 fit_u8 de_u8 g_u8 k_u8 e_i64_0 fit_i64 de_i64 g_i64 k_i64 e_b_0 fit_b de_b g_b k_b e_s_0 fit_s de_s g_s k_s e_TRegulateWord_0 e_TRegulateWord_1 e_TRegulateWord_2 e_TRegulateWord_3 fit_TRegulateWord de_TRegulateWord g_TRegulateWord k_TRegulateWord eta_TRegulateWord e_lu8_0 fit_lu8 de_lu8 g_lu8 k_lu8 e_TRegulateChannel_0 e_TRegulateChannel_1 e_TRegulateChannel_2 fit_TRegulateChannel de_TRegulateChannel g_TRegulateChannel k_TRegulateChannel eta_TRegulateChannel e_lTRegulateChannel_0 fit_lTRegulateChannel de_lTRegulateChannel g_lTRegulateChannel k_lTRegulateChannel e_TRegulateBlock_0 e_TRegulateBlock_1 fit_TRegulateBlock de_TRegulateBlock g_TRegulateBlock k_TRegulateBlock eta_TRegulateBlock e_lTRegulateBlock_0 fit_lTRegulateBlock de_lTRegulateBlock g_lTRegulateBlock k_lTRegulateBlock e_li64_0 fit_li64 de_li64 g_li64 k_li64 e_TRegulate_0 e_TRegulate_1 e_TRegulate_2 e_TRegulate_3 e_TRegulate_4 e_TRegulate_5 e_TRegulate_6 e_TRegulate_7 e_TRegulate_8 e_TRegulate_9 fit_TRegulate de_TRegulate g_TRegulate k_TRegulate eta_TRegulate e_lTRegulateWord_0 fit_lTRegulateWord de_lTRegulateWord g_lTRegulateWord k_lTRegulateWord e_TEvent_0 e_TEvent_1 e_TEvent_2 e_TEvent_3 fit_TEvent de_TEvent g_TEvent k_TEvent eta_TEvent e_lTEvent_0 fit_lTEvent de_lTEvent g_lTEvent k_lTEvent e_lTRegulate_0 fit_lTRegulate de_lTRegulate g_lTRegulate k_lTRegulate e_u64_0 fit_u64 de_u64 g_u64 k_u64 e_TReader_0 e_TReader_1 fit_TReader de_TReader g_TReader k_TReader eta_TReader deR_0 deR_1 deR_2 deR_3 deR_4 deR_5 deR_6 deR_7 deR_8 deR_9 deR_10 deR_11 deR_12 litC_x0 litC_x1 litC_x2 litC_x3 litC_x4 litC_x5 litC_x6 litC_x7 litC_x8 litC_x9 litC_x10 litC_x11 strE_u8 Fit_0 Option.isSome_some gt_some gd_one evCopyL tabR sub_enR List.drop_zero xrD xoD roEq minL rK rM rG aL aK iK bK sK lK iA bA sA lA or_true true_or Int.toNat_natCast shT_23 shT_45 shT_79 shT_139 Int.toNat_zero Int.cast_ofNat_Int aLs roD roDOb deadL edC edR nodupB rnm rnmL rnmB rnmH rnm_bif rnmB_bif putH dropH rhoN ptB slN litL celL pK isLit oS isRow inL fzV fzL fzOb fzObL fzH fzHF fzB fzObB fzObH rowOb
/-! hotspot/hotspotref45.block -/
noncomputable def F72_L1 (p0 : List TRegulateBlock) (p1 : Int) (p2 : Int) (v1_1 : List TRegulateBlock) (v1_2 : Bool) (v1_3 : Int) : Option (Lp ((List TRegulateBlock) × Bool × Int) (((List TRegulateBlock) × Bool) ⊕ (List TRegulateBlock))) :=
  bif (bLt v1_3 (p0.length : Nat)) then (need (bif (!v1_2) then inb v1_3 p0.length else true) <| bif ((!v1_2) && (bLe p1 ((gd p0 v1_3.toNat).Channel))) then (need (capb 16 (v1_1.length + 1)) <| need (inb v1_3 p0.length) <| bif (!bEq ((gd p0 v1_3.toNat).Channel) p1) then (need (inb v1_3 p0.length) <| need (capb 16 (v1_1.length + 1 + 1)) <| some (.next (((v1_1 ++ [(TRegulateBlock.mk p1 p2)]) ++ [(gd p0 v1_3.toNat)]), true, wr .i64 (v1_3 + 1)))) else (some (.next ((v1_1 ++ [(TRegulateBlock.mk p1 p2)]), true, wr .i64 (v1_3 + 1))))) else (need (inb v1_3 p0.length) <| bif (!bEq ((gd p0 v1_3.toNat).Channel) p1) then (need (inb v1_3 p0.length) <| need (capb 16 (v1_1.length + 1)) <| some (.next ((v1_1 ++ [(gd p0 v1_3.toNat)]), v1_2, wr .i64 (v1_3 + 1)))) else (some (.next (v1_1, v1_2, wr .i64 (v1_3 + 1)))))) else (some (.done (.inl (v1_1, v1_2))))
noncomputable def F72 (p0 : List TRegulateBlock) (p1 : Int) (p2 : Int) : Option (List TRegulateBlock) :=
  lp (loopD (fun s => F72_L1 p0 p1 p2 s.1 s.2.1 s.2.2) ([], (bLt p2 0), 0)) (fun e => bif (!e.2) then (need (capb 16 (e.1.length + 1)) <| some (e.1 ++ [(TRegulateBlock.mk p1 p2)])) else (some e.1)) some
noncomputable def body72 : List AV -> List ABlk -> ED
  | [v0, v1, v2], h => .ed [] (lK k_TRegulateBlock 2 (roD (deadL h []) v0) /\ roDOb (deadL h []) v0 /\ iK .i64 (roD (deadL h []) v1) /\ roDOb (deadL h []) v1 /\ iK .i64 (roD (deadL h []) v2) /\ roDOb (deadL h []) v2 /\ (F72 (lA g_TRegulateBlock (roD (deadL h []) v0)) (iA (roD (deadL h []) v1)) (iA (roD (deadL h []) v2))).isSome = true) (.sl 0 2 0 ((gt (F72 (lA g_TRegulateBlock (roD (deadL h []) v0)) (iA (roD (deadL h []) v1)) (iA (roD (deadL h []) v2)))).length) false) [.row 79 2 ((gt (F72 (lA g_TRegulateBlock (roD (deadL h []) v0)) (iA (roD (deadL h []) v1)) (iA (roD (deadL h []) v2)))).length) (enR c_TRegulateBlock (gt (F72 (lA g_TRegulateBlock (roD (deadL h []) v0)) (iA (roD (deadL h []) v1)) (iA (roD (deadL h []) v2)))))]
  | _, _ => .fail
set_option maxHeartbeats 4000000 in
set_option maxRecDepth 20000 in
theorem ok72 : FnOk Try.prog 72 (edC body72) := by
  refine edit_fnV body72 (rs := [.tmp 6]) Try.func72 (by kernel_rfl) rfl rfl ?_
  intro l h bs ob q0 g0 hb hob
  unfold body72 at hb
  split at hb
  · rename_i v0 v1 v2
    injection hb with q1 q2 q3 q4; subst q1 q2 q3 q4
    obtain ⟨hk0_0, hk0_1, hk1_0, hk1_1, hk2_0, hk2_1, hob⟩ := hob
    obtain ⟨r, H⟩ := Option.isSome_iff_exists.1 hob
    rw [H, gt_some]
    have hw0 := lK_wk (fun r h => w_TRegulateBlock h) hk0_0
    obtain ⟨p0, hp_p0⟩ : ∃ p0, p0 = lA g_TRegulateBlock (roD (deadL h []) v0) := ⟨_, rfl⟩
    rw [← hp_p0] at H hw0
    have hw1 := iK_wk hk1_0
    obtain ⟨p1, hp_p1⟩ : ∃ p1, p1 = iA (roD (deadL h []) v1) := ⟨_, rfl⟩
    rw [← hp_p1] at H hw1
    have hw2 := iK_wk hk2_0
    obtain ⟨p2, hp_p2⟩ : ∃ p2, p2 = iA (roD (deadL h []) v2) := ⟨_, rfl⟩
    rw [← hp_p2] at H hw2
    refine ⟨[.ro 2 p0.length false (enR c_TRegulateBlock p0), .int .i64 p1, .int .i64 p2], [], rfl, ⟨(EW_view hk0_1 hw0), ⟨(EW_view hk1_1 hw1), ⟨(EW_view hk2_1 hw2), trivial⟩⟩⟩, trivial, trivial, ⟨(nfB_en nr_TRegulateBlock), trivial⟩, ⟨noroB_en, trivial⟩, (by first | (simp only [noro, noroL, and_self]; done) | (simp only [noro, noroL]; and_intros <;> first | trivial | exact noro_bif (by simp only [noro]) (by simp only [noro]) | (simp only [noro, noroL, and_self]))), ?_⟩
    rw [Try.ntmps72]
    simp only [List.length_cons, List.length_nil, Nat.reduceAdd, Nat.reduceSub, List.replicate_succ, List.replicate_zero, List.cons_append, List.nil_append]
    unfold F72 at H
    try dsimp only at H
    refine sq ctNo_ok ?_
    simp only [go_sem, Nat.reduceLeDiff, Nat.reduceLT, Nat.reduceAdd, Nat.reduceMul, Nat.reduceSub, Nat.reduceEqDiff, Nat.reduceBEq, Int.reduceToNat, reduceCtorEq]
    refine sq ctNo_ok ?_
    simp only [go_sem, Nat.reduceLeDiff, Nat.reduceLT, Nat.reduceAdd, Nat.reduceMul, Nat.reduceSub, Nat.reduceEqDiff, Nat.reduceBEq, Int.reduceToNat, reduceCtorEq]
    refine sq ctNo_ok ?_
    simp only [go_sem, Nat.reduceLeDiff, Nat.reduceLT, Nat.reduceAdd, Nat.reduceMul, Nat.reduceSub, Nat.reduceEqDiff, Nat.reduceBEq, Int.reduceToNat, reduceCtorEq]
    refine seqM ?_
    refine sq ctNo_ok ?_
    simp only [go_sem, Nat.reduceLeDiff, Nat.reduceLT, Nat.reduceAdd, Nat.reduceMul, Nat.reduceSub, Nat.reduceEqDiff, Nat.reduceBEq, Int.reduceToNat, reduceCtorEq]
    refine blkM ?_
    refine loop_den (fun s : (List TRegulateBlock) × Bool × Int => (.ro 2 p0.length false (enR c_TRegulateBlock p0) :: .int .i64 p1 :: .int .i64 p2 :: tp 4 (.sl 0 2 0 s.1.length false :: .bool s.2.1 :: .int .i64 s.2.2 :: tp 48 []))) (fun s => [.row 79 2 s.1.length (enR c_TRegulateBlock s.1)]) (fun e : (List TRegulateBlock) × Bool => (.top :: .int .i64 p1 :: .int .i64 p2 :: tp 4 (.sl 0 2 0 e.1.length false :: .bool e.2 :: tp 49 []))) (fun e => [.row 79 2 e.1.length (enR c_TRegulateBlock e.1)]) H ?_ (fun s o H hn1_1 hn2_1 => ?_) (fun e H => ?_)
    · refine SubF_of ⟨[none], ?_, ?_, by rfl, by rfl⟩
      · simp [CvL, Cv, getM, tp]
      · exact ⟨CvB_none, trivial⟩
    · obtain ⟨v1_1, v1_2, v1_3⟩ := s
      unfold F72_L1 at H
      try dsimp only at H ⊢
      try simp only [tp]
      refine seqM ?_
      refine sq ctNo_ok ?_
      simp only [go_sem, Nat.reduceLeDiff, Nat.reduceLT, Nat.reduceAdd, Nat.reduceMul, Nat.reduceSub, Nat.reduceEqDiff, Nat.reduceBEq, Int.reduceToNat, reduceCtorEq]
      repeat ((with_reducible refine And.intro ?_ ?_); focus (first | (and_intros <;> first | (with_reducible trivial) | omega | assumption | exact nfc | first | exact rfl | exact trivial | exact fitI | exact .inr rfl | exact .inl rfl | exact fun x hx => absurd hx (by omega)) | grind))
      refine condM' rfl trivial (fun hc => ?_) (fun hc => ?_)
      · replace H := cond_f hc H
        refine rg ctNo_ok ?_
        simp only [go_sem, Nat.reduceLeDiff, Nat.reduceLT, Nat.reduceAdd, Nat.reduceMul, Nat.reduceSub, Nat.reduceEqDiff, Nat.reduceBEq, Int.reduceToNat, reduceCtorEq]
        refine ⟨_, (Option.some.inj H).symm, ?_⟩
        refine SubF_of ⟨[some 0], ?_, ?_, by rfl, by rfl⟩
        · simp [CvL, Cv, getM, tp]
        · exact ⟨CvB_row nr_TRegulateBlock (by first | rfl | (simp; done) | (simp; omega)) (fun _ _ _ _ => rfl), trivial⟩
      replace H := cond_t hc H
      refine rg ctNo_ok ?_
      simp only [go_sem, Nat.reduceLeDiff, Nat.reduceLT, Nat.reduceAdd, Nat.reduceMul, Nat.reduceSub, Nat.reduceEqDiff, Nat.reduceBEq, Int.reduceToNat, reduceCtorEq]
      refine seqM ?_
      refine blkM ?_
      refine seqM ?_
      refine seqM ?_
      obtain ⟨f1, H⟩ := need_some.1 H
      replace f1 := g_iff.1 f1
      replace f1 := fun g => inb_iff.1 (f1 g)
      refine rg ctNo_ok ?_
      simp only [go_sem, Nat.reduceLeDiff, Nat.reduceLT, Nat.reduceAdd, Nat.reduceMul, Nat.reduceSub, Nat.reduceEqDiff, Nat.reduceBEq, Int.reduceToNat, reduceCtorEq]
      repeat ((with_reducible refine And.intro ?_ ?_); focus (first | (with_reducible trivial) | omega | exact f1 | (intro g; have q := f1 (by first | exact g | (rw [g]; rfl) | simpa using g); first | exact q | exact ⟨q.1, q.2.1⟩ | exact q.2.2 | omega | exact ⟨g, q⟩ | exact ⟨trivial, q⟩ | exact ⟨g, q.1, q.2.1⟩ | exact ⟨g, q.2.2⟩) | grind))
      refine condM' rfl trivial (fun hc => ?_) (fun hc => ?_)
      · replace H := cond_f hc H
        refine rg ctNo_ok ?_
        simp only [go_sem, Nat.reduceLeDiff, Nat.reduceLT, Nat.reduceAdd, Nat.reduceMul, Nat.reduceSub, Nat.reduceEqDiff, Nat.reduceBEq, Int.reduceToNat, reduceCtorEq]
        refine seqM ?_
        obtain ⟨f6, H⟩ := need_some.1 H
        replace f6 := inb_iff.1 f6
        refine rg ctNo_ok ?_
        simp only [go_sem, Nat.reduceLeDiff, Nat.reduceLT, Nat.reduceAdd, Nat.reduceMul, Nat.reduceSub, Nat.reduceEqDiff, Nat.reduceBEq, Int.reduceToNat, reduceCtorEq, f6]
        repeat ((with_reducible refine And.intro ?_ ?_); focus (first | (with_reducible trivial) | omega | grind))
        refine condM' rfl trivial (fun hc => ?_) (fun hc => ?_)
        · replace H := cond_f hc H
          refine rg ctNo_ok ?_
          simp only [go_sem, Nat.reduceLeDiff, Nat.reduceLT, Nat.reduceAdd, Nat.reduceMul, Nat.reduceSub, Nat.reduceEqDiff, Nat.reduceBEq, Int.reduceToNat, reduceCtorEq]
          refine rg ctNo_ok ?_
          simp only [go_sem, Nat.reduceLeDiff, Nat.reduceLT, Nat.reduceAdd, Nat.reduceMul, Nat.reduceSub, Nat.reduceEqDiff, Nat.reduceBEq, Int.reduceToNat, reduceCtorEq]
          refine ⟨_, (Option.some.inj H).symm, ?_⟩
          refine SubF_of ⟨[some 0], ?_, ?_, by rfl, by rfl⟩
          · simp [CvL, Cv, getM, tp]
          · exact ⟨CvB_row nr_TRegulateBlock (by first | rfl | (simp; done) | (simp; omega)) (fun _ _ _ _ => rfl), trivial⟩
        replace H := cond_t hc H
        obtain ⟨f7, H⟩ := need_some.1 H
        replace f7 := inb_iff.1 f7
        obtain ⟨f8, H⟩ := need_some.1 H
        replace f8 := capb_iff.1 f8
        refine rg ctNo_ok ?_
        simp only [go_sem, Nat.reduceLeDiff, Nat.reduceLT, Nat.reduceAdd, Nat.reduceMul, Nat.reduceSub, Nat.reduceEqDiff, Nat.reduceBEq, Int.reduceToNat, reduceCtorEq, f7, f8]
        repeat ((with_reducible refine And.intro ?_ ?_); focus (first | (and_intros <;> first | (with_reducible trivial) | omega | assumption | exact nfc | first | exact rfl | exact trivial | exact fitI | exact .inr rfl | exact .inl rfl | exact fun x hx => absurd hx (by omega) | (intro x hx; (repeat (first | (and_intros <;> (first | exact rfl | exact trivial | exact fitI | exact .inr rfl | exact .inl rfl | exact fun x hx => absurd hx (by omega))) | (exfalso; omega) | (rcases x with _ | x))); done) | (refine Fit_app ?_ ?_ <;> first | exact fitI | (intro x hx; (repeat (first | (and_intros <;> (first | exact rfl | exact trivial | exact fitI | exact .inr rfl | exact .inl rfl | exact fun x hx => absurd hx (by omega))) | (exfalso; omega) | (rcases x with _ | x))); done) | (refine Fit_app ?_ ?_ <;> first | exact fitI | (intro x hx; (repeat (first | (and_intros <;> (first | exact rfl | exact trivial | exact fitI | exact .inr rfl | exact .inl rfl | exact fun x hx => absurd hx (by omega))) | (exfalso; omega) | (rcases x with _ | x))); done)))) | grind))
        refine rg ctNo_ok ?_
        simp only [go_sem, Nat.reduceLeDiff, Nat.reduceLT, Nat.reduceAdd, Nat.reduceMul, Nat.reduceSub, Nat.reduceEqDiff, Nat.reduceBEq, Int.reduceToNat, reduceCtorEq]
        refine ⟨_, (Option.some.inj H).symm, ?_⟩
        refine SubF_of ⟨[some 2], ?_, ?_, by rfl, by rfl⟩
        · simp [CvL, Cv, getM, tp]
        · exact ⟨CvB_row nr_TRegulateBlock (by first | rfl | (simp; done) | (simp; omega)) (app_row (f := c_TRegulateBlock) v1_1 [(gd p0 v1_3.toNat)] (fun _ _ _ _ => rfl) (lit_row (f := c_TRegulateBlock) [(gd p0 v1_3.toNat)] (fun _ _ => rfl) rfl)), trivial⟩
      replace H := cond_t hc H
      refine seqM ?_
      obtain ⟨f2, H⟩ := need_some.1 H
      replace f2 := capb_iff.1 f2
      refine rg ctNo_ok ?_
      simp only [go_sem, Nat.reduceLeDiff, Nat.reduceLT, Nat.reduceAdd, Nat.reduceMul, Nat.reduceSub, Nat.reduceEqDiff, Nat.reduceBEq, Int.reduceToNat, reduceCtorEq, f2]
      repeat ((with_reducible refine And.intro ?_ ?_); focus (first | (and_intros <;> first | (with_reducible trivial) | omega | assumption | exact nfc | first | exact rfl | exact trivial | exact fitI | exact .inr rfl | exact .inl rfl | exact fun x hx => absurd hx (by omega) | (intro x hx; (repeat (first | (and_intros <;> (first | exact rfl | exact trivial | exact fitI | exact .inr rfl | exact .inl rfl | exact fun x hx => absurd hx (by omega))) | (exfalso; omega) | (rcases x with _ | x))); done) | (refine Fit_app ?_ ?_ <;> first | exact fitI | (intro x hx; (repeat (first | (and_intros <;> (first | exact rfl | exact trivial | exact fitI | exact .inr rfl | exact .inl rfl | exact fun x hx => absurd hx (by omega))) | (exfalso; omega) | (rcases x with _ | x))); done) | (refine Fit_app ?_ ?_ <;> first | exact fitI | (intro x hx; (repeat (first | (and_intros <;> (first | exact rfl | exact trivial | exact fitI | exact .inr rfl | exact .inl rfl | exact fun x hx => absurd hx (by omega))) | (exfalso; omega) | (rcases x with _ | x))); done)))) | grind))
      refine rg ctNo_ok ?_
      simp only [go_sem, Nat.reduceLeDiff, Nat.reduceLT, Nat.reduceAdd, Nat.reduceMul, Nat.reduceSub, Nat.reduceEqDiff, Nat.reduceBEq, Int.reduceToNat, reduceCtorEq]
      refine seqM ?_
      obtain ⟨f3, H⟩ := need_some.1 H
      replace f3 := inb_iff.1 f3
      refine rg ctNo_ok ?_
      simp only [go_sem, Nat.reduceLeDiff, Nat.reduceLT, Nat.reduceAdd, Nat.reduceMul, Nat.reduceSub, Nat.reduceEqDiff, Nat.reduceBEq, Int.reduceToNat, reduceCtorEq, f3]
      repeat ((with_reducible refine And.intro ?_ ?_); focus (first | (with_reducible trivial) | omega | grind))
      refine condM' rfl trivial (fun hc => ?_) (fun hc => ?_)
      · replace H := cond_f hc H
        refine rg ctNo_ok ?_
        simp only [go_sem, Nat.reduceLeDiff, Nat.reduceLT, Nat.reduceAdd, Nat.reduceMul, Nat.reduceSub, Nat.reduceEqDiff, Nat.reduceBEq, Int.reduceToNat, reduceCtorEq]
        refine rg ctNo_ok ?_
        simp only [go_sem, Nat.reduceLeDiff, Nat.reduceLT, Nat.reduceAdd, Nat.reduceMul, Nat.reduceSub, Nat.reduceEqDiff, Nat.reduceBEq, Int.reduceToNat, reduceCtorEq]
        refine ⟨_, (Option.some.inj H).symm, ?_⟩
        refine SubF_of ⟨[some 2], ?_, ?_, by rfl, by rfl⟩
        · simp [CvL, Cv, getM, tp]
        · exact ⟨CvB_row nr_TRegulateBlock (by first | rfl | (simp; done) | (simp; omega)) (app_row (f := c_TRegulateBlock) v1_1 [(TRegulateBlock.mk p1 p2)] (fun _ _ _ _ => rfl) (lit_row (f := c_TRegulateBlock) [(TRegulateBlock.mk p1 p2)] (fun _ _ => rfl) rfl)), trivial⟩
      replace H := cond_t hc H
      obtain ⟨f4, H⟩ := need_some.1 H
      replace f4 := inb_iff.1 f4
      obtain ⟨f5, H⟩ := need_some.1 H
      replace f5 := capb_iff.1 f5
      refine rg ctNo_ok ?_
      simp only [go_sem, Nat.reduceLeDiff, Nat.reduceLT, Nat.reduceAdd, Nat.reduceMul, Nat.reduceSub, Nat.reduceEqDiff, Nat.reduceBEq, Int.reduceToNat, reduceCtorEq, f4, f5]
      repeat ((with_reducible refine And.intro ?_ ?_); focus (first | (and_intros <;> first | (with_reducible trivial) | omega | assumption | exact nfc | first | exact rfl | exact trivial | exact fitI | exact .inr rfl | exact .inl rfl | exact fun x hx => absurd hx (by omega) | (intro x hx; (repeat (first | (and_intros <;> (first | exact rfl | exact trivial | exact fitI | exact .inr rfl | exact .inl rfl | exact fun x hx => absurd hx (by omega))) | (exfalso; omega) | (rcases x with _ | x))); done) | (refine Fit_app ?_ ?_ <;> first | exact fitI | (intro x hx; (repeat (first | (and_intros <;> (first | exact rfl | exact trivial | exact fitI | exact .inr rfl | exact .inl rfl | exact fun x hx => absurd hx (by omega))) | (exfalso; omega) | (rcases x with _ | x))); done) | (refine Fit_app ?_ ?_ <;> first | exact fitI | (intro x hx; (repeat (first | (and_intros <;> (first | exact rfl | exact trivial | exact fitI | exact .inr rfl | exact .inl rfl | exact fun x hx => absurd hx (by omega))) | (exfalso; omega) | (rcases x with _ | x))); done)))) | grind))
      refine rg ctNo_ok ?_
      simp only [go_sem, Nat.reduceLeDiff, Nat.reduceLT, Nat.reduceAdd, Nat.reduceMul, Nat.reduceSub, Nat.reduceEqDiff, Nat.reduceBEq, Int.reduceToNat, reduceCtorEq]
      refine ⟨_, (Option.some.inj H).symm, ?_⟩
      refine SubF_of ⟨[some 4], ?_, ?_, by rfl, by rfl⟩
      · simp [CvL, Cv, getM, tp]
      · exact ⟨CvB_row nr_TRegulateBlock (by first | rfl | (simp; done) | (simp; omega)) (app_row2 (show (v1_1 ++ [(TRegulateBlock.mk p1 p2)]).length = v1_1.length + 1 from by simp) (f := c_TRegulateBlock) (v1_1 ++ [(TRegulateBlock.mk p1 p2)]) [(gd p0 v1_3.toNat)] (app_row (f := c_TRegulateBlock) v1_1 [(TRegulateBlock.mk p1 p2)] (fun _ _ _ _ => rfl) (lit_row (f := c_TRegulateBlock) [(TRegulateBlock.mk p1 p2)] (fun _ _ => rfl) rfl)) (lit_row (f := c_TRegulateBlock) [(gd p0 v1_3.toNat)] (fun _ _ => rfl) rfl)), trivial⟩
    · obtain ⟨w1_4, w1_5⟩ := e
      try dsimp only at H ⊢
      try simp only [tp]
      try simp only [m_normal, k_normal, b_normal, kL_normal, r_normal]
      refine seqM ?_
      refine sq ctNo_ok ?_
      simp only [go_sem, Nat.reduceLeDiff, Nat.reduceLT, Nat.reduceAdd, Nat.reduceMul, Nat.reduceSub, Nat.reduceEqDiff, Nat.reduceBEq, Int.reduceToNat, reduceCtorEq]
      refine condM' rfl trivial (fun hc => ?_) (fun hc => ?_)
      · replace H := cond_f hc H
        refine rg ctNo_ok ?_
        simp only [go_sem, Nat.reduceLeDiff, Nat.reduceLT, Nat.reduceAdd, Nat.reduceMul, Nat.reduceSub, Nat.reduceEqDiff, Nat.reduceBEq, Int.reduceToNat, reduceCtorEq]
        refine sq ctNo_ok ?_
        simp only [go_sem, Nat.reduceLeDiff, Nat.reduceLT, Nat.reduceAdd, Nat.reduceMul, Nat.reduceSub, Nat.reduceEqDiff, Nat.reduceBEq, Int.reduceToNat, reduceCtorEq]
        refine rg ctNo_ok ?_
        simp only [go_sem, Nat.reduceLeDiff, Nat.reduceLT, Nat.reduceAdd, Nat.reduceMul, Nat.reduceSub, Nat.reduceEqDiff, Nat.reduceBEq, Int.reduceToNat, reduceCtorEq]
        obtain rfl := Option.some.inj H
        refine RetE_mk [] [some 0] ?_ ?_ ?_ ?_ (by rfl) (by rfl)
        · simp only [go_sem, Nat.reduceEqDiff, Nat.reduceBEq, Nat.reduceAdd]
          try (and_intros <;> first | trivial | omega | exact nfc)
        · simp only [go_sem, Nat.reduceEqDiff, Nat.reduceBEq, Nat.reduceAdd]
          try (and_intros <;> first | trivial | omega | exact nfc)
        · simp only [go_sem, Nat.reduceEqDiff, Nat.reduceBEq, Nat.reduceAdd]
          exact (by first | (simp [Cv, CvL, getM, gt_some]; done) | (simp [Cv, CvL, getM, gt_some]; omega))
        · simp only [go_sem, Nat.reduceEqDiff, Nat.reduceBEq, Nat.reduceAdd, CvH, gt_some, Option.isSome_some, Option.isSome_none]
          exact CvB_row nr_TRegulateBlock (by first | rfl | (simp; done) | (simp; omega)) (fun _ _ _ _ => rfl)
      replace H := cond_t hc H
      obtain ⟨f9, H⟩ := need_some.1 H
      replace f9 := capb_iff.1 f9
      refine rg ctNo_ok ?_
      simp only [go_sem, Nat.reduceLeDiff, Nat.reduceLT, Nat.reduceAdd, Nat.reduceMul, Nat.reduceSub, Nat.reduceEqDiff, Nat.reduceBEq, Int.reduceToNat, reduceCtorEq, f9]
      repeat ((with_reducible refine And.intro ?_ ?_); focus (first | (and_intros <;> first | (with_reducible trivial) | omega | assumption | exact nfc | first | exact rfl | exact trivial | exact fitI | exact .inr rfl | exact .inl rfl | exact fun x hx => absurd hx (by omega) | (intro x hx; (repeat (first | (and_intros <;> (first | exact rfl | exact trivial | exact fitI | exact .inr rfl | exact .inl rfl | exact fun x hx => absurd hx (by omega))) | (exfalso; omega) | (rcases x with _ | x))); done) | (refine Fit_app ?_ ?_ <;> first | exact fitI | (intro x hx; (repeat (first | (and_intros <;> (first | exact rfl | exact trivial | exact fitI | exact .inr rfl | exact .inl rfl | exact fun x hx => absurd hx (by omega))) | (exfalso; omega) | (rcases x with _ | x))); done) | (refine Fit_app ?_ ?_ <;> first | exact fitI | (intro x hx; (repeat (first | (and_intros <;> (first | exact rfl | exact trivial | exact fitI | exact .inr rfl | exact .inl rfl | exact fun x hx => absurd hx (by omega))) | (exfalso; omega) | (rcases x with _ | x))); done)))) | grind))
      refine sq ctNo_ok ?_
      simp only [go_sem, Nat.reduceLeDiff, Nat.reduceLT, Nat.reduceAdd, Nat.reduceMul, Nat.reduceSub, Nat.reduceEqDiff, Nat.reduceBEq, Int.reduceToNat, reduceCtorEq]
      refine rg ctNo_ok ?_
      simp only [go_sem, Nat.reduceLeDiff, Nat.reduceLT, Nat.reduceAdd, Nat.reduceMul, Nat.reduceSub, Nat.reduceEqDiff, Nat.reduceBEq, Int.reduceToNat, reduceCtorEq]
      obtain rfl := Option.some.inj H
      refine RetE_mk [] [some 2] ?_ ?_ ?_ ?_ (by rfl) (by rfl)
      · simp only [go_sem, Nat.reduceEqDiff, Nat.reduceBEq, Nat.reduceAdd]
        try (and_intros <;> first | trivial | omega | exact nfc)
      · simp only [go_sem, Nat.reduceEqDiff, Nat.reduceBEq, Nat.reduceAdd]
        try (and_intros <;> first | trivial | omega | exact nfc)
      · simp only [go_sem, Nat.reduceEqDiff, Nat.reduceBEq, Nat.reduceAdd]
        exact (by first | (simp [Cv, CvL, getM, gt_some]; done) | (simp [Cv, CvL, getM, gt_some]; omega))
      · simp only [go_sem, Nat.reduceEqDiff, Nat.reduceBEq, Nat.reduceAdd, CvH, gt_some, Option.isSome_some, Option.isSome_none]
        exact CvB_row nr_TRegulateBlock (by first | rfl | (simp; done) | (simp; omega)) (app_row (f := c_TRegulateBlock) w1_4 [(TRegulateBlock.mk p1 p2)] (fun _ _ _ _ => rfl) (lit_row (f := c_TRegulateBlock) [(TRegulateBlock.mk p1 p2)] (fun _ _ => rfl) rfl))
  · cases hb
/-! hotspot/hotspotref45.Listened -/
noncomputable def ct30t0 : Ct := tab [(64, pureC body64)]
theorem ct30t0_ok : CtOk Try.prog ct30t0 := tab_cons ok64 <| tab_nil
theorem ct30t0_64 (l : List AV) (h : List ABlk) : ct30t0 64 l h = pureC body64 l h := rfl
noncomputable def ct30t1 : Ct := tab [(18, pureC body18)]
theorem ct30t1_ok : CtOk Try.prog ct30t1 := tab_cons ok18 <| tab_nil
theorem ct30t1_18 (l : List AV) (h : List ABlk) : ct30t1 18 l h = pureC body18 l h := rfl
noncomputable def ct30t2 : Ct := tab [(19, pureC body19)]
theorem ct30t2_ok : CtOk Try.prog ct30t2 := tab_cons ok19 <| tab_nil
theorem ct30t2_19 (l : List AV) (h : List ABlk) : ct30t2 19 l h = pureC body19 l h := rfl
noncomputable def ct30t3 : Ct := tab [(24, edC body24)]
theorem ct30t3_ok : CtOk Try.prog ct30t3 := tab_cons ok24 <| tab_nil
theorem ct30t3_24 (l : List AV) (h : List ABlk) : ct30t3 24 l h = edC body24 l h := rfl
noncomputable def ct30t4 : Ct := tab [(72, edC body72)]
theorem ct30t4_ok : CtOk Try.prog ct30t4 := tab_cons ok72 <| tab_nil
theorem ct30t4_72 (l : List AV) (h : List ABlk) : ct30t4 72 l h = edC body72 l h := rfl
noncomputable def ct30t5 : Ct := tab [(20, pureC body20)]
theorem ct30t5_ok : CtOk Try.prog ct30t5 := tab_cons ok20 <| tab_nil
theorem ct30t5_20 (l : List AV) (h : List ABlk) : ct30t5 20 l h = pureC body20 l h := rfl
noncomputable def F30_L1 (p0 : TRegulate) (p1 : Int) (v1_1 : Int) (v1_2 : List Int) : Option (Lp (Int × (List Int)) ((List Int) ⊕ (TRegulate × Int))) :=
  bif (bLt v1_1 (p0.Table.length : Nat)) then (need (inb v1_1 p0.Table.length) <| need (bif (!(bEq ((gd p0.Table v1_1.toNat).Number) p1)) then ((F20 p0.Clear ((gd p0.Table v1_1.toNat).Number)).isSome) else true) <| bif ((bEq ((gd p0.Table v1_1.toNat).Number) p1) || (gt (F20 p0.Clear ((gd p0.Table v1_1.toNat).Number)))) then (need (capb 8 (v1_2.length + 1)) <| some (.next (wr .i64 (v1_1 + 1), (v1_2 ++ [(gd p0.Table v1_1.toNat).Number])))) else (some (.next (wr .i64 (v1_1 + 1), v1_2)))) else (some (.done (.inl v1_2)))
noncomputable def F30_L2 (p0 : TRegulate) (p1 : Int) (v2_1 : Int) (v2_2 : List Int) : Option (Lp (Int × (List Int)) ((List Int) ⊕ (TRegulate × Int))) :=
  bif (bLt v2_1 (p0.Table.length : Nat)) then (need (inb v2_1 p0.Table.length) <| need (bif (!(bEq ((gd p0.Table v2_1.toNat).Number) p1)) then ((F20 p0.Clear ((gd p0.Table v2_1.toNat).Number)).isSome) else true) <| bif ((bEq ((gd p0.Table v2_1.toNat).Number) p1) || (gt (F20 p0.Clear ((gd p0.Table v2_1.toNat).Number)))) then (need (capb 8 (v2_2.length + 1)) <| some (.next (wr .i64 (v2_1 + 1), (v2_2 ++ [(gd p0.Table v2_1.toNat).Number])))) else (some (.next (wr .i64 (v2_1 + 1), v2_2)))) else (some (.done (.inl v2_2)))
noncomputable def F30 (p0 : TRegulate) (p1 : Int) (p2 : Int) (p3 : Int) : Option (TRegulate × Int) :=
  (F64 p0 p2 0).bind fun r1 => bif (bEq r1 0) then ((F64 p0 p3 0).bind fun r3 => bif (!bEq r3 0) then (some ((TRegulate.mk [] 0 false 0 false false 0 0 [] []), r3)) else ((F18 p0.Table p1).bind fun r5 => (F19 p0.Blocked p1).bind fun r7 => bif (!r5.2) then (some ((TRegulate.mk [] 0 false 0 false false 0 0 [] []), 6)) else (bif (bLt (wr .i64 (p3 - p2)) 60000000) then (some ((TRegulate.mk [] 0 false 0 false false 0 0 [] []), 40)) else (bif (r7.2 && (bLt p3 r7.1)) then (some ((TRegulate.mk [] 0 false 0 false false 0 0 [] []), 20)) else ((F24 p0).bind fun r9 => (F72 p0.Blocked p1 (-1)).bind fun r11 => bif r5.1.Radar then (lp (loopD (fun s => F30_L1 p0 p1 s.1 s.2) (0, [])) (fun w1_5 => some ((TRegulate.mk r9.Table r9.Channel r9.Lead r9.Heard r9.Stopped r9.Moving r9.To r9.At r11 w1_5), 0)) some) else (some ((TRegulate.mk r9.Table r9.Channel r9.Lead r9.Heard r9.Stopped r9.Moving r9.To r9.At r11 r9.Clear), 0))))))) else (bif (!bEq r1 0) then (some ((TRegulate.mk [] 0 false 0 false false 0 0 [] []), r1)) else ((F18 p0.Table p1).bind fun r16 => (F19 p0.Blocked p1).bind fun r18 => bif (!r16.2) then (some ((TRegulate.mk [] 0 false 0 false false 0 0 [] []), 6)) else (bif (bLt (wr .i64 (p3 - p2)) 60000000) then (some ((TRegulate.mk [] 0 false 0 false false 0 0 [] []), 40)) else (bif (r18.2 && (bLt p3 r18.1)) then (some ((TRegulate.mk [] 0 false 0 false false 0 0 [] []), 20)) else ((F24 p0).bind fun r20 => (F72 p0.Blocked p1 (-1)).bind fun r22 => bif r16.1.Radar then (lp (loopD (fun s => F30_L2 p0 p1 s.1 s.2) (0, [])) (fun w2_5 => some ((TRegulate.mk r20.Table r20.Channel r20.Lead r20.Heard r20.Stopped r20.Moving r20.To r20.At r22 w2_5), 0)) some) else (some ((TRegulate.mk r20.Table r20.Channel r20.Lead r20.Heard r20.Stopped r20.Moving r20.To r20.At r22 r20.Clear), 0)))))))
noncomputable def body30 : List AV -> List ABlk -> ED
  | [v0, v1, v2, v3], h => .ed [] (aK 10 k_TRegulate (roD (deadL h []) v0) /\ roDOb (deadL h []) v0 /\ iK .i64 (roD (deadL h []) v1) /\ roDOb (deadL h []) v1 /\ iK .i64 (roD (deadL h []) v2) /\ roDOb (deadL h []) v2 /\ iK .i64 (roD (deadL h []) v3) /\ roDOb (deadL h []) v3 /\ (F30 (g_TRegulate (aL (roD (deadL h []) v0))) (iA (roD (deadL h []) v1)) (iA (roD (deadL h []) v2)) (iA (roD (deadL h []) v3))).isSome = true) (.tup [.agg [.sl 0 3 0 ((((gt (F30 (g_TRegulate (aL (roD (deadL h []) v0))) (iA (roD (deadL h []) v1)) (iA (roD (deadL h []) v2)) (iA (roD (deadL h []) v3)))).1).Table).length) false, .int .i64 (((gt (F30 (g_TRegulate (aL (roD (deadL h []) v0))) (iA (roD (deadL h []) v1)) (iA (roD (deadL h []) v2)) (iA (roD (deadL h []) v3)))).1).Channel), .bool (((gt (F30 (g_TRegulate (aL (roD (deadL h []) v0))) (iA (roD (deadL h []) v1)) (iA (roD (deadL h []) v2)) (iA (roD (deadL h []) v3)))).1).Lead), .int .i64 (((gt (F30 (g_TRegulate (aL (roD (deadL h []) v0))) (iA (roD (deadL h []) v1)) (iA (roD (deadL h []) v2)) (iA (roD (deadL h []) v3)))).1).Heard), .bool (((gt (F30 (g_TRegulate (aL (roD (deadL h []) v0))) (iA (roD (deadL h []) v1)) (iA (roD (deadL h []) v2)) (iA (roD (deadL h []) v3)))).1).Stopped), .bool (((gt (F30 (g_TRegulate (aL (roD (deadL h []) v0))) (iA (roD (deadL h []) v1)) (iA (roD (deadL h []) v2)) (iA (roD (deadL h []) v3)))).1).Moving), .int .i64 (((gt (F30 (g_TRegulate (aL (roD (deadL h []) v0))) (iA (roD (deadL h []) v1)) (iA (roD (deadL h []) v2)) (iA (roD (deadL h []) v3)))).1).To), .int .i64 (((gt (F30 (g_TRegulate (aL (roD (deadL h []) v0))) (iA (roD (deadL h []) v1)) (iA (roD (deadL h []) v2)) (iA (roD (deadL h []) v3)))).1).At), .sl 1 2 0 ((((gt (F30 (g_TRegulate (aL (roD (deadL h []) v0))) (iA (roD (deadL h []) v1)) (iA (roD (deadL h []) v2)) (iA (roD (deadL h []) v3)))).1).Blocked).length) false, .sl 2 1 0 ((((gt (F30 (g_TRegulate (aL (roD (deadL h []) v0))) (iA (roD (deadL h []) v1)) (iA (roD (deadL h []) v2)) (iA (roD (deadL h []) v3)))).1).Clear).length) false], .int .i64 ((gt (F30 (g_TRegulate (aL (roD (deadL h []) v0))) (iA (roD (deadL h []) v1)) (iA (roD (deadL h []) v2)) (iA (roD (deadL h []) v3)))).2)]) [.row 45 3 ((((gt (F30 (g_TRegulate (aL (roD (deadL h []) v0))) (iA (roD (deadL h []) v1)) (iA (roD (deadL h []) v2)) (iA (roD (deadL h []) v3)))).1).Table).length) (enR c_TRegulateChannel (((gt (F30 (g_TRegulate (aL (roD (deadL h []) v0))) (iA (roD (deadL h []) v1)) (iA (roD (deadL h []) v2)) (iA (roD (deadL h []) v3)))).1).Table)), .row 79 2 ((((gt (F30 (g_TRegulate (aL (roD (deadL h []) v0))) (iA (roD (deadL h []) v1)) (iA (roD (deadL h []) v2)) (iA (roD (deadL h []) v3)))).1).Blocked).length) (enR c_TRegulateBlock (((gt (F30 (g_TRegulate (aL (roD (deadL h []) v0))) (iA (roD (deadL h []) v1)) (iA (roD (deadL h []) v2)) (iA (roD (deadL h []) v3)))).1).Blocked)), .row 3 1 ((((gt (F30 (g_TRegulate (aL (roD (deadL h []) v0))) (iA (roD (deadL h []) v1)) (iA (roD (deadL h []) v2)) (iA (roD (deadL h []) v3)))).1).Clear).length) (enR c_i64 (((gt (F30 (g_TRegulate (aL (roD (deadL h []) v0))) (iA (roD (deadL h []) v1)) (iA (roD (deadL h []) v2)) (iA (roD (deadL h []) v3)))).1).Clear))]
  | _, _ => .fail
set_option maxHeartbeats 4000000 in
set_option maxRecDepth 20000 in
theorem ok30 : FnOk Try.prog 30 (edC body30) := by
  refine edit_fnV body30 (rs := [.cell 8 39, .tmp 9]) Try.func30 (by kernel_rfl) rfl rfl ?_
  intro l h bs ob q0 g0 hb hob
  unfold body30 at hb
  split at hb
  · rename_i v0 v1 v2 v3
    injection hb with q1 q2 q3 q4; subst q1 q2 q3 q4
    obtain ⟨hk0_0, hk0_1, hk1_0, hk1_1, hk2_0, hk2_1, hk3_0, hk3_1, hob⟩ := hob
    obtain ⟨r, H⟩ := Option.isSome_iff_exists.1 hob
    rw [H, gt_some]
    have hw0 := wA_TRegulate hk0_0
    obtain ⟨p0, hp_p0⟩ : ∃ p0, p0 = g_TRegulate (aL (roD (deadL h []) v0)) := ⟨_, rfl⟩
    rw [← hp_p0] at H hw0
    have hw1 := iK_wk hk1_0
    obtain ⟨p1, hp_p1⟩ : ∃ p1, p1 = iA (roD (deadL h []) v1) := ⟨_, rfl⟩
    rw [← hp_p1] at H hw1
    have hw2 := iK_wk hk2_0
    obtain ⟨p2, hp_p2⟩ : ∃ p2, p2 = iA (roD (deadL h []) v2) := ⟨_, rfl⟩
    rw [← hp_p2] at H hw2
    have hw3 := iK_wk hk3_0
    obtain ⟨p3, hp_p3⟩ : ∃ p3, p3 = iA (roD (deadL h []) v3) := ⟨_, rfl⟩
    rw [← hp_p3] at H hw3
    refine ⟨[.agg [.ro 3 p0.Table.length false (enR c_TRegulateChannel p0.Table), .int .i64 p0.Channel, .bool p0.Lead, .int .i64 p0.Heard, .bool p0.Stopped, .bool p0.Moving, .int .i64 p0.To, .int .i64 p0.At, .ro 2 p0.Blocked.length false (enR c_TRegulateBlock p0.Blocked), .ro 1 p0.Clear.length false (enR c_i64 p0.Clear)], .int .i64 p1, .int .i64 p2, .int .i64 p3], [], rfl, ⟨(EW_view hk0_1 hw0), ⟨(EW_view hk1_1 hw1), ⟨(EW_view hk2_1 hw2), ⟨(EW_view hk3_1 hw3), trivial⟩⟩⟩⟩, trivial, trivial, ⟨(nfB_en nr_TRegulateChannel), ⟨(nfB_en nr_TRegulateBlock), ⟨(nfB_en nr_i64), trivial⟩⟩⟩, ⟨noroB_en, ⟨noroB_en, ⟨noroB_en, trivial⟩⟩⟩, (by first | (simp only [noro, noroL, and_self]; done) | (simp only [noro, noroL]; and_intros <;> first | trivial | exact noro_bif (by simp only [noro]) (by simp only [noro]) | (simp only [noro, noroL, and_self]))), ?_⟩
    rw [Try.ntmps30]
    simp only [List.length_cons, List.length_nil, Nat.reduceAdd, Nat.reduceSub, List.replicate_succ, List.replicate_zero, List.cons_append, List.nil_append]
    unfold F30 at H
    try dsimp only at H
    refine sq ctNo_ok ?_
    simp only [go_sem, Nat.reduceLeDiff, Nat.reduceLT, Nat.reduceAdd, Nat.reduceMul, Nat.reduceSub, Nat.reduceEqDiff, Nat.reduceBEq, Int.reduceToNat, reduceCtorEq]
    refine seqM ?_
    obtain ⟨r1, e2, H⟩ := bsi H
    refine rg ct30t0_ok ?_
    simp only [go_sem, Nat.reduceLeDiff, Nat.reduceLT, Nat.reduceAdd, Nat.reduceMul, Nat.reduceSub, Nat.reduceEqDiff, Nat.reduceBEq, Int.reduceToNat, reduceCtorEq, ct30t0_64, body64, e2]
    repeat ((with_reducible refine And.intro ?_ ?_); focus (first | (and_intros <;> first | (with_reducible trivial) | omega | assumption | exact nfc | first | exact rfl | exact trivial | exact fitI | exact .inr rfl | exact .inl rfl | exact fun x hx => absurd hx (by omega)) | grind))
    refine seqM ?_
    refine sq ctNo_ok ?_
    simp only [go_sem, Nat.reduceLeDiff, Nat.reduceLT, Nat.reduceAdd, Nat.reduceMul, Nat.reduceSub, Nat.reduceEqDiff, Nat.reduceBEq, Int.reduceToNat, reduceCtorEq]
    refine condM' rfl trivial (fun hc => ?_) (fun hc => ?_)
    · replace H := cond_f hc H
      refine rg ctNo_ok ?_
      simp only [go_sem, Nat.reduceLeDiff, Nat.reduceLT, Nat.reduceAdd, Nat.reduceMul, Nat.reduceSub, Nat.reduceEqDiff, Nat.reduceBEq, Int.reduceToNat, reduceCtorEq]
      refine seqM ?_
      refine sq ctNo_ok ?_
      simp only [go_sem, Nat.reduceLeDiff, Nat.reduceLT, Nat.reduceAdd, Nat.reduceMul, Nat.reduceSub, Nat.reduceEqDiff, Nat.reduceBEq, Int.reduceToNat, reduceCtorEq]
      refine condM rfl trivial (fun hc => ?_) (fun hc => ?_)
      · replace H := cond_t hc H
        refine sq ctNo_ok ?_
        simp only [go_sem, Nat.reduceLeDiff, Nat.reduceLT, Nat.reduceAdd, Nat.reduceMul, Nat.reduceSub, Nat.reduceEqDiff, Nat.reduceBEq, Int.reduceToNat, reduceCtorEq]
        repeat ((with_reducible refine And.intro ?_ ?_); focus (first | (with_reducible trivial) | omega | grind))
        refine rg ctNo_ok ?_
        simp only [go_sem, Nat.reduceLeDiff, Nat.reduceLT, Nat.reduceAdd, Nat.reduceMul, Nat.reduceSub, Nat.reduceEqDiff, Nat.reduceBEq, Int.reduceToNat, reduceCtorEq]
        obtain rfl := Option.some.inj H
        refine RetE_mk [] [none, none, none] ?_ ?_ ?_ ?_ (by rfl) (by rfl)
        · simp only [go_sem, Nat.reduceEqDiff, Nat.reduceBEq, Nat.reduceAdd]
          try (and_intros <;> first | trivial | omega | exact nfc)
        · simp only [go_sem, Nat.reduceEqDiff, Nat.reduceBEq, Nat.reduceAdd]
          try (and_intros <;> first | trivial | omega | exact nfc)
        · simp only [go_sem, Nat.reduceEqDiff, Nat.reduceBEq, Nat.reduceAdd]
          exact Cv_tup (CvL_cons (by first | (simp [Cv, CvL, getM, gt_some]; done) | (simp [Cv, CvL, getM, gt_some]; omega)) (CvL_cons (by simp [Cv, CvL, getM, gt_some]) CvL_nil))
        · simp only [go_sem, Nat.reduceEqDiff, Nat.reduceBEq, Nat.reduceAdd, CvH, gt_some, Option.isSome_some, Option.isSome_none]
          first | exact ⟨CvB_none, CvB_none, CvB_none⟩ | trivial
      replace H := cond_f hc H
      refine rg ctNo_ok ?_
      simp only [go_sem, Nat.reduceLeDiff, Nat.reduceLT, Nat.reduceAdd, Nat.reduceMul, Nat.reduceSub, Nat.reduceEqDiff, Nat.reduceBEq, Int.reduceToNat, reduceCtorEq]
      refine seqM ?_
      obtain ⟨r16, e17, H⟩ := bsi H
      refine rg ct30t1_ok ?_
      simp only [go_sem, Nat.reduceLeDiff, Nat.reduceLT, Nat.reduceAdd, Nat.reduceMul, Nat.reduceSub, Nat.reduceEqDiff, Nat.reduceBEq, Int.reduceToNat, reduceCtorEq, ct30t1_18, body18, e17]
      repeat ((with_reducible refine And.intro ?_ ?_); focus (first | (and_intros <;> first | (with_reducible trivial) | omega | assumption | exact nfc | first | exact rfl | exact trivial | exact fitI | exact .inr rfl | exact .inl rfl | exact fun x hx => absurd hx (by omega)) | grind))
      refine seqM ?_
      obtain ⟨r18, e19, H⟩ := bsi H
      refine rg ct30t2_ok ?_
      simp only [go_sem, Nat.reduceLeDiff, Nat.reduceLT, Nat.reduceAdd, Nat.reduceMul, Nat.reduceSub, Nat.reduceEqDiff, Nat.reduceBEq, Int.reduceToNat, reduceCtorEq, ct30t2_19, body19, e19]
      repeat ((with_reducible refine And.intro ?_ ?_); focus (first | (and_intros <;> first | (with_reducible trivial) | omega | assumption | exact nfc | first | exact rfl | exact trivial | exact fitI | exact .inr rfl | exact .inl rfl | exact fun x hx => absurd hx (by omega)) | grind))
      refine seqM ?_
      refine blkM ?_
      refine sq ctNo_ok ?_
      simp only [go_sem, Nat.reduceLeDiff, Nat.reduceLT, Nat.reduceAdd, Nat.reduceMul, Nat.reduceSub, Nat.reduceEqDiff, Nat.reduceBEq, Int.reduceToNat, reduceCtorEq]
      refine condM rfl trivial (fun hc => ?_) (fun hc => ?_)
      · replace H := cond_t hc H
        refine sq ctNo_ok ?_
        simp only [go_sem, Nat.reduceLeDiff, Nat.reduceLT, Nat.reduceAdd, Nat.reduceMul, Nat.reduceSub, Nat.reduceEqDiff, Nat.reduceBEq, Int.reduceToNat, reduceCtorEq]
        repeat ((with_reducible refine And.intro ?_ ?_); focus (first | (with_reducible trivial) | omega | grind))
        refine rg ctNo_ok ?_
        simp only [go_sem, Nat.reduceLeDiff, Nat.reduceLT, Nat.reduceAdd, Nat.reduceMul, Nat.reduceSub, Nat.reduceEqDiff, Nat.reduceBEq, Int.reduceToNat, reduceCtorEq]
        obtain rfl := Option.some.inj H
        refine RetE_mk [] [none, none, none] ?_ ?_ ?_ ?_ (by rfl) (by rfl)
        · simp only [go_sem, Nat.reduceEqDiff, Nat.reduceBEq, Nat.reduceAdd]
          try (and_intros <;> first | trivial | omega | exact nfc)
        · simp only [go_sem, Nat.reduceEqDiff, Nat.reduceBEq, Nat.reduceAdd]
          try (and_intros <;> first | trivial | omega | exact nfc)
        · simp only [go_sem, Nat.reduceEqDiff, Nat.reduceBEq, Nat.reduceAdd]
          exact Cv_tup (CvL_cons (by first | (simp [Cv, CvL, getM, gt_some]; done) | (simp [Cv, CvL, getM, gt_some]; omega)) (CvL_cons (by simp [Cv, CvL, getM, gt_some]) CvL_nil))
        · simp only [go_sem, Nat.reduceEqDiff, Nat.reduceBEq, Nat.reduceAdd, CvH, gt_some, Option.isSome_some, Option.isSome_none]
          first | exact ⟨CvB_none, CvB_none, CvB_none⟩ | trivial
      replace H := cond_f hc H
      refine sq ctNo_ok ?_
      simp only [go_sem, Nat.reduceLeDiff, Nat.reduceLT, Nat.reduceAdd, Nat.reduceMul, Nat.reduceSub, Nat.reduceEqDiff, Nat.reduceBEq, Int.reduceToNat, reduceCtorEq]
      refine condM rfl trivial (fun hc => ?_) (fun hc => ?_)
      · replace H := cond_t hc H
        refine sq ctNo_ok ?_
        simp only [go_sem, Nat.reduceLeDiff, Nat.reduceLT, Nat.reduceAdd, Nat.reduceMul, Nat.reduceSub, Nat.reduceEqDiff, Nat.reduceBEq, Int.reduceToNat, reduceCtorEq]
        repeat ((with_reducible refine And.intro ?_ ?_); focus (first | (with_reducible trivial) | omega | grind))
        refine rg ctNo_ok ?_
        simp only [go_sem, Nat.reduceLeDiff, Nat.reduceLT, Nat.reduceAdd, Nat.reduceMul, Nat.reduceSub, Nat.reduceEqDiff, Nat.reduceBEq, Int.reduceToNat, reduceCtorEq]
        obtain rfl := Option.some.inj H
        refine RetE_mk [] [none, none, none] ?_ ?_ ?_ ?_ (by rfl) (by rfl)
        · simp only [go_sem, Nat.reduceEqDiff, Nat.reduceBEq, Nat.reduceAdd]
          try (and_intros <;> first | trivial | omega | exact nfc)
        · simp only [go_sem, Nat.reduceEqDiff, Nat.reduceBEq, Nat.reduceAdd]
          try (and_intros <;> first | trivial | omega | exact nfc)
        · simp only [go_sem, Nat.reduceEqDiff, Nat.reduceBEq, Nat.reduceAdd]
          exact Cv_tup (CvL_cons (by first | (simp [Cv, CvL, getM, gt_some]; done) | (simp [Cv, CvL, getM, gt_some]; omega)) (CvL_cons (by simp [Cv, CvL, getM, gt_some]) CvL_nil))
        · simp only [go_sem, Nat.reduceEqDiff, Nat.reduceBEq, Nat.reduceAdd, CvH, gt_some, Option.isSome_some, Option.isSome_none]
          first | exact ⟨CvB_none, CvB_none, CvB_none⟩ | trivial
      replace H := cond_f hc H
      refine sq ctNo_ok ?_
      simp only [go_sem, Nat.reduceLeDiff, Nat.reduceLT, Nat.reduceAdd, Nat.reduceMul, Nat.reduceSub, Nat.reduceEqDiff, Nat.reduceBEq, Int.reduceToNat, reduceCtorEq]
      repeat ((with_reducible refine And.intro ?_ ?_); focus (first | (with_reducible trivial) | omega | grind))
      refine condM rfl trivial (fun hc => ?_) (fun hc => ?_)
      · replace H := cond_t hc H
        refine sq ctNo_ok ?_
        simp only [go_sem, Nat.reduceLeDiff, Nat.reduceLT, Nat.reduceAdd, Nat.reduceMul, Nat.reduceSub, Nat.reduceEqDiff, Nat.reduceBEq, Int.reduceToNat, reduceCtorEq]
        repeat ((with_reducible refine And.intro ?_ ?_); focus (first | (with_reducible trivial) | omega | grind))
        refine rg ctNo_ok ?_
        simp only [go_sem, Nat.reduceLeDiff, Nat.reduceLT, Nat.reduceAdd, Nat.reduceMul, Nat.reduceSub, Nat.reduceEqDiff, Nat.reduceBEq, Int.reduceToNat, reduceCtorEq]
        obtain rfl := Option.some.inj H
        refine RetE_mk [] [none, none, none] ?_ ?_ ?_ ?_ (by rfl) (by rfl)
        · simp only [go_sem, Nat.reduceEqDiff, Nat.reduceBEq, Nat.reduceAdd]
          try (and_intros <;> first | trivial | omega | exact nfc)
        · simp only [go_sem, Nat.reduceEqDiff, Nat.reduceBEq, Nat.reduceAdd]
          try (and_intros <;> first | trivial | omega | exact nfc)
        · simp only [go_sem, Nat.reduceEqDiff, Nat.reduceBEq, Nat.reduceAdd]
          exact Cv_tup (CvL_cons (by first | (simp [Cv, CvL, getM, gt_some]; done) | (simp [Cv, CvL, getM, gt_some]; omega)) (CvL_cons (by simp [Cv, CvL, getM, gt_some]) CvL_nil))
        · simp only [go_sem, Nat.reduceEqDiff, Nat.reduceBEq, Nat.reduceAdd, CvH, gt_some, Option.isSome_some, Option.isSome_none]
          first | exact ⟨CvB_none, CvB_none, CvB_none⟩ | trivial
      replace H := cond_f hc H
      refine rg ctNo_ok ?_
      simp only [go_sem, Nat.reduceLeDiff, Nat.reduceLT, Nat.reduceAdd, Nat.reduceMul, Nat.reduceSub, Nat.reduceEqDiff, Nat.reduceBEq, Int.reduceToNat, reduceCtorEq]
      refine seqM ?_
      obtain ⟨r20, e21, H⟩ := bsi H
      refine rg ct30t3_ok ?_
      simp only [go_sem, Nat.reduceLeDiff, Nat.reduceLT, Nat.reduceAdd, Nat.reduceMul, Nat.reduceSub, Nat.reduceEqDiff, Nat.reduceBEq, Int.reduceToNat, reduceCtorEq, ct30t3_24, body24, e21]
      repeat ((with_reducible refine And.intro ?_ ?_); focus (first | (and_intros <;> first | (with_reducible trivial) | omega | assumption | exact nfc | first | exact rfl | exact trivial | exact fitI | exact .inr rfl | exact .inl rfl | exact fun x hx => absurd hx (by omega)) | grind))
      refine seqM ?_
      obtain ⟨r22, e23, H⟩ := bsi H
      refine rg ct30t4_ok ?_
      simp only [go_sem, Nat.reduceLeDiff, Nat.reduceLT, Nat.reduceAdd, Nat.reduceMul, Nat.reduceSub, Nat.reduceEqDiff, Nat.reduceBEq, Int.reduceToNat, reduceCtorEq, ct30t4_72, body72, e23]
      repeat ((with_reducible refine And.intro ?_ ?_); focus (first | (and_intros <;> first | (with_reducible trivial) | omega | assumption | exact nfc | first | exact rfl | exact trivial | exact fitI | exact .inr rfl | exact .inl rfl | exact fun x hx => absurd hx (by omega)) | grind))
      refine seqM ?_
      refine sq ctNo_ok ?_
      simp only [go_sem, Nat.reduceLeDiff, Nat.reduceLT, Nat.reduceAdd, Nat.reduceMul, Nat.reduceSub, Nat.reduceEqDiff, Nat.reduceBEq, Int.reduceToNat, reduceCtorEq]
      refine condM' rfl trivial (fun hc => ?_) (fun hc => ?_)
      · replace H := cond_f hc H
        refine rg ctNo_ok ?_
        simp only [go_sem, Nat.reduceLeDiff, Nat.reduceLT, Nat.reduceAdd, Nat.reduceMul, Nat.reduceSub, Nat.reduceEqDiff, Nat.reduceBEq, Int.reduceToNat, reduceCtorEq]
        refine sq ctNo_ok ?_
        simp only [go_sem, Nat.reduceLeDiff, Nat.reduceLT, Nat.reduceAdd, Nat.reduceMul, Nat.reduceSub, Nat.reduceEqDiff, Nat.reduceBEq, Int.reduceToNat, reduceCtorEq]
        repeat ((with_reducible refine And.intro ?_ ?_); focus (first | (with_reducible trivial) | omega | grind))
        refine rg ctNo_ok ?_
        simp only [go_sem, Nat.reduceLeDiff, Nat.reduceLT, Nat.reduceAdd, Nat.reduceMul, Nat.reduceSub, Nat.reduceEqDiff, Nat.reduceBEq, Int.reduceToNat, reduceCtorEq]
        obtain rfl := Option.some.inj H
        refine RetE_mk [] [some 3, some 7, some 5] ?_ ?_ ?_ ?_ (by rfl) (by rfl)
        · simp only [go_sem, Nat.reduceEqDiff, Nat.reduceBEq, Nat.reduceAdd]
          try (and_intros <;> first | trivial | omega | exact nfc)
        · simp only [go_sem, Nat.reduceEqDiff, Nat.reduceBEq, Nat.reduceAdd]
          try (and_intros <;> first | trivial | omega | exact nfc)
        · simp only [go_sem, Nat.reduceEqDiff, Nat.reduceBEq, Nat.reduceAdd]
          exact Cv_tup (CvL_cons (by first | (simp [Cv, CvL, getM, gt_some]; done) | (simp [Cv, CvL, getM, gt_some]; omega)) (CvL_cons (by simp [Cv, CvL, getM, gt_some]) CvL_nil))
        · simp only [go_sem, Nat.reduceEqDiff, Nat.reduceBEq, Nat.reduceAdd, CvH, gt_some, Option.isSome_some, Option.isSome_none]
          first | exact ⟨CvB_row nr_TRegulateChannel (by first | rfl | (simp; done) | (simp; omega)) (fun _ _ _ _ => rfl), CvB_row nr_TRegulateBlock (by first | rfl | (simp; done) | (simp; omega)) (fun _ _ _ _ => rfl), CvB_row nr_i64 (by first | rfl | (simp; done) | (simp; omega)) (fun _ _ _ _ => rfl)⟩ | trivial
      replace H := cond_t hc H
      refine sq ctNo_ok ?_
      simp only [go_sem, Nat.reduceLeDiff, Nat.reduceLT, Nat.reduceAdd, Nat.reduceMul, Nat.reduceSub, Nat.reduceEqDiff, Nat.reduceBEq, Int.reduceToNat, reduceCtorEq]
      repeat ((with_reducible refine And.intro ?_ ?_); focus (first | (with_reducible trivial) | omega | grind))
      refine sq ctNo_ok ?_
      simp only [go_sem, Nat.reduceLeDiff, Nat.reduceLT, Nat.reduceAdd, Nat.reduceMul, Nat.reduceSub, Nat.reduceEqDiff, Nat.reduceBEq, Int.reduceToNat, reduceCtorEq]
      refine blkM ?_
      refine loop_den (fun s : Int × (List Int) => (.top :: .int .i64 p1 :: .top :: .top :: .ptr 0 0 0 0 :: .top :: .top :: .top :: .ptr 1 0 0 0 :: tp 6 (.ptr 6 0 0 0 :: .int .i64 s.1 :: tp 84 []))) (fun s => [.lit 39 [.ro 3 p0.Table.length false (enR c_TRegulateChannel p0.Table), .int .i64 p0.Channel, .bool p0.Lead, .int .i64 p0.Heard, .bool p0.Stopped, .bool p0.Moving, .int .i64 p0.To, .int .i64 p0.At, .ro 2 p0.Blocked.length false (enR c_TRegulateBlock p0.Blocked), .ro 1 p0.Clear.length false (enR c_i64 p0.Clear)], .lit 39 [.ro 0 0 true (fun _ _ => .top), .int .i64 0, .bool false, .int .i64 0, .bool false, .bool false, .int .i64 0, .int .i64 0, .ro 0 0 true (fun _ _ => .top), .ro 0 0 true (fun _ _ => .top)], .dead, .row 45 3 r20.Table.length (enR c_TRegulateChannel r20.Table), .dead, .dead, .lit 39 [.sl 3 3 0 r20.Table.length false, .int .i64 r20.Channel, .bool r20.Lead, .int .i64 r20.Heard, .bool r20.Stopped, .bool r20.Moving, .int .i64 r20.To, .int .i64 r20.At, .sl 7 2 0 r22.length false, .sl 8 1 0 s.2.length false], .row 79 2 r22.length (enR c_TRegulateBlock r22), .row 3 1 s.2.length (enR c_i64 s.2)]) (fun e : List Int => (tp 8 (.ptr 1 0 0 0 :: tp 6 (.ptr 6 0 0 0 :: tp 85 [])))) (fun e => [.dead, .lit 39 [.ro 0 0 true (fun _ _ => .top), .int .i64 0, .bool false, .int .i64 0, .bool false, .bool false, .int .i64 0, .int .i64 0, .ro 0 0 true (fun _ _ => .top), .ro 0 0 true (fun _ _ => .top)], .dead, .row 45 3 r20.Table.length (enR c_TRegulateChannel r20.Table), .dead, .dead, .lit 39 [.sl 3 3 0 r20.Table.length false, .int .i64 r20.Channel, .bool r20.Lead, .int .i64 r20.Heard, .bool r20.Stopped, .bool r20.Moving, .int .i64 r20.To, .int .i64 r20.At, .sl 7 2 0 r22.length false, .sl 8 1 0 e.length false], .row 79 2 r22.length (enR c_TRegulateBlock r22), .row 3 1 e.length (enR c_i64 e)]) H ?_ (fun s o H hn1_2 hn2_2 => ?_) (fun w2_5 H => ?_)
      · refine SubF_of ⟨[some 0, some 1, some 2, some 3, some 4, some 5, some 6, some 7, none], ?_, ?_, by rfl, by rfl⟩
        · simp [CvL, Cv, getM, tp]
        · exact ⟨(by simp [CvB, CvL, Cv, blkAt, geth, getM]), (by simp [CvB, CvL, Cv, blkAt, geth, getM]), CvB_dead, (CvB_same nfA), CvB_dead, CvB_dead, (by simp [CvB, CvL, Cv, blkAt, geth, getM]), (CvB_same nfA), CvB_none, trivial⟩
      · obtain ⟨v2_1, v2_2⟩ := s
        unfold F30_L2 at H
        try dsimp only at H ⊢
        try simp only [tp]
        refine seqM ?_
        refine sq ctNo_ok ?_
        simp only [go_sem, Nat.reduceLeDiff, Nat.reduceLT, Nat.reduceAdd, Nat.reduceMul, Nat.reduceSub, Nat.reduceEqDiff, Nat.reduceBEq, Int.reduceToNat, reduceCtorEq]
        repeat ((with_reducible refine And.intro ?_ ?_); focus (first | (and_intros <;> first | (with_reducible trivial) | omega | assumption | exact nfc | first | exact rfl | exact trivial | exact fitI | exact .inr rfl | exact .inl rfl | exact fun x hx => absurd hx (by omega)) | grind))
        refine condM' rfl trivial (fun hc => ?_) (fun hc => ?_)
        · replace H := cond_f hc H
          refine rg ctNo_ok ?_
          simp only [go_sem, Nat.reduceLeDiff, Nat.reduceLT, Nat.reduceAdd, Nat.reduceMul, Nat.reduceSub, Nat.reduceEqDiff, Nat.reduceBEq, Int.reduceToNat, reduceCtorEq]
          refine ⟨_, (Option.some.inj H).symm, ?_⟩
          refine SubF_of ⟨[some 0, some 1, some 2, some 3, some 4, some 5, some 6, some 7, some 8], ?_, ?_, by rfl, by rfl⟩
          · simp [CvL, Cv, getM, tp]
          · exact ⟨CvB_dead, (by simp [CvB, CvL, Cv, blkAt, geth, getM]), CvB_dead, (CvB_same nfA), CvB_dead, CvB_dead, (by simp [CvB, CvL, Cv, blkAt, geth, getM]), (CvB_same nfA), CvB_row nr_i64 (by first | rfl | (simp; done) | (simp; omega)) (fun _ _ _ _ => rfl), trivial⟩
        replace H := cond_t hc H
        refine rg ctNo_ok ?_
        simp only [go_sem, Nat.reduceLeDiff, Nat.reduceLT, Nat.reduceAdd, Nat.reduceMul, Nat.reduceSub, Nat.reduceEqDiff, Nat.reduceBEq, Int.reduceToNat, reduceCtorEq]
        refine seqM ?_
        refine blkM ?_
        refine seqM ?_
        obtain ⟨f24, H⟩ := need_some.1 H
        replace f24 := inb_iff.1 f24
        refine rg ctNo_ok ?_
        simp only [go_sem, Nat.reduceLeDiff, Nat.reduceLT, Nat.reduceAdd, Nat.reduceMul, Nat.reduceSub, Nat.reduceEqDiff, Nat.reduceBEq, Int.reduceToNat, reduceCtorEq, f24]
        repeat ((with_reducible refine And.intro ?_ ?_); focus (first | (with_reducible trivial) | omega | grind))
        refine seqM ?_
        obtain ⟨f25, H⟩ := need_some.1 H
        replace f25 := g_iff.1 f25
        refine rg ct30t5_ok ?_
        simp only [go_sem, Nat.reduceLeDiff, Nat.reduceLT, Nat.reduceAdd, Nat.reduceMul, Nat.reduceSub, Nat.reduceEqDiff, Nat.reduceBEq, Int.reduceToNat, reduceCtorEq, ct30t5_20, body20]
        repeat ((with_reducible refine And.intro ?_ ?_); focus (first | (with_reducible trivial) | omega | exact f25 | (intro g; have q := f25 (by first | exact g | (rw [g]; rfl) | simpa using g); first | exact q | exact ⟨q.1, q.2.1⟩ | exact q.2.2 | omega | exact ⟨g, q⟩ | exact ⟨trivial, q⟩ | exact ⟨g, q.1, q.2.1⟩ | exact ⟨g, q.2.2⟩) | (intro g; (try have q0 := f25 (by first | exact g | (rw [g]; rfl) | simpa using g)); and_intros <;> first | (with_reducible trivial) | assumption | exact nfc | (intro g2; rw [g, g2]; rfl) | (intro g2; assumption) | (simp only [g, Bool.true_and, Bool.and_true, Bool.not_false, Bool.not_true]; assumption) | grind) | (and_intros <;> first | (with_reducible trivial) | omega | assumption | exact nfc | first | exact rfl | exact trivial | exact fitI | exact .inr rfl | exact .inl rfl | exact fun x hx => absurd hx (by omega)) | grind))
        refine condM' rfl trivial (fun hc => ?_) (fun hc => ?_)
        · replace H := cond_f hc H
          refine rg ctNo_ok ?_
          simp only [go_sem, Nat.reduceLeDiff, Nat.reduceLT, Nat.reduceAdd, Nat.reduceMul, Nat.reduceSub, Nat.reduceEqDiff, Nat.reduceBEq, Int.reduceToNat, reduceCtorEq]
          refine rg ctNo_ok ?_
          simp only [go_sem, Nat.reduceLeDiff, Nat.reduceLT, Nat.reduceAdd, Nat.reduceMul, Nat.reduceSub, Nat.reduceEqDiff, Nat.reduceBEq, Int.reduceToNat, reduceCtorEq]
          refine ⟨_, (Option.some.inj H).symm, ?_⟩
          refine SubF_of ⟨[some 0, some 1, some 2, some 3, some 4, some 5, some 6, some 7, some 8], ?_, ?_, by rfl, by rfl⟩
          · simp [CvL, Cv, getM, tp]
          · exact ⟨(by simp [CvB, CvL, Cv, blkAt, geth, getM]), (by simp [CvB, CvL, Cv, blkAt, geth, getM]), CvB_dead, (CvB_same nfA), CvB_dead, CvB_dead, (by simp [CvB, CvL, Cv, blkAt, geth, getM]), (CvB_same nfA), CvB_row nr_i64 (by first | rfl | (simp; done) | (simp; omega)) (fun _ _ _ _ => rfl), trivial⟩
        replace H := cond_t hc H
        obtain ⟨f26, H⟩ := need_some.1 H
        replace f26 := capb_iff.1 f26
        refine rg ctNo_ok ?_
        simp only [go_sem, Nat.reduceLeDiff, Nat.reduceLT, Nat.reduceAdd, Nat.reduceMul, Nat.reduceSub, Nat.reduceEqDiff, Nat.reduceBEq, Int.reduceToNat, reduceCtorEq, f26]
        repeat ((with_reducible refine And.intro ?_ ?_); focus (first | (and_intros <;> first | (with_reducible trivial) | omega | assumption | exact nfc | first | exact rfl | exact trivial | exact fitI | exact .inr rfl | exact .inl rfl | exact fun x hx => absurd hx (by omega) | (intro x hx; (repeat (first | (and_intros <;> (first | exact rfl | exact trivial | exact fitI | exact .inr rfl | exact .inl rfl | exact fun x hx => absurd hx (by omega))) | (exfalso; omega) | (rcases x with _ | x))); done) | (refine Fit_app ?_ ?_ <;> first | exact fitI | (intro x hx; (repeat (first | (and_intros <;> (first | exact rfl | exact trivial | exact fitI | exact .inr rfl | exact .inl rfl | exact fun x hx => absurd hx (by omega))) | (exfalso; omega) | (rcases x with _ | x))); done) | (refine Fit_app ?_ ?_ <;> first | exact fitI | (intro x hx; (repeat (first | (and_intros <;> (first | exact rfl | exact trivial | exact fitI | exact .inr rfl | exact .inl rfl | exact fun x hx => absurd hx (by omega))) | (exfalso; omega) | (rcases x with _ | x))); done)))) | grind))
        refine rg ctNo_ok ?_
        simp only [go_sem, Nat.reduceLeDiff, Nat.reduceLT, Nat.reduceAdd, Nat.reduceMul, Nat.reduceSub, Nat.reduceEqDiff, Nat.reduceBEq, Int.reduceToNat, reduceCtorEq]
        refine ⟨_, (Option.some.inj H).symm, ?_⟩
        refine SubF_of ⟨[some 0, some 1, some 2, some 3, some 4, some 5, some 6, some 7, some 10], ?_, ?_, by rfl, by rfl⟩
        · simp [CvL, Cv, getM, tp]
        · exact ⟨(by simp [CvB, CvL, Cv, blkAt, geth, getM]), (by simp [CvB, CvL, Cv, blkAt, geth, getM]), CvB_dead, (CvB_same nfA), CvB_dead, CvB_dead, (by simp [CvB, CvL, Cv, blkAt, geth, getM]), (CvB_same nfA), CvB_row nr_i64 (by first | rfl | (simp; done) | (simp; omega)) (app_row (f := c_i64) v2_2 [(gd p0.Table v2_1.toNat).Number] (fun _ _ _ _ => rfl) (lit_row (f := c_i64) [(gd p0.Table v2_1.toNat).Number] (fun _ _ => rfl) rfl)), trivial⟩
      · try dsimp only at H ⊢
        try simp only [tp]
        try simp only [m_normal, k_normal, b_normal, kL_normal, r_normal]
        refine sq ctNo_ok ?_
        simp only [go_sem, Nat.reduceLeDiff, Nat.reduceLT, Nat.reduceAdd, Nat.reduceMul, Nat.reduceSub, Nat.reduceEqDiff, Nat.reduceBEq, Int.reduceToNat, reduceCtorEq]
        repeat ((with_reducible refine And.intro ?_ ?_); focus (first | (with_reducible trivial) | omega | grind))
        refine rg ctNo_ok ?_
        simp only [go_sem, Nat.reduceLeDiff, Nat.reduceLT, Nat.reduceAdd, Nat.reduceMul, Nat.reduceSub, Nat.reduceEqDiff, Nat.reduceBEq, Int.reduceToNat, reduceCtorEq]
        obtain rfl := Option.some.inj H
        refine RetE_mk [] [some 3, some 7, some 8] ?_ ?_ ?_ ?_ (by rfl) (by rfl)
        · simp only [go_sem, Nat.reduceEqDiff, Nat.reduceBEq, Nat.reduceAdd]
          try (and_intros <;> first | trivial | omega | exact nfc)
        · simp only [go_sem, Nat.reduceEqDiff, Nat.reduceBEq, Nat.reduceAdd]
          try (and_intros <;> first | trivial | omega | exact nfc)
        · simp only [go_sem, Nat.reduceEqDiff, Nat.reduceBEq, Nat.reduceAdd]
          exact Cv_tup (CvL_cons (by first | (simp [Cv, CvL, getM, gt_some]; done) | (simp [Cv, CvL, getM, gt_some]; omega)) (CvL_cons (by simp [Cv, CvL, getM, gt_some]) CvL_nil))
        · simp only [go_sem, Nat.reduceEqDiff, Nat.reduceBEq, Nat.reduceAdd, CvH, gt_some, Option.isSome_some, Option.isSome_none]
          first | exact ⟨CvB_row nr_TRegulateChannel (by first | rfl | (simp; done) | (simp; omega)) (fun _ _ _ _ => rfl), CvB_row nr_TRegulateBlock (by first | rfl | (simp; done) | (simp; omega)) (fun _ _ _ _ => rfl), CvB_row nr_i64 (by first | rfl | (simp; done) | (simp; omega)) (fun _ _ _ _ => rfl)⟩ | trivial
    replace H := cond_t hc H
    obtain ⟨r3, e4, H⟩ := bsi H
    refine rg ct30t0_ok ?_
    simp only [go_sem, Nat.reduceLeDiff, Nat.reduceLT, Nat.reduceAdd, Nat.reduceMul, Nat.reduceSub, Nat.reduceEqDiff, Nat.reduceBEq, Int.reduceToNat, reduceCtorEq, ct30t0_64, body64, e4]
    repeat ((with_reducible refine And.intro ?_ ?_); focus (first | (and_intros <;> first | (with_reducible trivial) | omega | assumption | exact nfc | first | exact rfl | exact trivial | exact fitI | exact .inr rfl | exact .inl rfl | exact fun x hx => absurd hx (by omega)) | grind))
    refine seqM ?_
    refine sq ctNo_ok ?_
    simp only [go_sem, Nat.reduceLeDiff, Nat.reduceLT, Nat.reduceAdd, Nat.reduceMul, Nat.reduceSub, Nat.reduceEqDiff, Nat.reduceBEq, Int.reduceToNat, reduceCtorEq]
    refine condM rfl trivial (fun hc => ?_) (fun hc => ?_)
    · replace H := cond_t hc H
      refine sq ctNo_ok ?_
      simp only [go_sem, Nat.reduceLeDiff, Nat.reduceLT, Nat.reduceAdd, Nat.reduceMul, Nat.reduceSub, Nat.reduceEqDiff, Nat.reduceBEq, Int.reduceToNat, reduceCtorEq]
      repeat ((with_reducible refine And.intro ?_ ?_); focus (first | (with_reducible trivial) | omega | grind))
      refine rg ctNo_ok ?_
      simp only [go_sem, Nat.reduceLeDiff, Nat.reduceLT, Nat.reduceAdd, Nat.reduceMul, Nat.reduceSub, Nat.reduceEqDiff, Nat.reduceBEq, Int.reduceToNat, reduceCtorEq]
      obtain rfl := Option.some.inj H
      refine RetE_mk [] [none, none, none] ?_ ?_ ?_ ?_ (by rfl) (by rfl)
      · simp only [go_sem, Nat.reduceEqDiff, Nat.reduceBEq, Nat.reduceAdd]
        try (and_intros <;> first | trivial | omega | exact nfc)
      · simp only [go_sem, Nat.reduceEqDiff, Nat.reduceBEq, Nat.reduceAdd]
        try (and_intros <;> first | trivial | omega | exact nfc)
      · simp only [go_sem, Nat.reduceEqDiff, Nat.reduceBEq, Nat.reduceAdd]
        exact Cv_tup (CvL_cons (by first | (simp [Cv, CvL, getM, gt_some]; done) | (simp [Cv, CvL, getM, gt_some]; omega)) (CvL_cons (by simp [Cv, CvL, getM, gt_some]) CvL_nil))
      · simp only [go_sem, Nat.reduceEqDiff, Nat.reduceBEq, Nat.reduceAdd, CvH, gt_some, Option.isSome_some, Option.isSome_none]
        first | exact ⟨CvB_none, CvB_none, CvB_none⟩ | trivial
    replace H := cond_f hc H
    refine rg ctNo_ok ?_
    simp only [go_sem, Nat.reduceLeDiff, Nat.reduceLT, Nat.reduceAdd, Nat.reduceMul, Nat.reduceSub, Nat.reduceEqDiff, Nat.reduceBEq, Int.reduceToNat, reduceCtorEq]
    refine seqM ?_
    obtain ⟨r5, e6, H⟩ := bsi H
    refine rg ct30t1_ok ?_
    simp only [go_sem, Nat.reduceLeDiff, Nat.reduceLT, Nat.reduceAdd, Nat.reduceMul, Nat.reduceSub, Nat.reduceEqDiff, Nat.reduceBEq, Int.reduceToNat, reduceCtorEq, ct30t1_18, body18, e6]
    repeat ((with_reducible refine And.intro ?_ ?_); focus (first | (and_intros <;> first | (with_reducible trivial) | omega | assumption | exact nfc | first | exact rfl | exact trivial | exact fitI | exact .inr rfl | exact .inl rfl | exact fun x hx => absurd hx (by omega)) | grind))
    refine seqM ?_
    obtain ⟨r7, e8, H⟩ := bsi H
    refine rg ct30t2_ok ?_
    simp only [go_sem, Nat.reduceLeDiff, Nat.reduceLT, Nat.reduceAdd, Nat.reduceMul, Nat.reduceSub, Nat.reduceEqDiff, Nat.reduceBEq, Int.reduceToNat, reduceCtorEq, ct30t2_19, body19, e8]
    repeat ((with_reducible refine And.intro ?_ ?_); focus (first | (and_intros <;> first | (with_reducible trivial) | omega | assumption | exact nfc | first | exact rfl | exact trivial | exact fitI | exact .inr rfl | exact .inl rfl | exact fun x hx => absurd hx (by omega)) | grind))
    refine seqM ?_
    refine blkM ?_
    refine sq ctNo_ok ?_
    simp only [go_sem, Nat.reduceLeDiff, Nat.reduceLT, Nat.reduceAdd, Nat.reduceMul, Nat.reduceSub, Nat.reduceEqDiff, Nat.reduceBEq, Int.reduceToNat, reduceCtorEq]
    refine condM rfl trivial (fun hc => ?_) (fun hc => ?_)
    · replace H := cond_t hc H
      refine sq ctNo_ok ?_
      simp only [go_sem, Nat.reduceLeDiff, Nat.reduceLT, Nat.reduceAdd, Nat.reduceMul, Nat.reduceSub, Nat.reduceEqDiff, Nat.reduceBEq, Int.reduceToNat, reduceCtorEq]
      repeat ((with_reducible refine And.intro ?_ ?_); focus (first | (with_reducible trivial) | omega | grind))
      refine rg ctNo_ok ?_
      simp only [go_sem, Nat.reduceLeDiff, Nat.reduceLT, Nat.reduceAdd, Nat.reduceMul, Nat.reduceSub, Nat.reduceEqDiff, Nat.reduceBEq, Int.reduceToNat, reduceCtorEq]
      obtain rfl := Option.some.inj H
      refine RetE_mk [] [none, none, none] ?_ ?_ ?_ ?_ (by rfl) (by rfl)
      · simp only [go_sem, Nat.reduceEqDiff, Nat.reduceBEq, Nat.reduceAdd]
        try (and_intros <;> first | trivial | omega | exact nfc)
      · simp only [go_sem, Nat.reduceEqDiff, Nat.reduceBEq, Nat.reduceAdd]
        try (and_intros <;> first | trivial | omega | exact nfc)
      · simp only [go_sem, Nat.reduceEqDiff, Nat.reduceBEq, Nat.reduceAdd]
        exact Cv_tup (CvL_cons (by first | (simp [Cv, CvL, getM, gt_some]; done) | (simp [Cv, CvL, getM, gt_some]; omega)) (CvL_cons (by simp [Cv, CvL, getM, gt_some]) CvL_nil))
      · simp only [go_sem, Nat.reduceEqDiff, Nat.reduceBEq, Nat.reduceAdd, CvH, gt_some, Option.isSome_some, Option.isSome_none]
        first | exact ⟨CvB_none, CvB_none, CvB_none⟩ | trivial
    replace H := cond_f hc H
    refine sq ctNo_ok ?_
    simp only [go_sem, Nat.reduceLeDiff, Nat.reduceLT, Nat.reduceAdd, Nat.reduceMul, Nat.reduceSub, Nat.reduceEqDiff, Nat.reduceBEq, Int.reduceToNat, reduceCtorEq]
    refine condM rfl trivial (fun hc => ?_) (fun hc => ?_)
    · replace H := cond_t hc H
      refine sq ctNo_ok ?_
      simp only [go_sem, Nat.reduceLeDiff, Nat.reduceLT, Nat.reduceAdd, Nat.reduceMul, Nat.reduceSub, Nat.reduceEqDiff, Nat.reduceBEq, Int.reduceToNat, reduceCtorEq]
      repeat ((with_reducible refine And.intro ?_ ?_); focus (first | (with_reducible trivial) | omega | grind))
      refine rg ctNo_ok ?_
      simp only [go_sem, Nat.reduceLeDiff, Nat.reduceLT, Nat.reduceAdd, Nat.reduceMul, Nat.reduceSub, Nat.reduceEqDiff, Nat.reduceBEq, Int.reduceToNat, reduceCtorEq]
      obtain rfl := Option.some.inj H
      refine RetE_mk [] [none, none, none] ?_ ?_ ?_ ?_ (by rfl) (by rfl)
      · simp only [go_sem, Nat.reduceEqDiff, Nat.reduceBEq, Nat.reduceAdd]
        try (and_intros <;> first | trivial | omega | exact nfc)
      · simp only [go_sem, Nat.reduceEqDiff, Nat.reduceBEq, Nat.reduceAdd]
        try (and_intros <;> first | trivial | omega | exact nfc)
      · simp only [go_sem, Nat.reduceEqDiff, Nat.reduceBEq, Nat.reduceAdd]
        exact Cv_tup (CvL_cons (by first | (simp [Cv, CvL, getM, gt_some]; done) | (simp [Cv, CvL, getM, gt_some]; omega)) (CvL_cons (by simp [Cv, CvL, getM, gt_some]) CvL_nil))
      · simp only [go_sem, Nat.reduceEqDiff, Nat.reduceBEq, Nat.reduceAdd, CvH, gt_some, Option.isSome_some, Option.isSome_none]
        first | exact ⟨CvB_none, CvB_none, CvB_none⟩ | trivial
    replace H := cond_f hc H
    refine sq ctNo_ok ?_
    simp only [go_sem, Nat.reduceLeDiff, Nat.reduceLT, Nat.reduceAdd, Nat.reduceMul, Nat.reduceSub, Nat.reduceEqDiff, Nat.reduceBEq, Int.reduceToNat, reduceCtorEq]
    repeat ((with_reducible refine And.intro ?_ ?_); focus (first | (with_reducible trivial) | omega | grind))
    refine condM rfl trivial (fun hc => ?_) (fun hc => ?_)
    · replace H := cond_t hc H
      refine sq ctNo_ok ?_
      simp only [go_sem, Nat.reduceLeDiff, Nat.reduceLT, Nat.reduceAdd, Nat.reduceMul, Nat.reduceSub, Nat.reduceEqDiff, Nat.reduceBEq, Int.reduceToNat, reduceCtorEq]
      repeat ((with_reducible refine And.intro ?_ ?_); focus (first | (with_reducible trivial) | omega | grind))
      refine rg ctNo_ok ?_
      simp only [go_sem, Nat.reduceLeDiff, Nat.reduceLT, Nat.reduceAdd, Nat.reduceMul, Nat.reduceSub, Nat.reduceEqDiff, Nat.reduceBEq, Int.reduceToNat, reduceCtorEq]
      obtain rfl := Option.some.inj H
      refine RetE_mk [] [none, none, none] ?_ ?_ ?_ ?_ (by rfl) (by rfl)
      · simp only [go_sem, Nat.reduceEqDiff, Nat.reduceBEq, Nat.reduceAdd]
        try (and_intros <;> first | trivial | omega | exact nfc)
      · simp only [go_sem, Nat.reduceEqDiff, Nat.reduceBEq, Nat.reduceAdd]
        try (and_intros <;> first | trivial | omega | exact nfc)
      · simp only [go_sem, Nat.reduceEqDiff, Nat.reduceBEq, Nat.reduceAdd]
        exact Cv_tup (CvL_cons (by first | (simp [Cv, CvL, getM, gt_some]; done) | (simp [Cv, CvL, getM, gt_some]; omega)) (CvL_cons (by simp [Cv, CvL, getM, gt_some]) CvL_nil))
      · simp only [go_sem, Nat.reduceEqDiff, Nat.reduceBEq, Nat.reduceAdd, CvH, gt_some, Option.isSome_some, Option.isSome_none]
        first | exact ⟨CvB_none, CvB_none, CvB_none⟩ | trivial
    replace H := cond_f hc H
    refine rg ctNo_ok ?_
    simp only [go_sem, Nat.reduceLeDiff, Nat.reduceLT, Nat.reduceAdd, Nat.reduceMul, Nat.reduceSub, Nat.reduceEqDiff, Nat.reduceBEq, Int.reduceToNat, reduceCtorEq]
    refine seqM ?_
    obtain ⟨r9, e10, H⟩ := bsi H
    refine rg ct30t3_ok ?_
    simp only [go_sem, Nat.reduceLeDiff, Nat.reduceLT, Nat.reduceAdd, Nat.reduceMul, Nat.reduceSub, Nat.reduceEqDiff, Nat.reduceBEq, Int.reduceToNat, reduceCtorEq, ct30t3_24, body24, e10]
    repeat ((with_reducible refine And.intro ?_ ?_); focus (first | (and_intros <;> first | (with_reducible trivial) | omega | assumption | exact nfc | first | exact rfl | exact trivial | exact fitI | exact .inr rfl | exact .inl rfl | exact fun x hx => absurd hx (by omega)) | grind))
    refine seqM ?_
    obtain ⟨r11, e12, H⟩ := bsi H
    refine rg ct30t4_ok ?_
    simp only [go_sem, Nat.reduceLeDiff, Nat.reduceLT, Nat.reduceAdd, Nat.reduceMul, Nat.reduceSub, Nat.reduceEqDiff, Nat.reduceBEq, Int.reduceToNat, reduceCtorEq, ct30t4_72, body72, e12]
    repeat ((with_reducible refine And.intro ?_ ?_); focus (first | (and_intros <;> first | (with_reducible trivial) | omega | assumption | exact nfc | first | exact rfl | exact trivial | exact fitI | exact .inr rfl | exact .inl rfl | exact fun x hx => absurd hx (by omega)) | grind))
    refine seqM ?_
    refine sq ctNo_ok ?_
    simp only [go_sem, Nat.reduceLeDiff, Nat.reduceLT, Nat.reduceAdd, Nat.reduceMul, Nat.reduceSub, Nat.reduceEqDiff, Nat.reduceBEq, Int.reduceToNat, reduceCtorEq]
    refine condM' rfl trivial (fun hc => ?_) (fun hc => ?_)
    · replace H := cond_f hc H
      refine rg ctNo_ok ?_
      simp only [go_sem, Nat.reduceLeDiff, Nat.reduceLT, Nat.reduceAdd, Nat.reduceMul, Nat.reduceSub, Nat.reduceEqDiff, Nat.reduceBEq, Int.reduceToNat, reduceCtorEq]
      refine sq ctNo_ok ?_
      simp only [go_sem, Nat.reduceLeDiff, Nat.reduceLT, Nat.reduceAdd, Nat.reduceMul, Nat.reduceSub, Nat.reduceEqDiff, Nat.reduceBEq, Int.reduceToNat, reduceCtorEq]
      repeat ((with_reducible refine And.intro ?_ ?_); focus (first | (with_reducible trivial) | omega | grind))
      refine rg ctNo_ok ?_
      simp only [go_sem, Nat.reduceLeDiff, Nat.reduceLT, Nat.reduceAdd, Nat.reduceMul, Nat.reduceSub, Nat.reduceEqDiff, Nat.reduceBEq, Int.reduceToNat, reduceCtorEq]
      obtain rfl := Option.some.inj H
      refine RetE_mk [] [some 3, some 7, some 5] ?_ ?_ ?_ ?_ (by rfl) (by rfl)
      · simp only [go_sem, Nat.reduceEqDiff, Nat.reduceBEq, Nat.reduceAdd]
        try (and_intros <;> first | trivial | omega | exact nfc)
      · simp only [go_sem, Nat.reduceEqDiff, Nat.reduceBEq, Nat.reduceAdd]
        try (and_intros <;> first | trivial | omega | exact nfc)
      · simp only [go_sem, Nat.reduceEqDiff, Nat.reduceBEq, Nat.reduceAdd]
        exact Cv_tup (CvL_cons (by first | (simp [Cv, CvL, getM, gt_some]; done) | (simp [Cv, CvL, getM, gt_some]; omega)) (CvL_cons (by simp [Cv, CvL, getM, gt_some]) CvL_nil))
      · simp only [go_sem, Nat.reduceEqDiff, Nat.reduceBEq, Nat.reduceAdd, CvH, gt_some, Option.isSome_some, Option.isSome_none]
        first | exact ⟨CvB_row nr_TRegulateChannel (by first | rfl | (simp; done) | (simp; omega)) (fun _ _ _ _ => rfl), CvB_row nr_TRegulateBlock (by first | rfl | (simp; done) | (simp; omega)) (fun _ _ _ _ => rfl), CvB_row nr_i64 (by first | rfl | (simp; done) | (simp; omega)) (fun _ _ _ _ => rfl)⟩ | trivial
    replace H := cond_t hc H
    refine sq ctNo_ok ?_
    simp only [go_sem, Nat.reduceLeDiff, Nat.reduceLT, Nat.reduceAdd, Nat.reduceMul, Nat.reduceSub, Nat.reduceEqDiff, Nat.reduceBEq, Int.reduceToNat, reduceCtorEq]
    repeat ((with_reducible refine And.intro ?_ ?_); focus (first | (with_reducible trivial) | omega | grind))
    refine sq ctNo_ok ?_
    simp only [go_sem, Nat.reduceLeDiff, Nat.reduceLT, Nat.reduceAdd, Nat.reduceMul, Nat.reduceSub, Nat.reduceEqDiff, Nat.reduceBEq, Int.reduceToNat, reduceCtorEq]
    refine blkM ?_
    refine loop_den (fun s : Int × (List Int) => (.top :: .int .i64 p1 :: .top :: .top :: .ptr 0 0 0 0 :: .top :: .top :: .top :: .ptr 1 0 0 0 :: tp 6 (.ptr 6 0 0 0 :: .int .i64 s.1 :: tp 84 []))) (fun s => [.lit 39 [.ro 3 p0.Table.length false (enR c_TRegulateChannel p0.Table), .int .i64 p0.Channel, .bool p0.Lead, .int .i64 p0.Heard, .bool p0.Stopped, .bool p0.Moving, .int .i64 p0.To, .int .i64 p0.At, .ro 2 p0.Blocked.length false (enR c_TRegulateBlock p0.Blocked), .ro 1 p0.Clear.length false (enR c_i64 p0.Clear)], .lit 39 [.ro 0 0 true (fun _ _ => .top), .int .i64 0, .bool false, .int .i64 0, .bool false, .bool false, .int .i64 0, .int .i64 0, .ro 0 0 true (fun _ _ => .top), .ro 0 0 true (fun _ _ => .top)], .dead, .row 45 3 r9.Table.length (enR c_TRegulateChannel r9.Table), .dead, .dead, .lit 39 [.sl 3 3 0 r9.Table.length false, .int .i64 r9.Channel, .bool r9.Lead, .int .i64 r9.Heard, .bool r9.Stopped, .bool r9.Moving, .int .i64 r9.To, .int .i64 r9.At, .sl 7 2 0 r11.length false, .sl 8 1 0 s.2.length false], .row 79 2 r11.length (enR c_TRegulateBlock r11), .row 3 1 s.2.length (enR c_i64 s.2)]) (fun e : List Int => (tp 8 (.ptr 1 0 0 0 :: tp 6 (.ptr 6 0 0 0 :: tp 85 [])))) (fun e => [.dead, .lit 39 [.ro 0 0 true (fun _ _ => .top), .int .i64 0, .bool false, .int .i64 0, .bool false, .bool false, .int .i64 0, .int .i64 0, .ro 0 0 true (fun _ _ => .top), .ro 0 0 true (fun _ _ => .top)], .dead, .row 45 3 r9.Table.length (enR c_TRegulateChannel r9.Table), .dead, .dead, .lit 39 [.sl 3 3 0 r9.Table.length false, .int .i64 r9.Channel, .bool r9.Lead, .int .i64 r9.Heard, .bool r9.Stopped, .bool r9.Moving, .int .i64 r9.To, .int .i64 r9.At, .sl 7 2 0 r11.length false, .sl 8 1 0 e.length false], .row 79 2 r11.length (enR c_TRegulateBlock r11), .row 3 1 e.length (enR c_i64 e)]) H ?_ (fun s o H hn1_1 hn2_1 => ?_) (fun w1_5 H => ?_)
    · refine SubF_of ⟨[some 0, some 1, some 2, some 3, some 4, some 5, some 6, some 7, none], ?_, ?_, by rfl, by rfl⟩
      · simp [CvL, Cv, getM, tp]
      · exact ⟨(by simp [CvB, CvL, Cv, blkAt, geth, getM]), (by simp [CvB, CvL, Cv, blkAt, geth, getM]), CvB_dead, (CvB_same nfA), CvB_dead, CvB_dead, (by simp [CvB, CvL, Cv, blkAt, geth, getM]), (CvB_same nfA), CvB_none, trivial⟩
    · obtain ⟨v1_1, v1_2⟩ := s
      unfold F30_L1 at H
      try dsimp only at H ⊢
      try simp only [tp]
      refine seqM ?_
      refine sq ctNo_ok ?_
      simp only [go_sem, Nat.reduceLeDiff, Nat.reduceLT, Nat.reduceAdd, Nat.reduceMul, Nat.reduceSub, Nat.reduceEqDiff, Nat.reduceBEq, Int.reduceToNat, reduceCtorEq]
      repeat ((with_reducible refine And.intro ?_ ?_); focus (first | (and_intros <;> first | (with_reducible trivial) | omega | assumption | exact nfc | first | exact rfl | exact trivial | exact fitI | exact .inr rfl | exact .inl rfl | exact fun x hx => absurd hx (by omega)) | grind))
      refine condM' rfl trivial (fun hc => ?_) (fun hc => ?_)
      · replace H := cond_f hc H
        refine rg ctNo_ok ?_
        simp only [go_sem, Nat.reduceLeDiff, Nat.reduceLT, Nat.reduceAdd, Nat.reduceMul, Nat.reduceSub, Nat.reduceEqDiff, Nat.reduceBEq, Int.reduceToNat, reduceCtorEq]
        refine ⟨_, (Option.some.inj H).symm, ?_⟩
        refine SubF_of ⟨[some 0, some 1, some 2, some 3, some 4, some 5, some 6, some 7, some 8], ?_, ?_, by rfl, by rfl⟩
        · simp [CvL, Cv, getM, tp]
        · exact ⟨CvB_dead, (by simp [CvB, CvL, Cv, blkAt, geth, getM]), CvB_dead, (CvB_same nfA), CvB_dead, CvB_dead, (by simp [CvB, CvL, Cv, blkAt, geth, getM]), (CvB_same nfA), CvB_row nr_i64 (by first | rfl | (simp; done) | (simp; omega)) (fun _ _ _ _ => rfl), trivial⟩
      replace H := cond_t hc H
      refine rg ctNo_ok ?_
      simp only [go_sem, Nat.reduceLeDiff, Nat.reduceLT, Nat.reduceAdd, Nat.reduceMul, Nat.reduceSub, Nat.reduceEqDiff, Nat.reduceBEq, Int.reduceToNat, reduceCtorEq]
      refine seqM ?_
      refine blkM ?_
      refine seqM ?_
      obtain ⟨f13, H⟩ := need_some.1 H
      replace f13 := inb_iff.1 f13
      refine rg ctNo_ok ?_
      simp only [go_sem, Nat.reduceLeDiff, Nat.reduceLT, Nat.reduceAdd, Nat.reduceMul, Nat.reduceSub, Nat.reduceEqDiff, Nat.reduceBEq, Int.reduceToNat, reduceCtorEq, f13]
      repeat ((with_reducible refine And.intro ?_ ?_); focus (first | (with_reducible trivial) | omega | grind))
      refine seqM ?_
      obtain ⟨f14, H⟩ := need_some.1 H
      replace f14 := g_iff.1 f14
      refine rg ct30t5_ok ?_
      simp only [go_sem, Nat.reduceLeDiff, Nat.reduceLT, Nat.reduceAdd, Nat.reduceMul, Nat.reduceSub, Nat.reduceEqDiff, Nat.reduceBEq, Int.reduceToNat, reduceCtorEq, ct30t5_20, body20]
      repeat ((with_reducible refine And.intro ?_ ?_); focus (first | (with_reducible trivial) | omega | exact f14 | (intro g; have q := f14 (by first | exact g | (rw [g]; rfl) | simpa using g); first | exact q | exact ⟨q.1, q.2.1⟩ | exact q.2.2 | omega | exact ⟨g, q⟩ | exact ⟨trivial, q⟩ | exact ⟨g, q.1, q.2.1⟩ | exact ⟨g, q.2.2⟩) | (intro g; (try have q0 := f14 (by first | exact g | (rw [g]; rfl) | simpa using g)); and_intros <;> first | (with_reducible trivial) | assumption | exact nfc | (intro g2; rw [g, g2]; rfl) | (intro g2; assumption) | (simp only [g, Bool.true_and, Bool.and_true, Bool.not_false, Bool.not_true]; assumption) | grind) | (and_intros <;> first | (with_reducible trivial) | omega | assumption | exact nfc | first | exact rfl | exact trivial | exact fitI | exact .inr rfl | exact .inl rfl | exact fun x hx => absurd hx (by omega)) | grind))
      refine condM' rfl trivial (fun hc => ?_) (fun hc => ?_)
      · replace H := cond_f hc H
        refine rg ctNo_ok ?_
        simp only [go_sem, Nat.reduceLeDiff, Nat.reduceLT, Nat.reduceAdd, Nat.reduceMul, Nat.reduceSub, Nat.reduceEqDiff, Nat.reduceBEq, Int.reduceToNat, reduceCtorEq]
        refine rg ctNo_ok ?_
        simp only [go_sem, Nat.reduceLeDiff, Nat.reduceLT, Nat.reduceAdd, Nat.reduceMul, Nat.reduceSub, Nat.reduceEqDiff, Nat.reduceBEq, Int.reduceToNat, reduceCtorEq]
        refine ⟨_, (Option.some.inj H).symm, ?_⟩
        refine SubF_of ⟨[some 0, some 1, some 2, some 3, some 4, some 5, some 6, some 7, some 8], ?_, ?_, by rfl, by rfl⟩
        · simp [CvL, Cv, getM, tp]
        · exact ⟨(by simp [CvB, CvL, Cv, blkAt, geth, getM]), (by simp [CvB, CvL, Cv, blkAt, geth, getM]), CvB_dead, (CvB_same nfA), CvB_dead, CvB_dead, (by simp [CvB, CvL, Cv, blkAt, geth, getM]), (CvB_same nfA), CvB_row nr_i64 (by first | rfl | (simp; done) | (simp; omega)) (fun _ _ _ _ => rfl), trivial⟩
      replace H := cond_t hc H
      obtain ⟨f15, H⟩ := need_some.1 H
      replace f15 := capb_iff.1 f15
      refine rg ctNo_ok ?_
      simp only [go_sem, Nat.reduceLeDiff, Nat.reduceLT, Nat.reduceAdd, Nat.reduceMul, Nat.reduceSub, Nat.reduceEqDiff, Nat.reduceBEq, Int.reduceToNat, reduceCtorEq, f15]
      repeat ((with_reducible refine And.intro ?_ ?_); focus (first | (and_intros <;> first | (with_reducible trivial) | omega | assumption | exact nfc | first | exact rfl | exact trivial | exact fitI | exact .inr rfl | exact .inl rfl | exact fun x hx => absurd hx (by omega) | (intro x hx; (repeat (first | (and_intros <;> (first | exact rfl | exact trivial | exact fitI | exact .inr rfl | exact .inl rfl | exact fun x hx => absurd hx (by omega))) | (exfalso; omega) | (rcases x with _ | x))); done) | (refine Fit_app ?_ ?_ <;> first | exact fitI | (intro x hx; (repeat (first | (and_intros <;> (first | exact rfl | exact trivial | exact fitI | exact .inr rfl | exact .inl rfl | exact fun x hx => absurd hx (by omega))) | (exfalso; omega) | (rcases x with _ | x))); done) | (refine Fit_app ?_ ?_ <;> first | exact fitI | (intro x hx; (repeat (first | (and_intros <;> (first | exact rfl | exact trivial | exact fitI | exact .inr rfl | exact .inl rfl | exact fun x hx => absurd hx (by omega))) | (exfalso; omega) | (rcases x with _ | x))); done)))) | grind))
      refine rg ctNo_ok ?_
      simp only [go_sem, Nat.reduceLeDiff, Nat.reduceLT, Nat.reduceAdd, Nat.reduceMul, Nat.reduceSub, Nat.reduceEqDiff, Nat.reduceBEq, Int.reduceToNat, reduceCtorEq]
      refine ⟨_, (Option.some.inj H).symm, ?_⟩
      refine SubF_of ⟨[some 0, some 1, some 2, some 3, some 4, some 5, some 6, some 7, some 10], ?_, ?_, by rfl, by rfl⟩
      · simp [CvL, Cv, getM, tp]
      · exact ⟨(by simp [CvB, CvL, Cv, blkAt, geth, getM]), (by simp [CvB, CvL, Cv, blkAt, geth, getM]), CvB_dead, (CvB_same nfA), CvB_dead, CvB_dead, (by simp [CvB, CvL, Cv, blkAt, geth, getM]), (CvB_same nfA), CvB_row nr_i64 (by first | rfl | (simp; done) | (simp; omega)) (app_row (f := c_i64) v1_2 [(gd p0.Table v1_1.toNat).Number] (fun _ _ _ _ => rfl) (lit_row (f := c_i64) [(gd p0.Table v1_1.toNat).Number] (fun _ _ => rfl) rfl)), trivial⟩
    · try dsimp only at H ⊢
      try simp only [tp]
      try simp only [m_normal, k_normal, b_normal, kL_normal, r_normal]
      refine sq ctNo_ok ?_
      simp only [go_sem, Nat.reduceLeDiff, Nat.reduceLT, Nat.reduceAdd, Nat.reduceMul, Nat.reduceSub, Nat.reduceEqDiff, Nat.reduceBEq, Int.reduceToNat, reduceCtorEq]
      repeat ((with_reducible refine And.intro ?_ ?_); focus (first | (with_reducible trivial) | omega | grind))
      refine rg ctNo_ok ?_
      simp only [go_sem, Nat.reduceLeDiff, Nat.reduceLT, Nat.reduceAdd, Nat.reduceMul, Nat.reduceSub, Nat.reduceEqDiff, Nat.reduceBEq, Int.reduceToNat, reduceCtorEq]
      obtain rfl := Option.some.inj H
      refine RetE_mk [] [some 3, some 7, some 8] ?_ ?_ ?_ ?_ (by rfl) (by rfl)
      · simp only [go_sem, Nat.reduceEqDiff, Nat.reduceBEq, Nat.reduceAdd]
        try (and_intros <;> first | trivial | omega | exact nfc)
      · simp only [go_sem, Nat.reduceEqDiff, Nat.reduceBEq, Nat.reduceAdd]
        try (and_intros <;> first | trivial | omega | exact nfc)
      · simp only [go_sem, Nat.reduceEqDiff, Nat.reduceBEq, Nat.reduceAdd]
        exact Cv_tup (CvL_cons (by first | (simp [Cv, CvL, getM, gt_some]; done) | (simp [Cv, CvL, getM, gt_some]; omega)) (CvL_cons (by simp [Cv, CvL, getM, gt_some]) CvL_nil))
      · simp only [go_sem, Nat.reduceEqDiff, Nat.reduceBEq, Nat.reduceAdd, CvH, gt_some, Option.isSome_some, Option.isSome_none]
        first | exact ⟨CvB_row nr_TRegulateChannel (by first | rfl | (simp; done) | (simp; omega)) (fun _ _ _ _ => rfl), CvB_row nr_TRegulateBlock (by first | rfl | (simp; done) | (simp; omega)) (fun _ _ _ _ => rfl), CvB_row nr_i64 (by first | rfl | (simp; done) | (simp; omega)) (fun _ _ _ _ => rfl)⟩ | trivial
  · cases hb
/-! hotspot/hotspotref45.Same -/
noncomputable def F31_L1 (p0 : TRegulate) (p1 : TRegulate) (v1_1 : Int) : Option (Lp (Int) ((Unit) ⊕ (Bool))) :=
  bif (bLt v1_1 (p0.Table.length : Nat)) then (need (inb v1_1 p0.Table.length) <| need (inb v1_1 p1.Table.length) <| bif (!(bEq ((gd p0.Table v1_1.toNat).Number) ((gd p1.Table v1_1.toNat).Number) && (bEq ((gd p0.Table v1_1.toNat).Max) ((gd p1.Table v1_1.toNat).Max) && (bB ((gd p0.Table v1_1.toNat).Radar) ((gd p1.Table v1_1.toNat).Radar))))) then (some (.done (.inr false))) else (some (.next (wr .i64 (v1_1 + 1))))) else (some (.done (.inl ())))
noncomputable def F31_L2 (p0 : TRegulate) (p1 : TRegulate) (v2_1 : Int) : Option (Lp (Int) ((Unit) ⊕ (Bool))) :=
  bif (bLt v2_1 (p0.Blocked.length : Nat)) then (need (inb v2_1 p0.Blocked.length) <| need (inb v2_1 p1.Blocked.length) <| bif (!(bEq ((gd p0.Blocked v2_1.toNat).Channel) ((gd p1.Blocked v2_1.toNat).Channel) && (bEq ((gd p0.Blocked v2_1.toNat).Until) ((gd p1.Blocked v2_1.toNat).Until)))) then (some (.done (.inr false))) else (some (.next (wr .i64 (v2_1 + 1))))) else (some (.done (.inl ())))
noncomputable def F31_L3 (p0 : TRegulate) (p1 : TRegulate) (v3_1 : Int) : Option (Lp (Int) ((Unit) ⊕ (Bool))) :=
  bif (bLt v3_1 (p0.Clear.length : Nat)) then (need (inb v3_1 p0.Clear.length) <| need (inb v3_1 p1.Clear.length) <| bif (!bEq (gd p0.Clear v3_1.toNat) (gd p1.Clear v3_1.toNat)) then (some (.done (.inr false))) else (some (.next (wr .i64 (v3_1 + 1))))) else (some (.done (.inl ())))
noncomputable def F31 (p0 : TRegulate) (p1 : TRegulate) : Option (Bool) :=
  bif (((!bEq (p0.Table.length : Nat) (p1.Table.length : Nat)) || (!bEq (p0.Blocked.length : Nat) (p1.Blocked.length : Nat))) || (!bEq (p0.Clear.length : Nat) (p1.Clear.length : Nat))) then (some false) else (lp (loopD (fun s => F31_L1 p0 p1 s) 0) (fun e => lp (loopD (fun s => F31_L2 p0 p1 s) 0) (fun e => lp (loopD (fun s => F31_L3 p0 p1 s) 0) (fun e => some (((((((bEq p0.Channel p1.Channel) && (bB p0.Lead p1.Lead)) && (bEq p0.Heard p1.Heard)) && (bB p0.Stopped p1.Stopped)) && (bB p0.Moving p1.Moving)) && (bEq p0.To p1.To)) && (bEq p0.At p1.At))) some) some) some)
noncomputable def body31 : List AV -> AR
  | [v0, v1] => .pure (aK 10 k_TRegulate v0 /\ aK 10 k_TRegulate v1 /\ (F31 (g_TRegulate (aL v0)) (g_TRegulate (aL v1))).isSome = true) (.bool (gt (F31 (g_TRegulate (aL v0)) (g_TRegulate (aL v1)))))
  | _ => .fail
set_option maxHeartbeats 4000000 in
set_option maxRecDepth 20000 in
theorem ok31 : FnOk Try.prog 31 (pureC body31) := by
  refine pure_fnM body31 (rs := [.tmp 4]) Try.func31 (by kernel_rfl) rfl rfl ?_
  intro l ob v hb hob
  unfold body31 at hb
  split at hb
  · rename_i v0 v1
    injection hb with q1 q2; subst q1 q2
    obtain ⟨hk0_0, hk1_0, hob⟩ := hob
    obtain ⟨r, H⟩ := Option.isSome_iff_exists.1 hob
    rw [H, gt_some]
    have hw0 := wA_TRegulate hk0_0
    have hw1 := wA_TRegulate hk1_0
    generalize g_TRegulate (aL v0) = p0 at H hw0
    generalize g_TRegulate (aL v1) = p1 at H hw1
    refine ⟨[.agg [.ro 3 p0.Table.length false (enR c_TRegulateChannel p0.Table), .int .i64 p0.Channel, .bool p0.Lead, .int .i64 p0.Heard, .bool p0.Stopped, .bool p0.Moving, .int .i64 p0.To, .int .i64 p0.At, .ro 2 p0.Blocked.length false (enR c_TRegulateBlock p0.Blocked), .ro 1 p0.Clear.length false (enR c_i64 p0.Clear)], .agg [.ro 3 p1.Table.length false (enR c_TRegulateChannel p1.Table), .int .i64 p1.Channel, .bool p1.Lead, .int .i64 p1.Heard, .bool p1.Stopped, .bool p1.Moving, .int .i64 p1.To, .int .i64 p1.At, .ro 2 p1.Blocked.length false (enR c_TRegulateBlock p1.Blocked), .ro 1 p1.Clear.length false (enR c_i64 p1.Clear)]], _, (fun E vs F => FR_wk1 hw0.1 F (fun vs F => FR_wk1 hw1.1 F (fun vs F => F))), rfl, rfl, ?_⟩
    rw [Try.ntmps31]
    simp only [List.length_cons, List.length_nil, Nat.reduceAdd, Nat.reduceSub, List.replicate_succ, List.replicate_zero, List.cons_append, List.nil_append]
    unfold F31 at H
    try dsimp only at H
    refine sq ctNo_ok ?_
    simp only [go_sem, Nat.reduceLeDiff, Nat.reduceLT, Nat.reduceAdd, Nat.reduceMul, Nat.reduceSub, Nat.reduceEqDiff, Nat.reduceBEq, Int.reduceToNat, reduceCtorEq]
    refine seqM ?_
    refine sq ctNo_ok ?_
    simp only [go_sem, Nat.reduceLeDiff, Nat.reduceLT, Nat.reduceAdd, Nat.reduceMul, Nat.reduceSub, Nat.reduceEqDiff, Nat.reduceBEq, Int.reduceToNat, reduceCtorEq]
    repeat ((with_reducible refine And.intro ?_ ?_); focus (first | (with_reducible trivial) | omega | (intro g; and_intros <;> first | (with_reducible trivial) | assumption | exact nfc | (intro g2; rw [g, g2]; rfl) | (intro g2; assumption) | (simp only [g, Bool.true_and, Bool.and_true, Bool.not_false, Bool.not_true]; assumption) | grind) | (and_intros <;> first | (with_reducible trivial) | omega | assumption | exact nfc | first | exact rfl | exact trivial | exact fitI | exact .inr rfl | exact .inl rfl | exact fun x hx => absurd hx (by omega)) | grind))
    refine condM rfl trivial (fun hc => ?_) (fun hc => ?_)
    · replace H := cond_t hc H
      refine sq ctNo_ok ?_
      simp only [go_sem, Nat.reduceLeDiff, Nat.reduceLT, Nat.reduceAdd, Nat.reduceMul, Nat.reduceSub, Nat.reduceEqDiff, Nat.reduceBEq, Int.reduceToNat, reduceCtorEq]
      refine rg ctNo_ok ?_
      simp only [go_sem, Nat.reduceLeDiff, Nat.reduceLT, Nat.reduceAdd, Nat.reduceMul, Nat.reduceSub, Nat.reduceEqDiff, Nat.reduceBEq, Int.reduceToNat, reduceCtorEq]
      obtain rfl := Option.some.inj H
      first | rfl | simp only [Bool.and_false, Bool.false_and, Bool.and_true, Bool.true_and]
    replace H := cond_f hc H
    refine rg ctNo_ok ?_
    simp only [go_sem, Nat.reduceLeDiff, Nat.reduceLT, Nat.reduceAdd, Nat.reduceMul, Nat.reduceSub, Nat.reduceEqDiff, Nat.reduceBEq, Int.reduceToNat, reduceCtorEq]
    refine seqM ?_
    refine sq ctNo_ok ?_
    simp only [go_sem, Nat.reduceLeDiff, Nat.reduceLT, Nat.reduceAdd, Nat.reduceMul, Nat.reduceSub, Nat.reduceEqDiff, Nat.reduceBEq, Int.reduceToNat, reduceCtorEq]
    refine blkM ?_
    refine loop_den (fun s : Int => (.top :: .top :: .ptr 0 0 0 0 :: .ptr 1 0 0 0 :: .top :: .int .i64 s :: tp 128 [])) (fun s => [.lit 39 [.ro 3 p0.Table.length false (enR c_TRegulateChannel p0.Table), .int .i64 p0.Channel, .bool p0.Lead, .int .i64 p0.Heard, .bool p0.Stopped, .bool p0.Moving, .int .i64 p0.To, .int .i64 p0.At, .ro 2 p0.Blocked.length false (enR c_TRegulateBlock p0.Blocked), .ro 1 p0.Clear.length false (enR c_i64 p0.Clear)], .lit 39 [.ro 3 p1.Table.length false (enR c_TRegulateChannel p1.Table), .int .i64 p1.Channel, .bool p1.Lead, .int .i64 p1.Heard, .bool p1.Stopped, .bool p1.Moving, .int .i64 p1.To, .int .i64 p1.At, .ro 2 p1.Blocked.length false (enR c_TRegulateBlock p1.Blocked), .ro 1 p1.Clear.length false (enR c_i64 p1.Clear)]]) (fun e : Unit => (.top :: .top :: .ptr 0 0 0 0 :: .ptr 1 0 0 0 :: tp 130 [])) (fun e => [.lit 39 [.ro 3 p0.Table.length false (enR c_TRegulateChannel p0.Table), .int .i64 p0.Channel, .bool p0.Lead, .int .i64 p0.Heard, .bool p0.Stopped, .bool p0.Moving, .int .i64 p0.To, .int .i64 p0.At, .ro 2 p0.Blocked.length false (enR c_TRegulateBlock p0.Blocked), .ro 1 p0.Clear.length false (enR c_i64 p0.Clear)], .lit 39 [.ro 3 p1.Table.length false (enR c_TRegulateChannel p1.Table), .int .i64 p1.Channel, .bool p1.Lead, .int .i64 p1.Heard, .bool p1.Stopped, .bool p1.Moving, .int .i64 p1.To, .int .i64 p1.At, .ro 2 p1.Blocked.length false (enR c_TRegulateBlock p1.Blocked), .ro 1 p1.Clear.length false (enR c_i64 p1.Clear)]]) H ?_ (fun v1_1 o H hn1_1 hn2_1 => ?_) (fun e H => ?_)
    · refine SubF_of ⟨[some 0, some 1], ?_, ?_, by rfl, by rfl⟩
      · simp [CvL, Cv, getM, tp]
      · exact ⟨(by simp [CvB, CvL, Cv, blkAt, geth, getM]), (by simp [CvB, CvL, Cv, blkAt, geth, getM]), trivial⟩
    · unfold F31_L1 at H
      try dsimp only at H ⊢
      try simp only [tp]
      refine seqM ?_
      refine sq ctNo_ok ?_
      simp only [go_sem, Nat.reduceLeDiff, Nat.reduceLT, Nat.reduceAdd, Nat.reduceMul, Nat.reduceSub, Nat.reduceEqDiff, Nat.reduceBEq, Int.reduceToNat, reduceCtorEq]
      repeat ((with_reducible refine And.intro ?_ ?_); focus (first | (and_intros <;> first | (with_reducible trivial) | omega | assumption | exact nfc | first | exact rfl | exact trivial | exact fitI | exact .inr rfl | exact .inl rfl | exact fun x hx => absurd hx (by omega)) | grind))
      refine condM' rfl trivial (fun hc => ?_) (fun hc => ?_)
      · replace H := cond_f hc H
        refine rg ctNo_ok ?_
        simp only [go_sem, Nat.reduceLeDiff, Nat.reduceLT, Nat.reduceAdd, Nat.reduceMul, Nat.reduceSub, Nat.reduceEqDiff, Nat.reduceBEq, Int.reduceToNat, reduceCtorEq]
        refine ⟨_, (Option.some.inj H).symm, ?_⟩
        refine SubF_of ⟨[some 0, some 1], ?_, ?_, by rfl, by rfl⟩
        · simp [CvL, Cv, getM, tp]
        · exact ⟨(by simp [CvB, CvL, Cv, blkAt, geth, getM]), (by simp [CvB, CvL, Cv, blkAt, geth, getM]), trivial⟩
      replace H := cond_t hc H
      refine rg ctNo_ok ?_
      simp only [go_sem, Nat.reduceLeDiff, Nat.reduceLT, Nat.reduceAdd, Nat.reduceMul, Nat.reduceSub, Nat.reduceEqDiff, Nat.reduceBEq, Int.reduceToNat, reduceCtorEq]
      refine seqM ?_
      refine blkM ?_
      refine seqM ?_
      obtain ⟨f1, H⟩ := need_some.1 H
      replace f1 := inb_iff.1 f1
      obtain ⟨f2, H⟩ := need_some.1 H
      replace f2 := inb_iff.1 f2
      refine draw_quiet shT_ok ctNo_ok (by kernel_rfl) (by kernel_rfl) ?_
      simp only [go_sem, Nat.reduceLeDiff, Nat.reduceLT, Nat.reduceAdd, Nat.reduceMul, Nat.reduceSub, Nat.reduceEqDiff, Nat.reduceBEq, Int.reduceToNat, reduceCtorEq, f1, f2]
      repeat ((with_reducible refine And.intro ?_ ?_); focus (first | (with_reducible trivial) | omega | grind))
      refine condM rfl trivial (fun hc => ?_) (fun hc => ?_)
      · replace H := cond_t hc H
        refine sq ctNo_ok ?_
        simp only [go_sem, Nat.reduceLeDiff, Nat.reduceLT, Nat.reduceAdd, Nat.reduceMul, Nat.reduceSub, Nat.reduceEqDiff, Nat.reduceBEq, Int.reduceToNat, reduceCtorEq]
        refine rg ctNo_ok ?_
        simp only [go_sem, Nat.reduceLeDiff, Nat.reduceLT, Nat.reduceAdd, Nat.reduceMul, Nat.reduceSub, Nat.reduceEqDiff, Nat.reduceBEq, Int.reduceToNat, reduceCtorEq]
        have H := hn2_1 _ (Option.some.inj H).symm
        obtain rfl := Option.some.inj H
        first | rfl | simp only [Bool.and_false, Bool.false_and, Bool.and_true, Bool.true_and]
      replace H := cond_f hc H
      refine rg ctNo_ok ?_
      simp only [go_sem, Nat.reduceLeDiff, Nat.reduceLT, Nat.reduceAdd, Nat.reduceMul, Nat.reduceSub, Nat.reduceEqDiff, Nat.reduceBEq, Int.reduceToNat, reduceCtorEq]
      refine rg ctNo_ok ?_
      simp only [go_sem, Nat.reduceLeDiff, Nat.reduceLT, Nat.reduceAdd, Nat.reduceMul, Nat.reduceSub, Nat.reduceEqDiff, Nat.reduceBEq, Int.reduceToNat, reduceCtorEq]
      refine ⟨_, (Option.some.inj H).symm, ?_⟩
      refine SubF_of ⟨[some 0, some 1], ?_, ?_, by rfl, by rfl⟩
      · simp [CvL, Cv, getM, tp]
      · exact ⟨(by simp [CvB, CvL, Cv, blkAt, geth, getM]), (by simp [CvB, CvL, Cv, blkAt, geth, getM]), trivial⟩
    · try dsimp only at H ⊢
      try simp only [tp]
      try simp only [m_normal, k_normal, b_normal, kL_normal, r_normal]
      refine seqM ?_
      refine sq ctNo_ok ?_
      simp only [go_sem, Nat.reduceLeDiff, Nat.reduceLT, Nat.reduceAdd, Nat.reduceMul, Nat.reduceSub, Nat.reduceEqDiff, Nat.reduceBEq, Int.reduceToNat, reduceCtorEq]
      refine blkM ?_
      refine loop_den (fun s : Int => (.top :: .top :: .ptr 0 0 0 0 :: .ptr 1 0 0 0 :: .top :: .top :: .int .i64 s :: tp 127 [])) (fun s => [.lit 39 [.ro 3 p0.Table.length false (enR c_TRegulateChannel p0.Table), .int .i64 p0.Channel, .bool p0.Lead, .int .i64 p0.Heard, .bool p0.Stopped, .bool p0.Moving, .int .i64 p0.To, .int .i64 p0.At, .ro 2 p0.Blocked.length false (enR c_TRegulateBlock p0.Blocked), .ro 1 p0.Clear.length false (enR c_i64 p0.Clear)], .lit 39 [.ro 3 p1.Table.length false (enR c_TRegulateChannel p1.Table), .int .i64 p1.Channel, .bool p1.Lead, .int .i64 p1.Heard, .bool p1.Stopped, .bool p1.Moving, .int .i64 p1.To, .int .i64 p1.At, .ro 2 p1.Blocked.length false (enR c_TRegulateBlock p1.Blocked), .ro 1 p1.Clear.length false (enR c_i64 p1.Clear)]]) (fun e : Unit => (.top :: .top :: .ptr 0 0 0 0 :: .ptr 1 0 0 0 :: tp 130 [])) (fun e => [.lit 39 [.ro 3 p0.Table.length false (enR c_TRegulateChannel p0.Table), .int .i64 p0.Channel, .bool p0.Lead, .int .i64 p0.Heard, .bool p0.Stopped, .bool p0.Moving, .int .i64 p0.To, .int .i64 p0.At, .ro 2 p0.Blocked.length false (enR c_TRegulateBlock p0.Blocked), .ro 1 p0.Clear.length false (enR c_i64 p0.Clear)], .lit 39 [.ro 3 p1.Table.length false (enR c_TRegulateChannel p1.Table), .int .i64 p1.Channel, .bool p1.Lead, .int .i64 p1.Heard, .bool p1.Stopped, .bool p1.Moving, .int .i64 p1.To, .int .i64 p1.At, .ro 2 p1.Blocked.length false (enR c_TRegulateBlock p1.Blocked), .ro 1 p1.Clear.length false (enR c_i64 p1.Clear)]]) H ?_ (fun v2_1 o H hn1_2 hn2_2 => ?_) (fun e H => ?_)
      · refine SubF_of ⟨[some 0, some 1], ?_, ?_, by rfl, by rfl⟩
        · simp [CvL, Cv, getM, tp]
        · exact ⟨(by simp [CvB, CvL, Cv, blkAt, geth, getM]), (by simp [CvB, CvL, Cv, blkAt, geth, getM]), trivial⟩
      · unfold F31_L2 at H
        try dsimp only at H ⊢
        try simp only [tp]
        refine seqM ?_
        refine sq ctNo_ok ?_
        simp only [go_sem, Nat.reduceLeDiff, Nat.reduceLT, Nat.reduceAdd, Nat.reduceMul, Nat.reduceSub, Nat.reduceEqDiff, Nat.reduceBEq, Int.reduceToNat, reduceCtorEq]
        repeat ((with_reducible refine And.intro ?_ ?_); focus (first | (and_intros <;> first | (with_reducible trivial) | omega | assumption | exact nfc | first | exact rfl | exact trivial | exact fitI | exact .inr rfl | exact .inl rfl | exact fun x hx => absurd hx (by omega)) | grind))
        refine condM' rfl trivial (fun hc => ?_) (fun hc => ?_)
        · replace H := cond_f hc H
          refine rg ctNo_ok ?_
          simp only [go_sem, Nat.reduceLeDiff, Nat.reduceLT, Nat.reduceAdd, Nat.reduceMul, Nat.reduceSub, Nat.reduceEqDiff, Nat.reduceBEq, Int.reduceToNat, reduceCtorEq]
          refine ⟨_, (Option.some.inj H).symm, ?_⟩
          refine SubF_of ⟨[some 0, some 1], ?_, ?_, by rfl, by rfl⟩
          · simp [CvL, Cv, getM, tp]
          · exact ⟨(by simp [CvB, CvL, Cv, blkAt, geth, getM]), (by simp [CvB, CvL, Cv, blkAt, geth, getM]), trivial⟩
        replace H := cond_t hc H
        refine rg ctNo_ok ?_
        simp only [go_sem, Nat.reduceLeDiff, Nat.reduceLT, Nat.reduceAdd, Nat.reduceMul, Nat.reduceSub, Nat.reduceEqDiff, Nat.reduceBEq, Int.reduceToNat, reduceCtorEq]
        refine seqM ?_
        refine blkM ?_
        refine seqM ?_
        obtain ⟨f3, H⟩ := need_some.1 H
        replace f3 := inb_iff.1 f3
        obtain ⟨f4, H⟩ := need_some.1 H
        replace f4 := inb_iff.1 f4
        refine draw_quiet shT_ok ctNo_ok (by kernel_rfl) (by kernel_rfl) ?_
        simp only [go_sem, Nat.reduceLeDiff, Nat.reduceLT, Nat.reduceAdd, Nat.reduceMul, Nat.reduceSub, Nat.reduceEqDiff, Nat.reduceBEq, Int.reduceToNat, reduceCtorEq, f3, f4]
        repeat ((with_reducible refine And.intro ?_ ?_); focus (first | (with_reducible trivial) | omega | grind))
        refine condM rfl trivial (fun hc => ?_) (fun hc => ?_)
        · replace H := cond_t hc H
          refine sq ctNo_ok ?_
          simp only [go_sem, Nat.reduceLeDiff, Nat.reduceLT, Nat.reduceAdd, Nat.reduceMul, Nat.reduceSub, Nat.reduceEqDiff, Nat.reduceBEq, Int.reduceToNat, reduceCtorEq]
          refine rg ctNo_ok ?_
          simp only [go_sem, Nat.reduceLeDiff, Nat.reduceLT, Nat.reduceAdd, Nat.reduceMul, Nat.reduceSub, Nat.reduceEqDiff, Nat.reduceBEq, Int.reduceToNat, reduceCtorEq]
          have H := hn2_2 _ (Option.some.inj H).symm
          obtain rfl := Option.some.inj H
          first | rfl | simp only [Bool.and_false, Bool.false_and, Bool.and_true, Bool.true_and]
        replace H := cond_f hc H
        refine rg ctNo_ok ?_
        simp only [go_sem, Nat.reduceLeDiff, Nat.reduceLT, Nat.reduceAdd, Nat.reduceMul, Nat.reduceSub, Nat.reduceEqDiff, Nat.reduceBEq, Int.reduceToNat, reduceCtorEq]
        refine rg ctNo_ok ?_
        simp only [go_sem, Nat.reduceLeDiff, Nat.reduceLT, Nat.reduceAdd, Nat.reduceMul, Nat.reduceSub, Nat.reduceEqDiff, Nat.reduceBEq, Int.reduceToNat, reduceCtorEq]
        refine ⟨_, (Option.some.inj H).symm, ?_⟩
        refine SubF_of ⟨[some 0, some 1], ?_, ?_, by rfl, by rfl⟩
        · simp [CvL, Cv, getM, tp]
        · exact ⟨(by simp [CvB, CvL, Cv, blkAt, geth, getM]), (by simp [CvB, CvL, Cv, blkAt, geth, getM]), trivial⟩
      · try dsimp only at H ⊢
        try simp only [tp]
        try simp only [m_normal, k_normal, b_normal, kL_normal, r_normal]
        refine seqM ?_
        refine sq ctNo_ok ?_
        simp only [go_sem, Nat.reduceLeDiff, Nat.reduceLT, Nat.reduceAdd, Nat.reduceMul, Nat.reduceSub, Nat.reduceEqDiff, Nat.reduceBEq, Int.reduceToNat, reduceCtorEq]
        refine blkM ?_
        refine loop_den (fun s : Int => (.top :: .top :: .ptr 0 0 0 0 :: .ptr 1 0 0 0 :: .top :: .top :: .top :: .int .i64 s :: tp 126 [])) (fun s => [.lit 39 [.ro 3 p0.Table.length false (enR c_TRegulateChannel p0.Table), .int .i64 p0.Channel, .bool p0.Lead, .int .i64 p0.Heard, .bool p0.Stopped, .bool p0.Moving, .int .i64 p0.To, .int .i64 p0.At, .ro 2 p0.Blocked.length false (enR c_TRegulateBlock p0.Blocked), .ro 1 p0.Clear.length false (enR c_i64 p0.Clear)], .lit 39 [.ro 3 p1.Table.length false (enR c_TRegulateChannel p1.Table), .int .i64 p1.Channel, .bool p1.Lead, .int .i64 p1.Heard, .bool p1.Stopped, .bool p1.Moving, .int .i64 p1.To, .int .i64 p1.At, .ro 2 p1.Blocked.length false (enR c_TRegulateBlock p1.Blocked), .ro 1 p1.Clear.length false (enR c_i64 p1.Clear)]]) (fun e : Unit => (.top :: .top :: .ptr 0 0 0 0 :: .ptr 1 0 0 0 :: tp 130 [])) (fun e => [.lit 39 [.ro 3 p0.Table.length false (enR c_TRegulateChannel p0.Table), .int .i64 p0.Channel, .bool p0.Lead, .int .i64 p0.Heard, .bool p0.Stopped, .bool p0.Moving, .int .i64 p0.To, .int .i64 p0.At, .ro 2 p0.Blocked.length false (enR c_TRegulateBlock p0.Blocked), .ro 1 p0.Clear.length false (enR c_i64 p0.Clear)], .lit 39 [.ro 3 p1.Table.length false (enR c_TRegulateChannel p1.Table), .int .i64 p1.Channel, .bool p1.Lead, .int .i64 p1.Heard, .bool p1.Stopped, .bool p1.Moving, .int .i64 p1.To, .int .i64 p1.At, .ro 2 p1.Blocked.length false (enR c_TRegulateBlock p1.Blocked), .ro 1 p1.Clear.length false (enR c_i64 p1.Clear)]]) H ?_ (fun v3_1 o H hn1_3 hn2_3 => ?_) (fun e H => ?_)
        · refine SubF_of ⟨[some 0, some 1], ?_, ?_, by rfl, by rfl⟩
          · simp [CvL, Cv, getM, tp]
          · exact ⟨(by simp [CvB, CvL, Cv, blkAt, geth, getM]), (by simp [CvB, CvL, Cv, blkAt, geth, getM]), trivial⟩
        · unfold F31_L3 at H
          try dsimp only at H ⊢
          try simp only [tp]
          refine seqM ?_
          refine sq ctNo_ok ?_
          simp only [go_sem, Nat.reduceLeDiff, Nat.reduceLT, Nat.reduceAdd, Nat.reduceMul, Nat.reduceSub, Nat.reduceEqDiff, Nat.reduceBEq, Int.reduceToNat, reduceCtorEq]
          repeat ((with_reducible refine And.intro ?_ ?_); focus (first | (and_intros <;> first | (with_reducible trivial) | omega | assumption | exact nfc | first | exact rfl | exact trivial | exact fitI | exact .inr rfl | exact .inl rfl | exact fun x hx => absurd hx (by omega)) | grind))
          refine condM' rfl trivial (fun hc => ?_) (fun hc => ?_)
          · replace H := cond_f hc H
            refine rg ctNo_ok ?_
            simp only [go_sem, Nat.reduceLeDiff, Nat.reduceLT, Nat.reduceAdd, Nat.reduceMul, Nat.reduceSub, Nat.reduceEqDiff, Nat.reduceBEq, Int.reduceToNat, reduceCtorEq]
            refine ⟨_, (Option.some.inj H).symm, ?_⟩
            refine SubF_of ⟨[some 0, some 1], ?_, ?_, by rfl, by rfl⟩
            · simp [CvL, Cv, getM, tp]
            · exact ⟨(by simp [CvB, CvL, Cv, blkAt, geth, getM]), (by simp [CvB, CvL, Cv, blkAt, geth, getM]), trivial⟩
          replace H := cond_t hc H
          refine rg ctNo_ok ?_
          simp only [go_sem, Nat.reduceLeDiff, Nat.reduceLT, Nat.reduceAdd, Nat.reduceMul, Nat.reduceSub, Nat.reduceEqDiff, Nat.reduceBEq, Int.reduceToNat, reduceCtorEq]
          refine seqM ?_
          refine blkM ?_
          refine seqM ?_
          obtain ⟨f5, H⟩ := need_some.1 H
          replace f5 := inb_iff.1 f5
          obtain ⟨f6, H⟩ := need_some.1 H
          replace f6 := inb_iff.1 f6
          refine draw_quiet shT_ok ctNo_ok (by kernel_rfl) (by kernel_rfl) ?_
          simp only [go_sem, Nat.reduceLeDiff, Nat.reduceLT, Nat.reduceAdd, Nat.reduceMul, Nat.reduceSub, Nat.reduceEqDiff, Nat.reduceBEq, Int.reduceToNat, reduceCtorEq, f5, f6]
          repeat ((with_reducible refine And.intro ?_ ?_); focus (first | (with_reducible trivial) | omega | grind))
          refine condM rfl trivial (fun hc => ?_) (fun hc => ?_)
          · replace H := cond_t hc H
            refine sq ctNo_ok ?_
            simp only [go_sem, Nat.reduceLeDiff, Nat.reduceLT, Nat.reduceAdd, Nat.reduceMul, Nat.reduceSub, Nat.reduceEqDiff, Nat.reduceBEq, Int.reduceToNat, reduceCtorEq]
            refine rg ctNo_ok ?_
            simp only [go_sem, Nat.reduceLeDiff, Nat.reduceLT, Nat.reduceAdd, Nat.reduceMul, Nat.reduceSub, Nat.reduceEqDiff, Nat.reduceBEq, Int.reduceToNat, reduceCtorEq]
            have H := hn2_3 _ (Option.some.inj H).symm
            obtain rfl := Option.some.inj H
            first | rfl | simp only [Bool.and_false, Bool.false_and, Bool.and_true, Bool.true_and]
          replace H := cond_f hc H
          refine rg ctNo_ok ?_
          simp only [go_sem, Nat.reduceLeDiff, Nat.reduceLT, Nat.reduceAdd, Nat.reduceMul, Nat.reduceSub, Nat.reduceEqDiff, Nat.reduceBEq, Int.reduceToNat, reduceCtorEq]
          refine rg ctNo_ok ?_
          simp only [go_sem, Nat.reduceLeDiff, Nat.reduceLT, Nat.reduceAdd, Nat.reduceMul, Nat.reduceSub, Nat.reduceEqDiff, Nat.reduceBEq, Int.reduceToNat, reduceCtorEq]
          refine ⟨_, (Option.some.inj H).symm, ?_⟩
          refine SubF_of ⟨[some 0, some 1], ?_, ?_, by rfl, by rfl⟩
          · simp [CvL, Cv, getM, tp]
          · exact ⟨(by simp [CvB, CvL, Cv, blkAt, geth, getM]), (by simp [CvB, CvL, Cv, blkAt, geth, getM]), trivial⟩
        · try dsimp only at H ⊢
          try simp only [tp]
          try simp only [m_normal, k_normal, b_normal, kL_normal, r_normal]
          refine sq ctNo_ok ?_
          simp only [go_sem, Nat.reduceLeDiff, Nat.reduceLT, Nat.reduceAdd, Nat.reduceMul, Nat.reduceSub, Nat.reduceEqDiff, Nat.reduceBEq, Int.reduceToNat, reduceCtorEq]
          repeat ((with_reducible refine And.intro ?_ ?_); focus (first | (with_reducible trivial) | omega | grind))
          refine rg ctNo_ok ?_
          simp only [go_sem, Nat.reduceLeDiff, Nat.reduceLT, Nat.reduceAdd, Nat.reduceMul, Nat.reduceSub, Nat.reduceEqDiff, Nat.reduceBEq, Int.reduceToNat, reduceCtorEq]
          obtain rfl := Option.some.inj H
          first | rfl | simp only [Bool.and_false, Bool.false_and, Bool.and_true, Bool.true_and]
  · cases hb
/-! hotspot/hotspotlaw45.sameInts -/
noncomputable def F32_L1 (p0 : List Int) (p1 : List Int) (v1_1 : Int) : Option (Lp (Int) ((Unit) ⊕ (Bool))) :=
  bif (bLt v1_1 (p0.length : Nat)) then (need (inb v1_1 p0.length) <| need (inb v1_1 p1.length) <| bif (!bEq (gd p0 v1_1.toNat) (gd p1 v1_1.toNat)) then (some (.done (.inr false))) else (some (.next (wr .i64 (v1_1 + 1))))) else (some (.done (.inl ())))
noncomputable def F32 (p0 : List Int) (p1 : List Int) : Option (Bool) :=
  bif (!bEq (p0.length : Nat) (p1.length : Nat)) then (some false) else (lp (loopD (fun s => F32_L1 p0 p1 s) 0) (fun e => some true) some)
noncomputable def body32 : List AV -> AR
  | [v0, v1] => .pure (lK k_i64 1 v0 /\ lK k_i64 1 v1 /\ (F32 (lA g_i64 v0) (lA g_i64 v1)).isSome = true) (.bool (gt (F32 (lA g_i64 v0) (lA g_i64 v1))))
  | _ => .fail
set_option maxHeartbeats 4000000 in
set_option maxRecDepth 20000 in
theorem ok32 : FnOk Try.prog 32 (pureC body32) := by
  refine pure_fnM body32 (rs := [.tmp 4]) Try.func32 (by kernel_rfl) rfl rfl ?_
  intro l ob v hb hob
  unfold body32 at hb
  split at hb
  · rename_i v0 v1
    injection hb with q1 q2; subst q1 q2
    obtain ⟨hk0_0, hk1_0, hob⟩ := hob
    obtain ⟨r, H⟩ := Option.isSome_iff_exists.1 hob
    rw [H, gt_some]
    have hw0 := lK_wk (fun r h => w_i64 h) hk0_0
    have hw1 := lK_wk (fun r h => w_i64 h) hk1_0
    generalize lA g_i64 v0 = p0 at H hw0
    generalize lA g_i64 v1 = p1 at H hw1
    refine ⟨[.ro 1 p0.length false (enR c_i64 p0), .ro 1 p1.length false (enR c_i64 p1)], _, (fun E vs F => FR_wk1 hw0.1 F (fun vs F => FR_wk1 hw1.1 F (fun vs F => F))), rfl, rfl, ?_⟩
    rw [Try.ntmps32]
    simp only [List.length_cons, List.length_nil, Nat.reduceAdd, Nat.reduceSub, List.replicate_succ, List.replicate_zero, List.cons_append, List.nil_append]
    unfold F32 at H
    try dsimp only at H
    refine sq ctNo_ok ?_
    simp only [go_sem, Nat.reduceLeDiff, Nat.reduceLT, Nat.reduceAdd, Nat.reduceMul, Nat.reduceSub, Nat.reduceEqDiff, Nat.reduceBEq, Int.reduceToNat, reduceCtorEq]
    refine seqM ?_
    refine sq ctNo_ok ?_
    simp only [go_sem, Nat.reduceLeDiff, Nat.reduceLT, Nat.reduceAdd, Nat.reduceMul, Nat.reduceSub, Nat.reduceEqDiff, Nat.reduceBEq, Int.reduceToNat, reduceCtorEq]
    repeat ((with_reducible refine And.intro ?_ ?_); focus (first | (and_intros <;> first | (with_reducible trivial) | omega | assumption | exact nfc | first | exact rfl | exact trivial | exact fitI | exact .inr rfl | exact .inl rfl | exact fun x hx => absurd hx (by omega)) | grind))
    refine condM rfl trivial (fun hc => ?_) (fun hc => ?_)
    · replace H := cond_t hc H
      refine sq ctNo_ok ?_
      simp only [go_sem, Nat.reduceLeDiff, Nat.reduceLT, Nat.reduceAdd, Nat.reduceMul, Nat.reduceSub, Nat.reduceEqDiff, Nat.reduceBEq, Int.reduceToNat, reduceCtorEq]
      refine rg ctNo_ok ?_
      simp only [go_sem, Nat.reduceLeDiff, Nat.reduceLT, Nat.reduceAdd, Nat.reduceMul, Nat.reduceSub, Nat.reduceEqDiff, Nat.reduceBEq, Int.reduceToNat, reduceCtorEq]
      obtain rfl := Option.some.inj H
      first | rfl | simp only [Bool.and_false, Bool.false_and, Bool.and_true, Bool.true_and]
    replace H := cond_f hc H
    refine rg ctNo_ok ?_
    simp only [go_sem, Nat.reduceLeDiff, Nat.reduceLT, Nat.reduceAdd, Nat.reduceMul, Nat.reduceSub, Nat.reduceEqDiff, Nat.reduceBEq, Int.reduceToNat, reduceCtorEq]
    refine seqM ?_
    refine sq ctNo_ok ?_
    simp only [go_sem, Nat.reduceLeDiff, Nat.reduceLT, Nat.reduceAdd, Nat.reduceMul, Nat.reduceSub, Nat.reduceEqDiff, Nat.reduceBEq, Int.reduceToNat, reduceCtorEq]
    refine blkM ?_
    refine loop_den (fun s : Int => (.ro 1 p0.length false (enR c_i64 p0) :: .ro 1 p1.length false (enR c_i64 p1) :: .top :: .top :: .top :: .int .i64 s :: tp 20 [])) (fun s => []) (fun e : Unit => (tp 26 [])) (fun e => []) H ?_ (fun v1_1 o H hn1_1 hn2_1 => ?_) (fun e H => ?_)
    · refine SubF_of ⟨[], ?_, ?_, by rfl, by rfl⟩
      · simp [CvL, Cv, getM, tp]
      · trivial
    · unfold F32_L1 at H
      try dsimp only at H ⊢
      try simp only [tp]
      refine seqM ?_
      refine sq ctNo_ok ?_
      simp only [go_sem, Nat.reduceLeDiff, Nat.reduceLT, Nat.reduceAdd, Nat.reduceMul, Nat.reduceSub, Nat.reduceEqDiff, Nat.reduceBEq, Int.reduceToNat, reduceCtorEq]
      repeat ((with_reducible refine And.intro ?_ ?_); focus (first | (and_intros <;> first | (with_reducible trivial) | omega | assumption | exact nfc | first | exact rfl | exact trivial | exact fitI | exact .inr rfl | exact .inl rfl | exact fun x hx => absurd hx (by omega)) | grind))
      refine condM' rfl trivial (fun hc => ?_) (fun hc => ?_)
      · replace H := cond_f hc H
        refine rg ctNo_ok ?_
        simp only [go_sem, Nat.reduceLeDiff, Nat.reduceLT, Nat.reduceAdd, Nat.reduceMul, Nat.reduceSub, Nat.reduceEqDiff, Nat.reduceBEq, Int.reduceToNat, reduceCtorEq]
        refine ⟨_, (Option.some.inj H).symm, ?_⟩
        refine SubF_of ⟨[], ?_, ?_, by rfl, by rfl⟩
        · simp [CvL, Cv, getM, tp]
        · trivial
      replace H := cond_t hc H
      refine rg ctNo_ok ?_
      simp only [go_sem, Nat.reduceLeDiff, Nat.reduceLT, Nat.reduceAdd, Nat.reduceMul, Nat.reduceSub, Nat.reduceEqDiff, Nat.reduceBEq, Int.reduceToNat, reduceCtorEq]
      refine seqM ?_
      refine blkM ?_
      refine seqM ?_
      obtain ⟨f1, H⟩ := need_some.1 H
      replace f1 := inb_iff.1 f1
      obtain ⟨f2, H⟩ := need_some.1 H
      replace f2 := inb_iff.1 f2
      refine draw_quiet shT_ok ctNo_ok (by kernel_rfl) (by kernel_rfl) ?_
      simp only [go_sem, Nat.reduceLeDiff, Nat.reduceLT, Nat.reduceAdd, Nat.reduceMul, Nat.reduceSub, Nat.reduceEqDiff, Nat.reduceBEq, Int.reduceToNat, reduceCtorEq, f1, f2]
      repeat ((with_reducible refine And.intro ?_ ?_); focus (first | (with_reducible trivial) | omega | grind))
      refine condM rfl trivial (fun hc => ?_) (fun hc => ?_)
      · replace H := cond_t hc H
        refine sq ctNo_ok ?_
        simp only [go_sem, Nat.reduceLeDiff, Nat.reduceLT, Nat.reduceAdd, Nat.reduceMul, Nat.reduceSub, Nat.reduceEqDiff, Nat.reduceBEq, Int.reduceToNat, reduceCtorEq]
        refine rg ctNo_ok ?_
        simp only [go_sem, Nat.reduceLeDiff, Nat.reduceLT, Nat.reduceAdd, Nat.reduceMul, Nat.reduceSub, Nat.reduceEqDiff, Nat.reduceBEq, Int.reduceToNat, reduceCtorEq]
        have H := hn2_1 _ (Option.some.inj H).symm
        obtain rfl := Option.some.inj H
        first | rfl | simp only [Bool.and_false, Bool.false_and, Bool.and_true, Bool.true_and]
      replace H := cond_f hc H
      refine rg ctNo_ok ?_
      simp only [go_sem, Nat.reduceLeDiff, Nat.reduceLT, Nat.reduceAdd, Nat.reduceMul, Nat.reduceSub, Nat.reduceEqDiff, Nat.reduceBEq, Int.reduceToNat, reduceCtorEq]
      refine rg ctNo_ok ?_
      simp only [go_sem, Nat.reduceLeDiff, Nat.reduceLT, Nat.reduceAdd, Nat.reduceMul, Nat.reduceSub, Nat.reduceEqDiff, Nat.reduceBEq, Int.reduceToNat, reduceCtorEq]
      refine ⟨_, (Option.some.inj H).symm, ?_⟩
      refine SubF_of ⟨[], ?_, ?_, by rfl, by rfl⟩
      · simp [CvL, Cv, getM, tp]
      · trivial
    · try dsimp only at H ⊢
      try simp only [tp]
      try simp only [m_normal, k_normal, b_normal, kL_normal, r_normal]
      refine sq ctNo_ok ?_
      simp only [go_sem, Nat.reduceLeDiff, Nat.reduceLT, Nat.reduceAdd, Nat.reduceMul, Nat.reduceSub, Nat.reduceEqDiff, Nat.reduceBEq, Int.reduceToNat, reduceCtorEq]
      refine rg ctNo_ok ?_
      simp only [go_sem, Nat.reduceLeDiff, Nat.reduceLT, Nat.reduceAdd, Nat.reduceMul, Nat.reduceSub, Nat.reduceEqDiff, Nat.reduceBEq, Int.reduceToNat, reduceCtorEq]
      obtain rfl := Option.some.inj H
      first | rfl | simp only [Bool.and_false, Bool.false_and, Bool.and_true, Bool.true_and]
  · cases hb
/-! hotspot/hotspotlaw45.RegulateStates -/
noncomputable def ct6t0 : Ct := tab [(16, pureC body16)]
theorem ct6t0_ok : CtOk Try.prog ct6t0 := tab_cons ok16 <| tab_nil
theorem ct6t0_16 (l : List AV) (h : List ABlk) : ct6t0 16 l h = pureC body16 l h := rfl
noncomputable def ct6t1 : Ct := tab [(24, edC body24)]
theorem ct6t1_ok : CtOk Try.prog ct6t1 := tab_cons ok24 <| tab_nil
theorem ct6t1_24 (l : List AV) (h : List ABlk) : ct6t1 24 l h = edC body24 l h := rfl
noncomputable def ct6t2 : Ct := tab [(25, edC body25)]
theorem ct6t2_ok : CtOk Try.prog ct6t2 := tab_cons ok25 <| tab_nil
theorem ct6t2_25 (l : List AV) (h : List ABlk) : ct6t2 25 l h = edC body25 l h := rfl
noncomputable def ct6t3 : Ct := tab [(26, edC body26)]
theorem ct6t3_ok : CtOk Try.prog ct6t3 := tab_cons ok26 <| tab_nil
theorem ct6t3_26 (l : List AV) (h : List ABlk) : ct6t3 26 l h = edC body26 l h := rfl
noncomputable def ct6t4 : Ct := tab [(21, edC body21)]
theorem ct6t4_ok : CtOk Try.prog ct6t4 := tab_cons ok21 <| tab_nil
theorem ct6t4_21 (l : List AV) (h : List ABlk) : ct6t4 21 l h = edC body21 l h := rfl
noncomputable def ct6t5 : Ct := tab [(27, edC body27)]
theorem ct6t5_ok : CtOk Try.prog ct6t5 := tab_cons ok27 <| tab_nil
theorem ct6t5_27 (l : List AV) (h : List ABlk) : ct6t5 27 l h = edC body27 l h := rfl
noncomputable def ct6t6 : Ct := tab [(17, pureC body17)]
theorem ct6t6_ok : CtOk Try.prog ct6t6 := tab_cons ok17 <| tab_nil
theorem ct6t6_17 (l : List AV) (h : List ABlk) : ct6t6 17 l h = pureC body17 l h := rfl
noncomputable def ct6t7 : Ct := tab [(28, pureC body28)]
theorem ct6t7_ok : CtOk Try.prog ct6t7 := tab_cons ok28 <| tab_nil
theorem ct6t7_28 (l : List AV) (h : List ABlk) : ct6t7 28 l h = pureC body28 l h := rfl
noncomputable def ct6t8 : Ct := tab [(29, edC body29)]
theorem ct6t8_ok : CtOk Try.prog ct6t8 := tab_cons ok29 <| tab_nil
theorem ct6t8_29 (l : List AV) (h : List ABlk) : ct6t8 29 l h = edC body29 l h := rfl
noncomputable def ct6t9 : Ct := tab [(30, edC body30)]
theorem ct6t9_ok : CtOk Try.prog ct6t9 := tab_cons ok30 <| tab_nil
theorem ct6t9_30 (l : List AV) (h : List ABlk) : ct6t9 30 l h = edC body30 l h := rfl
noncomputable def ct6t10 : Ct := tab [(31, pureC body31), (32, pureC body32), (33, pureC body33), (34, pureC body34)]
theorem ct6t10_ok : CtOk Try.prog ct6t10 := tab_cons ok31 <| tab_cons ok32 <| tab_cons ok33 <| tab_cons ok34 <| tab_nil
theorem ct6t10_31 (l : List AV) (h : List ABlk) : ct6t10 31 l h = pureC body31 l h := rfl
theorem ct6t10_32 (l : List AV) (h : List ABlk) : ct6t10 32 l h = pureC body32 l h := rfl
theorem ct6t10_33 (l : List AV) (h : List ABlk) : ct6t10 33 l h = pureC body33 l h := rfl
theorem ct6t10_34 (l : List AV) (h : List ABlk) : ct6t10 34 l h = pureC body34 l h := rfl
noncomputable def ct6t11 : Ct := tab [(31, pureC body31)]
theorem ct6t11_ok : CtOk Try.prog ct6t11 := tab_cons ok31 <| tab_nil
theorem ct6t11_31 (l : List AV) (h : List ABlk) : ct6t11 31 l h = pureC body31 l h := rfl
noncomputable def F6_L1 (v1_1 : Int) (v1_2 : List TRegulateChannel) : Option (Lp (Int × (List TRegulateChannel)) ((List TRegulateChannel) ⊕ (Bool))) :=
  bif (bLt v1_1 (v1_2.length : Nat)) then (need (inb v1_1 v1_2.length) <| some (.next (wr .i64 (v1_1 + 1), (v1_2.set v1_1.toNat (TRegulateChannel.mk ((gd v1_2 v1_1.toNat).Number) (-1) ((gd v1_2 v1_1.toNat).Radar)))))) else (some (.done (.inl v1_2)))
noncomputable def F6_L2 (v2_1 : Int) (v2_2 : List Int) : Option (Lp (Int × (List Int)) ((Unit) ⊕ (Bool))) :=
  bif (bLt v2_1 (v2_2.length : Nat)) then (need (inb v2_1 v2_2.length) <| some (.next (wr .i64 (v2_1 + 1), (v2_2.set v2_1.toNat (-1))))) else (some (.done (.inl ())))
noncomputable def F6_L3 (v3_1 : Int) (v3_2 : List TRegulateChannel) : Option (Lp (Int × (List TRegulateChannel)) ((Unit) ⊕ (Bool))) :=
  bif (bLt v3_1 (v3_2.length : Nat)) then (need (inb v3_1 v3_2.length) <| some (.next (wr .i64 (v3_1 + 1), (v3_2.set v3_1.toNat (TRegulateChannel.mk ((gd v3_2 v3_1.toNat).Number) (-1) ((gd v3_2 v3_1.toNat).Radar)))))) else (some (.done (.inl ())))
noncomputable def F6 (p0 : TRegulate) (p1 : Int) (p2 : Int) (p3 : Int) : Option (Bool) :=
  (F16 p0).bind fun r1 => bif r1 then (some true) else ((F24 p0).bind fun r3 => (F25 p0.Table p1 p0.Lead p2).bind fun r5 => (F26 r3.Table p1 p0.Lead p2).bind fun r7 => (F21 p0 p2).bind fun r9 => (F27 (TRegulate.mk r3.Table r3.Channel r3.Lead r3.Heard r3.Stopped r3.Moving r3.To r3.At r3.Blocked r3.Clear) p2).bind fun r11 => (F17 p0 p1 p3).bind fun r13 => (F28 (TRegulate.mk r3.Table r3.Channel r3.Lead r3.Heard r3.Stopped r3.Moving r3.To r3.At r3.Blocked r3.Clear) p1 p3).bind fun r15 => (F29 p0 p1 p2 p3).bind fun r17 => (F30 (TRegulate.mk r3.Table r3.Channel r3.Lead r3.Heard r3.Stopped r3.Moving r3.To r3.At r3.Blocked r3.Clear) p1 p2 p3).bind fun r19 => (F31 (TRegulate.mk r5.1.Table r5.1.Channel r5.1.Lead r5.1.Heard r5.1.Stopped r5.1.Moving r5.1.To r5.1.At r5.1.Blocked r5.1.Clear) (TRegulate.mk r7.1.Table r7.1.Channel r7.1.Lead r7.1.Heard r7.1.Stopped r7.1.Moving r7.1.To r7.1.At r7.1.Blocked r7.1.Clear)).bind fun r21 => need (bif (r21 && (bEq r5.2 r7.2)) then ((F32 r9.1 r11.1).isSome) else true) <| need (bif (((((r21 && (bEq r5.2 r7.2)) && (gt (F32 r9.1 r11.1))) && (bEq r9.2 r11.2)) && (bB r13.1 r15.1)) && (bEq r13.2 r15.2)) then ((F31 (TRegulate.mk r17.1.Table r17.1.Channel r17.1.Lead r17.1.Heard r17.1.Stopped r17.1.Moving r17.1.To r17.1.At r17.1.Blocked r17.1.Clear) (TRegulate.mk r19.1.Table r19.1.Channel r19.1.Lead r19.1.Heard r19.1.Stopped r19.1.Moving r19.1.To r19.1.At r19.1.Blocked r19.1.Clear)).isSome) else true) <| need (bif (((((((r21 && (bEq r5.2 r7.2)) && (gt (F32 r9.1 r11.1))) && (bEq r9.2 r11.2)) && (bB r13.1 r15.1)) && (bEq r13.2 r15.2)) && (gt (F31 (TRegulate.mk r17.1.Table r17.1.Channel r17.1.Lead r17.1.Heard r17.1.Stopped r17.1.Moving r17.1.To r17.1.At r17.1.Blocked r17.1.Clear) (TRegulate.mk r19.1.Table r19.1.Channel r19.1.Lead r19.1.Heard r19.1.Stopped r19.1.Moving r19.1.To r19.1.At r19.1.Blocked r19.1.Clear)))) && (bEq r17.2 r19.2)) then ((F33 p0).isSome) else true) <| need (bif (((((((r21 && (bEq r5.2 r7.2)) && (gt (F32 r9.1 r11.1))) && (bEq r9.2 r11.2)) && (bB r13.1 r15.1)) && (bEq r13.2 r15.2)) && (gt (F31 (TRegulate.mk r17.1.Table r17.1.Channel r17.1.Lead r17.1.Heard r17.1.Stopped r17.1.Moving r17.1.To r17.1.At r17.1.Blocked r17.1.Clear) (TRegulate.mk r19.1.Table r19.1.Channel r19.1.Lead r19.1.Heard r19.1.Stopped r19.1.Moving r19.1.To r19.1.At r19.1.Blocked r19.1.Clear)))) && (bEq r17.2 r19.2)) then ((F34 (TRegulate.mk r3.Table r3.Channel r3.Lead r3.Heard r3.Stopped r3.Moving r3.To r3.At r3.Blocked r3.Clear)).isSome) else true) <| lp (loopD (fun s => F6_L1 s.1 s.2) (0, r17.1.Table)) (fun w1_9 => lp (loopD (fun s => F6_L2 s.1 s.2) (0, r17.1.Clear)) (fun e => lp (loopD (fun s => F6_L3 s.1 s.2) (0, r5.1.Table)) (fun e => need (bif ((((((((r21 && (bEq r5.2 r7.2)) && (gt (F32 r9.1 r11.1))) && (bEq r9.2 r11.2)) && (bB r13.1 r15.1)) && (bEq r13.2 r15.2)) && (gt (F31 (TRegulate.mk r17.1.Table r17.1.Channel r17.1.Lead r17.1.Heard r17.1.Stopped r17.1.Moving r17.1.To r17.1.At r17.1.Blocked r17.1.Clear) (TRegulate.mk r19.1.Table r19.1.Channel r19.1.Lead r19.1.Heard r19.1.Stopped r19.1.Moving r19.1.To r19.1.At r19.1.Blocked r19.1.Clear)))) && (bEq r17.2 r19.2)) && (bB (bEq (gt (F33 p0)) 0) (gt (F34 (TRegulate.mk r3.Table r3.Channel r3.Lead r3.Heard r3.Stopped r3.Moving r3.To r3.At r3.Blocked r3.Clear))))) then ((F31 p0 (TRegulate.mk r3.Table r3.Channel r3.Lead r3.Heard r3.Stopped r3.Moving r3.To r3.At r3.Blocked r3.Clear)).isSome) else true) <| some (((((((((r21 && (bEq r5.2 r7.2)) && (gt (F32 r9.1 r11.1))) && (bEq r9.2 r11.2)) && (bB r13.1 r15.1)) && (bEq r13.2 r15.2)) && (gt (F31 (TRegulate.mk r17.1.Table r17.1.Channel r17.1.Lead r17.1.Heard r17.1.Stopped r17.1.Moving r17.1.To r17.1.At r17.1.Blocked r17.1.Clear) (TRegulate.mk r19.1.Table r19.1.Channel r19.1.Lead r19.1.Heard r19.1.Stopped r19.1.Moving r19.1.To r19.1.At r19.1.Blocked r19.1.Clear)))) && (bEq r17.2 r19.2)) && (bB (bEq (gt (F33 p0)) 0) (gt (F34 (TRegulate.mk r3.Table r3.Channel r3.Lead r3.Heard r3.Stopped r3.Moving r3.To r3.At r3.Blocked r3.Clear))))) && (gt (F31 p0 (TRegulate.mk r3.Table r3.Channel r3.Lead r3.Heard r3.Stopped r3.Moving r3.To r3.At r3.Blocked r3.Clear))))) some) some) some)
noncomputable def body6 : List AV -> AR
  | [v0, v1, v2, v3] => .pure (aK 10 k_TRegulate v0 /\ iK .i64 v1 /\ iK .i64 v2 /\ iK .i64 v3 /\ (F6 (g_TRegulate (aL v0)) (iA v1) (iA v2) (iA v3)).isSome = true) (.bool (gt (F6 (g_TRegulate (aL v0)) (iA v1) (iA v2) (iA v3))))
  | _ => .fail
set_option maxHeartbeats 4000000 in
set_option maxRecDepth 20000 in
theorem ok6 : FnOk Try.prog 6 (pureC body6) := by
  refine pure_fnM body6 (rs := [.tmp 8]) Try.func6 (by kernel_rfl) rfl rfl ?_
  intro l ob v hb hob
  unfold body6 at hb
  split at hb
  · rename_i v0 v1 v2 v3
    injection hb with q1 q2; subst q1 q2
    obtain ⟨hk0_0, hk1_0, hk2_0, hk3_0, hob⟩ := hob
    obtain ⟨r, H⟩ := Option.isSome_iff_exists.1 hob
    rw [H, gt_some]
    have hw0 := wA_TRegulate hk0_0
    have hw1 := iK_wk hk1_0
    have hw2 := iK_wk hk2_0
    have hw3 := iK_wk hk3_0
    generalize g_TRegulate (aL v0) = p0 at H hw0
    generalize iA v1 = p1 at H hw1
    generalize iA v2 = p2 at H hw2
    generalize iA v3 = p3 at H hw3
    refine ⟨[.agg [.ro 3 p0.Table.length false (enR c_TRegulateChannel p0.Table), .int .i64 p0.Channel, .bool p0.Lead, .int .i64 p0.Heard, .bool p0.Stopped, .bool p0.Moving, .int .i64 p0.To, .int .i64 p0.At, .ro 2 p0.Blocked.length false (enR c_TRegulateBlock p0.Blocked), .ro 1 p0.Clear.length false (enR c_i64 p0.Clear)], .int .i64 p1, .int .i64 p2, .int .i64 p3], _, (fun E vs F => FR_wk1 hw0.1 F (fun vs F => FR_wk1 hw1.1 F (fun vs F => FR_wk1 hw2.1 F (fun vs F => FR_wk1 hw3.1 F (fun vs F => F))))), rfl, rfl, ?_⟩
    rw [Try.ntmps6]
    simp only [List.length_cons, List.length_nil, Nat.reduceAdd, Nat.reduceSub, List.replicate_succ, List.replicate_zero, List.cons_append, List.nil_append]
    unfold F6 at H
    try dsimp only at H
    refine sq ctNo_ok ?_
    simp only [go_sem, Nat.reduceLeDiff, Nat.reduceLT, Nat.reduceAdd, Nat.reduceMul, Nat.reduceSub, Nat.reduceEqDiff, Nat.reduceBEq, Int.reduceToNat, reduceCtorEq]
    refine seqM ?_
    refine seqM ?_
    obtain ⟨r1, e2, H⟩ := bsi H
    refine rg ct6t0_ok ?_
    simp only [go_sem, Nat.reduceLeDiff, Nat.reduceLT, Nat.reduceAdd, Nat.reduceMul, Nat.reduceSub, Nat.reduceEqDiff, Nat.reduceBEq, Int.reduceToNat, reduceCtorEq, ct6t0_16, body16, e2]
    repeat ((with_reducible refine And.intro ?_ ?_); focus (first | (and_intros <;> first | (with_reducible trivial) | omega | assumption | exact nfc | first | exact rfl | exact trivial | exact fitI | exact .inr rfl | exact .inl rfl | exact fun x hx => absurd hx (by omega)) | grind))
    refine condM rfl trivial (fun hc => ?_) (fun hc => ?_)
    · replace H := cond_t hc H
      refine sq ctNo_ok ?_
      simp only [go_sem, Nat.reduceLeDiff, Nat.reduceLT, Nat.reduceAdd, Nat.reduceMul, Nat.reduceSub, Nat.reduceEqDiff, Nat.reduceBEq, Int.reduceToNat, reduceCtorEq]
      refine rg ctNo_ok ?_
      simp only [go_sem, Nat.reduceLeDiff, Nat.reduceLT, Nat.reduceAdd, Nat.reduceMul, Nat.reduceSub, Nat.reduceEqDiff, Nat.reduceBEq, Int.reduceToNat, reduceCtorEq]
      obtain rfl := Option.some.inj H
      first | rfl | simp only [Bool.and_false, Bool.false_and, Bool.and_true, Bool.true_and]
    replace H := cond_f hc H
    refine rg ctNo_ok ?_
    simp only [go_sem, Nat.reduceLeDiff, Nat.reduceLT, Nat.reduceAdd, Nat.reduceMul, Nat.reduceSub, Nat.reduceEqDiff, Nat.reduceBEq, Int.reduceToNat, reduceCtorEq]
    refine seqM ?_
    obtain ⟨r3, e4, H⟩ := bsi H
    refine rg ct6t1_ok ?_
    simp only [go_sem, Nat.reduceLeDiff, Nat.reduceLT, Nat.reduceAdd, Nat.reduceMul, Nat.reduceSub, Nat.reduceEqDiff, Nat.reduceBEq, Int.reduceToNat, reduceCtorEq, ct6t1_24, body24, e4]
    repeat ((with_reducible refine And.intro ?_ ?_); focus (first | (and_intros <;> first | (with_reducible trivial) | omega | assumption | exact nfc | first | exact rfl | exact trivial | exact fitI | exact .inr rfl | exact .inl rfl | exact fun x hx => absurd hx (by omega)) | grind))
    refine seqM ?_
    obtain ⟨r5, e6, H⟩ := bsi H
    refine rg ct6t2_ok ?_
    simp only [go_sem, Nat.reduceLeDiff, Nat.reduceLT, Nat.reduceAdd, Nat.reduceMul, Nat.reduceSub, Nat.reduceEqDiff, Nat.reduceBEq, Int.reduceToNat, reduceCtorEq, ct6t2_25, body25, e6]
    repeat ((with_reducible refine And.intro ?_ ?_); focus (first | (and_intros <;> first | (with_reducible trivial) | omega | assumption | exact nfc | first | exact rfl | exact trivial | exact fitI | exact .inr rfl | exact .inl rfl | exact fun x hx => absurd hx (by omega)) | grind))
    refine seqM ?_
    obtain ⟨r7, e8, H⟩ := bsi H
    refine rg ct6t3_ok ?_
    simp only [go_sem, Nat.reduceLeDiff, Nat.reduceLT, Nat.reduceAdd, Nat.reduceMul, Nat.reduceSub, Nat.reduceEqDiff, Nat.reduceBEq, Int.reduceToNat, reduceCtorEq, ct6t3_26, body26, e8]
    repeat ((with_reducible refine And.intro ?_ ?_); focus (first | (and_intros <;> first | (with_reducible trivial) | omega | assumption | exact nfc | first | exact rfl | exact trivial | exact fitI | exact .inr rfl | exact .inl rfl | exact fun x hx => absurd hx (by omega)) | grind))
    refine seqM ?_
    obtain ⟨r9, e10, H⟩ := bsi H
    refine rg ct6t4_ok ?_
    simp only [go_sem, Nat.reduceLeDiff, Nat.reduceLT, Nat.reduceAdd, Nat.reduceMul, Nat.reduceSub, Nat.reduceEqDiff, Nat.reduceBEq, Int.reduceToNat, reduceCtorEq, ct6t4_21, body21, e10]
    repeat ((with_reducible refine And.intro ?_ ?_); focus (first | (and_intros <;> first | (with_reducible trivial) | omega | assumption | exact nfc | first | exact rfl | exact trivial | exact fitI | exact .inr rfl | exact .inl rfl | exact fun x hx => absurd hx (by omega)) | grind))
    refine seqM ?_
    obtain ⟨r11, e12, H⟩ := bsi H
    refine rg ct6t5_ok ?_
    simp only [go_sem, Nat.reduceLeDiff, Nat.reduceLT, Nat.reduceAdd, Nat.reduceMul, Nat.reduceSub, Nat.reduceEqDiff, Nat.reduceBEq, Int.reduceToNat, reduceCtorEq, ct6t5_27, body27, e12]
    repeat ((with_reducible refine And.intro ?_ ?_); focus (first | (and_intros <;> first | (with_reducible trivial) | omega | assumption | exact nfc | first | exact rfl | exact trivial | exact fitI | exact .inr rfl | exact .inl rfl | exact fun x hx => absurd hx (by omega)) | grind))
    refine seqM ?_
    obtain ⟨r13, e14, H⟩ := bsi H
    refine rg ct6t6_ok ?_
    simp only [go_sem, Nat.reduceLeDiff, Nat.reduceLT, Nat.reduceAdd, Nat.reduceMul, Nat.reduceSub, Nat.reduceEqDiff, Nat.reduceBEq, Int.reduceToNat, reduceCtorEq, ct6t6_17, body17, e14]
    repeat ((with_reducible refine And.intro ?_ ?_); focus (first | (and_intros <;> first | (with_reducible trivial) | omega | assumption | exact nfc | first | exact rfl | exact trivial | exact fitI | exact .inr rfl | exact .inl rfl | exact fun x hx => absurd hx (by omega)) | grind))
    refine seqM ?_
    obtain ⟨r15, e16, H⟩ := bsi H
    refine rg ct6t7_ok ?_
    simp only [go_sem, Nat.reduceLeDiff, Nat.reduceLT, Nat.reduceAdd, Nat.reduceMul, Nat.reduceSub, Nat.reduceEqDiff, Nat.reduceBEq, Int.reduceToNat, reduceCtorEq, ct6t7_28, body28, e16]
    repeat ((with_reducible refine And.intro ?_ ?_); focus (first | (and_intros <;> first | (with_reducible trivial) | omega | assumption | exact nfc | first | exact rfl | exact trivial | exact fitI | exact .inr rfl | exact .inl rfl | exact fun x hx => absurd hx (by omega)) | grind))
    refine seqM ?_
    obtain ⟨r17, e18, H⟩ := bsi H
    refine rg ct6t8_ok ?_
    simp only [go_sem, Nat.reduceLeDiff, Nat.reduceLT, Nat.reduceAdd, Nat.reduceMul, Nat.reduceSub, Nat.reduceEqDiff, Nat.reduceBEq, Int.reduceToNat, reduceCtorEq, ct6t8_29, body29, e18]
    repeat ((with_reducible refine And.intro ?_ ?_); focus (first | (and_intros <;> first | (with_reducible trivial) | omega | assumption | exact nfc | first | exact rfl | exact trivial | exact fitI | exact .inr rfl | exact .inl rfl | exact fun x hx => absurd hx (by omega)) | grind))
    refine seqM ?_
    obtain ⟨r19, e20, H⟩ := bsi H
    refine rg ct6t9_ok ?_
    simp only [go_sem, Nat.reduceLeDiff, Nat.reduceLT, Nat.reduceAdd, Nat.reduceMul, Nat.reduceSub, Nat.reduceEqDiff, Nat.reduceBEq, Int.reduceToNat, reduceCtorEq, ct6t9_30, body30, e20]
    repeat ((with_reducible refine And.intro ?_ ?_); focus (first | (and_intros <;> first | (with_reducible trivial) | omega | assumption | exact nfc | first | exact rfl | exact trivial | exact fitI | exact .inr rfl | exact .inl rfl | exact fun x hx => absurd hx (by omega)) | grind))
    refine seqM ?_
    obtain ⟨r21, e22, H⟩ := bsi H
    obtain ⟨f23, H⟩ := need_some.1 H
    replace f23 := g_iff.1 f23
    obtain ⟨f24, H⟩ := need_some.1 H
    replace f24 := g_iff.1 f24
    obtain ⟨f25, H⟩ := need_some.1 H
    replace f25 := g_iff.1 f25
    obtain ⟨f26, H⟩ := need_some.1 H
    replace f26 := g_iff.1 f26
    refine draw_quiet shT_ok ct6t10_ok (by kernel_rfl) (by kernel_rfl) ?_
    simp only [go_sem, Nat.reduceLeDiff, Nat.reduceLT, Nat.reduceAdd, Nat.reduceMul, Nat.reduceSub, Nat.reduceEqDiff, Nat.reduceBEq, Int.reduceToNat, reduceCtorEq, ct6t10_31, body31, ct6t10_32, body32, ct6t10_33, body33, ct6t10_34, body34, e22]
    repeat ((with_reducible refine And.intro ?_ ?_); focus (first | (with_reducible trivial) | omega | exact f23 | exact f24 | exact f25 | exact f26 | (intro g; have q := f23 (by first | exact g | (rw [g]; rfl) | simpa using g); first | exact q | exact ⟨q.1, q.2.1⟩ | exact q.2.2 | omega | exact ⟨g, q⟩ | exact ⟨trivial, q⟩ | exact ⟨g, q.1, q.2.1⟩ | exact ⟨g, q.2.2⟩) | (intro g; have q := f24 (by first | exact g | (rw [g]; rfl) | simpa using g); first | exact q | exact ⟨q.1, q.2.1⟩ | exact q.2.2 | omega | exact ⟨g, q⟩ | exact ⟨trivial, q⟩ | exact ⟨g, q.1, q.2.1⟩ | exact ⟨g, q.2.2⟩) | (intro g; have q := f25 (by first | exact g | (rw [g]; rfl) | simpa using g); first | exact q | exact ⟨q.1, q.2.1⟩ | exact q.2.2 | omega | exact ⟨g, q⟩ | exact ⟨trivial, q⟩ | exact ⟨g, q.1, q.2.1⟩ | exact ⟨g, q.2.2⟩) | (intro g; have q := f26 (by first | exact g | (rw [g]; rfl) | simpa using g); first | exact q | exact ⟨q.1, q.2.1⟩ | exact q.2.2 | omega | exact ⟨g, q⟩ | exact ⟨trivial, q⟩ | exact ⟨g, q.1, q.2.1⟩ | exact ⟨g, q.2.2⟩) | (intro g; (try have q0 := f23 (by first | exact g | (rw [g]; rfl) | simpa using g)); (try have q1 := f24 (by first | exact g | (rw [g]; rfl) | simpa using g)); (try have q2 := f25 (by first | exact g | (rw [g]; rfl) | simpa using g)); (try have q3 := f26 (by first | exact g | (rw [g]; rfl) | simpa using g)); and_intros <;> first | (with_reducible trivial) | assumption | exact nfc | (intro g2; rw [g, g2]; rfl) | (intro g2; assumption) | (simp only [g, Bool.true_and, Bool.and_true, Bool.not_false, Bool.not_true]; assumption) | grind) | (and_intros <;> first | (with_reducible trivial) | omega | assumption | exact nfc | first | exact rfl | exact trivial | exact fitI | exact .inr rfl | exact .inl rfl | exact fun x hx => absurd hx (by omega)) | grind))
    refine seqM ?_
    refine sq ctNo_ok ?_
    simp only [go_sem, Nat.reduceLeDiff, Nat.reduceLT, Nat.reduceAdd, Nat.reduceMul, Nat.reduceSub, Nat.reduceEqDiff, Nat.reduceBEq, Int.reduceToNat, reduceCtorEq]
    refine blkM ?_
    refine loop_den (fun s : Int × (List TRegulateChannel) => (tp 4 (.ptr 0 0 0 0 :: tp 4 (.ptr 4 0 0 0 :: .ptr 8 0 0 0 :: tp 11 (.ptr 18 0 0 0 :: .top :: .top :: .top :: .bool ((((((((r21 && (bEq r5.2 r7.2)) && (gt (F32 r9.1 r11.1))) && (bEq r9.2 r11.2)) && (bB r13.1 r15.1)) && (bEq r13.2 r15.2)) && (gt (F31 (TRegulate.mk r17.1.Table r17.1.Channel r17.1.Lead r17.1.Heard r17.1.Stopped r17.1.Moving r17.1.To r17.1.At r17.1.Blocked r17.1.Clear) (TRegulate.mk r19.1.Table r19.1.Channel r19.1.Lead r19.1.Heard r19.1.Stopped r19.1.Moving r19.1.To r19.1.At r19.1.Blocked r19.1.Clear)))) && (bEq r17.2 r19.2)) && (bB (bEq (gt (F33 p0)) 0) (gt (F34 (TRegulate.mk r3.Table r3.Channel r3.Lead r3.Heard r3.Stopped r3.Moving r3.To r3.At r3.Blocked r3.Clear))))) :: .int .i64 s.1 :: tp 155 []))))) (fun s => [.lit 39 [.ro 3 p0.Table.length false (enR c_TRegulateChannel p0.Table), .int .i64 p0.Channel, .bool p0.Lead, .int .i64 p0.Heard, .bool p0.Stopped, .bool p0.Moving, .int .i64 p0.To, .int .i64 p0.At, .ro 2 p0.Blocked.length false (enR c_TRegulateBlock p0.Blocked), .ro 1 p0.Clear.length false (enR c_i64 p0.Clear)], .row 45 3 r3.Table.length (enR c_TRegulateChannel r3.Table), .row 79 2 r3.Blocked.length (enR c_TRegulateBlock r3.Blocked), .row 3 1 r3.Clear.length (enR c_i64 r3.Clear), .lit 39 [.sl 1 3 0 r3.Table.length false, .int .i64 r3.Channel, .bool r3.Lead, .int .i64 r3.Heard, .bool r3.Stopped, .bool r3.Moving, .int .i64 r3.To, .int .i64 r3.At, .sl 2 2 0 r3.Blocked.length false, .sl 3 1 0 r3.Clear.length false], .row 45 3 r5.1.Table.length (enR c_TRegulateChannel r5.1.Table), .row 79 2 r5.1.Blocked.length (enR c_TRegulateBlock r5.1.Blocked), .row 3 1 r5.1.Clear.length (enR c_i64 r5.1.Clear), .lit 39 [.sl 5 3 0 r5.1.Table.length false, .int .i64 r5.1.Channel, .bool r5.1.Lead, .int .i64 r5.1.Heard, .bool r5.1.Stopped, .bool r5.1.Moving, .int .i64 r5.1.To, .int .i64 r5.1.At, .sl 6 2 0 r5.1.Blocked.length false, .sl 7 1 0 r5.1.Clear.length false], .dead, .dead, .dead, .dead, .dead, .dead, .dead, .row 79 2 r17.1.Blocked.length (enR c_TRegulateBlock r17.1.Blocked), .row 3 1 r17.1.Clear.length (enR c_i64 r17.1.Clear), .lit 39 [.sl 23 3 0 s.2.length false, .int .i64 r17.1.Channel, .bool r17.1.Lead, .int .i64 r17.1.Heard, .bool r17.1.Stopped, .bool r17.1.Moving, .int .i64 r17.1.To, .int .i64 r17.1.At, .sl 16 2 0 r17.1.Blocked.length false, .sl 17 1 0 r17.1.Clear.length false], .dead, .dead, .dead, .dead, .row 45 3 s.2.length (enR c_TRegulateChannel s.2)]) (fun e : List TRegulateChannel => (tp 4 (.ptr 0 0 0 0 :: tp 4 (.ptr 4 0 0 0 :: .ptr 8 0 0 0 :: tp 11 (.ptr 18 0 0 0 :: .top :: .top :: .top :: .bool ((((((((r21 && (bEq r5.2 r7.2)) && (gt (F32 r9.1 r11.1))) && (bEq r9.2 r11.2)) && (bB r13.1 r15.1)) && (bEq r13.2 r15.2)) && (gt (F31 (TRegulate.mk r17.1.Table r17.1.Channel r17.1.Lead r17.1.Heard r17.1.Stopped r17.1.Moving r17.1.To r17.1.At r17.1.Blocked r17.1.Clear) (TRegulate.mk r19.1.Table r19.1.Channel r19.1.Lead r19.1.Heard r19.1.Stopped r19.1.Moving r19.1.To r19.1.At r19.1.Blocked r19.1.Clear)))) && (bEq r17.2 r19.2)) && (bB (bEq (gt (F33 p0)) 0) (gt (F34 (TRegulate.mk r3.Table r3.Channel r3.Lead r3.Heard r3.Stopped r3.Moving r3.To r3.At r3.Blocked r3.Clear))))) :: tp 156 []))))) (fun e => [.lit 39 [.ro 3 p0.Table.length false (enR c_TRegulateChannel p0.Table), .int .i64 p0.Channel, .bool p0.Lead, .int .i64 p0.Heard, .bool p0.Stopped, .bool p0.Moving, .int .i64 p0.To, .int .i64 p0.At, .ro 2 p0.Blocked.length false (enR c_TRegulateBlock p0.Blocked), .ro 1 p0.Clear.length false (enR c_i64 p0.Clear)], .row 45 3 r3.Table.length (enR c_TRegulateChannel r3.Table), .row 79 2 r3.Blocked.length (enR c_TRegulateBlock r3.Blocked), .row 3 1 r3.Clear.length (enR c_i64 r3.Clear), .lit 39 [.sl 1 3 0 r3.Table.length false, .int .i64 r3.Channel, .bool r3.Lead, .int .i64 r3.Heard, .bool r3.Stopped, .bool r3.Moving, .int .i64 r3.To, .int .i64 r3.At, .sl 2 2 0 r3.Blocked.length false, .sl 3 1 0 r3.Clear.length false], .row 45 3 r5.1.Table.length (enR c_TRegulateChannel r5.1.Table), .row 79 2 r5.1.Blocked.length (enR c_TRegulateBlock r5.1.Blocked), .row 3 1 r5.1.Clear.length (enR c_i64 r5.1.Clear), .lit 39 [.sl 5 3 0 r5.1.Table.length false, .int .i64 r5.1.Channel, .bool r5.1.Lead, .int .i64 r5.1.Heard, .bool r5.1.Stopped, .bool r5.1.Moving, .int .i64 r5.1.To, .int .i64 r5.1.At, .sl 6 2 0 r5.1.Blocked.length false, .sl 7 1 0 r5.1.Clear.length false], .dead, .dead, .dead, .dead, .dead, .dead, .dead, .row 79 2 r17.1.Blocked.length (enR c_TRegulateBlock r17.1.Blocked), .row 3 1 r17.1.Clear.length (enR c_i64 r17.1.Clear), .lit 39 [.sl 23 3 0 e.length false, .int .i64 r17.1.Channel, .bool r17.1.Lead, .int .i64 r17.1.Heard, .bool r17.1.Stopped, .bool r17.1.Moving, .int .i64 r17.1.To, .int .i64 r17.1.At, .sl 16 2 0 r17.1.Blocked.length false, .sl 17 1 0 r17.1.Clear.length false], .dead, .dead, .dead, .dead, .row 45 3 e.length (enR c_TRegulateChannel e)]) H ?_ (fun s o H hn1_1 hn2_1 => ?_) (fun w1_9 H => ?_)
    · refine SubF_of ⟨[some 0, some 1, some 2, some 3, some 4, some 5, some 6, some 7, some 8, some 9, some 10, some 11, some 12, some 13, some 14, some 15, some 16, some 17, some 18, some 19, some 20, some 21, some 22, some 15], ?_, ?_, by rfl, by rfl⟩
      · simp [CvL, Cv, getM, tp]
      · exact ⟨(by simp [CvB, CvL, Cv, blkAt, geth, getM]), (CvB_same nfA), (CvB_same nfA), (CvB_same nfA), (by simp [CvB, CvL, Cv, blkAt, geth, getM]), (CvB_same nfA), (CvB_same nfA), (CvB_same nfA), (by simp [CvB, CvL, Cv, blkAt, geth, getM]), CvB_dead, CvB_dead, CvB_dead, CvB_dead, CvB_dead, CvB_dead, CvB_dead, (CvB_same nfA), (CvB_same nfA), (by simp [CvB, CvL, Cv, blkAt, geth, getM]), CvB_dead, CvB_dead, CvB_dead, CvB_dead, CvB_row nr_TRegulateChannel (by first | rfl | (simp; done) | (simp; omega)) (fun _ _ _ _ => rfl), trivial⟩
    · obtain ⟨v1_1, v1_2⟩ := s
      unfold F6_L1 at H
      try dsimp only at H ⊢
      try simp only [tp]
      refine seqM ?_
      refine sq ctNo_ok ?_
      simp only [go_sem, Nat.reduceLeDiff, Nat.reduceLT, Nat.reduceAdd, Nat.reduceMul, Nat.reduceSub, Nat.reduceEqDiff, Nat.reduceBEq, Int.reduceToNat, reduceCtorEq]
      repeat ((with_reducible refine And.intro ?_ ?_); focus (first | (and_intros <;> first | (with_reducible trivial) | omega | assumption | exact nfc | first | exact rfl | exact trivial | exact fitI | exact .inr rfl | exact .inl rfl | exact fun x hx => absurd hx (by omega)) | grind))
      refine condM' rfl trivial (fun hc => ?_) (fun hc => ?_)
      · replace H := cond_f hc H
        refine rg ctNo_ok ?_
        simp only [go_sem, Nat.reduceLeDiff, Nat.reduceLT, Nat.reduceAdd, Nat.reduceMul, Nat.reduceSub, Nat.reduceEqDiff, Nat.reduceBEq, Int.reduceToNat, reduceCtorEq]
        refine ⟨_, (Option.some.inj H).symm, ?_⟩
        refine SubF_of ⟨[some 0, some 1, some 2, some 3, some 4, some 5, some 6, some 7, some 8, some 9, some 10, some 11, some 12, some 13, some 14, some 15, some 16, some 17, some 18, some 19, some 20, some 21, some 22, some 23], ?_, ?_, by rfl, by rfl⟩
        · simp [CvL, Cv, getM, tp]
        · exact ⟨(by simp [CvB, CvL, Cv, blkAt, geth, getM]), (CvB_same nfA), (CvB_same nfA), (CvB_same nfA), (by simp [CvB, CvL, Cv, blkAt, geth, getM]), (CvB_same nfA), (CvB_same nfA), (CvB_same nfA), (by simp [CvB, CvL, Cv, blkAt, geth, getM]), CvB_dead, CvB_dead, CvB_dead, CvB_dead, CvB_dead, CvB_dead, CvB_dead, (CvB_same nfA), (CvB_same nfA), (by simp [CvB, CvL, Cv, blkAt, geth, getM]), CvB_dead, CvB_dead, CvB_dead, CvB_dead, CvB_row nr_TRegulateChannel (by first | rfl | (simp; done) | (simp; omega)) (fun _ _ _ _ => rfl), trivial⟩
      replace H := cond_t hc H
      refine rg ctNo_ok ?_
      simp only [go_sem, Nat.reduceLeDiff, Nat.reduceLT, Nat.reduceAdd, Nat.reduceMul, Nat.reduceSub, Nat.reduceEqDiff, Nat.reduceBEq, Int.reduceToNat, reduceCtorEq]
      refine seqM ?_
      refine blkM ?_
      obtain ⟨f27, H⟩ := need_some.1 H
      replace f27 := inb_iff.1 f27
      refine rg ctNo_ok ?_
      simp only [go_sem, Nat.reduceLeDiff, Nat.reduceLT, Nat.reduceAdd, Nat.reduceMul, Nat.reduceSub, Nat.reduceEqDiff, Nat.reduceBEq, Int.reduceToNat, reduceCtorEq, f27]
      repeat ((with_reducible refine And.intro ?_ ?_); focus (first | (with_reducible trivial) | omega | grind))
      refine rg ctNo_ok ?_
      simp only [go_sem, Nat.reduceLeDiff, Nat.reduceLT, Nat.reduceAdd, Nat.reduceMul, Nat.reduceSub, Nat.reduceEqDiff, Nat.reduceBEq, Int.reduceToNat, reduceCtorEq]
      refine ⟨_, (Option.some.inj H).symm, ?_⟩
      refine SubF_of ⟨[some 0, some 1, some 2, some 3, some 4, some 5, some 6, some 7, some 8, some 9, some 10, some 11, some 12, some 13, some 14, some 15, some 16, some 17, some 18, some 19, some 20, some 21, some 22, some 23], ?_, ?_, by rfl, by rfl⟩
      · simp [CvL, Cv, getM, tp]
      · exact ⟨(by simp [CvB, CvL, Cv, blkAt, geth, getM]), (CvB_same nfA), (CvB_same nfA), (CvB_same nfA), (by simp [CvB, CvL, Cv, blkAt, geth, getM]), (CvB_same nfA), (CvB_same nfA), (CvB_same nfA), (by simp [CvB, CvL, Cv, blkAt, geth, getM]), CvB_dead, CvB_dead, CvB_dead, CvB_dead, CvB_dead, CvB_dead, CvB_dead, (CvB_same nfA), (CvB_same nfA), (by simp [CvB, CvL, Cv, blkAt, geth, getM]), CvB_dead, CvB_dead, CvB_dead, CvB_dead, CvB_row nr_TRegulateChannel (by first | rfl | (simp; done) | (simp; omega)) (upc_row (f := c_TRegulateChannel) v1_2 v1_1.toNat 1 (TRegulateChannel.mk ((gd v1_2 v1_1.toNat).Number) (-1) ((gd v1_2 v1_1.toNat).Radar)) (fun _ _ _ _ => rfl) (fun y hy => match y, hy with | 0, _ => rfl | 1, _ => rfl | 2, _ => rfl | (y+3), h => absurd h (by omega))), trivial⟩
    · try dsimp only at H ⊢
      try simp only [tp]
      try simp only [m_normal, k_normal, b_normal, kL_normal, r_normal]
      refine seqM ?_
      refine sq ctNo_ok ?_
      simp only [go_sem, Nat.reduceLeDiff, Nat.reduceLT, Nat.reduceAdd, Nat.reduceMul, Nat.reduceSub, Nat.reduceEqDiff, Nat.reduceBEq, Int.reduceToNat, reduceCtorEq]
      refine blkM ?_
      refine loop_den (fun s : Int × (List Int) => (tp 4 (.ptr 0 0 0 0 :: tp 4 (.ptr 4 0 0 0 :: .ptr 8 0 0 0 :: tp 11 (.ptr 18 0 0 0 :: .top :: .top :: .top :: .bool ((((((((r21 && (bEq r5.2 r7.2)) && (gt (F32 r9.1 r11.1))) && (bEq r9.2 r11.2)) && (bB r13.1 r15.1)) && (bEq r13.2 r15.2)) && (gt (F31 (TRegulate.mk r17.1.Table r17.1.Channel r17.1.Lead r17.1.Heard r17.1.Stopped r17.1.Moving r17.1.To r17.1.At r17.1.Blocked r17.1.Clear) (TRegulate.mk r19.1.Table r19.1.Channel r19.1.Lead r19.1.Heard r19.1.Stopped r19.1.Moving r19.1.To r19.1.At r19.1.Blocked r19.1.Clear)))) && (bEq r17.2 r19.2)) && (bB (bEq (gt (F33 p0)) 0) (gt (F34 (TRegulate.mk r3.Table r3.Channel r3.Lead r3.Heard r3.Stopped r3.Moving r3.To r3.At r3.Blocked r3.Clear))))) :: .top :: .int .i64 s.1 :: tp 154 []))))) (fun s => [.lit 39 [.ro 3 p0.Table.length false (enR c_TRegulateChannel p0.Table), .int .i64 p0.Channel, .bool p0.Lead, .int .i64 p0.Heard, .bool p0.Stopped, .bool p0.Moving, .int .i64 p0.To, .int .i64 p0.At, .ro 2 p0.Blocked.length false (enR c_TRegulateBlock p0.Blocked), .ro 1 p0.Clear.length false (enR c_i64 p0.Clear)], .row 45 3 r3.Table.length (enR c_TRegulateChannel r3.Table), .row 79 2 r3.Blocked.length (enR c_TRegulateBlock r3.Blocked), .row 3 1 r3.Clear.length (enR c_i64 r3.Clear), .lit 39 [.sl 1 3 0 r3.Table.length false, .int .i64 r3.Channel, .bool r3.Lead, .int .i64 r3.Heard, .bool r3.Stopped, .bool r3.Moving, .int .i64 r3.To, .int .i64 r3.At, .sl 2 2 0 r3.Blocked.length false, .sl 3 1 0 r3.Clear.length false], .row 45 3 r5.1.Table.length (enR c_TRegulateChannel r5.1.Table), .row 79 2 r5.1.Blocked.length (enR c_TRegulateBlock r5.1.Blocked), .row 3 1 r5.1.Clear.length (enR c_i64 r5.1.Clear), .lit 39 [.sl 5 3 0 r5.1.Table.length false, .int .i64 r5.1.Channel, .bool r5.1.Lead, .int .i64 r5.1.Heard, .bool r5.1.Stopped, .bool r5.1.Moving, .int .i64 r5.1.To, .int .i64 r5.1.At, .sl 6 2 0 r5.1.Blocked.length false, .sl 7 1 0 r5.1.Clear.length false], .dead, .dead, .dead, .dead, .dead, .dead, .dead, .row 79 2 r17.1.Blocked.length (enR c_TRegulateBlock r17.1.Blocked), .dead, .lit 39 [.sl 23 3 0 w1_9.length false, .int .i64 r17.1.Channel, .bool r17.1.Lead, .int .i64 r17.1.Heard, .bool r17.1.Stopped, .bool r17.1.Moving, .int .i64 r17.1.To, .int .i64 r17.1.At, .sl 16 2 0 r17.1.Blocked.length false, .sl 24 1 0 s.2.length false], .dead, .dead, .dead, .dead, .row 45 3 w1_9.length (enR c_TRegulateChannel w1_9), .row 3 1 s.2.length (enR c_i64 s.2)]) (fun e : Unit => (tp 4 (.ptr 0 0 0 0 :: tp 4 (.ptr 4 0 0 0 :: .ptr 8 0 0 0 :: tp 15 (.bool ((((((((r21 && (bEq r5.2 r7.2)) && (gt (F32 r9.1 r11.1))) && (bEq r9.2 r11.2)) && (bB r13.1 r15.1)) && (bEq r13.2 r15.2)) && (gt (F31 (TRegulate.mk r17.1.Table r17.1.Channel r17.1.Lead r17.1.Heard r17.1.Stopped r17.1.Moving r17.1.To r17.1.At r17.1.Blocked r17.1.Clear) (TRegulate.mk r19.1.Table r19.1.Channel r19.1.Lead r19.1.Heard r19.1.Stopped r19.1.Moving r19.1.To r19.1.At r19.1.Blocked r19.1.Clear)))) && (bEq r17.2 r19.2)) && (bB (bEq (gt (F33 p0)) 0) (gt (F34 (TRegulate.mk r3.Table r3.Channel r3.Lead r3.Heard r3.Stopped r3.Moving r3.To r3.At r3.Blocked r3.Clear))))) :: tp 156 []))))) (fun e => [.lit 39 [.ro 3 p0.Table.length false (enR c_TRegulateChannel p0.Table), .int .i64 p0.Channel, .bool p0.Lead, .int .i64 p0.Heard, .bool p0.Stopped, .bool p0.Moving, .int .i64 p0.To, .int .i64 p0.At, .ro 2 p0.Blocked.length false (enR c_TRegulateBlock p0.Blocked), .ro 1 p0.Clear.length false (enR c_i64 p0.Clear)], .row 45 3 r3.Table.length (enR c_TRegulateChannel r3.Table), .row 79 2 r3.Blocked.length (enR c_TRegulateBlock r3.Blocked), .row 3 1 r3.Clear.length (enR c_i64 r3.Clear), .lit 39 [.sl 1 3 0 r3.Table.length false, .int .i64 r3.Channel, .bool r3.Lead, .int .i64 r3.Heard, .bool r3.Stopped, .bool r3.Moving, .int .i64 r3.To, .int .i64 r3.At, .sl 2 2 0 r3.Blocked.length false, .sl 3 1 0 r3.Clear.length false], .row 45 3 r5.1.Table.length (enR c_TRegulateChannel r5.1.Table), .row 79 2 r5.1.Blocked.length (enR c_TRegulateBlock r5.1.Blocked), .row 3 1 r5.1.Clear.length (enR c_i64 r5.1.Clear), .lit 39 [.sl 5 3 0 r5.1.Table.length false, .int .i64 r5.1.Channel, .bool r5.1.Lead, .int .i64 r5.1.Heard, .bool r5.1.Stopped, .bool r5.1.Moving, .int .i64 r5.1.To, .int .i64 r5.1.At, .sl 6 2 0 r5.1.Blocked.length false, .sl 7 1 0 r5.1.Clear.length false], .dead, .dead, .dead, .dead, .dead, .dead, .dead, .dead, .dead, .dead, .dead, .dead, .dead, .dead, .dead]) H ?_ (fun s o H hn1_2 hn2_2 => ?_) (fun e H => ?_)
      · refine SubF_of ⟨[some 0, some 1, some 2, some 3, some 4, some 5, some 6, some 7, some 8, some 9, some 10, some 11, some 12, some 13, some 14, some 15, some 16, some 17, some 18, some 19, some 20, some 21, some 22, some 23, some 17], ?_, ?_, by rfl, by rfl⟩
        · simp [CvL, Cv, getM, tp]
        · exact ⟨(by simp [CvB, CvL, Cv, blkAt, geth, getM]), (CvB_same nfA), (CvB_same nfA), (CvB_same nfA), (by simp [CvB, CvL, Cv, blkAt, geth, getM]), (CvB_same nfA), (CvB_same nfA), (CvB_same nfA), (by simp [CvB, CvL, Cv, blkAt, geth, getM]), CvB_dead, CvB_dead, CvB_dead, CvB_dead, CvB_dead, CvB_dead, CvB_dead, (CvB_same nfA), CvB_dead, (by simp [CvB, CvL, Cv, blkAt, geth, getM]), CvB_dead, CvB_dead, CvB_dead, CvB_dead, (CvB_same nfA), CvB_row nr_i64 (by first | rfl | (simp; done) | (simp; omega)) (fun _ _ _ _ => rfl), trivial⟩
      · obtain ⟨v2_1, v2_2⟩ := s
        unfold F6_L2 at H
        try dsimp only at H ⊢
        try simp only [tp]
        refine seqM ?_
        refine sq ctNo_ok ?_
        simp only [go_sem, Nat.reduceLeDiff, Nat.reduceLT, Nat.reduceAdd, Nat.reduceMul, Nat.reduceSub, Nat.reduceEqDiff, Nat.reduceBEq, Int.reduceToNat, reduceCtorEq]
        repeat ((with_reducible refine And.intro ?_ ?_); focus (first | (and_intros <;> first | (with_reducible trivial) | omega | assumption | exact nfc | first | exact rfl | exact trivial | exact fitI | exact .inr rfl | exact .inl rfl | exact fun x hx => absurd hx (by omega)) | grind))
        refine condM' rfl trivial (fun hc => ?_) (fun hc => ?_)
        · replace H := cond_f hc H
          refine rg ctNo_ok ?_
          simp only [go_sem, Nat.reduceLeDiff, Nat.reduceLT, Nat.reduceAdd, Nat.reduceMul, Nat.reduceSub, Nat.reduceEqDiff, Nat.reduceBEq, Int.reduceToNat, reduceCtorEq]
          refine ⟨_, (Option.some.inj H).symm, ?_⟩
          refine SubF_of ⟨[some 0, some 1, some 2, some 3, some 4, some 5, some 6, some 7, some 8, some 9, some 10, some 11, some 12, some 13, some 14, some 15, some 16, some 17, some 18, some 19, some 20, some 21, some 22, some 23], ?_, ?_, by rfl, by rfl⟩
          · simp [CvL, Cv, getM, tp]
          · exact ⟨(by simp [CvB, CvL, Cv, blkAt, geth, getM]), (CvB_same nfA), (CvB_same nfA), (CvB_same nfA), (by simp [CvB, CvL, Cv, blkAt, geth, getM]), (CvB_same nfA), (CvB_same nfA), (CvB_same nfA), (by simp [CvB, CvL, Cv, blkAt, geth, getM]), CvB_dead, CvB_dead, CvB_dead, CvB_dead, CvB_dead, CvB_dead, CvB_dead, CvB_dead, CvB_dead, CvB_dead, CvB_dead, CvB_dead, CvB_dead, CvB_dead, CvB_dead, trivial⟩
        replace H := cond_t hc H
        refine rg ctNo_ok ?_
        simp only [go_sem, Nat.reduceLeDiff, Nat.reduceLT, Nat.reduceAdd, Nat.reduceMul, Nat.reduceSub, Nat.reduceEqDiff, Nat.reduceBEq, Int.reduceToNat, reduceCtorEq]
        refine seqM ?_
        refine blkM ?_
        obtain ⟨f28, H⟩ := need_some.1 H
        replace f28 := inb_iff.1 f28
        refine rg ctNo_ok ?_
        simp only [go_sem, Nat.reduceLeDiff, Nat.reduceLT, Nat.reduceAdd, Nat.reduceMul, Nat.reduceSub, Nat.reduceEqDiff, Nat.reduceBEq, Int.reduceToNat, reduceCtorEq, f28]
        repeat ((with_reducible refine And.intro ?_ ?_); focus (first | (with_reducible trivial) | omega | grind))
        refine rg ctNo_ok ?_
        simp only [go_sem, Nat.reduceLeDiff, Nat.reduceLT, Nat.reduceAdd, Nat.reduceMul, Nat.reduceSub, Nat.reduceEqDiff, Nat.reduceBEq, Int.reduceToNat, reduceCtorEq]
        refine ⟨_, (Option.some.inj H).symm, ?_⟩
        refine SubF_of ⟨[some 0, some 1, some 2, some 3, some 4, some 5, some 6, some 7, some 8, some 9, some 10, some 11, some 12, some 13, some 14, some 15, some 16, some 17, some 18, some 19, some 20, some 21, some 22, some 23, some 24], ?_, ?_, by rfl, by rfl⟩
        · simp [CvL, Cv, getM, tp]
        · exact ⟨(by simp [CvB, CvL, Cv, blkAt, geth, getM]), (CvB_same nfA), (CvB_same nfA), (CvB_same nfA), (by simp [CvB, CvL, Cv, blkAt, geth, getM]), (CvB_same nfA), (CvB_same nfA), (CvB_same nfA), (by simp [CvB, CvL, Cv, blkAt, geth, getM]), CvB_dead, CvB_dead, CvB_dead, CvB_dead, CvB_dead, CvB_dead, CvB_dead, (CvB_same nfA), CvB_dead, (by simp [CvB, CvL, Cv, blkAt, geth, getM]), CvB_dead, CvB_dead, CvB_dead, CvB_dead, (CvB_same nfA), CvB_row nr_i64 (by first | rfl | (simp; done) | (simp; omega)) (upc_row (f := c_i64) v2_2 v2_1.toNat 0 (-1) (fun _ _ _ _ => rfl) (fun y hy => match y, hy with | 0, _ => rfl | (y+1), h => absurd h (by omega))), trivial⟩
      · try dsimp only at H ⊢
        try simp only [tp]
        try simp only [m_normal, k_normal, b_normal, kL_normal, r_normal]
        refine seqM ?_
        refine sq ctNo_ok ?_
        simp only [go_sem, Nat.reduceLeDiff, Nat.reduceLT, Nat.reduceAdd, Nat.reduceMul, Nat.reduceSub, Nat.reduceEqDiff, Nat.reduceBEq, Int.reduceToNat, reduceCtorEq]
        refine blkM ?_
        refine loop_den (fun s : Int × (List TRegulateChannel) => (tp 4 (.ptr 0 0 0 0 :: tp 4 (.ptr 4 0 0 0 :: .ptr 8 0 0 0 :: tp 15 (.bool ((((((((r21 && (bEq r5.2 r7.2)) && (gt (F32 r9.1 r11.1))) && (bEq r9.2 r11.2)) && (bB r13.1 r15.1)) && (bEq r13.2 r15.2)) && (gt (F31 (TRegulate.mk r17.1.Table r17.1.Channel r17.1.Lead r17.1.Heard r17.1.Stopped r17.1.Moving r17.1.To r17.1.At r17.1.Blocked r17.1.Clear) (TRegulate.mk r19.1.Table r19.1.Channel r19.1.Lead r19.1.Heard r19.1.Stopped r19.1.Moving r19.1.To r19.1.At r19.1.Blocked r19.1.Clear)))) && (bEq r17.2 r19.2)) && (bB (bEq (gt (F33 p0)) 0) (gt (F34 (TRegulate.mk r3.Table r3.Channel r3.Lead r3.Heard r3.Stopped r3.Moving r3.To r3.At r3.Blocked r3.Clear))))) :: .top :: .top :: .int .i64 s.1 :: tp 153 []))))) (fun s => [.lit 39 [.ro 3 p0.Table.length false (enR c_TRegulateChannel p0.Table), .int .i64 p0.Channel, .bool p0.Lead, .int .i64 p0.Heard, .bool p0.Stopped, .bool p0.Moving, .int .i64 p0.To, .int .i64 p0.At, .ro 2 p0.Blocked.length false (enR c_TRegulateBlock p0.Blocked), .ro 1 p0.Clear.length false (enR c_i64 p0.Clear)], .row 45 3 r3.Table.length (enR c_TRegulateChannel r3.Table), .row 79 2 r3.Blocked.length (enR c_TRegulateBlock r3.Blocked), .row 3 1 r3.Clear.length (enR c_i64 r3.Clear), .lit 39 [.sl 1 3 0 r3.Table.length false, .int .i64 r3.Channel, .bool r3.Lead, .int .i64 r3.Heard, .bool r3.Stopped, .bool r3.Moving, .int .i64 r3.To, .int .i64 r3.At, .sl 2 2 0 r3.Blocked.length false, .sl 3 1 0 r3.Clear.length false], .dead, .row 79 2 r5.1.Blocked.length (enR c_TRegulateBlock r5.1.Blocked), .row 3 1 r5.1.Clear.length (enR c_i64 r5.1.Clear), .lit 39 [.sl 24 3 0 s.2.length false, .int .i64 r5.1.Channel, .bool r5.1.Lead, .int .i64 r5.1.Heard, .bool r5.1.Stopped, .bool r5.1.Moving, .int .i64 r5.1.To, .int .i64 r5.1.At, .sl 6 2 0 r5.1.Blocked.length false, .sl 7 1 0 r5.1.Clear.length false], .dead, .dead, .dead, .dead, .dead, .dead, .dead, .dead, .dead, .dead, .dead, .dead, .dead, .dead, .dead, .row 45 3 s.2.length (enR c_TRegulateChannel s.2)]) (fun e : Unit => (tp 4 (.ptr 0 0 0 0 :: tp 4 (.ptr 4 0 0 0 :: tp 16 (.bool ((((((((r21 && (bEq r5.2 r7.2)) && (gt (F32 r9.1 r11.1))) && (bEq r9.2 r11.2)) && (bB r13.1 r15.1)) && (bEq r13.2 r15.2)) && (gt (F31 (TRegulate.mk r17.1.Table r17.1.Channel r17.1.Lead r17.1.Heard r17.1.Stopped r17.1.Moving r17.1.To r17.1.At r17.1.Blocked r17.1.Clear) (TRegulate.mk r19.1.Table r19.1.Channel r19.1.Lead r19.1.Heard r19.1.Stopped r19.1.Moving r19.1.To r19.1.At r19.1.Blocked r19.1.Clear)))) && (bEq r17.2 r19.2)) && (bB (bEq (gt (F33 p0)) 0) (gt (F34 (TRegulate.mk r3.Table r3.Channel r3.Lead r3.Heard r3.Stopped r3.Moving r3.To r3.At r3.Blocked r3.Clear))))) :: tp 156 []))))) (fun e => [.lit 39 [.ro 3 p0.Table.length false (enR c_TRegulateChannel p0.Table), .int .i64 p0.Channel, .bool p0.Lead, .int .i64 p0.Heard, .bool p0.Stopped, .bool p0.Moving, .int .i64 p0.To, .int .i64 p0.At, .ro 2 p0.Blocked.length false (enR c_TRegulateBlock p0.Blocked), .ro 1 p0.Clear.length false (enR c_i64 p0.Clear)], .row 45 3 r3.Table.length (enR c_TRegulateChannel r3.Table), .row 79 2 r3.Blocked.length (enR c_TRegulateBlock r3.Blocked), .row 3 1 r3.Clear.length (enR c_i64 r3.Clear), .lit 39 [.sl 1 3 0 r3.Table.length false, .int .i64 r3.Channel, .bool r3.Lead, .int .i64 r3.Heard, .bool r3.Stopped, .bool r3.Moving, .int .i64 r3.To, .int .i64 r3.At, .sl 2 2 0 r3.Blocked.length false, .sl 3 1 0 r3.Clear.length false], .dead, .dead, .dead, .dead, .dead, .dead, .dead, .dead, .dead, .dead, .dead, .dead, .dead, .dead, .dead, .dead, .dead, .dead, .dead]) H ?_ (fun s o H hn1_3 hn2_3 => ?_) (fun e H => ?_)
        · refine SubF_of ⟨[some 0, some 1, some 2, some 3, some 4, some 5, some 6, some 7, some 8, some 9, some 10, some 11, some 12, some 13, some 14, some 15, some 16, some 17, some 18, some 19, some 20, some 21, some 22, some 23, some 5], ?_, ?_, by rfl, by rfl⟩
          · simp [CvL, Cv, getM, tp]
          · exact ⟨(by simp [CvB, CvL, Cv, blkAt, geth, getM]), (CvB_same nfA), (CvB_same nfA), (CvB_same nfA), (by simp [CvB, CvL, Cv, blkAt, geth, getM]), CvB_dead, (CvB_same nfA), (CvB_same nfA), (by simp [CvB, CvL, Cv, blkAt, geth, getM]), CvB_dead, CvB_dead, CvB_dead, CvB_dead, CvB_dead, CvB_dead, CvB_dead, CvB_dead, CvB_dead, CvB_dead, CvB_dead, CvB_dead, CvB_dead, CvB_dead, CvB_dead, CvB_row nr_TRegulateChannel (by first | rfl | (simp; done) | (simp; omega)) (fun _ _ _ _ => rfl), trivial⟩
        · obtain ⟨v3_1, v3_2⟩ := s
          unfold F6_L3 at H
          try dsimp only at H ⊢
          try simp only [tp]
          refine seqM ?_
          refine sq ctNo_ok ?_
          simp only [go_sem, Nat.reduceLeDiff, Nat.reduceLT, Nat.reduceAdd, Nat.reduceMul, Nat.reduceSub, Nat.reduceEqDiff, Nat.reduceBEq, Int.reduceToNat, reduceCtorEq]
          repeat ((with_reducible refine And.intro ?_ ?_); focus (first | (and_intros <;> first | (with_reducible trivial) | omega | assumption | exact nfc | first | exact rfl | exact trivial | exact fitI | exact .inr rfl | exact .inl rfl | exact fun x hx => absurd hx (by omega)) | grind))
          refine condM' rfl trivial (fun hc => ?_) (fun hc => ?_)
          · replace H := cond_f hc H
            refine rg ctNo_ok ?_
            simp only [go_sem, Nat.reduceLeDiff, Nat.reduceLT, Nat.reduceAdd, Nat.reduceMul, Nat.reduceSub, Nat.reduceEqDiff, Nat.reduceBEq, Int.reduceToNat, reduceCtorEq]
            refine ⟨_, (Option.some.inj H).symm, ?_⟩
            refine SubF_of ⟨[some 0, some 1, some 2, some 3, some 4, some 5, some 6, some 7, some 8, some 9, some 10, some 11, some 12, some 13, some 14, some 15, some 16, some 17, some 18, some 19, some 20, some 21, some 22, some 23], ?_, ?_, by rfl, by rfl⟩
            · simp [CvL, Cv, getM, tp]
            · exact ⟨(by simp [CvB, CvL, Cv, blkAt, geth, getM]), (CvB_same nfA), (CvB_same nfA), (CvB_same nfA), (by simp [CvB, CvL, Cv, blkAt, geth, getM]), CvB_dead, CvB_dead, CvB_dead, CvB_dead, CvB_dead, CvB_dead, CvB_dead, CvB_dead, CvB_dead, CvB_dead, CvB_dead, CvB_dead, CvB_dead, CvB_dead, CvB_dead, CvB_dead, CvB_dead, CvB_dead, CvB_dead, trivial⟩
          replace H := cond_t hc H
          refine rg ctNo_ok ?_
          simp only [go_sem, Nat.reduceLeDiff, Nat.reduceLT, Nat.reduceAdd, Nat.reduceMul, Nat.reduceSub, Nat.reduceEqDiff, Nat.reduceBEq, Int.reduceToNat, reduceCtorEq]
          refine seqM ?_
          refine blkM ?_
          obtain ⟨f29, H⟩ := need_some.1 H
          replace f29 := inb_iff.1 f29
          refine rg ctNo_ok ?_
          simp only [go_sem, Nat.reduceLeDiff, Nat.reduceLT, Nat.reduceAdd, Nat.reduceMul, Nat.reduceSub, Nat.reduceEqDiff, Nat.reduceBEq, Int.reduceToNat, reduceCtorEq, f29]
          repeat ((with_reducible refine And.intro ?_ ?_); focus (first | (with_reducible trivial) | omega | grind))
          refine rg ctNo_ok ?_
          simp only [go_sem, Nat.reduceLeDiff, Nat.reduceLT, Nat.reduceAdd, Nat.reduceMul, Nat.reduceSub, Nat.reduceEqDiff, Nat.reduceBEq, Int.reduceToNat, reduceCtorEq]
          refine ⟨_, (Option.some.inj H).symm, ?_⟩
          refine SubF_of ⟨[some 0, some 1, some 2, some 3, some 4, some 5, some 6, some 7, some 8, some 9, some 10, some 11, some 12, some 13, some 14, some 15, some 16, some 17, some 18, some 19, some 20, some 21, some 22, some 23, some 24], ?_, ?_, by rfl, by rfl⟩
          · simp [CvL, Cv, getM, tp]
          · exact ⟨(by simp [CvB, CvL, Cv, blkAt, geth, getM]), (CvB_same nfA), (CvB_same nfA), (CvB_same nfA), (by simp [CvB, CvL, Cv, blkAt, geth, getM]), CvB_dead, (CvB_same nfA), (CvB_same nfA), (by simp [CvB, CvL, Cv, blkAt, geth, getM]), CvB_dead, CvB_dead, CvB_dead, CvB_dead, CvB_dead, CvB_dead, CvB_dead, CvB_dead, CvB_dead, CvB_dead, CvB_dead, CvB_dead, CvB_dead, CvB_dead, CvB_dead, CvB_row nr_TRegulateChannel (by first | rfl | (simp; done) | (simp; omega)) (upc_row (f := c_TRegulateChannel) v3_2 v3_1.toNat 1 (TRegulateChannel.mk ((gd v3_2 v3_1.toNat).Number) (-1) ((gd v3_2 v3_1.toNat).Radar)) (fun _ _ _ _ => rfl) (fun y hy => match y, hy with | 0, _ => rfl | 1, _ => rfl | 2, _ => rfl | (y+3), h => absurd h (by omega))), trivial⟩
        · try dsimp only at H ⊢
          try simp only [tp]
          try simp only [m_normal, k_normal, b_normal, kL_normal, r_normal]
          refine seqM ?_
          obtain ⟨f30, H⟩ := need_some.1 H
          replace f30 := g_iff.1 f30
          refine rg ct6t11_ok ?_
          simp only [go_sem, Nat.reduceLeDiff, Nat.reduceLT, Nat.reduceAdd, Nat.reduceMul, Nat.reduceSub, Nat.reduceEqDiff, Nat.reduceBEq, Int.reduceToNat, reduceCtorEq, ct6t11_31, body31]
          repeat ((with_reducible refine And.intro ?_ ?_); focus (first | (with_reducible trivial) | omega | exact f30 | (intro g; have q := f30 (by first | exact g | (rw [g]; rfl) | simpa using g); first | exact q | exact ⟨q.1, q.2.1⟩ | exact q.2.2 | omega | exact ⟨g, q⟩ | exact ⟨trivial, q⟩ | exact ⟨g, q.1, q.2.1⟩ | exact ⟨g, q.2.2⟩) | (intro g; (try have q0 := f30 (by first | exact g | (rw [g]; rfl) | simpa using g)); and_intros <;> first | (with_reducible trivial) | assumption | exact nfc | (intro g2; rw [g, g2]; rfl) | (intro g2; assumption) | (simp only [g, Bool.true_and, Bool.and_true, Bool.not_false, Bool.not_true]; assumption) | grind) | (and_intros <;> first | (with_reducible trivial) | omega | assumption | exact nfc | first | exact rfl | exact trivial | exact fitI | exact .inr rfl | exact .inl rfl | exact fun x hx => absurd hx (by omega)) | grind))
          refine rg ctNo_ok ?_
          simp only [go_sem, Nat.reduceLeDiff, Nat.reduceLT, Nat.reduceAdd, Nat.reduceMul, Nat.reduceSub, Nat.reduceEqDiff, Nat.reduceBEq, Int.reduceToNat, reduceCtorEq]
          obtain rfl := Option.some.inj H
          first | rfl | simp only [Bool.and_false, Bool.false_and, Bool.and_true, Bool.true_and]
  · cases hb
end Go.Proofs.Ytjhkehdbjnhplaa
