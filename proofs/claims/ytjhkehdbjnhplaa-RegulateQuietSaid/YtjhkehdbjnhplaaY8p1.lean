/-
  What RegulateQuiet reaches.
-/
import Derived.Test.YtjhkehdbjnhplaaB
namespace Go.Proofs.Ytjhkehdbjnhplaa
open Go.Am
set_option maxHeartbeats 4000000
set_option maxRecDepth 20000
set_option linter.unusedVariables false
set_option linter.unusedSimpArgs false
attribute [go_sem] w_skip w_label w_goto w_scope k_goto b_goto l_goto s_normal s_exit s_ret s_goto w_region w_draw w_seq w_cond w_block w_exit w_ret w_loop k_normal k_exit k_ret b_normal b_exit b_ret l_normal l_exit l_ret m_normal m_exit m_ret m_goto kL_normal kL_exit kL_ret kJ_normal kJ_exit kJ_ret kJR_normal kJR_ret kS_normal kS_exit kS_ret kS_goto r_normal r_ret o_nil o_cons q_nil q_cons nxt gval gvd gvl gvw dstOf evO ogOp ogC og ogL ogP ogO rho rhoO strip optOk getL setL setT absC absV absL pO hO evLoad ldB geth seth evStore stRes stB evBox evAlloc evFieldAddr evField evIndexAddr evBin2 binI binB binNR binU nilR_isEmpty nilR_t nilR_0 nilR_s evInt evStr evUn evConv cvO evPick mrg evExtract evNil evCall mapR evBuiltin evLen2 vcells vcOk atom tabF cnd retK resFin resL resA resC resCons evBuild evBuildP placeS placeA fillA fillOk putL getP nxtQ pureC_eq pureR genC_eq genR roV roL roOb roObL roW roWL roWOb roWObL nref nrefL binA binN eqSh eqRes evIndex evIndex2 evIndexS evSlice evSlice2 evSliceS evBound evConv2 cvS evAppend appRes srcOf evMake evBuildSlice repL evFn evMin evMax freshC freshR sub_enR0 evClear evClearR evCopy evCopyR lenS cutS Bool.or_false Bool.false_or Bool.or_true Bool.true_or Bool.and_false Bool.false_and Option.map_some Option.map_none Option.getD_some Option.getD_none Option.bind_some Option.bind_none Option.or_some Option.or_none Option.none_or Option.isSome_none Option.isNone_none Option.isNone_some List.nil_append List.cons_append List.append_nil cond_true cond_false List.length_cons List.length_nil beq_self_eq_true Bool.and_true Bool.true_and Bool.not_true Bool.not_false true_and and_true and_self true_implies implies_true ne_eq not_false_eq_true Bool.false_eq_true Bool.true_eq_false false_implies Nat.lt_irrefl Nat.le_refl Nat.succ_ne_self imp_self Bool.cond_false_right Bool.cond_true_left decide_true decide_false Bool.not_eq_true' Bool.not_eq_false' Bool.not_not Nat.zero_mul Nat.zero_add Nat.add_zero Nat.mul_one Nat.one_mul Bool.cond_self tsz3 tby3 tagg3 tslice3 tarr3 tzero3 tzn3 tplaces3 tint3 tstr3 tnoint3 tbool3 tany3 tintk3 tbytes3 tsz4 tby4 tagg4 tslice4 tarr4 tzero4 tzn4 tplaces4 tint4 tstr4 tnoint4 tbool4 tany4 tintk4 tbytes4 tsz5 tby5 tagg5 tslice5 tarr5 tzero5 tzn5 tplaces5 tint5 tstr5 tnoint5 tbool5 tany5 tintk5 tbytes5 tsz9 tby9 tagg9 tslice9 tarr9 tzero9 tzn9 tplaces9 tint9 tstr9 tnoint9 tbool9 tany9 tintk9 tbytes9 tsz23 tby23 tagg23 tslice23 tarr23 tzero23 tzn23 tplaces23 tint23 tstr23 tnoint23 tbool23 tany23 tintk23 tbytes23 tfld23_0 tfld23_1 tfld23_2 tfld23_3 tsz24 tby24 tagg24 tslice24 tarr24 tzero24 tzn24 tplaces24 tint24 tstr24 tnoint24 tbool24 tany24 tintk24 tbytes24 tsz25 tby25 tagg25 tslice25 tarr25 tzero25 tzn25 tplaces25 tint25 tstr25 tnoint25 tbool25 tany25 tintk25 tbytes25 tsz35 tby35 tagg35 tslice35 tarr35 tzero35 tzn35 tplaces35 tint35 tstr35 tnoint35 tbool35 tany35 tintk35 tbytes35 tsz36 tby36 tagg36 tslice36 tarr36 tzero36 tzn36 tplaces36 tint36 tstr36 tnoint36 tbool36 tany36 tintk36 tbytes36 tsz37 tby37 tagg37 tslice37 tarr37 tzero37 tzn37 tplaces37 tint37 tstr37 tnoint37 tbool37 tany37 tintk37 tbytes37 tsz39 tby39 tagg39 tslice39 tarr39 tzero39 tzn39 tplaces39 tint39 tstr39 tnoint39 tbool39 tany39 tintk39 tbytes39 tfld39_0 tfld39_1 tfld39_2 tfld39_3 tfld39_4 tfld39_5 tfld39_6 tfld39_7 tfld39_8 tfld39_9 tsz45 tby45 tagg45 tslice45 tarr45 tzero45 tzn45 tplaces45 tint45 tstr45 tnoint45 tbool45 tany45 tintk45 tbytes45 tfld45_0 tfld45_1 tfld45_2 tsz54 tby54 tagg54 tslice54 tarr54 tzero54 tzn54 tplaces54 tint54 tstr54 tnoint54 tbool54 tany54 tintk54 tbytes54 tsz79 tby79 tagg79 tslice79 tarr79 tzero79 tzn79 tplaces79 tint79 tstr79 tnoint79 tbool79 tany79 tintk79 tbytes79 tfld79_0 tfld79_1 tsz81 tby81 tagg81 tslice81 tarr81 tzero81 tzn81 tplaces81 tint81 tstr81 tnoint81 tbool81 tany81 tintk81 tbytes81 tsz83 tby83 tagg83 tslice83 tarr83 tzero83 tzn83 tplaces83 tint83 tstr83 tnoint83 tbool83 tany83 tintk83 tbytes83 tsz84 tby84 tagg84 tslice84 tarr84 tzero84 tzn84 tplaces84 tint84 tstr84 tnoint84 tbool84 tany84 tintk84 tbytes84 tmap885 tmapI85 tsz85 tagg85 tsz87 tby87 tagg87 tslice87 tarr87 tzero87 tzn87 tplaces87 tint87 tstr87 tnoint87 tbool87 tany87 tintk87 tbytes87 tfld87_0 tfld87_1 tfld87_2 tfld87_3 tsz88 tby88 tagg88 tslice88 tarr88 tzero88 tzn88 tplaces88 tint88 tstr88 tnoint88 tbool88 tany88 tintk88 tbytes88 tsz93 tby93 tagg93 tslice93 tarr93 tzero93 tzn93 tplaces93 tint93 tstr93 tnoint93 tbool93 tany93 tintk93 tbytes93 tsz96 tby96 tagg96 tslice96 tarr96 tzero96 tzn96 tplaces96 tint96 tstr96 tnoint96 tbool96 tany96 tintk96 tbytes96 tfld96_0 tfld96_1 tsz101 tby101 tagg101 tslice101 tarr101 tzero101 tzn101 tplaces101 tint101 tstr101 tnoint101 tbool101 tany101 tintk101 tbytes101 tsz109 tby109 tagg109 tslice109 tarr109 tzero109 tzn109 tplaces109 tint109 tstr109 tnoint109 tbool109 tany109 tintk109 tbytes109 tsz113 tby113 tagg113 tslice113 tarr113 tzero113 tzn113 tplaces113 tint113 tstr113 tnoint113 tbool113 tany113 tintk113 tbytes113 tsz119 tby119 tagg119 tslice119 tarr119 tzero119 tzn119 tplaces119 tint119 tstr119 tnoint119 tbool119 tany119 tintk119 tbytes119 tsz124 tby124 tagg124 tslice124 tarr124 tzero124 tzn124 tplaces124 tint124 tstr124 tnoint124 tbool124 tany124 tintk124 tbytes124 tsz126 tby126 tagg126 tslice126 tarr126 tzero126 tzn126 tplaces126 tint126 tstr126 tnoint126 tbool126 tany126 tintk126 tbytes126 tsz129 tby129 tagg129 tslice129 tarr129 tzero129 tzn129 tplaces129 tint129 tstr129 tnoint129 tbool129 tany129 tintk129 tbytes129 tsz130 tby130 tagg130 tslice130 tarr130 tzero130 tzn130 tplaces130 tint130 tstr130 tnoint130 tbool130 tany130 tintk130 tbytes130 tsz132 tby132 tagg132 tslice132 tarr132 tzero132 tzn132 tplaces132 tint132 tstr132 tnoint132 tbool132 tany132 tintk132 tbytes132 tfld132_0 tfld132_1 tmap8133 tsz139 tby139 tagg139 tslice139 tarr139 tzero139 tzn139 tplaces139 tint139 tstr139 tnoint139 tbool139 tany139 tintk139 tbytes139 tfld139_0 tfld139_1 tfld139_2 tfld139_3 tsz141 tby141 tagg141 tslice141 tarr141 tzero141 tzn141 tplaces141 tint141 tstr141 tnoint141 tbool141 tany141 tintk141 tbytes141 tsz149 tby149 tagg149 tslice149 tarr149 tzero149 tzn149 tplaces149 tint149 tstr149 tnoint149 tbool149 tany149 tintk149 tbytes149 tsz152 tby152 tagg152 tslice152 tarr152 tzero152 tzn152 tplaces152 tint152 tstr152 tnoint152 tbool152 tany152 tintk152 tbytes152 tsz155 tby155 tagg155 tslice155 tarr155 tzero155 tzn155 tplaces155 tint155 tstr155 tnoint155 tbool155 tany155 tintk155 tbytes155 tsz156 tby156 tagg156 tslice156 tarr156 tzero156 tzn156 tplaces156 tint156 tstr156 tnoint156 tbool156 tany156 tintk156 tbytes156 e_u8_0 fit_u8 de_u8 g_u8 k_u8 e_i64_0 fit_i64 de_i64 g_i64 k_i64 e_b_0 fit_b de_b g_b k_b e_s_0 fit_s de_s g_s k_s e_TRegulateWord_0 e_TRegulateWord_1 e_TRegulateWord_2 e_TRegulateWord_3 fit_TRegulateWord de_TRegulateWord g_TRegulateWord k_TRegulateWord eta_TRegulateWord e_lu8_0 fit_lu8 de_lu8 g_lu8 k_lu8 e_TRegulateChannel_0 e_TRegulateChannel_1 e_TRegulateChannel_2 fit_TRegulateChannel de_TRegulateChannel g_TRegulateChannel k_TRegulateChannel eta_TRegulateChannel e_lTRegulateChannel_0 fit_lTRegulateChannel de_lTRegulateChannel g_lTRegulateChannel k_lTRegulateChannel e_TRegulateBlock_0 e_TRegulateBlock_1 fit_TRegulateBlock de_TRegulateBlock g_TRegulateBlock k_TRegulateBlock eta_TRegulateBlock e_lTRegulateBlock_0 fit_lTRegulateBlock de_lTRegulateBlock g_lTRegulateBlock k_lTRegulateBlock e_li64_0 fit_li64 de_li64 g_li64 k_li64 e_TRegulate_0 e_TRegulate_1 e_TRegulate_2 e_TRegulate_3 e_TRegulate_4 e_TRegulate_5 e_TRegulate_6 e_TRegulate_7 e_TRegulate_8 e_TRegulate_9 fit_TRegulate de_TRegulate g_TRegulate k_TRegulate eta_TRegulate e_lTRegulateWord_0 fit_lTRegulateWord de_lTRegulateWord g_lTRegulateWord k_lTRegulateWord e_TEvent_0 e_TEvent_1 e_TEvent_2 e_TEvent_3 fit_TEvent de_TEvent g_TEvent k_TEvent eta_TEvent e_lTEvent_0 fit_lTEvent de_lTEvent g_lTEvent k_lTEvent e_lTRegulate_0 fit_lTRegulate de_lTRegulate g_lTRegulate k_lTRegulate e_u64_0 fit_u64 de_u64 g_u64 k_u64 e_TReader_0 e_TReader_1 fit_TReader de_TReader g_TReader k_TReader eta_TReader deR_0 deR_1 deR_2 deR_3 deR_4 deR_5 deR_6 deR_7 deR_8 deR_9 deR_10 deR_11 deR_12 litC_x0 litC_x1 litC_x2 litC_x3 litC_x4 litC_x5 litC_x6 litC_x7 litC_x8 litC_x9 litC_x10 litC_x11 strE_u8 Fit_0 Option.isSome_some gt_some gd_one evCopyL evLookup evLk_mp evLk_val evLkM findMb_same findMb_lit findMb_row findMb_dead mapC_nil tabR sub_enR List.drop_zero xrD xoD roEq minL rK rM rG aL aK iK bK sK lK iA bA sA lA or_true true_or Int.toNat_natCast shT_23 shT_45 shT_79 shT_139 Int.toNat_zero Int.cast_ofNat_Int aLs roD roDOb deadL edC edR nodupB rnm rnmL rnmB rnmH rnm_bif rnmB_bif putH dropH rhoN ptB slN litL celL pK isLit oS isRow inL fzV fzL fzOb fzObL fzH fzHF fzB fzObB fzObH rowOb
theorem an0 {A : Prop} (a : A := by first | (and_intros <;> first | (with_reducible trivial) | omega | assumption | exact nfc | first | exact rfl | exact trivial | exact fitI | exact .inr rfl | exact .inl rfl | exact fun x hx => absurd hx (by omega)) | grind) : A := a
theorem an1 {A : Prop} (a : A := by first | (with_reducible trivial) | omega | (intro g; and_intros <;> first | (with_reducible trivial) | assumption | exact nfc | (intro g2; rw [g, g2]; rfl) | (intro g2; assumption) | (simp only [g, Bool.true_and, Bool.and_true, Bool.not_false, Bool.not_true]; assumption) | grind) | (and_intros <;> first | (with_reducible trivial) | omega | assumption | exact nfc | first | exact rfl | exact trivial | exact fitI | exact .inr rfl | exact .inl rfl | exact fun x hx => absurd hx (by omega)) | grind) : A := a
theorem an2 {A : Prop} (a : A := by and_intros <;> first | (with_reducible trivial) | (show anB _ _ _ = true; subst han; kernel_rfl) | (show (anB _ _ _ && _) = true; subst han; kernel_rfl) | omega | assumption | exact nrc | exact nfc | first | exact rfl | exact trivial | exact fitI | exact .inr rfl | exact .inl rfl | exact fun x hx => absurd hx (by omega)) : A := a
theorem an3 {A : Prop} (a : A := by first | (and_intros <;> first | (with_reducible trivial) | omega | assumption | exact nfc | first | exact rfl | exact trivial | exact fitI | exact .inr rfl | exact .inl rfl | exact fun x hx => absurd hx (by omega) | (intro x hx; (repeat (first | (and_intros <;> (first | exact rfl | exact trivial | exact fitI | exact .inr rfl | exact .inl rfl | exact fun x hx => absurd hx (by omega))) | (exfalso; omega) | (rcases x with _ | x))); done)) | grind) : A := a
theorem an4 {A : Prop} (a : A := by first | (with_reducible trivial) | omega | grind) : A := a
theorem an5 {A : Prop} (a : A := by first | (and_intros <;> first | (with_reducible trivial) | omega | assumption | exact nfc | first | exact rfl | exact trivial | exact fitI | exact .inr rfl | exact .inl rfl | exact fun x hx => absurd hx (by omega) | (intro x hx; (repeat (first | (and_intros <;> (first | exact rfl | exact trivial | exact fitI | exact .inr rfl | exact .inl rfl | exact fun x hx => absurd hx (by omega))) | (exfalso; omega) | (rcases x with _ | x))); done) | (refine Fit_app ?_ ?_ <;> first | exact fitI | (intro x hx; (repeat (first | (and_intros <;> (first | exact rfl | exact trivial | exact fitI | exact .inr rfl | exact .inl rfl | exact fun x hx => absurd hx (by omega))) | (exfalso; omega) | (rcases x with _ | x))); done) | (refine Fit_app ?_ ?_ <;> first | exact fitI | (intro x hx; (repeat (first | (and_intros <;> (first | exact rfl | exact trivial | exact fitI | exact .inr rfl | exact .inl rfl | exact fun x hx => absurd hx (by omega))) | (exfalso; omega) | (rcases x with _ | x))); done)))) | grind) : A := a
theorem an6 {A : Prop} (a : A := by and_intros <;> first | (with_reducible trivial) | (show anB _ _ _ = true; subst han; kernel_rfl) | (show (anB _ _ _ && _) = true; subst han; kernel_rfl) | omega | assumption | exact nrc | exact nfc | first | exact rfl | exact trivial | exact fitI | exact .inr rfl | exact .inl rfl | exact fun x hx => absurd hx (by omega) | (intro x hx; (repeat (first | (and_intros <;> (first | exact rfl | exact trivial | exact fitI | exact .inr rfl | exact .inl rfl | exact fun x hx => absurd hx (by omega))) | (exfalso; omega) | (rcases x with _ | x))); done) | (refine Fit_app ?_ ?_ <;> first | exact fitI | (intro x hx; (repeat (first | (and_intros <;> (first | exact rfl | exact trivial | exact fitI | exact .inr rfl | exact .inl rfl | exact fun x hx => absurd hx (by omega))) | (exfalso; omega) | (rcases x with _ | x))); done) | (refine Fit_app ?_ ?_ <;> first | exact fitI | (intro x hx; (repeat (first | (and_intros <;> (first | exact rfl | exact trivial | exact fitI | exact .inr rfl | exact .inl rfl | exact fun x hx => absurd hx (by omega))) | (exfalso; omega) | (rcases x with _ | x))); done)))) : A := a
theorem an7 {A : Prop} (a : A := by and_intros <;> first | (with_reducible trivial) | (show anB _ _ _ = true; subst han; kernel_rfl) | (show (anB _ _ _ && _) = true; subst han; kernel_rfl) | omega | assumption | exact nrc | exact nfc | first | exact rfl | exact trivial | exact fitI | exact .inr rfl | exact .inl rfl | exact fun x hx => absurd hx (by omega) | (intro x hx; (repeat (first | (and_intros <;> (first | exact rfl | exact trivial | exact fitI | exact .inr rfl | exact .inl rfl | exact fun x hx => absurd hx (by omega))) | (exfalso; omega) | (rcases x with _ | x))); done)) : A := a
theorem at0 {A : Prop} (a : A := by and_intros <;> first | (with_reducible trivial) | omega | exact nfc | trivial) : A := a
theorem cv {A : Prop} (a : A := by simp [CvB, CvL, Cv, blkAt, geth, getM]) : A := a
theorem cl {A : Prop} (a : A := by first | rfl | (simp; done) | (simp; omega)) : A := a
noncomputable def F43 : Option (List TRegulateChannel) :=
  some [(TRegulateChannel.mk 1 200 false), (TRegulateChannel.mk 6 200 false), (TRegulateChannel.mk 11 150 false)]
noncomputable def body43 : List AV -> List ABlk -> ED
  | [], h => .ed [] ((F43).isSome = true) (.sl 0 3 0 ((gt F43).length) false) [.row 45 3 ((gt F43).length) (enR c_TRegulateChannel (gt F43))]
  | _, _ => .fail
theorem ok43 : FnOk Try.prog 43 (edC body43) := by
  refine edit_fnV body43 (rs := [.tmp 0]) Try.func43 (by kernel_rfl) rfl rfl ?_
  intro l h bs ob q0 g0 hb hob
  unfold body43 at hb
  split at hb
  · injection hb with q1 q2 q3 q4; subst q1 q2 q3 q4
    obtain ⟨r, H⟩ := Option.isSome_iff_exists.1 hob
    rw [H, gt_some]
    refine ⟨[], [], rfl, trivial, trivial, trivial, ⟨(nfB_en nr_TRegulateChannel), trivial⟩, ⟨noroB_en, trivial⟩, (by first | (simp only [noro]; done) | (simp only [noro, noroL]; and_intros <;> first | trivial | exact noro_bif (by simp only [noro]) (by simp only [noro]) | (simp only [noro, noroL, and_self]))), ?_⟩
    rw [Try.ntmps43]
    simp only [List.length_nil, Nat.reduceSub, List.replicate_succ, List.replicate_zero, List.nil_append]
    unfold F43 at H
    try dsimp only at H
    refine sq ctNo_ok ?_
    simp only [go_sem]
    refine sq ctNo_ok ?_
    simp only [go_sem, Nat.reduceLeDiff, Nat.reduceAdd, Nat.reduceMul]
    refine rg ctNo_ok ?_
    simp only [go_sem]
    obtain rfl := Option.some.inj H
    refine RetE_mk [] [some 0] ?_ ?_ ?_ ?_ (by rfl) (by rfl)
    · simp only [go_sem]
      try exact at0
    · simp only [go_sem]
      try exact at0
    · simp only [go_sem, Nat.reduceAdd]
      exact (by first | (simp [Cv, getM]; done) | (simp [Cv, CvL, getM, gt_some]; omega))
    · simp only [go_sem, Nat.reduceAdd, CvH]
      exact CvB_row nr_TRegulateChannel cl (lit_row (f := c_TRegulateChannel) [(TRegulateChannel.mk 1 200 false), (TRegulateChannel.mk 6 200 false), (TRegulateChannel.mk 11 150 false)] (fun _ _ => rfl) rfl)
  · cases hb
noncomputable def F58 (p0 : List TRegulateChannel) : Option (List TRegulateChannel) :=
  need (capb 24 p0.length) <| some p0
noncomputable def body58 : List AV -> List ABlk -> ED
  | [v0], h => .ed [] (lK k_TRegulateChannel 3 (roD (deadL h []) v0) /\ roDOb (deadL h []) v0 /\ (F58 (lA g_TRegulateChannel (roD (deadL h []) v0))).isSome = true) (.sl 0 3 0 (gt (F58 (lA g_TRegulateChannel (roD (deadL h []) v0)))).length false) [.row 45 3 (gt (F58 (lA g_TRegulateChannel (roD (deadL h []) v0)))).length (enR c_TRegulateChannel (gt (F58 (lA g_TRegulateChannel (roD (deadL h []) v0)))))]
  | _, _ => .fail
theorem ok58 : FnOk Try.prog 58 (edC body58) := by
  refine edit_fnV body58 (rs := [.tmp 2]) Try.func58 (by kernel_rfl) rfl rfl ?_
  intro l h bs ob q0 g0 hb hob
  unfold body58 at hb
  split at hb
  · rename_i v0
    injection hb with q1 q2 q3 q4; subst q1 q2 q3 q4
    obtain ⟨hk0, hk1, hob⟩ := hob
    obtain ⟨r, H⟩ := Option.isSome_iff_exists.1 hob
    rw [H, gt_some]
    have hw0 := lK_wk (fun r h => w_TRegulateChannel h) hk0
    generalize lA g_TRegulateChannel (roD (deadL h []) v0) = p0 at H hw0
    unfold F58 at H
    obtain ⟨f1, H⟩ := need_some.1 H
    replace f1 := capb_iff.1 f1
    obtain rfl := Option.some.inj H
    refine ⟨[.ro 3 p0.length false (enR c_TRegulateChannel p0)], [], rfl, ⟨EW_view hk1 hw0, trivial⟩, trivial, trivial, ⟨nfB_en nr_TRegulateChannel, trivial⟩, ⟨noroB_en, trivial⟩, (by simp only [noro]), ?_⟩
    rw [Try.ntmps58]
    simp only [List.length_cons, List.length_nil, Nat.reduceAdd, Nat.reduceSub, List.replicate_succ, List.replicate_zero, List.cons_append, List.nil_append]
    refine rg ctNo_ok ?_
    have nfs : ∀ x y, nref (enR c_TRegulateChannel p0 x y) := fun x y => nfR_en nr_TRegulateChannel
    generalize hc : enR c_TRegulateChannel p0 = c at nfs hw0
    cases hn : p0.length with
    | zero =>
      simp only [go_sem, Nat.reduceLeDiff, Nat.reduceAdd]
      have hp : p0 = [] := List.eq_nil_of_length_eq_zero hn
      subst hp; subst hc
      refine ⟨?_, ?_⟩
      · refine RetE_mk [] [none] ?_ ?_ ?_ ?_ (by rfl) (by rfl)
        · simp only [fzOb]
        · simp only [fzObH]
        · simp [fzV, Cv]
        · simp only [fzH, fzHF, and_true, CvH, and_true]; exact CvB_none
      · refine ⟨by omega, RetE_mk [] [some 1] ?_ ?_ ?_ ?_ (by rfl) (by rfl)⟩
        · simp only [Nat.add_zero, fzOb, inL, rowOb, geth, cond_false, true_and, Nat.zero_add, Nat.le_refl]
        · simp only [fzObB, fzObH, and_self]
        · simp [fzV, inL, Cv, getM]
        · simp only [fzH, fzHF, fzB, inL, cond_false, and_true, CvH, and_true]; exact CvB_row0 nr_TRegulateChannel
    | succ m =>
      simp only [go_sem, Nat.reduceLeDiff, Nat.reduceAdd, reduceCtorEq]
      refine ⟨by omega, RetE_mk [] [some 1] ?_ ?_ ?_ ?_ (by rfl) (by rfl)⟩
      · simp only [fzOb, inL, rowOb, geth, cond_false, true_and, Nat.zero_add, Nat.le_refl]
      · simp only [fzObB, fzObH, and_self]
      · simp [fzV, inL, Cv, getM]
      · simp only [fzH, fzHF, fzB, inL, cond_false, and_true, CvH, and_true]; rw [← hn, ← hc]; exact CvB_row nr_TRegulateChannel rfl (fun x y hx hy => by simp only [appC, Nat.not_lt_zero, if_false, Nat.sub_zero])
  · cases hb
noncomputable def F94 (p0 : TRegulateChannel) : Option (Bool) :=
  some ((((bLt p0.Number 1) || (bLt 255 p0.Number)) || (bLt p0.Max 0)) || (bLt 400 p0.Max))
noncomputable def body94 : List AV -> AR
  | [v0] => .pure (aK 3 k_TRegulateChannel v0 /\ (F94 (g_TRegulateChannel (aL v0))).isSome = true) (.bool (gt (F94 (g_TRegulateChannel (aL v0)))))
  | _ => .fail
theorem ok94 : FnOk Try.prog 94 (pureC body94) := by
  refine pure_fnM body94 (rs := [.tmp 2]) Try.func94 (by kernel_rfl) rfl rfl ?_
  intro l ob v hb hob
  unfold body94 at hb
  split at hb
  · rename_i v0
    injection hb with q1 q2; subst q1 q2
    obtain ⟨hk0_0, hob⟩ := hob
    obtain ⟨r, H⟩ := Option.isSome_iff_exists.1 hob
    rw [H, gt_some]
    have hw0 := wA_TRegulateChannel hk0_0
    generalize g_TRegulateChannel (aL v0) = p0 at H hw0
    refine ⟨[.agg [.int .i64 p0.Number, .int .i64 p0.Max, .bool p0.Radar]], _, (fun E vs F => FR_wk1 hw0.1 F (fun vs F => F)), rfl, rfl, ?_⟩
    rw [Try.ntmps94]
    simp only [List.length_cons, List.length_nil, Nat.reduceAdd, Nat.reduceSub, List.replicate_succ, List.replicate_zero, List.cons_append, List.nil_append]
    unfold F94 at H
    try dsimp only at H
    refine sq ctNo_ok ?_
    simp only [go_sem]
    refine sq ctNo_ok ?_
    simp only [go_sem, Nat.reduceLeDiff, Nat.reduceLT, Nat.reduceAdd]
    repeat ((with_reducible refine And.intro ?_ ?_); focus exact an4)
    refine rg ctNo_ok ?_
    simp only [go_sem]
    obtain rfl := Option.some.inj H
    first | rfl | simp only [Bool.and_false, Bool.false_and, Bool.and_true, Bool.true_and] | exact congrArg AV.bool (Eq.symm (by assumption))
  · cases hb
noncomputable def ct116_0t0 : Ct := tab [(94, pureC body94)]
theorem ct116_0t0_ok : CtOk Try.prog ct116_0t0 := tab_cons ok94 <| tab_nil
theorem ct116_0t0_94 (l : List AV) (h : List ABlk) : ct116_0t0 94 l h = pureC body94 l h := rfl
noncomputable def F116_0_L1 (p0 : List TRegulateChannel) (v1_1 : Int) : Option (Lp (Int) ((Unit) ⊕ (Int))) :=
  bif (bLt v1_1 (p0.length : Nat)) then (need (inb v1_1 p0.length) <| (F94 (gd p0 v1_1.toNat)).bind fun r3 => bif r3 then (some (.done (.inr v1_1))) else (some (.next (wr .i64 (v1_1 + 1))))) else (some (.done (.inl ())))
noncomputable def F116_0 (p0 : List TRegulateChannel) : Option (Int) :=
  lp (loopD (fun s => F116_0_L1 p0 s) 0) (fun _ => some (-1)) some
noncomputable def body116_0 : List AV -> AR
  | [v0, .fn 94 []] => .pure (lK k_TRegulateChannel 3 v0 /\ (F116_0 (lA g_TRegulateChannel v0)).isSome = true) (.int .i64 (gt (F116_0 (lA g_TRegulateChannel v0))))
  | _ => .fail
theorem ok116_0 : FnOk Try.prog 116 (pureC body116_0) := by
  refine pure_fnM body116_0 (rs := [.tmp 4]) Try.func116 (by kernel_rfl) rfl rfl ?_
  intro l ob v hb hob
  unfold body116_0 at hb
  split at hb
  · rename_i v0
    injection hb with q1 q2; subst q1 q2
    obtain ⟨hk0_0, hob⟩ := hob
    obtain ⟨r, H⟩ := Option.isSome_iff_exists.1 hob
    rw [H, gt_some]
    have hw0 := lK_wk (fun r h => w_TRegulateChannel h) hk0_0
    generalize lA g_TRegulateChannel v0 = p0 at H hw0
    refine ⟨[.ro 3 p0.length false (enR c_TRegulateChannel p0), .fn 94 []], _, (fun E vs F => FR_wk1 hw0.1 F (fun vs F => FR_wk1 (fn_wk LW_nil) F (fun vs F => F))), rfl, rfl, ?_⟩
    rw [Try.ntmps116]
    simp only [List.length_cons, List.length_nil, Nat.reduceAdd, Nat.reduceSub, List.replicate_succ, List.replicate_zero, List.cons_append, List.nil_append]
    unfold F116_0 at H
    try dsimp only at H
    refine sq ctNo_ok ?_
    simp only [go_sem]
    refine seqM ?_
    refine sq ctNo_ok ?_
    simp only [go_sem]
    repeat ((with_reducible refine And.intro ?_ ?_); focus exact an0)
    refine blkM ?_
    refine loop_den (fun s : Int => (.ro 3 p0.length false (enR c_TRegulateChannel p0) :: .fn 94 [] :: tp 5 (.int .i64 (p0.length : Nat) :: .int .i64 s :: tp 10 []))) (fun s => []) (fun e : Unit => (tp 19 [])) (fun e => []) H ?_ (fun v1_1 o H hn1_1 hn2_1 => ?_) (fun e H => ?_)
    · refine SubF_of ⟨[], ?_, ?_, by rfl, by rfl⟩
      · simp [CvL, Cv, tp]
      · trivial
    · unfold F116_0_L1 at H
      try dsimp only at H ⊢
      try simp only [tp]
      refine sq ctNo_ok ?_
      simp only [go_sem]
      refine seqM ?_
      refine condM' rfl trivial (fun hc => ?_) (fun hc => ?_)
      · have hk1 : (bLt v1_1 (p0.length : Nat)) = false := by simpa using hc
        replace H := cond_f hc H
        refine rg ctNo_ok ?_
        simp only [go_sem]
        refine ⟨_, (Option.some.inj H).symm, ?_⟩
        refine SubF_of ⟨[], ?_, ?_, by rfl, by rfl⟩
        · simp [CvL, Cv]
        · trivial
      have hk1 : (bLt v1_1 (p0.length : Nat)) = true := by simpa using hc
      replace H := cond_t hc H
      refine rg ctNo_ok ?_
      simp only [go_sem]
      refine seqM ?_
      refine blkM ?_
      refine sq ctNo_ok ?_
      simp only [go_sem]
      refine seqM ?_
      obtain ⟨f2, H⟩ := need_some.1 H
      replace f2 := inb_iff.1 f2
      obtain ⟨r3, e4, H⟩ := bsi H
      refine rg ct116_0t0_ok ?_
      simp only [go_sem, Nat.reduceLT, Nat.reduceAdd, ct116_0t0_94, body94, f2, e4]
      repeat ((with_reducible refine And.intro ?_ ?_); focus exact an0)
      refine condM rfl trivial (fun hc => ?_) (fun hc => ?_)
      · have hk5 : (r3) = true := by simpa using hc
        replace H := cond_t hc H
        refine sq ctNo_ok ?_
        simp only [go_sem]
        refine rg ctNo_ok ?_
        simp only [go_sem]
        have H := hn2_1 _ (Option.some.inj H).symm
        obtain rfl := Option.some.inj H
        first | rfl | simp only [Bool.and_false, Bool.false_and, Bool.and_true, Bool.true_and] | exact congrArg AV.bool (Eq.symm (by assumption))
      have hk5 : (r3) = false := by simpa using hc
      replace H := cond_f hc H
      refine rg ctNo_ok ?_
      simp only [go_sem]
      refine rg ctNo_ok ?_
      simp only [go_sem]
      refine ⟨_, (Option.some.inj H).symm, ?_⟩
      refine SubF_of ⟨[], ?_, ?_, by rfl, by rfl⟩
      · simp [CvL, Cv]
      · trivial
    · try dsimp only at H ⊢
      try simp only [tp]
      try simp only [m_normal]
      refine sq ctNo_ok ?_
      simp only [go_sem]
      refine rg ctNo_ok ?_
      simp only [go_sem]
      obtain rfl := Option.some.inj H
      first | rfl | simp only [Bool.and_false, Bool.false_and, Bool.and_true, Bool.true_and] | exact congrArg AV.bool (Eq.symm (by assumption))
  · cases hb
noncomputable def ct95_0t0 : Ct := tab [(116, pureC body116_0)]
theorem ct95_0t0_ok : CtOk Try.prog ct95_0t0 := tab_cons ok116_0 <| tab_nil
theorem ct95_0t0_116 (l : List AV) (h : List ABlk) : ct95_0t0 116 l h = pureC body116_0 l h := rfl
noncomputable def F95_0 (p0 : List TRegulateChannel) : Option (Bool) :=
  (F116_0 p0).bind fun r1 => some (bLe 0 r1)
noncomputable def body95_0 : List AV -> AR
  | [v0, .fn 94 []] => .pure (lK k_TRegulateChannel 3 v0 /\ (F95_0 (lA g_TRegulateChannel v0)).isSome = true) (.bool (gt (F95_0 (lA g_TRegulateChannel v0))))
  | _ => .fail
theorem ok95_0 : FnOk Try.prog 95 (pureC body95_0) := by
  refine pure_fnM body95_0 (rs := [.tmp 4]) Try.func95 (by kernel_rfl) rfl rfl ?_
  intro l ob v hb hob
  unfold body95_0 at hb
  split at hb
  · rename_i v0
    injection hb with q1 q2; subst q1 q2
    obtain ⟨hk0_0, hob⟩ := hob
    obtain ⟨r, H⟩ := Option.isSome_iff_exists.1 hob
    rw [H, gt_some]
    have hw0 := lK_wk (fun r h => w_TRegulateChannel h) hk0_0
    generalize lA g_TRegulateChannel v0 = p0 at H hw0
    refine ⟨[.ro 3 p0.length false (enR c_TRegulateChannel p0), .fn 94 []], _, (fun E vs F => FR_wk1 hw0.1 F (fun vs F => FR_wk1 (fn_wk LW_nil) F (fun vs F => F))), rfl, rfl, ?_⟩
    rw [Try.ntmps95]
    simp only [List.length_cons, List.length_nil, Nat.reduceAdd, Nat.reduceSub, List.replicate_succ, List.replicate_zero, List.cons_append, List.nil_append]
    unfold F95_0 at H
    try dsimp only at H
    refine sq ctNo_ok ?_
    simp only [go_sem]
    refine seqM ?_
    obtain ⟨r1, e2, H⟩ := bsi H
    refine rg ct95_0t0_ok ?_
    simp only [go_sem, ct95_0t0_116, body116_0, e2]
    repeat ((with_reducible refine And.intro ?_ ?_); focus exact an0)
    refine rg ctNo_ok ?_
    simp only [go_sem]
    obtain rfl := Option.some.inj H
    first | rfl | simp only [Bool.and_false, Bool.false_and, Bool.and_true, Bool.true_and] | exact congrArg AV.bool (Eq.symm (by assumption))
  · cases hb
noncomputable def F97 (p0 : TRegulateChannel) : Option (Int) :=
  some p0.Number
noncomputable def body97 : List AV -> AR
  | [v0] => .pure (aK 3 k_TRegulateChannel v0 /\ (F97 (g_TRegulateChannel (aL v0))).isSome = true) (.int .i64 (gt (F97 (g_TRegulateChannel (aL v0)))))
  | _ => .fail
theorem ok97 : FnOk Try.prog 97 (pureC body97) := by
  refine pure_fnM body97 (rs := [.tmp 2]) Try.func97 (by kernel_rfl) rfl rfl ?_
  intro l ob v hb hob
  unfold body97 at hb
  split at hb
  · rename_i v0
    injection hb with q1 q2; subst q1 q2
    obtain ⟨hk0_0, hob⟩ := hob
    obtain ⟨r, H⟩ := Option.isSome_iff_exists.1 hob
    rw [H, gt_some]
    have hw0 := wA_TRegulateChannel hk0_0
    generalize g_TRegulateChannel (aL v0) = p0 at H hw0
    refine ⟨[.agg [.int .i64 p0.Number, .int .i64 p0.Max, .bool p0.Radar]], _, (fun E vs F => FR_wk1 hw0.1 F (fun vs F => F)), rfl, rfl, ?_⟩
    rw [Try.ntmps97]
    simp only [List.length_cons, List.length_nil, Nat.reduceAdd, Nat.reduceSub, List.replicate_succ, List.replicate_zero, List.cons_append, List.nil_append]
    unfold F97 at H
    try dsimp only at H
    refine sq ctNo_ok ?_
    simp only [go_sem]
    refine sq ctNo_ok ?_
    simp only [go_sem, Nat.reduceLeDiff, Nat.reduceLT, Nat.reduceAdd]
    repeat ((with_reducible refine And.intro ?_ ?_); focus exact an4)
    refine rg ctNo_ok ?_
    simp only [go_sem]
    obtain rfl := Option.some.inj H
    first | rfl | simp only [Bool.and_false, Bool.false_and, Bool.and_true, Bool.true_and] | exact congrArg AV.bool (Eq.symm (by assumption))
  · cases hb
noncomputable def ct96_0t0 : Ct := tab [(97, pureC body97)]
theorem ct96_0t0_ok : CtOk Try.prog ct96_0t0 := tab_cons ok97 <| tab_nil
theorem ct96_0t0_97 (l : List AV) (h : List ABlk) : ct96_0t0 97 l h = pureC body97 l h := rfl
noncomputable def F96_0_L1 (p0 : List TRegulateChannel) (v1_1 : Int) : Option (Lp (Int) ((Unit) ⊕ (Bool))) :=
  bif (bLt v1_1 (p0.length : Nat)) then (need (inb v1_1 p0.length) <| (F97 (gd p0 v1_1.toNat)).bind fun r3 => need (inb (wr .i64 (v1_1 - 1)) p0.length) <| (F97 (gd p0 ((wr .i64 (v1_1 - 1)).toNat))).bind fun r6 => bif (bLe r3 r6) then (some (.done (.inr false))) else (some (.next (wr .i64 (v1_1 + 1))))) else (some (.done (.inl ())))
noncomputable def F96_0 (p0 : List TRegulateChannel) : Option (Bool) :=
  lp (loopD (fun s => F96_0_L1 p0 s) 1) (fun _ => some true) some
noncomputable def body96_0 : List AV -> AR
  | [v0, .fn 97 []] => .pure (lK k_TRegulateChannel 3 v0 /\ (F96_0 (lA g_TRegulateChannel v0)).isSome = true) (.bool (gt (F96_0 (lA g_TRegulateChannel v0))))
  | _ => .fail
theorem ok96_0 : FnOk Try.prog 96 (pureC body96_0) := by
  refine pure_fnM body96_0 (rs := [.tmp 4]) Try.func96 (by kernel_rfl) rfl rfl ?_
  intro l ob v hb hob
  unfold body96_0 at hb
  split at hb
  · rename_i v0
    injection hb with q1 q2; subst q1 q2
    obtain ⟨hk0_0, hob⟩ := hob
    obtain ⟨r, H⟩ := Option.isSome_iff_exists.1 hob
    rw [H, gt_some]
    have hw0 := lK_wk (fun r h => w_TRegulateChannel h) hk0_0
    generalize lA g_TRegulateChannel v0 = p0 at H hw0
    refine ⟨[.ro 3 p0.length false (enR c_TRegulateChannel p0), .fn 97 []], _, (fun E vs F => FR_wk1 hw0.1 F (fun vs F => FR_wk1 (fn_wk LW_nil) F (fun vs F => F))), rfl, rfl, ?_⟩
    rw [Try.ntmps96]
    simp only [List.length_cons, List.length_nil, Nat.reduceAdd, Nat.reduceSub, List.replicate_succ, List.replicate_zero, List.cons_append, List.nil_append]
    unfold F96_0 at H
    try dsimp only at H
    refine sq ctNo_ok ?_
    simp only [go_sem]
    refine seqM ?_
    refine sq ctNo_ok ?_
    simp only [go_sem]
    refine blkM ?_
    refine loop_den (fun s : Int => (.ro 3 p0.length false (enR c_TRegulateChannel p0) :: .fn 97 [] :: .top :: .top :: .top :: .int .i64 s :: tp 20 [])) (fun s => []) (fun e : Unit => (tp 26 [])) (fun e => []) H ?_ (fun v1_1 o H hn1_1 hn2_1 => ?_) (fun e H => ?_)
    · refine SubF_of ⟨[], ?_, ?_, by rfl, by rfl⟩
      · simp [CvL, Cv, tp]
      · trivial
    · unfold F96_0_L1 at H
      try dsimp only at H ⊢
      try simp only [tp]
      refine seqM ?_
      refine sq ctNo_ok ?_
      simp only [go_sem]
      repeat ((with_reducible refine And.intro ?_ ?_); focus exact an0)
      refine condM' rfl trivial (fun hc => ?_) (fun hc => ?_)
      · have hk1 : (bLt v1_1 (p0.length : Nat)) = false := by simpa using hc
        replace H := cond_f hc H
        refine rg ctNo_ok ?_
        simp only [go_sem]
        refine ⟨_, (Option.some.inj H).symm, ?_⟩
        refine SubF_of ⟨[], ?_, ?_, by rfl, by rfl⟩
        · simp [CvL, Cv]
        · trivial
      have hk1 : (bLt v1_1 (p0.length : Nat)) = true := by simpa using hc
      replace H := cond_t hc H
      refine rg ctNo_ok ?_
      simp only [go_sem]
      refine seqM ?_
      refine blkM ?_
      refine seqM ?_
      obtain ⟨f2, H⟩ := need_some.1 H
      replace f2 := inb_iff.1 f2
      obtain ⟨r3, e4, H⟩ := bsi H
      obtain ⟨f5, H⟩ := need_some.1 H
      replace f5 := inb_iff.1 f5
      obtain ⟨r6, e7, H⟩ := bsi H
      refine draw_quiet shT_ok ct96_0t0_ok (by kernel_rfl) (by kernel_rfl) ?_
      simp only [go_sem, Nat.reduceLT, Nat.reduceAdd, ct96_0t0_97, body97, f2, e4, f5, e7]
      repeat ((with_reducible refine And.intro ?_ ?_); focus exact an0)
      refine condM rfl trivial (fun hc => ?_) (fun hc => ?_)
      · have hk8 : (bLe r3 r6) = true := by simpa using hc
        replace H := cond_t hc H
        refine sq ctNo_ok ?_
        simp only [go_sem]
        refine rg ctNo_ok ?_
        simp only [go_sem]
        have H := hn2_1 _ (Option.some.inj H).symm
        obtain rfl := Option.some.inj H
        first | rfl | simp only [Bool.and_false, Bool.false_and, Bool.and_true, Bool.true_and] | exact congrArg AV.bool (Eq.symm (by assumption))
      have hk8 : (bLe r3 r6) = false := by simpa using hc
      replace H := cond_f hc H
      refine rg ctNo_ok ?_
      simp only [go_sem]
      refine rg ctNo_ok ?_
      simp only [go_sem]
      refine ⟨_, (Option.some.inj H).symm, ?_⟩
      refine SubF_of ⟨[], ?_, ?_, by rfl, by rfl⟩
      · simp [CvL, Cv]
      · trivial
    · try dsimp only at H ⊢
      try simp only [tp]
      try simp only [m_normal]
      refine sq ctNo_ok ?_
      simp only [go_sem]
      refine rg ctNo_ok ?_
      simp only [go_sem]
      obtain rfl := Option.some.inj H
      first | rfl | simp only [Bool.and_false, Bool.false_and, Bool.and_true, Bool.true_and] | exact congrArg AV.bool (Eq.symm (by assumption))
  · cases hb
noncomputable def ct59t0 : Ct := tab [(95, pureC body95_0), (96, pureC body96_0)]
theorem ct59t0_ok : CtOk Try.prog ct59t0 := tab_cons ok95_0 <| tab_cons ok96_0 <| tab_nil
theorem ct59t0_95 (l : List AV) (h : List ABlk) : ct59t0 95 l h = pureC body95_0 l h := rfl
theorem ct59t0_96 (l : List AV) (h : List ABlk) : ct59t0 96 l h = pureC body96_0 l h := rfl
noncomputable def F59 (p0 : List TRegulateChannel) : Option (Bool) :=
  need (bif ((bLe 2 (p0.length : Nat)) && (bLe (p0.length : Nat) 16)) then ((F95_0 p0).isSome) else true) <| need (bif (((bLe 2 (p0.length : Nat)) && (bLe (p0.length : Nat) 16)) && (!(gt (F95_0 p0)))) then ((F96_0 p0).isSome) else true) <| some ((((bLe 2 (p0.length : Nat)) && (bLe (p0.length : Nat) 16)) && (!(gt (F95_0 p0)))) && (gt (F96_0 p0)))
noncomputable def body59 : List AV -> AR
  | [v0] => .pure (lK k_TRegulateChannel 3 v0 /\ (F59 (lA g_TRegulateChannel v0)).isSome = true) (.bool (gt (F59 (lA g_TRegulateChannel v0))))
  | _ => .fail
theorem ok59 : FnOk Try.prog 59 (pureC body59) := by
  refine pure_fnM body59 (rs := [.tmp 2]) Try.func59 (by kernel_rfl) rfl rfl ?_
  intro l ob v hb hob
  unfold body59 at hb
  split at hb
  · rename_i v0
    injection hb with q1 q2; subst q1 q2
    obtain ⟨hk0_0, hob⟩ := hob
    obtain ⟨r, H⟩ := Option.isSome_iff_exists.1 hob
    rw [H, gt_some]
    have hw0 := lK_wk (fun r h => w_TRegulateChannel h) hk0_0
    generalize lA g_TRegulateChannel v0 = p0 at H hw0
    refine ⟨[.ro 3 p0.length false (enR c_TRegulateChannel p0)], _, (fun E vs F => FR_wk1 hw0.1 F (fun vs F => F)), rfl, rfl, ?_⟩
    rw [Try.ntmps59]
    simp only [List.length_cons, List.length_nil, Nat.reduceAdd, Nat.reduceSub, List.replicate_succ, List.replicate_zero, List.cons_append, List.nil_append]
    unfold F59 at H
    try dsimp only at H
    refine sq ctNo_ok ?_
    simp only [go_sem]
    refine sq ctNo_ok ?_
    simp only [go_sem]
    refine seqM ?_
    obtain ⟨f1, H⟩ := need_some.1 H
    replace f1 := g_iff.1 f1
    obtain ⟨f2, H⟩ := need_some.1 H
    replace f2 := g_iff.1 f2
    refine rg ct59t0_ok ?_
    simp only [go_sem, ct59t0_95, body95_0, ct59t0_96, body96_0]
    repeat ((with_reducible refine And.intro ?_ ?_); focus (first | (with_reducible trivial) | omega | exact f1 | exact f2 | (intro g; have q := f1 (by first | exact g | (rw [g]; rfl) | simpa using g); first | exact q | exact ⟨q.1, q.2.1⟩ | exact q.2.2 | omega | exact ⟨g, q⟩ | exact ⟨trivial, q⟩ | exact ⟨g, q.1, q.2.1⟩ | exact ⟨g, q.2.2⟩) | (intro g; have q := f2 (by first | exact g | (rw [g]; rfl) | simpa using g); first | exact q | exact ⟨q.1, q.2.1⟩ | exact q.2.2 | omega | exact ⟨g, q⟩ | exact ⟨trivial, q⟩ | exact ⟨g, q.1, q.2.1⟩ | exact ⟨g, q.2.2⟩) | (intro g; (try have q0 := f1 (by first | exact g | (rw [g]; rfl) | simpa using g)); (try have q1 := f2 (by first | exact g | (rw [g]; rfl) | simpa using g)); and_intros <;> first | (with_reducible trivial) | assumption | exact nfc | (intro g2; rw [g, g2]; rfl) | (intro g2; assumption) | (simp only [g, Bool.true_and, Bool.and_true, Bool.not_false, Bool.not_true]; assumption) | grind) | (and_intros <;> first | (with_reducible trivial) | omega | assumption | exact nfc | first | exact rfl | exact trivial | exact fitI | exact .inr rfl | exact .inl rfl | exact fun x hx => absurd hx (by omega)) | grind))
    refine rg ctNo_ok ?_
    simp only [go_sem]
    obtain rfl := Option.some.inj H
    first | rfl | simp only [Bool.and_false, Bool.false_and, Bool.and_true, Bool.true_and] | exact congrArg AV.bool (Eq.symm (by assumption))
  · cases hb
noncomputable def F60 (p0 : Int) : Option (Bool) :=
  some ((bLt p0 0) || (bLt 1099511627776 p0))
noncomputable def body60 : List AV -> AR
  | [v0] => .pure (iK .i64 v0 /\ (F60 (iA v0)).isSome = true) (.bool (gt (F60 (iA v0))))
  | _ => .fail
theorem ok60 : FnOk Try.prog 60 (pureC body60) := by
  refine pure_fnM body60 (rs := [.tmp 2]) Try.func60 (by kernel_rfl) rfl rfl ?_
  intro l ob v hb hob
  unfold body60 at hb
  split at hb
  · rename_i v0
    injection hb with q1 q2; subst q1 q2
    obtain ⟨hk0_0, hob⟩ := hob
    obtain ⟨r, H⟩ := Option.isSome_iff_exists.1 hob
    rw [H, gt_some]
    have hw0 := iK_wk hk0_0
    generalize iA v0 = p0 at H hw0
    refine ⟨[.int .i64 p0], _, (fun E vs F => FR_wk1 hw0.1 F (fun vs F => F)), rfl, rfl, ?_⟩
    rw [Try.ntmps60]
    simp only [List.length_cons, List.length_nil, Nat.reduceAdd, Nat.reduceSub, List.replicate_succ, List.replicate_zero, List.cons_append, List.nil_append]
    unfold F60 at H
    try dsimp only at H
    refine sq ctNo_ok ?_
    simp only [go_sem]
    refine sq ctNo_ok ?_
    simp only [go_sem]
    repeat ((with_reducible refine And.intro ?_ ?_); focus exact an4)
    refine rg ctNo_ok ?_
    simp only [go_sem]
    obtain rfl := Option.some.inj H
    first | rfl | simp only [Bool.and_false, Bool.false_and, Bool.and_true, Bool.true_and] | exact congrArg AV.bool (Eq.symm (by assumption))
  · cases hb
noncomputable def F117 (p0 : Int) : Option (Bool) :=
  some (!bEq p0 p0)
noncomputable def body117 : List AV -> AR
  | [v0] => .pure (iK .i64 v0 /\ (F117 (iA v0)).isSome = true) (.bool (gt (F117 (iA v0))))
  | _ => .fail
theorem ok117 : FnOk Try.prog 117 (pureC body117) := by
  refine pure_fnM body117 (rs := [.tmp 2]) Try.func117 (by kernel_rfl) rfl rfl ?_
  intro l ob v hb hob
  unfold body117 at hb
  split at hb
  · rename_i v0
    injection hb with q1 q2; subst q1 q2
    obtain ⟨hk0_0, hob⟩ := hob
    obtain ⟨r, H⟩ := Option.isSome_iff_exists.1 hob
    rw [H, gt_some]
    have hw0 := iK_wk hk0_0
    generalize iA v0 = p0 at H hw0
    refine ⟨[.int .i64 p0], _, (fun E vs F => FR_wk1 hw0.1 F (fun vs F => F)), rfl, rfl, ?_⟩
    rw [Try.ntmps117]
    simp only [List.length_cons, List.length_nil, Nat.reduceAdd, Nat.reduceSub, List.replicate_succ, List.replicate_zero, List.cons_append, List.nil_append]
    unfold F117 at H
    try dsimp only at H
    refine sq ctNo_ok ?_
    simp only [go_sem]
    refine sq ctNo_ok ?_
    simp only [go_sem]
    refine rg ctNo_ok ?_
    simp only [go_sem]
    obtain rfl := Option.some.inj H
    first | rfl | simp only [Bool.and_false, Bool.false_and, Bool.and_true, Bool.true_and] | exact congrArg AV.bool (Eq.symm (by assumption))
  · cases hb
noncomputable def ct98t0 : Ct := tab [(117, pureC body117)]
theorem ct98t0_ok : CtOk Try.prog ct98t0 := tab_cons ok117 <| tab_nil
theorem ct98t0_117 (l : List AV) (h : List ABlk) : ct98t0 117 l h = pureC body117 l h := rfl
noncomputable def F98 (p0 : Int) (p1 : Int) : Option (Int) :=
  (F117 p0).bind fun r1 => (F117 p1).bind fun r3 => bif r1 then (bif r3 then (some 0) else (some (-1))) else (bif r3 then (some 1) else (bif (bLt p0 p1) then (some (-1)) else (bif (bLt p1 p0) then (some 1) else (some 0))))
noncomputable def body98 : List AV -> AR
  | [v0, v1] => .pure (iK .i64 v0 /\ iK .i64 v1 /\ (F98 (iA v0) (iA v1)).isSome = true) (.int .i64 (gt (F98 (iA v0) (iA v1))))
  | _ => .fail
theorem ok98 : FnOk Try.prog 98 (pureC body98) := by
  refine pure_fnM body98 (rs := [.tmp 4]) Try.func98 (by kernel_rfl) rfl rfl ?_
  intro l ob v hb hob
  unfold body98 at hb
  split at hb
  · rename_i v0 v1
    injection hb with q1 q2; subst q1 q2
    obtain ⟨hk0_0, hk1_0, hob⟩ := hob
    obtain ⟨r, H⟩ := Option.isSome_iff_exists.1 hob
    rw [H, gt_some]
    have hw0 := iK_wk hk0_0
    have hw1 := iK_wk hk1_0
    generalize iA v0 = p0 at H hw0
    generalize iA v1 = p1 at H hw1
    refine ⟨[.int .i64 p0, .int .i64 p1], _, (fun E vs F => FR_wk1 hw0.1 F (fun vs F => FR_wk1 hw1.1 F (fun vs F => F))), rfl, rfl, ?_⟩
    rw [Try.ntmps98]
    simp only [List.length_cons, List.length_nil, Nat.reduceAdd, Nat.reduceSub, List.replicate_succ, List.replicate_zero, List.cons_append, List.nil_append]
    unfold F98 at H
    try dsimp only at H
    refine sq ctNo_ok ?_
    simp only [go_sem]
    refine seqM ?_
    obtain ⟨r1, e2, H⟩ := bsi H
    refine rg ct98t0_ok ?_
    simp only [go_sem, ct98t0_117, body117, e2]
    repeat ((with_reducible refine And.intro ?_ ?_); focus exact an0)
    refine seqM ?_
    obtain ⟨r3, e4, H⟩ := bsi H
    refine rg ct98t0_ok ?_
    simp only [go_sem, ct98t0_117, body117, e4]
    repeat ((with_reducible refine And.intro ?_ ?_); focus exact an0)
    refine seqM ?_
    refine sq ctNo_ok ?_
    simp only [go_sem]
    refine condM rfl trivial (fun hc => ?_) (fun hc => ?_)
    · have hk5 : (r1) = true := by simpa using hc
      replace H := cond_t hc H
      refine seqM ?_
      refine sq ctNo_ok ?_
      simp only [go_sem]
      refine condM rfl trivial (fun hc => ?_) (fun hc => ?_)
      · have hk6 : (r3) = true := by simpa using hc
        replace H := cond_t hc H
        refine sq ctNo_ok ?_
        simp only [go_sem]
        refine rg ctNo_ok ?_
        simp only [go_sem]
        obtain rfl := Option.some.inj H
        first | rfl | simp only [Bool.and_false, Bool.false_and, Bool.and_true, Bool.true_and] | exact congrArg AV.bool (Eq.symm (by assumption))
      have hk6 : (r3) = false := by simpa using hc
      replace H := cond_f hc H
      refine rg ctNo_ok ?_
      simp only [go_sem]
      refine sq ctNo_ok ?_
      simp only [go_sem]
      refine rg ctNo_ok ?_
      simp only [go_sem]
      obtain rfl := Option.some.inj H
      first | rfl | simp only [Bool.and_false, Bool.false_and, Bool.and_true, Bool.true_and] | exact congrArg AV.bool (Eq.symm (by assumption))
    have hk5 : (r1) = false := by simpa using hc
    replace H := cond_f hc H
    refine rg ctNo_ok ?_
    simp only [go_sem]
    refine seqM ?_
    refine sq ctNo_ok ?_
    simp only [go_sem]
    refine condM rfl trivial (fun hc => ?_) (fun hc => ?_)
    · have hk7 : (r3) = true := by simpa using hc
      replace H := cond_t hc H
      refine sq ctNo_ok ?_
      simp only [go_sem]
      refine rg ctNo_ok ?_
      simp only [go_sem]
      obtain rfl := Option.some.inj H
      first | rfl | simp only [Bool.and_false, Bool.false_and, Bool.and_true, Bool.true_and] | exact congrArg AV.bool (Eq.symm (by assumption))
    have hk7 : (r3) = false := by simpa using hc
    replace H := cond_f hc H
    refine rg ctNo_ok ?_
    simp only [go_sem]
    refine seqM ?_
    refine sq ctNo_ok ?_
    simp only [go_sem]
    refine condM rfl trivial (fun hc => ?_) (fun hc => ?_)
    · have hk8 : (bLt p0 p1) = true := by simpa using hc
      replace H := cond_t hc H
      refine sq ctNo_ok ?_
      simp only [go_sem]
      refine rg ctNo_ok ?_
      simp only [go_sem]
      obtain rfl := Option.some.inj H
      first | rfl | simp only [Bool.and_false, Bool.false_and, Bool.and_true, Bool.true_and] | exact congrArg AV.bool (Eq.symm (by assumption))
    have hk8 : (bLt p0 p1) = false := by simpa using hc
    replace H := cond_f hc H
    refine rg ctNo_ok ?_
    simp only [go_sem]
    refine seqM ?_
    refine sq ctNo_ok ?_
    simp only [go_sem]
    refine condM rfl trivial (fun hc => ?_) (fun hc => ?_)
    · have hk9 : (bLt p1 p0) = true := by simpa using hc
      replace H := cond_t hc H
      refine sq ctNo_ok ?_
      simp only [go_sem]
      refine rg ctNo_ok ?_
      simp only [go_sem]
      obtain rfl := Option.some.inj H
      first | rfl | simp only [Bool.and_false, Bool.false_and, Bool.and_true, Bool.true_and] | exact congrArg AV.bool (Eq.symm (by assumption))
    have hk9 : (bLt p1 p0) = false := by simpa using hc
    replace H := cond_f hc H
    refine rg ctNo_ok ?_
    simp only [go_sem]
    refine sq ctNo_ok ?_
    simp only [go_sem]
    refine rg ctNo_ok ?_
    simp only [go_sem]
    obtain rfl := Option.some.inj H
    first | rfl | simp only [Bool.and_false, Bool.false_and, Bool.and_true, Bool.true_and] | exact congrArg AV.bool (Eq.symm (by assumption))
  · cases hb
noncomputable def ct91t0 : Ct := tab [(98, pureC body98)]
theorem ct91t0_ok : CtOk Try.prog ct91t0 := tab_cons ok98 <| tab_nil
theorem ct91t0_98 (l : List AV) (h : List ABlk) : ct91t0 98 l h = pureC body98 l h := rfl
noncomputable def F91 (p0 : TRegulateChannel) (p1 : Int) : Option (Int) :=
  (F98 p0.Number p1).bind fun r1 => some r1
noncomputable def body91 : List AV -> AR
  | [v0, v1] => .pure (aK 3 k_TRegulateChannel v0 /\ iK .i64 v1 /\ (F91 (g_TRegulateChannel (aL v0)) (iA v1)).isSome = true) (.int .i64 (gt (F91 (g_TRegulateChannel (aL v0)) (iA v1))))
  | _ => .fail
theorem ok91 : FnOk Try.prog 91 (pureC body91) := by
  refine pure_fnM body91 (rs := [.tmp 4]) Try.func91 (by kernel_rfl) rfl rfl ?_
  intro l ob v hb hob
  unfold body91 at hb
  split at hb
  · rename_i v0 v1
    injection hb with q1 q2; subst q1 q2
    obtain ⟨hk0_0, hk1_0, hob⟩ := hob
    obtain ⟨r, H⟩ := Option.isSome_iff_exists.1 hob
    rw [H, gt_some]
    have hw0 := wA_TRegulateChannel hk0_0
    have hw1 := iK_wk hk1_0
    generalize g_TRegulateChannel (aL v0) = p0 at H hw0
    generalize iA v1 = p1 at H hw1
    refine ⟨[.agg [.int .i64 p0.Number, .int .i64 p0.Max, .bool p0.Radar], .int .i64 p1], _, (fun E vs F => FR_wk1 hw0.1 F (fun vs F => FR_wk1 hw1.1 F (fun vs F => F))), rfl, rfl, ?_⟩
    rw [Try.ntmps91]
    simp only [List.length_cons, List.length_nil, Nat.reduceAdd, Nat.reduceSub, List.replicate_succ, List.replicate_zero, List.cons_append, List.nil_append]
    unfold F91 at H
    try dsimp only at H
    refine sq ctNo_ok ?_
    simp only [go_sem]
    refine seqM ?_
    obtain ⟨r1, e2, H⟩ := bsi H
    refine rg ct91t0_ok ?_
    simp only [go_sem, Nat.reduceLeDiff, Nat.reduceLT, Nat.reduceAdd, ct91t0_98, body98, e2]
    repeat ((with_reducible refine And.intro ?_ ?_); focus exact an0)
    refine rg ctNo_ok ?_
    simp only [go_sem]
    obtain rfl := Option.some.inj H
    first | rfl | simp only [Bool.and_false, Bool.false_and, Bool.and_true, Bool.true_and] | exact congrArg AV.bool (Eq.symm (by assumption))
  · cases hb
noncomputable def ct90_0t0 : Ct := tab [(91, pureC body91)]
theorem ct90_0t0_ok : CtOk Try.prog ct90_0t0 := tab_cons ok91 <| tab_nil
theorem ct90_0t0_91 (l : List AV) (h : List ABlk) : ct90_0t0 91 l h = pureC body91 l h := rfl
noncomputable def F90_0_L1 (p0 : List TRegulateChannel) (p1 : Int) (v1_1 : Int) (v1_2 : Int) : Option (Lp (Int × Int) ((Int) ⊕ (Int × Bool))) :=
  bif (bLt v1_1 v1_2) then (need (inb (wr .i64 (shrI .u64 (wr .u64 (wr .i64 (v1_1 + v1_2))) 1)) p0.length) <| (F91 (gd p0 ((wr .i64 (shrI .u64 (wr .u64 (wr .i64 (v1_1 + v1_2))) 1)).toNat)) p1).bind fun r3 => bif (bLt r3 0) then (some (.next (wr .i64 ((wr .i64 (shrI .u64 (wr .u64 (wr .i64 (v1_1 + v1_2))) 1)) + 1), v1_2))) else (some (.next (v1_1, wr .i64 (shrI .u64 (wr .u64 (wr .i64 (v1_1 + v1_2))) 1))))) else (some (.done (.inl v1_1)))
noncomputable def F90_0 (p0 : List TRegulateChannel) (p1 : Int) : Option (Int × Bool) :=
  lp (loopD (fun s => F90_0_L1 p0 p1 s.1 s.2) (0, (p0.length : Nat))) (fun w1_3 => need (bif (bLt w1_3 (p0.length : Nat)) then inb w1_3 p0.length else true) <| need (bif (bLt w1_3 (p0.length : Nat)) then ((F91 (gd p0 w1_3.toNat) p1).isSome) else true) <| some (w1_3, ((bLt w1_3 (p0.length : Nat)) && (bEq (gt (F91 (gd p0 w1_3.toNat) p1)) 0)))) some
noncomputable def body90_0 : List AV -> AR
  | [v0, v1, .fn 91 []] => .pure (lK k_TRegulateChannel 3 v0 /\ iK .i64 v1 /\ (F90_0 (lA g_TRegulateChannel v0) (iA v1)).isSome = true) (.tup [.int .i64 ((gt (F90_0 (lA g_TRegulateChannel v0) (iA v1))).1), .bool ((gt (F90_0 (lA g_TRegulateChannel v0) (iA v1))).2)])
  | _ => .fail
theorem ok90_0 : FnOk Try.prog 90 (pureC body90_0) := by
  refine pure_fnM body90_0 (rs := [.tmp 6, .tmp 7]) Try.func90 (by kernel_rfl) rfl rfl ?_
  intro l ob v hb hob
  unfold body90_0 at hb
  split at hb
  · rename_i v0 v1
    injection hb with q1 q2; subst q1 q2
    obtain ⟨hk0_0, hk1_0, hob⟩ := hob
    obtain ⟨r, H⟩ := Option.isSome_iff_exists.1 hob
    rw [H, gt_some]
    have hw0 := lK_wk (fun r h => w_TRegulateChannel h) hk0_0
    have hw1 := iK_wk hk1_0
    generalize lA g_TRegulateChannel v0 = p0 at H hw0
    generalize iA v1 = p1 at H hw1
    refine ⟨[.ro 3 p0.length false (enR c_TRegulateChannel p0), .int .i64 p1, .fn 91 []], _, (fun E vs F => FR_wk1 hw0.1 F (fun vs F => FR_wk1 hw1.1 F (fun vs F => FR_wk1 (fn_wk LW_nil) F (fun vs F => F)))), rfl, rfl, ?_⟩
    rw [Try.ntmps90]
    simp only [List.length_cons, List.length_nil, Nat.reduceAdd, Nat.reduceSub, List.replicate_succ, List.replicate_zero, List.cons_append, List.nil_append]
    unfold F90_0 at H
    try dsimp only at H
    refine sq ctNo_ok ?_
    simp only [go_sem]
    refine sq ctNo_ok ?_
    simp only [go_sem]
    repeat ((with_reducible refine And.intro ?_ ?_); focus exact an0)
    refine sq ctNo_ok ?_
    simp only [go_sem]
    refine seqM ?_
    refine blkM ?_
    refine loop_den (fun s : Int × Int => (.ro 3 p0.length false (enR c_TRegulateChannel p0) :: .int .i64 p1 :: .fn 91 [] :: tp 5 (.int .i64 (p0.length : Nat) :: .int .i64 s.1 :: .int .i64 s.2 :: tp 38 []))) (fun s => []) (fun e : Int => (.ro 3 p0.length false (enR c_TRegulateChannel p0) :: .int .i64 p1 :: .fn 91 [] :: tp 5 (.int .i64 (p0.length : Nat) :: .int .i64 e :: tp 39 []))) (fun e => []) H ?_ (fun s o H hn1_1 hn2_1 => ?_) (fun w1_3 H => ?_)
    · refine SubF_of ⟨[], ?_, ?_, by rfl, by rfl⟩
      · simp [CvL, Cv, tp]
      · trivial
    · obtain ⟨v1_1, v1_2⟩ := s
      unfold F90_0_L1 at H
      try dsimp only at H ⊢
      try simp only [tp]
      refine seqM ?_
      refine sq ctNo_ok ?_
      simp only [go_sem]
      refine condM' rfl trivial (fun hc => ?_) (fun hc => ?_)
      · have hk1 : (bLt v1_1 v1_2) = false := by simpa using hc
        replace H := cond_f hc H
        refine rg ctNo_ok ?_
        simp only [go_sem]
        refine ⟨_, (Option.some.inj H).symm, ?_⟩
        refine SubF_of ⟨[], ?_, ?_, by rfl, by rfl⟩
        · simp [CvL, Cv]
        · trivial
      have hk1 : (bLt v1_1 v1_2) = true := by simpa using hc
      replace H := cond_t hc H
      refine rg ctNo_ok ?_
      simp only [go_sem]
      refine blkM ?_
      refine sq ctNo_ok ?_
      simp only [go_sem]
      repeat ((with_reducible refine And.intro ?_ ?_); focus exact an4)
      refine seqM ?_
      obtain ⟨f2, H⟩ := need_some.1 H
      replace f2 := inb_iff.1 f2
      obtain ⟨r3, e4, H⟩ := bsi H
      refine rg ct90_0t0_ok ?_
      simp only [go_sem, Nat.reduceLT, Nat.reduceAdd, ct90_0t0_91, body91, f2, e4]
      repeat ((with_reducible refine And.intro ?_ ?_); focus exact an0)
      refine condM rfl trivial (fun hc => ?_) (fun hc => ?_)
      · have hk5 : (bLt r3 0) = true := by simpa using hc
        replace H := cond_t hc H
        refine rg ctNo_ok ?_
        simp only [go_sem]
        refine ⟨_, (Option.some.inj H).symm, ?_⟩
        refine SubF_of ⟨[], ?_, ?_, by rfl, by rfl⟩
        · simp [CvL, Cv]
        · trivial
      have hk5 : (bLt r3 0) = false := by simpa using hc
      replace H := cond_f hc H
      refine rg ctNo_ok ?_
      simp only [go_sem]
      refine ⟨_, (Option.some.inj H).symm, ?_⟩
      refine SubF_of ⟨[], ?_, ?_, by rfl, by rfl⟩
      · simp [CvL, Cv]
      · trivial
    · try dsimp only at H ⊢
      try simp only [tp]
      try simp only [m_normal]
      refine seqM ?_
      obtain ⟨f6, H⟩ := need_some.1 H
      replace f6 := g_iff.1 f6
      replace f6 := fun g => inb_iff.1 (f6 g)
      obtain ⟨f7, H⟩ := need_some.1 H
      replace f7 := g_iff.1 f7
      refine rg ct90_0t0_ok ?_
      simp only [go_sem, Nat.reduceLT, Nat.reduceAdd, ct90_0t0_91, body91]
      repeat ((with_reducible refine And.intro ?_ ?_); focus (first | (with_reducible trivial) | omega | exact f6 | exact f7 | (intro g; have q := f6 (by first | exact g | (rw [g]; rfl) | simpa using g); first | exact q | exact ⟨q.1, q.2.1⟩ | exact q.2.2 | omega | exact ⟨g, q⟩ | exact ⟨trivial, q⟩ | exact ⟨g, q.1, q.2.1⟩ | exact ⟨g, q.2.2⟩) | (intro g; have q := f7 (by first | exact g | (rw [g]; rfl) | simpa using g); first | exact q | exact ⟨q.1, q.2.1⟩ | exact q.2.2 | omega | exact ⟨g, q⟩ | exact ⟨trivial, q⟩ | exact ⟨g, q.1, q.2.1⟩ | exact ⟨g, q.2.2⟩) | (intro g; (try have q0 := f6 (by first | exact g | (rw [g]; rfl) | simpa using g)); (try have q1 := f7 (by first | exact g | (rw [g]; rfl) | simpa using g)); and_intros <;> first | (with_reducible trivial) | assumption | exact nfc | (intro g2; rw [g, g2]; rfl) | (intro g2; assumption) | (simp only [g, Bool.true_and, Bool.and_true, Bool.not_false, Bool.not_true]; assumption) | grind) | (and_intros <;> first | (with_reducible trivial) | omega | assumption | exact nfc | first | exact rfl | exact trivial | exact fitI | exact .inr rfl | exact .inl rfl | exact fun x hx => absurd hx (by omega)) | grind))
      refine rg ctNo_ok ?_
      simp only [go_sem]
      obtain rfl := Option.some.inj H
      first | rfl | simp only [Bool.and_false, Bool.false_and, Bool.and_true, Bool.true_and] | exact congrArg AV.bool (Eq.symm (by assumption))
  · cases hb
noncomputable def ct61_0t0 : Ct := tab [(90, pureC body90_0)]
theorem ct61_0t0_ok : CtOk Try.prog ct61_0t0 := tab_cons ok90_0 <| tab_nil
theorem ct61_0t0_90 (l : List AV) (h : List ABlk) : ct61_0t0 90 l h = pureC body90_0 l h := rfl
noncomputable def F61_0 (p0_0 : List TRegulateChannel) (p1 : Int) : Option (Bool) :=
  (F90_0 p0_0 p1).bind fun r1 => some r1.2
noncomputable def body61_0 : List AV -> AR
  | [v0, v1] => .pure (rM 10 v0 /\ lK k_TRegulateChannel 3 (rG v0 0) /\ iK .i64 v1 /\ (F61_0 (lA g_TRegulateChannel (rG v0 0)) (iA v1)).isSome = true) (.bool (gt (F61_0 (lA g_TRegulateChannel (rG v0 0)) (iA v1))))
  | _ => .fail
theorem ok61_0 : FnOk Try.prog 61 (pureC body61_0) := by
  refine pure_fnM body61_0 (rs := [.tmp 4]) Try.func61 (by kernel_rfl) rfl rfl ?_
  intro l ob v hb hob
  unfold body61_0 at hb
  split at hb
  · rename_i v0 v1
    injection hb with q1 q2; subst q1 q2
    obtain ⟨hk0_0, hk0_1, hk1_0, hob⟩ := hob
    obtain ⟨r, H⟩ := Option.isSome_iff_exists.1 hob
    rw [H, gt_some]
    have hw0 := (rM_wk (cells := [AV.ro 3 (lA g_TRegulateChannel (rG v0 0)).length false (enR c_TRegulateChannel (lA g_TRegulateChannel (rG v0 0))), AV.top, AV.top, AV.top, AV.top, AV.top, AV.top, AV.top, AV.top, AV.top]) hk0_0 (fun y hy => match y, hy with | 0, _ => lK_wk (fun r h => w_TRegulateChannel h) hk0_1 | 1, _ => top_wk | 2, _ => top_wk | 3, _ => top_wk | 4, _ => top_wk | 5, _ => top_wk | 6, _ => top_wk | 7, _ => top_wk | 8, _ => top_wk | 9, _ => top_wk | y + 10, hy => absurd hy (by omega)))
    have hw1 := iK_wk hk1_0
    generalize lA g_TRegulateChannel (rG v0 0) = p0_0 at H hw0
    generalize iA v1 = p1 at H hw1
    refine ⟨[.rptr 10 1 0 0 (fun _ y => getL [.ro 3 p0_0.length false (enR c_TRegulateChannel p0_0), .top, .top, .top, .top, .top, .top, .top, .top, .top] y), .int .i64 p1], _, (fun E vs F => FR_wk1 hw0.1 F (fun vs F => FR_wk1 hw1.1 F (fun vs F => F))), rfl, rfl, ?_⟩
    rw [Try.ntmps61]
    simp only [List.length_cons, List.length_nil, Nat.reduceAdd, Nat.reduceSub, List.replicate_succ, List.replicate_zero, List.cons_append, List.nil_append]
    unfold F61_0 at H
    try dsimp only at H
    refine sq ctNo_ok ?_
    simp only [go_sem]
    refine seqM ?_
    obtain ⟨r1, e2, H⟩ := bsi H
    refine rg ct61_0t0_ok ?_
    simp only [go_sem, Nat.reduceLeDiff, Nat.reduceLT, Nat.reduceAdd, ct61_0t0_90, body90_0, e2]
    repeat ((with_reducible refine And.intro ?_ ?_); focus exact an3)
    refine sq ctNo_ok ?_
    simp only [go_sem]
    refine rg ctNo_ok ?_
    simp only [go_sem]
    obtain rfl := Option.some.inj H
    first | rfl | simp only [Bool.and_false, Bool.false_and, Bool.and_true, Bool.true_and] | exact congrArg AV.bool (Eq.symm (by assumption))
  · cases hb
noncomputable def ct25t0 : Ct := tab [(58, edC body58)]
theorem ct25t0_ok : CtOk Try.prog ct25t0 := tab_cons ok58 <| tab_nil
theorem ct25t0_58 (l : List AV) (h : List ABlk) : ct25t0 58 l h = edC body58 l h := rfl
noncomputable def ct25t1 : Ct := tab [(59, pureC body59)]
theorem ct25t1_ok : CtOk Try.prog ct25t1 := tab_cons ok59 <| tab_nil
theorem ct25t1_59 (l : List AV) (h : List ABlk) : ct25t1 59 l h = pureC body59 l h := rfl
noncomputable def ct25t2 : Ct := tab [(60, pureC body60)]
theorem ct25t2_ok : CtOk Try.prog ct25t2 := tab_cons ok60 <| tab_nil
theorem ct25t2_60 (l : List AV) (h : List ABlk) : ct25t2 60 l h = pureC body60 l h := rfl
noncomputable def ct25t3 : Ct := tab [(61, pureC body61_0)]
theorem ct25t3_ok : CtOk Try.prog ct25t3 := tab_cons ok61_0 <| tab_nil
theorem ct25t3_61 (l : List AV) (h : List ABlk) : ct25t3 61 l h = pureC body61_0 l h := rfl
noncomputable def F25 (p0 : List TRegulateChannel) (p1 : Int) (p2 : Bool) (p3 : Int) : Option (TRegulate × Int) :=
  (F58 p0).bind fun r1 => (F59 p0).bind fun r3 => bif (!r3) then (some ((TRegulate.mk [] 0 false 0 false false 0 0 [] []), 8)) else ((F60 p3).bind fun r6 => bif r6 then (some ((TRegulate.mk [] 0 false 0 false false 0 0 [] []), 2)) else ((F61_0 r1 p1).bind fun r9 => bif (!r9) then (some ((TRegulate.mk [] 0 false 0 false false 0 0 [] []), 6)) else (bif (!p2) then (some ((TRegulate.mk r1 p1 p2 p3 false false 0 0 [] []), 0)) else (some ((TRegulate.mk r1 p1 p2 0 false false 0 0 [] []), 0)))))
noncomputable def body25 : List AV -> List ABlk -> ED
  | [v0, v1, v2, v3], h => .ed [] (lK k_TRegulateChannel 3 (roD (deadL h []) v0) /\ roDOb (deadL h []) v0 /\ iK .i64 (roD (deadL h []) v1) /\ roDOb (deadL h []) v1 /\ bK (roD (deadL h []) v2) /\ roDOb (deadL h []) v2 /\ iK .i64 (roD (deadL h []) v3) /\ roDOb (deadL h []) v3 /\ (F25 (lA g_TRegulateChannel (roD (deadL h []) v0)) (iA (roD (deadL h []) v1)) (bA (roD (deadL h []) v2)) (iA (roD (deadL h []) v3))).isSome = true) (.tup [.agg [.sl 0 3 0 ((((gt (F25 (lA g_TRegulateChannel (roD (deadL h []) v0)) (iA (roD (deadL h []) v1)) (bA (roD (deadL h []) v2)) (iA (roD (deadL h []) v3)))).1).Table).length) false, .int .i64 (((gt (F25 (lA g_TRegulateChannel (roD (deadL h []) v0)) (iA (roD (deadL h []) v1)) (bA (roD (deadL h []) v2)) (iA (roD (deadL h []) v3)))).1).Channel), .bool (((gt (F25 (lA g_TRegulateChannel (roD (deadL h []) v0)) (iA (roD (deadL h []) v1)) (bA (roD (deadL h []) v2)) (iA (roD (deadL h []) v3)))).1).Lead), .int .i64 (((gt (F25 (lA g_TRegulateChannel (roD (deadL h []) v0)) (iA (roD (deadL h []) v1)) (bA (roD (deadL h []) v2)) (iA (roD (deadL h []) v3)))).1).Heard), .bool (((gt (F25 (lA g_TRegulateChannel (roD (deadL h []) v0)) (iA (roD (deadL h []) v1)) (bA (roD (deadL h []) v2)) (iA (roD (deadL h []) v3)))).1).Stopped), .bool (((gt (F25 (lA g_TRegulateChannel (roD (deadL h []) v0)) (iA (roD (deadL h []) v1)) (bA (roD (deadL h []) v2)) (iA (roD (deadL h []) v3)))).1).Moving), .int .i64 (((gt (F25 (lA g_TRegulateChannel (roD (deadL h []) v0)) (iA (roD (deadL h []) v1)) (bA (roD (deadL h []) v2)) (iA (roD (deadL h []) v3)))).1).To), .int .i64 (((gt (F25 (lA g_TRegulateChannel (roD (deadL h []) v0)) (iA (roD (deadL h []) v1)) (bA (roD (deadL h []) v2)) (iA (roD (deadL h []) v3)))).1).At), .sl 1 2 0 ((((gt (F25 (lA g_TRegulateChannel (roD (deadL h []) v0)) (iA (roD (deadL h []) v1)) (bA (roD (deadL h []) v2)) (iA (roD (deadL h []) v3)))).1).Blocked).length) false, .sl 2 1 0 ((((gt (F25 (lA g_TRegulateChannel (roD (deadL h []) v0)) (iA (roD (deadL h []) v1)) (bA (roD (deadL h []) v2)) (iA (roD (deadL h []) v3)))).1).Clear).length) false], .int .i64 ((gt (F25 (lA g_TRegulateChannel (roD (deadL h []) v0)) (iA (roD (deadL h []) v1)) (bA (roD (deadL h []) v2)) (iA (roD (deadL h []) v3)))).2)]) [.row 45 3 ((((gt (F25 (lA g_TRegulateChannel (roD (deadL h []) v0)) (iA (roD (deadL h []) v1)) (bA (roD (deadL h []) v2)) (iA (roD (deadL h []) v3)))).1).Table).length) (enR c_TRegulateChannel (((gt (F25 (lA g_TRegulateChannel (roD (deadL h []) v0)) (iA (roD (deadL h []) v1)) (bA (roD (deadL h []) v2)) (iA (roD (deadL h []) v3)))).1).Table)), .row 79 2 ((((gt (F25 (lA g_TRegulateChannel (roD (deadL h []) v0)) (iA (roD (deadL h []) v1)) (bA (roD (deadL h []) v2)) (iA (roD (deadL h []) v3)))).1).Blocked).length) (enR c_TRegulateBlock (((gt (F25 (lA g_TRegulateChannel (roD (deadL h []) v0)) (iA (roD (deadL h []) v1)) (bA (roD (deadL h []) v2)) (iA (roD (deadL h []) v3)))).1).Blocked)), .row 3 1 ((((gt (F25 (lA g_TRegulateChannel (roD (deadL h []) v0)) (iA (roD (deadL h []) v1)) (bA (roD (deadL h []) v2)) (iA (roD (deadL h []) v3)))).1).Clear).length) (enR c_i64 (((gt (F25 (lA g_TRegulateChannel (roD (deadL h []) v0)) (iA (roD (deadL h []) v1)) (bA (roD (deadL h []) v2)) (iA (roD (deadL h []) v3)))).1).Clear))]
  | _, _ => .fail
theorem ok25 : FnOk Try.prog 25 (edC body25) := by
  refine edit_fnV body25 (rs := [.cell 8 39, .tmp 9]) Try.func25 (by kernel_rfl) rfl rfl ?_
  intro l h bs ob q0 g0 hb hob
  unfold body25 at hb
  split at hb
  · rename_i v0 v1 v2 v3
    injection hb with q1 q2 q3 q4; subst q1 q2 q3 q4
    obtain ⟨hk0_0, hk0_1, hk1_0, hk1_1, hk2_0, hk2_1, hk3_0, hk3_1, hob⟩ := hob
    obtain ⟨r, H⟩ := Option.isSome_iff_exists.1 hob
    rw [H, gt_some]
    have hw0 := lK_wk (fun r h => w_TRegulateChannel h) hk0_0
    obtain ⟨p0, hp_p0⟩ : ∃ p0, p0 = lA g_TRegulateChannel (roD (deadL h []) v0) := ⟨_, rfl⟩
    rw [← hp_p0] at H hw0
    have hw1 := iK_wk hk1_0
    obtain ⟨p1, hp_p1⟩ : ∃ p1, p1 = iA (roD (deadL h []) v1) := ⟨_, rfl⟩
    rw [← hp_p1] at H hw1
    have hw2 := bK_wk hk2_0
    obtain ⟨p2, hp_p2⟩ : ∃ p2, p2 = bA (roD (deadL h []) v2) := ⟨_, rfl⟩
    rw [← hp_p2] at H hw2
    have hw3 := iK_wk hk3_0
    obtain ⟨p3, hp_p3⟩ : ∃ p3, p3 = iA (roD (deadL h []) v3) := ⟨_, rfl⟩
    rw [← hp_p3] at H hw3
    refine ⟨[.ro 3 p0.length false (enR c_TRegulateChannel p0), .int .i64 p1, .bool p2, .int .i64 p3], [], rfl, ⟨(EW_view hk0_1 hw0), ⟨(EW_view hk1_1 hw1), ⟨(EW_view hk2_1 hw2), ⟨(EW_view hk3_1 hw3), trivial⟩⟩⟩⟩, trivial, trivial, ⟨(nfB_en nr_TRegulateChannel), ⟨(nfB_en nr_TRegulateBlock), ⟨(nfB_en nr_i64), trivial⟩⟩⟩, ⟨noroB_en, ⟨noroB_en, ⟨noroB_en, trivial⟩⟩⟩, (by first | (simp only [noro, noroL, and_self]; done) | (simp only [noro, noroL]; and_intros <;> first | trivial | exact noro_bif (by simp only [noro]) (by simp only [noro]) | (simp only [noro, noroL, and_self]))), ?_⟩
    rw [Try.ntmps25]
    simp only [List.length_cons, List.length_nil, Nat.reduceAdd, Nat.reduceSub, List.replicate_succ, List.replicate_zero, List.cons_append, List.nil_append]
    unfold F25 at H
    try dsimp only at H
    refine sq ctNo_ok ?_
    simp only [go_sem]
    refine seqM ?_
    obtain ⟨r1, e2, H⟩ := bsi H
    refine rg ct25t0_ok ?_
    simp only [go_sem, Nat.reduceLeDiff, Nat.reduceAdd, ct25t0_58, body58, e2]
    repeat ((with_reducible refine And.intro ?_ ?_); focus exact an0)
    refine seqM ?_
    refine blkM ?_
    refine seqM ?_
    obtain ⟨r3, e4, H⟩ := bsi H
    refine rg ct25t1_ok ?_
    simp only [go_sem, ct25t1_59, body59, e4]
    repeat ((with_reducible refine And.intro ?_ ?_); focus exact an0)
    refine condM rfl trivial (fun hc => ?_) (fun hc => ?_)
    · have hk5 : (r3) = false := by simpa using hc
      replace H := cond_t hc H
      refine sq ctNo_ok ?_
      simp only [go_sem, Nat.reduceAdd]
      repeat ((with_reducible refine And.intro ?_ ?_); focus exact an4)
      refine rg ctNo_ok ?_
      simp only [go_sem, Nat.reduceLT, Nat.reduceAdd]
      obtain rfl := Option.some.inj H
      refine RetE_mk [] [none, none, none] ?_ ?_ ?_ ?_ (by rfl) (by rfl)
      · simp only [go_sem]
        try exact at0
      · simp only [go_sem]
        try exact at0
      · simp only [go_sem]
        exact Cv_tup (CvL_cons (by first | (simp [Cv, CvL]; done) | (simp [Cv, CvL, getM, gt_some]; omega)) (CvL_cons (by simp [Cv]) CvL_nil))
      · simp only [go_sem, CvH]
        first | exact ⟨CvB_none, CvB_none, CvB_none⟩ | trivial
    have hk5 : (r3) = true := by simpa using hc
    replace H := cond_f hc H
    refine seqM ?_
    obtain ⟨r6, e7, H⟩ := bsi H
    refine rg ct25t2_ok ?_
    simp only [go_sem, ct25t2_60, body60, e7]
    repeat ((with_reducible refine And.intro ?_ ?_); focus exact an0)
    refine condM rfl trivial (fun hc => ?_) (fun hc => ?_)
    · have hk8 : (r6) = true := by simpa using hc
      replace H := cond_t hc H
      refine sq ctNo_ok ?_
      simp only [go_sem, Nat.reduceAdd]
      repeat ((with_reducible refine And.intro ?_ ?_); focus exact an4)
      refine rg ctNo_ok ?_
      simp only [go_sem, Nat.reduceLT, Nat.reduceAdd]
      obtain rfl := Option.some.inj H
      refine RetE_mk [] [none, none, none] ?_ ?_ ?_ ?_ (by rfl) (by rfl)
      · simp only [go_sem]
        try exact at0
      · simp only [go_sem]
        try exact at0
      · simp only [go_sem]
        exact Cv_tup (CvL_cons (by first | (simp [Cv, CvL]; done) | (simp [Cv, CvL, getM, gt_some]; omega)) (CvL_cons (by simp [Cv]) CvL_nil))
      · simp only [go_sem, CvH]
        first | exact ⟨CvB_none, CvB_none, CvB_none⟩ | trivial
    have hk8 : (r6) = false := by simpa using hc
    replace H := cond_f hc H
    refine seqM ?_
    obtain ⟨r9, e10, H⟩ := bsi H
    refine rg ct25t3_ok ?_
    simp only [go_sem, Nat.reduceLT, Nat.reduceAdd, ct25t3_61, body61_0, e10]
    repeat ((with_reducible refine And.intro ?_ ?_); focus exact an0)
    refine condM rfl trivial (fun hc => ?_) (fun hc => ?_)
    · have hk11 : (r9) = false := by simpa using hc
      replace H := cond_t hc H
      refine sq ctNo_ok ?_
      simp only [go_sem, Nat.reduceAdd]
      repeat ((with_reducible refine And.intro ?_ ?_); focus exact an4)
      refine rg ctNo_ok ?_
      simp only [go_sem, Nat.reduceLT, Nat.reduceAdd]
      obtain rfl := Option.some.inj H
      refine RetE_mk [] [none, none, none] ?_ ?_ ?_ ?_ (by rfl) (by rfl)
      · simp only [go_sem]
        try exact at0
      · simp only [go_sem]
        try exact at0
      · simp only [go_sem]
        exact Cv_tup (CvL_cons (by first | (simp [Cv, CvL]; done) | (simp [Cv, CvL, getM, gt_some]; omega)) (CvL_cons (by simp [Cv]) CvL_nil))
      · simp only [go_sem, CvH]
        first | exact ⟨CvB_none, CvB_none, CvB_none⟩ | trivial
    have hk11 : (r9) = true := by simpa using hc
    replace H := cond_f hc H
    refine rg ctNo_ok ?_
    simp only [go_sem]
    refine seqM ?_
    refine sq ctNo_ok ?_
    simp only [go_sem]
    refine condM' rfl trivial (fun hc => ?_) (fun hc => ?_)
    · have hk12 : (p2) = true := by simpa using hc
      replace H := cond_f hc H
      refine rg ctNo_ok ?_
      simp only [go_sem]
      refine sq ctNo_ok ?_
      simp only [go_sem, Nat.reduceLT, Nat.reduceAdd]
      repeat ((with_reducible refine And.intro ?_ ?_); focus exact an4)
      refine rg ctNo_ok ?_
      simp only [go_sem, Nat.reduceLT, Nat.reduceAdd]
      obtain rfl := Option.some.inj H
      refine RetE_mk [] [some 1, none, none] ?_ ?_ ?_ ?_ (by rfl) (by rfl)
      · simp only [go_sem]
        try exact at0
      · simp only [go_sem]
        try exact at0
      · simp only [go_sem]
        exact Cv_tup (CvL_cons (by first | (simp [Cv, CvL, getM]; done) | (simp [Cv, CvL, getM, gt_some]; omega)) (CvL_cons (by simp [Cv]) CvL_nil))
      · simp only [go_sem, CvH]
        first | exact ⟨CvB_row nr_TRegulateChannel cl (fun _ _ _ _ => rfl), CvB_none, CvB_none⟩ | trivial
    have hk12 : (p2) = false := by simpa using hc
    replace H := cond_t hc H
    refine rg ctNo_ok ?_
    simp only [go_sem, Nat.reduceLeDiff, Nat.reduceAdd]
    repeat ((with_reducible refine And.intro ?_ ?_); focus exact an4)
    refine sq ctNo_ok ?_
    simp only [go_sem, Nat.reduceLT, Nat.reduceAdd]
    repeat ((with_reducible refine And.intro ?_ ?_); focus exact an4)
    refine rg ctNo_ok ?_
    simp only [go_sem, Nat.reduceLT, Nat.reduceAdd]
    obtain rfl := Option.some.inj H
    refine RetE_mk [] [some 1, none, none] ?_ ?_ ?_ ?_ (by rfl) (by rfl)
    · simp only [go_sem]
      try exact at0
    · simp only [go_sem]
      try exact at0
    · simp only [go_sem]
      exact Cv_tup (CvL_cons (by first | (simp [Cv, CvL, getM]; done) | (simp [Cv, CvL, getM, gt_some]; omega)) (CvL_cons (by simp [Cv]) CvL_nil))
    · simp only [go_sem, CvH]
      first | exact ⟨CvB_row nr_TRegulateChannel cl (fun _ _ _ _ => rfl), CvB_none, CvB_none⟩ | trivial
  · cases hb
noncomputable def F74 (p0 : TRegulateBlock) : Option (Int) :=
  some p0.Channel
noncomputable def body74 : List AV -> AR
  | [v0] => .pure (aK 2 k_TRegulateBlock v0 /\ (F74 (g_TRegulateBlock (aL v0))).isSome = true) (.int .i64 (gt (F74 (g_TRegulateBlock (aL v0)))))
  | _ => .fail
theorem ok74 : FnOk Try.prog 74 (pureC body74) := by
  refine pure_fnM body74 (rs := [.tmp 2]) Try.func74 (by kernel_rfl) rfl rfl ?_
  intro l ob v hb hob
  unfold body74 at hb
  split at hb
  · rename_i v0
    injection hb with q1 q2; subst q1 q2
    obtain ⟨hk0_0, hob⟩ := hob
    obtain ⟨r, H⟩ := Option.isSome_iff_exists.1 hob
    rw [H, gt_some]
    have hw0 := wA_TRegulateBlock hk0_0
    generalize g_TRegulateBlock (aL v0) = p0 at H hw0
    refine ⟨[.agg [.int .i64 p0.Channel, .int .i64 p0.Until]], _, (fun E vs F => FR_wk1 hw0.1 F (fun vs F => F)), rfl, rfl, ?_⟩
    rw [Try.ntmps74]
    simp only [List.length_cons, List.length_nil, Nat.reduceAdd, Nat.reduceSub, List.replicate_succ, List.replicate_zero, List.cons_append, List.nil_append]
    unfold F74 at H
    try dsimp only at H
    refine sq ctNo_ok ?_
    simp only [go_sem]
    refine sq ctNo_ok ?_
    simp only [go_sem, Nat.reduceLeDiff, Nat.reduceLT, Nat.reduceAdd]
    repeat ((with_reducible refine And.intro ?_ ?_); focus exact an4)
    refine rg ctNo_ok ?_
    simp only [go_sem]
    obtain rfl := Option.some.inj H
    first | rfl | simp only [Bool.and_false, Bool.false_and, Bool.and_true, Bool.true_and] | exact congrArg AV.bool (Eq.symm (by assumption))
  · cases hb
noncomputable def ct73_0t0 : Ct := tab [(74, pureC body74)]
theorem ct73_0t0_ok : CtOk Try.prog ct73_0t0 := tab_cons ok74 <| tab_nil
theorem ct73_0t0_74 (l : List AV) (h : List ABlk) : ct73_0t0 74 l h = pureC body74 l h := rfl
noncomputable def F73_0_L1 (p0 : List TRegulateBlock) (v1_1 : Int) : Option (Lp (Int) ((Unit) ⊕ (Bool))) :=
  bif (bLt v1_1 (p0.length : Nat)) then (need (inb v1_1 p0.length) <| (F74 (gd p0 v1_1.toNat)).bind fun r3 => need (inb (wr .i64 (v1_1 - 1)) p0.length) <| (F74 (gd p0 ((wr .i64 (v1_1 - 1)).toNat))).bind fun r6 => bif (bLe r3 r6) then (some (.done (.inr false))) else (some (.next (wr .i64 (v1_1 + 1))))) else (some (.done (.inl ())))
noncomputable def F73_0 (p0 : List TRegulateBlock) : Option (Bool) :=
  lp (loopD (fun s => F73_0_L1 p0 s) 1) (fun _ => some true) some
noncomputable def body73_0 : List AV -> AR
  | [v0, .fn 74 []] => .pure (lK k_TRegulateBlock 2 v0 /\ (F73_0 (lA g_TRegulateBlock v0)).isSome = true) (.bool (gt (F73_0 (lA g_TRegulateBlock v0))))
  | _ => .fail
theorem ok73_0 : FnOk Try.prog 73 (pureC body73_0) := by
  refine pure_fnM body73_0 (rs := [.tmp 4]) Try.func73 (by kernel_rfl) rfl rfl ?_
  intro l ob v hb hob
  unfold body73_0 at hb
  split at hb
  · rename_i v0
    injection hb with q1 q2; subst q1 q2
    obtain ⟨hk0_0, hob⟩ := hob
    obtain ⟨r, H⟩ := Option.isSome_iff_exists.1 hob
    rw [H, gt_some]
    have hw0 := lK_wk (fun r h => w_TRegulateBlock h) hk0_0
    generalize lA g_TRegulateBlock v0 = p0 at H hw0
    refine ⟨[.ro 2 p0.length false (enR c_TRegulateBlock p0), .fn 74 []], _, (fun E vs F => FR_wk1 hw0.1 F (fun vs F => FR_wk1 (fn_wk LW_nil) F (fun vs F => F))), rfl, rfl, ?_⟩
    rw [Try.ntmps73]
    simp only [List.length_cons, List.length_nil, Nat.reduceAdd, Nat.reduceSub, List.replicate_succ, List.replicate_zero, List.cons_append, List.nil_append]
    unfold F73_0 at H
    try dsimp only at H
    refine sq ctNo_ok ?_
    simp only [go_sem]
    refine seqM ?_
    refine sq ctNo_ok ?_
    simp only [go_sem]
    refine blkM ?_
    refine loop_den (fun s : Int => (.ro 2 p0.length false (enR c_TRegulateBlock p0) :: .fn 74 [] :: .top :: .top :: .top :: .int .i64 s :: tp 20 [])) (fun s => []) (fun e : Unit => (tp 26 [])) (fun e => []) H ?_ (fun v1_1 o H hn1_1 hn2_1 => ?_) (fun e H => ?_)
    · refine SubF_of ⟨[], ?_, ?_, by rfl, by rfl⟩
      · simp [CvL, Cv, tp]
      · trivial
    · unfold F73_0_L1 at H
      try dsimp only at H ⊢
      try simp only [tp]
      refine seqM ?_
      refine sq ctNo_ok ?_
      simp only [go_sem]
      repeat ((with_reducible refine And.intro ?_ ?_); focus exact an0)
      refine condM' rfl trivial (fun hc => ?_) (fun hc => ?_)
      · have hk1 : (bLt v1_1 (p0.length : Nat)) = false := by simpa using hc
        replace H := cond_f hc H
        refine rg ctNo_ok ?_
        simp only [go_sem]
        refine ⟨_, (Option.some.inj H).symm, ?_⟩
        refine SubF_of ⟨[], ?_, ?_, by rfl, by rfl⟩
        · simp [CvL, Cv]
        · trivial
      have hk1 : (bLt v1_1 (p0.length : Nat)) = true := by simpa using hc
      replace H := cond_t hc H
      refine rg ctNo_ok ?_
      simp only [go_sem]
      refine seqM ?_
      refine blkM ?_
      refine seqM ?_
      obtain ⟨f2, H⟩ := need_some.1 H
      replace f2 := inb_iff.1 f2
      obtain ⟨r3, e4, H⟩ := bsi H
      obtain ⟨f5, H⟩ := need_some.1 H
      replace f5 := inb_iff.1 f5
      obtain ⟨r6, e7, H⟩ := bsi H
      refine draw_quiet shT_ok ct73_0t0_ok (by kernel_rfl) (by kernel_rfl) ?_
      simp only [go_sem, Nat.reduceLT, Nat.reduceAdd, ct73_0t0_74, body74, f2, e4, f5, e7]
      repeat ((with_reducible refine And.intro ?_ ?_); focus exact an0)
      refine condM rfl trivial (fun hc => ?_) (fun hc => ?_)
      · have hk8 : (bLe r3 r6) = true := by simpa using hc
        replace H := cond_t hc H
        refine sq ctNo_ok ?_
        simp only [go_sem]
        refine rg ctNo_ok ?_
        simp only [go_sem]
        have H := hn2_1 _ (Option.some.inj H).symm
        obtain rfl := Option.some.inj H
        first | rfl | simp only [Bool.and_false, Bool.false_and, Bool.and_true, Bool.true_and] | exact congrArg AV.bool (Eq.symm (by assumption))
      have hk8 : (bLe r3 r6) = false := by simpa using hc
      replace H := cond_f hc H
      refine rg ctNo_ok ?_
      simp only [go_sem]
      refine rg ctNo_ok ?_
      simp only [go_sem]
      refine ⟨_, (Option.some.inj H).symm, ?_⟩
      refine SubF_of ⟨[], ?_, ?_, by rfl, by rfl⟩
      · simp [CvL, Cv]
      · trivial
    · try dsimp only at H ⊢
      try simp only [tp]
      try simp only [m_normal]
      refine sq ctNo_ok ?_
      simp only [go_sem]
      refine rg ctNo_ok ?_
      simp only [go_sem]
      obtain rfl := Option.some.inj H
      first | rfl | simp only [Bool.and_false, Bool.false_and, Bool.and_true, Bool.true_and] | exact congrArg AV.bool (Eq.symm (by assumption))
  · cases hb
noncomputable def F76 (p0 : Int) : Option (Int) :=
  some p0
noncomputable def body76 : List AV -> AR
  | [v0] => .pure (iK .i64 v0 /\ (F76 (iA v0)).isSome = true) (.int .i64 (gt (F76 (iA v0))))
  | _ => .fail
theorem ok76 : FnOk Try.prog 76 (pureC body76) := by
  refine pure_fnM body76 (rs := [.tmp 2]) Try.func76 (by kernel_rfl) rfl rfl ?_
  intro l ob v hb hob
  unfold body76 at hb
  split at hb
  · rename_i v0
    injection hb with q1 q2; subst q1 q2
    obtain ⟨hk0_0, hob⟩ := hob
    obtain ⟨r, H⟩ := Option.isSome_iff_exists.1 hob
    rw [H, gt_some]
    have hw0 := iK_wk hk0_0
    generalize iA v0 = p0 at H hw0
    refine ⟨[.int .i64 p0], _, (fun E vs F => FR_wk1 hw0.1 F (fun vs F => F)), rfl, rfl, ?_⟩
    rw [Try.ntmps76]
    simp only [List.length_cons, List.length_nil, Nat.reduceAdd, Nat.reduceSub, List.replicate_succ, List.replicate_zero, List.cons_append, List.nil_append]
    unfold F76 at H
    try dsimp only at H
    refine sq ctNo_ok ?_
    simp only [go_sem]
    refine sq ctNo_ok ?_
    simp only [go_sem]
    refine rg ctNo_ok ?_
    simp only [go_sem]
    obtain rfl := Option.some.inj H
    first | rfl | simp only [Bool.and_false, Bool.false_and, Bool.and_true, Bool.true_and] | exact congrArg AV.bool (Eq.symm (by assumption))
  · cases hb
noncomputable def ct75_0t0 : Ct := tab [(76, pureC body76)]
theorem ct75_0t0_ok : CtOk Try.prog ct75_0t0 := tab_cons ok76 <| tab_nil
theorem ct75_0t0_76 (l : List AV) (h : List ABlk) : ct75_0t0 76 l h = pureC body76 l h := rfl
noncomputable def F75_0_L1 (p0 : List Int) (v1_1 : Int) : Option (Lp (Int) ((Unit) ⊕ (Bool))) :=
  bif (bLt v1_1 (p0.length : Nat)) then (need (inb v1_1 p0.length) <| (F76 (gd p0 v1_1.toNat)).bind fun r3 => need (inb (wr .i64 (v1_1 - 1)) p0.length) <| (F76 (gd p0 ((wr .i64 (v1_1 - 1)).toNat))).bind fun r6 => bif (bLe r3 r6) then (some (.done (.inr false))) else (some (.next (wr .i64 (v1_1 + 1))))) else (some (.done (.inl ())))
noncomputable def F75_0 (p0 : List Int) : Option (Bool) :=
  lp (loopD (fun s => F75_0_L1 p0 s) 1) (fun _ => some true) some
noncomputable def body75_0 : List AV -> AR
  | [v0, .fn 76 []] => .pure (lK k_i64 1 v0 /\ (F75_0 (lA g_i64 v0)).isSome = true) (.bool (gt (F75_0 (lA g_i64 v0))))
  | _ => .fail
theorem ok75_0 : FnOk Try.prog 75 (pureC body75_0) := by
  refine pure_fnM body75_0 (rs := [.tmp 4]) Try.func75 (by kernel_rfl) rfl rfl ?_
  intro l ob v hb hob
  unfold body75_0 at hb
  split at hb
  · rename_i v0
    injection hb with q1 q2; subst q1 q2
    obtain ⟨hk0_0, hob⟩ := hob
    obtain ⟨r, H⟩ := Option.isSome_iff_exists.1 hob
    rw [H, gt_some]
    have hw0 := lK_wk (fun r h => w_i64 h) hk0_0
    generalize lA g_i64 v0 = p0 at H hw0
    refine ⟨[.ro 1 p0.length false (enR c_i64 p0), .fn 76 []], _, (fun E vs F => FR_wk1 hw0.1 F (fun vs F => FR_wk1 (fn_wk LW_nil) F (fun vs F => F))), rfl, rfl, ?_⟩
    rw [Try.ntmps75]
    simp only [List.length_cons, List.length_nil, Nat.reduceAdd, Nat.reduceSub, List.replicate_succ, List.replicate_zero, List.cons_append, List.nil_append]
    unfold F75_0 at H
    try dsimp only at H
    refine sq ctNo_ok ?_
    simp only [go_sem]
    refine seqM ?_
    refine sq ctNo_ok ?_
    simp only [go_sem]
    refine blkM ?_
    refine loop_den (fun s : Int => (.ro 1 p0.length false (enR c_i64 p0) :: .fn 76 [] :: .top :: .top :: .top :: .int .i64 s :: tp 20 [])) (fun s => []) (fun e : Unit => (tp 26 [])) (fun e => []) H ?_ (fun v1_1 o H hn1_1 hn2_1 => ?_) (fun e H => ?_)
    · refine SubF_of ⟨[], ?_, ?_, by rfl, by rfl⟩
      · simp [CvL, Cv, tp]
      · trivial
    · unfold F75_0_L1 at H
      try dsimp only at H ⊢
      try simp only [tp]
      refine seqM ?_
      refine sq ctNo_ok ?_
      simp only [go_sem]
      repeat ((with_reducible refine And.intro ?_ ?_); focus exact an0)
      refine condM' rfl trivial (fun hc => ?_) (fun hc => ?_)
      · have hk1 : (bLt v1_1 (p0.length : Nat)) = false := by simpa using hc
        replace H := cond_f hc H
        refine rg ctNo_ok ?_
        simp only [go_sem]
        refine ⟨_, (Option.some.inj H).symm, ?_⟩
        refine SubF_of ⟨[], ?_, ?_, by rfl, by rfl⟩
        · simp [CvL, Cv]
        · trivial
      have hk1 : (bLt v1_1 (p0.length : Nat)) = true := by simpa using hc
      replace H := cond_t hc H
      refine rg ctNo_ok ?_
      simp only [go_sem]
      refine seqM ?_
      refine blkM ?_
      refine seqM ?_
      obtain ⟨f2, H⟩ := need_some.1 H
      replace f2 := inb_iff.1 f2
      obtain ⟨r3, e4, H⟩ := bsi H
      obtain ⟨f5, H⟩ := need_some.1 H
      replace f5 := inb_iff.1 f5
      obtain ⟨r6, e7, H⟩ := bsi H
      refine draw_quiet shT_ok ct75_0t0_ok (by kernel_rfl) (by kernel_rfl) ?_
      simp only [go_sem, Nat.reduceLT, ct75_0t0_76, body76, f2, e4, f5, e7]
      repeat ((with_reducible refine And.intro ?_ ?_); focus exact an0)
      refine condM rfl trivial (fun hc => ?_) (fun hc => ?_)
      · have hk8 : (bLe r3 r6) = true := by simpa using hc
        replace H := cond_t hc H
        refine sq ctNo_ok ?_
        simp only [go_sem]
        refine rg ctNo_ok ?_
        simp only [go_sem]
        have H := hn2_1 _ (Option.some.inj H).symm
        obtain rfl := Option.some.inj H
        first | rfl | simp only [Bool.and_false, Bool.false_and, Bool.and_true, Bool.true_and] | exact congrArg AV.bool (Eq.symm (by assumption))
      have hk8 : (bLe r3 r6) = false := by simpa using hc
      replace H := cond_f hc H
      refine rg ctNo_ok ?_
      simp only [go_sem]
      refine rg ctNo_ok ?_
      simp only [go_sem]
      refine ⟨_, (Option.some.inj H).symm, ?_⟩
      refine SubF_of ⟨[], ?_, ?_, by rfl, by rfl⟩
      · simp [CvL, Cv]
      · trivial
    · try dsimp only at H ⊢
      try simp only [tp]
      try simp only [m_normal]
      refine sq ctNo_ok ?_
      simp only [go_sem]
      refine rg ctNo_ok ?_
      simp only [go_sem]
      obtain rfl := Option.some.inj H
      first | rfl | simp only [Bool.and_false, Bool.false_and, Bool.and_true, Bool.true_and] | exact congrArg AV.bool (Eq.symm (by assumption))
  · cases hb
noncomputable def F103_L1 (p0 : List Int) (p1 : Int) (v1_1 : Int) : Option (Lp (Int) ((Unit) ⊕ (Int))) :=
  bif (bLt v1_1 (p0.length : Nat)) then (need (inb v1_1 p0.length) <| bif (bEq p1 (gd p0 v1_1.toNat)) then (some (.done (.inr v1_1))) else (some (.next (wr .i64 (v1_1 + 1))))) else (some (.done (.inl ())))
noncomputable def F103 (p0 : List Int) (p1 : Int) : Option (Int) :=
  lp (loopD (fun s => F103_L1 p0 p1 s) 0) (fun _ => some (-1)) some
noncomputable def body103 : List AV -> AR
  | [v0, v1] => .pure (lK k_i64 1 v0 /\ iK .i64 v1 /\ (F103 (lA g_i64 v0) (iA v1)).isSome = true) (.int .i64 (gt (F103 (lA g_i64 v0) (iA v1))))
  | _ => .fail
theorem ok103 : FnOk Try.prog 103 (pureC body103) := by
  refine pure_fnM body103 (rs := [.tmp 4]) Try.func103 (by kernel_rfl) rfl rfl ?_
  intro l ob v hb hob
  unfold body103 at hb
  split at hb
  · rename_i v0 v1
    injection hb with q1 q2; subst q1 q2
    obtain ⟨hk0_0, hk1_0, hob⟩ := hob
    obtain ⟨r, H⟩ := Option.isSome_iff_exists.1 hob
    rw [H, gt_some]
    have hw0 := lK_wk (fun r h => w_i64 h) hk0_0
    have hw1 := iK_wk hk1_0
    generalize lA g_i64 v0 = p0 at H hw0
    generalize iA v1 = p1 at H hw1
    refine ⟨[.ro 1 p0.length false (enR c_i64 p0), .int .i64 p1], _, (fun E vs F => FR_wk1 hw0.1 F (fun vs F => FR_wk1 hw1.1 F (fun vs F => F))), rfl, rfl, ?_⟩
    rw [Try.ntmps103]
    simp only [List.length_cons, List.length_nil, Nat.reduceAdd, Nat.reduceSub, List.replicate_succ, List.replicate_zero, List.cons_append, List.nil_append]
    unfold F103 at H
    try dsimp only at H
    refine sq ctNo_ok ?_
    simp only [go_sem]
    refine seqM ?_
    refine sq ctNo_ok ?_
    simp only [go_sem]
    repeat ((with_reducible refine And.intro ?_ ?_); focus exact an0)
    refine blkM ?_
    refine loop_den (fun s : Int => (.ro 1 p0.length false (enR c_i64 p0) :: .int .i64 p1 :: tp 5 (.int .i64 (p0.length : Nat) :: .int .i64 s :: tp 10 []))) (fun s => []) (fun e : Unit => (tp 19 [])) (fun e => []) H ?_ (fun v1_1 o H hn1_1 hn2_1 => ?_) (fun e H => ?_)
    · refine SubF_of ⟨[], ?_, ?_, by rfl, by rfl⟩
      · simp [CvL, Cv, tp]
      · trivial
    · unfold F103_L1 at H
      try dsimp only at H ⊢
      try simp only [tp]
      refine sq ctNo_ok ?_
      simp only [go_sem]
      refine seqM ?_
      refine condM' rfl trivial (fun hc => ?_) (fun hc => ?_)
      · have hk1 : (bLt v1_1 (p0.length : Nat)) = false := by simpa using hc
        replace H := cond_f hc H
        refine rg ctNo_ok ?_
        simp only [go_sem]
        refine ⟨_, (Option.some.inj H).symm, ?_⟩
        refine SubF_of ⟨[], ?_, ?_, by rfl, by rfl⟩
        · simp [CvL, Cv]
        · trivial
      have hk1 : (bLt v1_1 (p0.length : Nat)) = true := by simpa using hc
      replace H := cond_t hc H
      refine rg ctNo_ok ?_
      simp only [go_sem]
      refine seqM ?_
      refine blkM ?_
      refine sq ctNo_ok ?_
      simp only [go_sem]
      refine seqM ?_
      obtain ⟨f2, H⟩ := need_some.1 H
      replace f2 := inb_iff.1 f2
      refine rg ctNo_ok ?_
      simp only [go_sem, Nat.reduceLT, f2]
      repeat ((with_reducible refine And.intro ?_ ?_); focus exact an4)
      refine condM rfl trivial (fun hc => ?_) (fun hc => ?_)
      · have hk3 : (bEq p1 (gd p0 v1_1.toNat)) = true := by simpa using hc
        replace H := cond_t hc H
        refine sq ctNo_ok ?_
        simp only [go_sem]
        refine rg ctNo_ok ?_
        simp only [go_sem]
        have H := hn2_1 _ (Option.some.inj H).symm
        obtain rfl := Option.some.inj H
        first | rfl | simp only [Bool.and_false, Bool.false_and, Bool.and_true, Bool.true_and] | exact congrArg AV.bool (Eq.symm (by assumption))
      have hk3 : (bEq p1 (gd p0 v1_1.toNat)) = false := by simpa using hc
      replace H := cond_f hc H
      refine rg ctNo_ok ?_
      simp only [go_sem]
      refine rg ctNo_ok ?_
      simp only [go_sem]
      refine ⟨_, (Option.some.inj H).symm, ?_⟩
      refine SubF_of ⟨[], ?_, ?_, by rfl, by rfl⟩
      · simp [CvL, Cv]
      · trivial
    · try dsimp only at H ⊢
      try simp only [tp]
      try simp only [m_normal]
      refine sq ctNo_ok ?_
      simp only [go_sem]
      refine rg ctNo_ok ?_
      simp only [go_sem]
      obtain rfl := Option.some.inj H
      first | rfl | simp only [Bool.and_false, Bool.false_and, Bool.and_true, Bool.true_and] | exact congrArg AV.bool (Eq.symm (by assumption))
  · cases hb
noncomputable def ct77t0 : Ct := tab [(103, pureC body103)]
theorem ct77t0_ok : CtOk Try.prog ct77t0 := tab_cons ok103 <| tab_nil
theorem ct77t0_103 (l : List AV) (h : List ABlk) : ct77t0 103 l h = pureC body103 l h := rfl
noncomputable def F77 (p0 : List Int) (p1 : Int) : Option (Bool) :=
  (F103 p0 p1).bind fun r1 => some (bLe 0 r1)
noncomputable def body77 : List AV -> AR
  | [v0, v1] => .pure (lK k_i64 1 v0 /\ iK .i64 v1 /\ (F77 (lA g_i64 v0) (iA v1)).isSome = true) (.bool (gt (F77 (lA g_i64 v0) (iA v1))))
  | _ => .fail
theorem ok77 : FnOk Try.prog 77 (pureC body77) := by
  refine pure_fnM body77 (rs := [.tmp 4]) Try.func77 (by kernel_rfl) rfl rfl ?_
  intro l ob v hb hob
  unfold body77 at hb
  split at hb
  · rename_i v0 v1
    injection hb with q1 q2; subst q1 q2
    obtain ⟨hk0_0, hk1_0, hob⟩ := hob
    obtain ⟨r, H⟩ := Option.isSome_iff_exists.1 hob
    rw [H, gt_some]
    have hw0 := lK_wk (fun r h => w_i64 h) hk0_0
    have hw1 := iK_wk hk1_0
    generalize lA g_i64 v0 = p0 at H hw0
    generalize iA v1 = p1 at H hw1
    refine ⟨[.ro 1 p0.length false (enR c_i64 p0), .int .i64 p1], _, (fun E vs F => FR_wk1 hw0.1 F (fun vs F => FR_wk1 hw1.1 F (fun vs F => F))), rfl, rfl, ?_⟩
    rw [Try.ntmps77]
    simp only [List.length_cons, List.length_nil, Nat.reduceAdd, Nat.reduceSub, List.replicate_succ, List.replicate_zero, List.cons_append, List.nil_append]
    unfold F77 at H
    try dsimp only at H
    refine sq ctNo_ok ?_
    simp only [go_sem]
    refine seqM ?_
    obtain ⟨r1, e2, H⟩ := bsi H
    refine rg ct77t0_ok ?_
    simp only [go_sem, ct77t0_103, body103, e2]
    repeat ((with_reducible refine And.intro ?_ ?_); focus exact an0)
    refine rg ctNo_ok ?_
    simp only [go_sem]
    obtain rfl := Option.some.inj H
    first | rfl | simp only [Bool.and_false, Bool.false_and, Bool.and_true, Bool.true_and] | exact congrArg AV.bool (Eq.symm (by assumption))
  · cases hb
noncomputable def ct51_0t0 : Ct := tab [(90, pureC body90_0)]
theorem ct51_0t0_ok : CtOk Try.prog ct51_0t0 := tab_cons ok90_0 <| tab_nil
theorem ct51_0t0_90 (l : List AV) (h : List ABlk) : ct51_0t0 90 l h = pureC body90_0 l h := rfl
noncomputable def F51_0 (p0_0 : List TRegulateChannel) (p1 : Int) : Option (TRegulateChannel) :=
  (F90_0 p0_0 p1).bind fun r1 => need (inb r1.1 p0_0.length) <| some (gd p0_0 r1.1.toNat)
noncomputable def body51_0 : List AV -> AR
  | [v0, v1] => .pure (rM 10 v0 /\ lK k_TRegulateChannel 3 (rG v0 0) /\ iK .i64 v1 /\ (F51_0 (lA g_TRegulateChannel (rG v0 0)) (iA v1)).isSome = true) (.agg [.int .i64 ((gt (F51_0 (lA g_TRegulateChannel (rG v0 0)) (iA v1))).Number), .int .i64 ((gt (F51_0 (lA g_TRegulateChannel (rG v0 0)) (iA v1))).Max), .bool ((gt (F51_0 (lA g_TRegulateChannel (rG v0 0)) (iA v1))).Radar)])
  | _ => .fail
theorem ok51_0 : FnOk Try.prog 51 (pureC body51_0) := by
  refine pure_fnM body51_0 (rs := [.cell 4 45]) Try.func51 (by kernel_rfl) rfl rfl ?_
  intro l ob v hb hob
  unfold body51_0 at hb
  split at hb
  · rename_i v0 v1
    injection hb with q1 q2; subst q1 q2
    obtain ⟨hk0_0, hk0_1, hk1_0, hob⟩ := hob
    obtain ⟨r, H⟩ := Option.isSome_iff_exists.1 hob
    rw [H, gt_some]
    have hw0 := (rM_wk (cells := [AV.ro 3 (lA g_TRegulateChannel (rG v0 0)).length false (enR c_TRegulateChannel (lA g_TRegulateChannel (rG v0 0))), AV.top, AV.top, AV.top, AV.top, AV.top, AV.top, AV.top, AV.top, AV.top]) hk0_0 (fun y hy => match y, hy with | 0, _ => lK_wk (fun r h => w_TRegulateChannel h) hk0_1 | 1, _ => top_wk | 2, _ => top_wk | 3, _ => top_wk | 4, _ => top_wk | 5, _ => top_wk | 6, _ => top_wk | 7, _ => top_wk | 8, _ => top_wk | 9, _ => top_wk | y + 10, hy => absurd hy (by omega)))
    have hw1 := iK_wk hk1_0
    generalize lA g_TRegulateChannel (rG v0 0) = p0_0 at H hw0
    generalize iA v1 = p1 at H hw1
    refine ⟨[.rptr 10 1 0 0 (fun _ y => getL [.ro 3 p0_0.length false (enR c_TRegulateChannel p0_0), .top, .top, .top, .top, .top, .top, .top, .top, .top] y), .int .i64 p1], _, (fun E vs F => FR_wk1 hw0.1 F (fun vs F => FR_wk1 hw1.1 F (fun vs F => F))), rfl, rfl, ?_⟩
    rw [Try.ntmps51]
    simp only [List.length_cons, List.length_nil, Nat.reduceAdd, Nat.reduceSub, List.replicate_succ, List.replicate_zero, List.cons_append, List.nil_append]
    unfold F51_0 at H
    try dsimp only at H
    refine sq ctNo_ok ?_
    simp only [go_sem]
    refine seqM ?_
    obtain ⟨r1, e2, H⟩ := bsi H
    refine rg ct51_0t0_ok ?_
    simp only [go_sem, Nat.reduceLeDiff, Nat.reduceLT, Nat.reduceAdd, ct51_0t0_90, body90_0, e2]
    repeat ((with_reducible refine And.intro ?_ ?_); focus exact an3)
    refine seqM ?_
    obtain ⟨f3, H⟩ := need_some.1 H
    replace f3 := inb_iff.1 f3
    refine rg ctNo_ok ?_
    simp only [go_sem, Nat.reduceLeDiff, Nat.reduceLT, Nat.reduceAdd, f3]
    repeat ((with_reducible refine And.intro ?_ ?_); focus exact an4)
    refine rg ctNo_ok ?_
    simp only [go_sem, Nat.reduceLT, Nat.reduceAdd]
    obtain rfl := Option.some.inj H
    first | rfl | simp only [Bool.and_false, Bool.false_and, Bool.and_true, Bool.true_and] | exact congrArg AV.bool (Eq.symm (by assumption))
  · cases hb
noncomputable def ct33t0 : Ct := tab [(59, pureC body59), (60, pureC body60), (61, pureC body61_0)]
theorem ct33t0_ok : CtOk Try.prog ct33t0 := tab_cons ok59 <| tab_cons ok60 <| tab_cons ok61_0 <| tab_nil
theorem ct33t0_59 (l : List AV) (h : List ABlk) : ct33t0 59 l h = pureC body59 l h := rfl
theorem ct33t0_60 (l : List AV) (h : List ABlk) : ct33t0 60 l h = pureC body60 l h := rfl
theorem ct33t0_61 (l : List AV) (h : List ABlk) : ct33t0 61 l h = pureC body61_0 l h := rfl
noncomputable def ct33t1 : Ct := tab [(61, pureC body61_0)]
theorem ct33t1_ok : CtOk Try.prog ct33t1 := tab_cons ok61_0 <| tab_nil
theorem ct33t1_61 (l : List AV) (h : List ABlk) : ct33t1 61 l h = pureC body61_0 l h := rfl
noncomputable def ct33t2 : Ct := tab [(73, pureC body73_0), (75, pureC body75_0)]
theorem ct33t2_ok : CtOk Try.prog ct33t2 := tab_cons ok73_0 <| tab_cons ok75_0 <| tab_nil
theorem ct33t2_73 (l : List AV) (h : List ABlk) : ct33t2 73 l h = pureC body73_0 l h := rfl
theorem ct33t2_75 (l : List AV) (h : List ABlk) : ct33t2 75 l h = pureC body75_0 l h := rfl
noncomputable def ct33t3 : Ct := tab [(60, pureC body60), (61, pureC body61_0), (77, pureC body77)]
theorem ct33t3_ok : CtOk Try.prog ct33t3 := tab_cons ok60 <| tab_cons ok61_0 <| tab_cons ok77 <| tab_nil
theorem ct33t3_60 (l : List AV) (h : List ABlk) : ct33t3 60 l h = pureC body60 l h := rfl
theorem ct33t3_61 (l : List AV) (h : List ABlk) : ct33t3 61 l h = pureC body61_0 l h := rfl
theorem ct33t3_77 (l : List AV) (h : List ABlk) : ct33t3 77 l h = pureC body77 l h := rfl
noncomputable def ct33t4 : Ct := tab [(51, pureC body51_0), (61, pureC body61_0)]
theorem ct33t4_ok : CtOk Try.prog ct33t4 := tab_cons ok51_0 <| tab_cons ok61_0 <| tab_nil
theorem ct33t4_51 (l : List AV) (h : List ABlk) : ct33t4 51 l h = pureC body51_0 l h := rfl
theorem ct33t4_61 (l : List AV) (h : List ABlk) : ct33t4 61 l h = pureC body61_0 l h := rfl
noncomputable def F33_L1 (p0 : TRegulate) (v1_1 : Bool) (v1_2 : Int) : Option (Lp (Bool × Int) ((Bool) ⊕ (Int))) :=
  bif (bLt v1_2 (p0.Blocked.length : Nat)) then (need (inb v1_2 p0.Blocked.length) <| need (bif v1_1 then ((F61_0 p0.Table ((gd p0.Blocked v1_2.toNat).Channel)).isSome) else true) <| need (bif (v1_1 && (gt (F61_0 p0.Table ((gd p0.Blocked v1_2.toNat).Channel)))) then ((F60 ((gd p0.Blocked v1_2.toNat).Until)).isSome) else true) <| need (bif ((v1_1 && (gt (F61_0 p0.Table ((gd p0.Blocked v1_2.toNat).Channel)))) && (!(gt (F60 ((gd p0.Blocked v1_2.toNat).Until))))) then ((F77 p0.Clear ((gd p0.Blocked v1_2.toNat).Channel)).isSome) else true) <| some (.next ((((v1_1 && (gt (F61_0 p0.Table ((gd p0.Blocked v1_2.toNat).Channel)))) && (!(gt (F60 ((gd p0.Blocked v1_2.toNat).Until))))) && (!(gt (F77 p0.Clear ((gd p0.Blocked v1_2.toNat).Channel))))), wr .i64 (v1_2 + 1)))) else (some (.done (.inl v1_1)))
noncomputable def F33_L2 (p0 : TRegulate) (v2_1 : Bool) (v2_2 : Int) : Option (Lp (Bool × Int) ((Bool) ⊕ (Int))) :=
  bif (bLt v2_2 (p0.Clear.length : Nat)) then (need (inb v2_2 p0.Clear.length) <| need (bif v2_1 then ((F61_0 p0.Table (gd p0.Clear v2_2.toNat)).isSome) else true) <| need (bif (v2_1 && (gt (F61_0 p0.Table (gd p0.Clear v2_2.toNat)))) then ((F51_0 p0.Table (gd p0.Clear v2_2.toNat)).isSome) else true) <| some (.next (((v2_1 && (gt (F61_0 p0.Table (gd p0.Clear v2_2.toNat)))) && (gt (F51_0 p0.Table (gd p0.Clear v2_2.toNat))).Radar), wr .i64 (v2_2 + 1)))) else (some (.done (.inl v2_1)))
noncomputable def F33_L3 (p0 : TRegulate) (v3_1 : Bool) (v3_2 : Int) : Option (Lp (Bool × Int) ((Bool) ⊕ (Int))) :=
  bif (bLt v3_2 (p0.Blocked.length : Nat)) then (need (inb v3_2 p0.Blocked.length) <| need (bif v3_1 then ((F61_0 p0.Table ((gd p0.Blocked v3_2.toNat).Channel)).isSome) else true) <| need (bif (v3_1 && (gt (F61_0 p0.Table ((gd p0.Blocked v3_2.toNat).Channel)))) then ((F60 ((gd p0.Blocked v3_2.toNat).Until)).isSome) else true) <| need (bif ((v3_1 && (gt (F61_0 p0.Table ((gd p0.Blocked v3_2.toNat).Channel)))) && (!(gt (F60 ((gd p0.Blocked v3_2.toNat).Until))))) then ((F77 p0.Clear ((gd p0.Blocked v3_2.toNat).Channel)).isSome) else true) <| some (.next ((((v3_1 && (gt (F61_0 p0.Table ((gd p0.Blocked v3_2.toNat).Channel)))) && (!(gt (F60 ((gd p0.Blocked v3_2.toNat).Until))))) && (!(gt (F77 p0.Clear ((gd p0.Blocked v3_2.toNat).Channel))))), wr .i64 (v3_2 + 1)))) else (some (.done (.inl v3_1)))
noncomputable def F33_L4 (p0 : TRegulate) (v4_1 : Bool) (v4_2 : Int) : Option (Lp (Bool × Int) ((Bool) ⊕ (Int))) :=
  bif (bLt v4_2 (p0.Clear.length : Nat)) then (need (inb v4_2 p0.Clear.length) <| need (bif v4_1 then ((F61_0 p0.Table (gd p0.Clear v4_2.toNat)).isSome) else true) <| need (bif (v4_1 && (gt (F61_0 p0.Table (gd p0.Clear v4_2.toNat)))) then ((F51_0 p0.Table (gd p0.Clear v4_2.toNat)).isSome) else true) <| some (.next (((v4_1 && (gt (F61_0 p0.Table (gd p0.Clear v4_2.toNat)))) && (gt (F51_0 p0.Table (gd p0.Clear v4_2.toNat))).Radar), wr .i64 (v4_2 + 1)))) else (some (.done (.inl v4_1)))
noncomputable def F33 (p0 : TRegulate) : Option (Int) :=
  (F59 p0.Table).bind fun r1 => need (bif r1 then ((F61_0 p0.Table p0.Channel).isSome) else true) <| need (bif (r1 && (gt (F61_0 p0.Table p0.Channel))) then ((F60 p0.Heard).isSome) else true) <| need (bif ((r1 && (gt (F61_0 p0.Table p0.Channel))) && (!(gt (F60 p0.Heard)))) then ((F60 p0.At).isSome) else true) <| bif p0.Moving then (need (bif (((((r1 && (gt (F61_0 p0.Table p0.Channel))) && (!(gt (F60 p0.Heard)))) && (!(gt (F60 p0.At)))) && ((!p0.Lead) || (bEq p0.Heard 0))) && p0.Stopped) then ((F61_0 p0.Table p0.To).isSome) else true) <| need (bif ((((((r1 && (gt (F61_0 p0.Table p0.Channel))) && (!(gt (F60 p0.Heard)))) && (!(gt (F60 p0.At)))) && ((!p0.Lead) || (bEq p0.Heard 0))) && p0.Stopped) && (gt (F61_0 p0.Table p0.To))) then ((F73_0 p0.Blocked).isSome) else true) <| need (bif (((((((r1 && (gt (F61_0 p0.Table p0.Channel))) && (!(gt (F60 p0.Heard)))) && (!(gt (F60 p0.At)))) && ((!p0.Lead) || (bEq p0.Heard 0))) && p0.Stopped) && (gt (F61_0 p0.Table p0.To))) && (gt (F73_0 p0.Blocked))) then ((F75_0 p0.Clear).isSome) else true) <| lp (loopD (fun s => F33_L1 p0 s.1 s.2) (((((((((r1 && (gt (F61_0 p0.Table p0.Channel))) && (!(gt (F60 p0.Heard)))) && (!(gt (F60 p0.At)))) && ((!p0.Lead) || (bEq p0.Heard 0))) && p0.Stopped) && (gt (F61_0 p0.Table p0.To))) && (gt (F73_0 p0.Blocked))) && (gt (F75_0 p0.Clear))), 0)) (fun w1_3 => lp (loopD (fun s => F33_L2 p0 s.1 s.2) (w1_3, 0)) (fun w2_3 => bif (!w2_3) then (some 8) else (some 0)) some) some) else (need (bif ((((((r1 && (gt (F61_0 p0.Table p0.Channel))) && (!(gt (F60 p0.Heard)))) && (!(gt (F60 p0.At)))) && ((!p0.Lead) || (bEq p0.Heard 0))) && (bEq p0.To 0)) && (bEq p0.At 0)) then ((F73_0 p0.Blocked).isSome) else true) <| need (bif (((((((r1 && (gt (F61_0 p0.Table p0.Channel))) && (!(gt (F60 p0.Heard)))) && (!(gt (F60 p0.At)))) && ((!p0.Lead) || (bEq p0.Heard 0))) && (bEq p0.To 0)) && (bEq p0.At 0)) && (gt (F73_0 p0.Blocked))) then ((F75_0 p0.Clear).isSome) else true) <| lp (loopD (fun s => F33_L3 p0 s.1 s.2) (((((((((r1 && (gt (F61_0 p0.Table p0.Channel))) && (!(gt (F60 p0.Heard)))) && (!(gt (F60 p0.At)))) && ((!p0.Lead) || (bEq p0.Heard 0))) && (bEq p0.To 0)) && (bEq p0.At 0)) && (gt (F73_0 p0.Blocked))) && (gt (F75_0 p0.Clear))), 0)) (fun w3_3 => lp (loopD (fun s => F33_L4 p0 s.1 s.2) (w3_3, 0)) (fun w4_3 => bif (!w4_3) then (some 8) else (some 0)) some) some)
noncomputable def body33 : List AV -> AR
  | [v0] => .pure (aK 10 k_TRegulate v0 /\ (F33 (g_TRegulate (aL v0))).isSome = true) (.int .i64 (gt (F33 (g_TRegulate (aL v0)))))
  | _ => .fail
theorem ok33 : FnOk Try.prog 33 (pureC body33) := by
  refine pure_fnM body33 (rs := [.tmp 2]) Try.func33 (by kernel_rfl) rfl rfl ?_
  intro l ob v hb hob
  unfold body33 at hb
  split at hb
  · rename_i v0
    injection hb with q1 q2; subst q1 q2
    obtain ⟨hk0_0, hob⟩ := hob
    obtain ⟨r, H⟩ := Option.isSome_iff_exists.1 hob
    rw [H, gt_some]
    have hw0 := wA_TRegulate hk0_0
    generalize g_TRegulate (aL v0) = p0 at H hw0
    refine ⟨[.agg [.ro 3 p0.Table.length false (enR c_TRegulateChannel p0.Table), .int .i64 p0.Channel, .bool p0.Lead, .int .i64 p0.Heard, .bool p0.Stopped, .bool p0.Moving, .int .i64 p0.To, .int .i64 p0.At, .ro 2 p0.Blocked.length false (enR c_TRegulateBlock p0.Blocked), .ro 1 p0.Clear.length false (enR c_i64 p0.Clear)]], _, (fun E vs F => FR_wk1 hw0.1 F (fun vs F => F)), rfl, rfl, ?_⟩
    rw [Try.ntmps33]
    simp only [List.length_cons, List.length_nil, Nat.reduceAdd, Nat.reduceSub, List.replicate_succ, List.replicate_zero, List.cons_append, List.nil_append]
    unfold F33 at H
    try dsimp only at H
    refine sq ctNo_ok ?_
    simp only [go_sem]
    refine seqM ?_
    obtain ⟨r1, e2, H⟩ := bsi H
    obtain ⟨f3, H⟩ := need_some.1 H
    replace f3 := g_iff.1 f3
    obtain ⟨f4, H⟩ := need_some.1 H
    replace f4 := g_iff.1 f4
    obtain ⟨f5, H⟩ := need_some.1 H
    replace f5 := g_iff.1 f5
    refine rg ct33t0_ok ?_
    simp only [go_sem, Nat.reduceLeDiff, Nat.reduceLT, Nat.reduceAdd, ct33t0_59, body59, ct33t0_60, body60, ct33t0_61, body61_0, e2]
    repeat ((with_reducible refine And.intro ?_ ?_); focus (first | (with_reducible trivial) | omega | exact f3 | exact f4 | exact f5 | (intro g; have q := f3 (by first | exact g | (rw [g]; rfl) | simpa using g); first | exact q | exact ⟨q.1, q.2.1⟩ | exact q.2.2 | omega | exact ⟨g, q⟩ | exact ⟨trivial, q⟩ | exact ⟨g, q.1, q.2.1⟩ | exact ⟨g, q.2.2⟩) | (intro g; have q := f4 (by first | exact g | (rw [g]; rfl) | simpa using g); first | exact q | exact ⟨q.1, q.2.1⟩ | exact q.2.2 | omega | exact ⟨g, q⟩ | exact ⟨trivial, q⟩ | exact ⟨g, q.1, q.2.1⟩ | exact ⟨g, q.2.2⟩) | (intro g; have q := f5 (by first | exact g | (rw [g]; rfl) | simpa using g); first | exact q | exact ⟨q.1, q.2.1⟩ | exact q.2.2 | omega | exact ⟨g, q⟩ | exact ⟨trivial, q⟩ | exact ⟨g, q.1, q.2.1⟩ | exact ⟨g, q.2.2⟩) | (intro g; (try have q0 := f3 (by first | exact g | (rw [g]; rfl) | simpa using g)); (try have q1 := f4 (by first | exact g | (rw [g]; rfl) | simpa using g)); (try have q2 := f5 (by first | exact g | (rw [g]; rfl) | simpa using g)); and_intros <;> first | (with_reducible trivial) | assumption | exact nfc | (intro g2; rw [g, g2]; rfl) | (intro g2; assumption) | (simp only [g, Bool.true_and, Bool.and_true, Bool.not_false, Bool.not_true]; assumption) | grind) | (and_intros <;> first | (with_reducible trivial) | omega | assumption | exact nfc | first | exact rfl | exact trivial | exact fitI | exact .inr rfl | exact .inl rfl | exact fun x hx => absurd hx (by omega)) | grind))
    refine seqM ?_
    refine sq ctNo_ok ?_
    simp only [go_sem, Nat.reduceLeDiff, Nat.reduceLT, Nat.reduceAdd]
    repeat ((with_reducible refine And.intro ?_ ?_); focus exact an4)
    refine condM' rfl trivial (fun hc => ?_) (fun hc => ?_)
    · have hk6 : (p0.Moving) = false := by simpa using hc
      replace H := cond_f hc H
      refine rg ctNo_ok ?_
      simp only [go_sem, Nat.reduceLeDiff, Nat.reduceLT, Nat.reduceAdd]
      repeat ((with_reducible refine And.intro ?_ ?_); focus exact an4)
      refine seqM ?_
      obtain ⟨f20, H⟩ := need_some.1 H
      replace f20 := g_iff.1 f20
      obtain ⟨f21, H⟩ := need_some.1 H
      replace f21 := g_iff.1 f21
      refine rg ct33t2_ok ?_
      simp only [go_sem, Nat.reduceLeDiff, Nat.reduceLT, Nat.reduceAdd, ct33t2_73, body73_0, ct33t2_75, body75_0]
      repeat ((with_reducible refine And.intro ?_ ?_); focus (first | (with_reducible trivial) | omega | exact f20 | exact f21 | (intro g; have q := f20 (by first | exact g | (rw [g]; rfl) | simpa using g); first | exact q | exact ⟨q.1, q.2.1⟩ | exact q.2.2 | omega | exact ⟨g, q⟩ | exact ⟨trivial, q⟩ | exact ⟨g, q.1, q.2.1⟩ | exact ⟨g, q.2.2⟩) | (intro g; have q := f21 (by first | exact g | (rw [g]; rfl) | simpa using g); first | exact q | exact ⟨q.1, q.2.1⟩ | exact q.2.2 | omega | exact ⟨g, q⟩ | exact ⟨trivial, q⟩ | exact ⟨g, q.1, q.2.1⟩ | exact ⟨g, q.2.2⟩) | (intro g; (try have q0 := f20 (by first | exact g | (rw [g]; rfl) | simpa using g)); (try have q1 := f21 (by first | exact g | (rw [g]; rfl) | simpa using g)); and_intros <;> first | (with_reducible trivial) | assumption | exact nfc | (intro g2; rw [g, g2]; rfl) | (intro g2; assumption) | (simp only [g, Bool.true_and, Bool.and_true, Bool.not_false, Bool.not_true]; assumption) | grind) | (and_intros <;> first | (with_reducible trivial) | omega | assumption | exact nfc | first | exact rfl | exact trivial | exact fitI | exact .inr rfl | exact .inl rfl | exact fun x hx => absurd hx (by omega)) | grind))
      refine seqM ?_
      refine sq ctNo_ok ?_
      simp only [go_sem, Nat.reduceLeDiff, Nat.reduceLT, Nat.reduceAdd]
      repeat ((with_reducible refine And.intro ?_ ?_); focus exact an0)
      refine blkM ?_
      refine loop_den (fun s : Bool × Int => (.top :: .ptr 0 0 0 0 :: .top :: .bool s.1 :: tp 69 (.ro 2 p0.Blocked.length false (enR c_TRegulateBlock p0.Blocked) :: .int .i64 (p0.Blocked.length : Nat) :: .int .i64 s.2 :: tp 44 []))) (fun s => [.lit 39 [.ro 3 p0.Table.length false (enR c_TRegulateChannel p0.Table), .int .i64 p0.Channel, .bool p0.Lead, .int .i64 p0.Heard, .bool p0.Stopped, .bool p0.Moving, .int .i64 p0.To, .int .i64 p0.At, .ro 2 p0.Blocked.length false (enR c_TRegulateBlock p0.Blocked), .ro 1 p0.Clear.length false (enR c_i64 p0.Clear)]]) (fun e : Bool => (.top :: .ptr 0 0 0 0 :: .top :: .bool e :: tp 116 [])) (fun e => [.lit 39 [.ro 3 p0.Table.length false (enR c_TRegulateChannel p0.Table), .int .i64 p0.Channel, .bool p0.Lead, .int .i64 p0.Heard, .bool p0.Stopped, .bool p0.Moving, .int .i64 p0.To, .int .i64 p0.At, .ro 2 p0.Blocked.length false (enR c_TRegulateBlock p0.Blocked), .ro 1 p0.Clear.length false (enR c_i64 p0.Clear)]]) H ?_ (fun s o H hn1_3 hn2_3 => ?_) (fun w3_3 H => ?_)
      · refine SubF_of ⟨[some 0], ?_, ?_, by rfl, by rfl⟩
        · simp [CvL, Cv, getM, tp]
        · exact ⟨cv, trivial⟩
      · obtain ⟨v3_1, v3_2⟩ := s
        unfold F33_L3 at H
        try dsimp only at H ⊢
        try simp only [tp]
        refine sq ctNo_ok ?_
        simp only [go_sem]
        refine seqM ?_
        refine condM' rfl trivial (fun hc => ?_) (fun hc => ?_)
        · have hk22 : (bLt v3_2 (p0.Blocked.length : Nat)) = false := by simpa using hc
          replace H := cond_f hc H
          refine rg ctNo_ok ?_
          simp only [go_sem]
          refine ⟨_, (Option.some.inj H).symm, ?_⟩
          refine SubF_of ⟨[some 0], ?_, ?_, by rfl, by rfl⟩
          · simp [CvL, Cv, getM]
          · exact ⟨cv, trivial⟩
        have hk22 : (bLt v3_2 (p0.Blocked.length : Nat)) = true := by simpa using hc
        replace H := cond_t hc H
        refine rg ctNo_ok ?_
        simp only [go_sem]
        refine seqM ?_
        refine blkM ?_
        refine seqM ?_
        obtain ⟨f23, H⟩ := need_some.1 H
        replace f23 := inb_iff.1 f23
        refine rg ctNo_ok ?_
        simp only [go_sem, Nat.reduceLT, Nat.reduceAdd, f23]
        repeat ((with_reducible refine And.intro ?_ ?_); focus exact an4)
        obtain ⟨f24, H⟩ := need_some.1 H
        replace f24 := g_iff.1 f24
        obtain ⟨f25, H⟩ := need_some.1 H
        replace f25 := g_iff.1 f25
        obtain ⟨f26, H⟩ := need_some.1 H
        replace f26 := g_iff.1 f26
        refine rg ct33t3_ok ?_
        simp only [go_sem, Nat.reduceLeDiff, Nat.reduceLT, Nat.reduceAdd, ct33t3_60, body60, ct33t3_61, body61_0, ct33t3_77, body77]
        repeat ((with_reducible refine And.intro ?_ ?_); focus (first | (with_reducible trivial) | omega | exact f24 | exact f25 | exact f26 | (intro g; have q := f24 (by first | exact g | (rw [g]; rfl) | simpa using g); first | exact q | exact ⟨q.1, q.2.1⟩ | exact q.2.2 | omega | exact ⟨g, q⟩ | exact ⟨trivial, q⟩ | exact ⟨g, q.1, q.2.1⟩ | exact ⟨g, q.2.2⟩) | (intro g; have q := f25 (by first | exact g | (rw [g]; rfl) | simpa using g); first | exact q | exact ⟨q.1, q.2.1⟩ | exact q.2.2 | omega | exact ⟨g, q⟩ | exact ⟨trivial, q⟩ | exact ⟨g, q.1, q.2.1⟩ | exact ⟨g, q.2.2⟩) | (intro g; have q := f26 (by first | exact g | (rw [g]; rfl) | simpa using g); first | exact q | exact ⟨q.1, q.2.1⟩ | exact q.2.2 | omega | exact ⟨g, q⟩ | exact ⟨trivial, q⟩ | exact ⟨g, q.1, q.2.1⟩ | exact ⟨g, q.2.2⟩) | (intro g; (try have q0 := f24 (by first | exact g | (rw [g]; rfl) | simpa using g)); (try have q1 := f25 (by first | exact g | (rw [g]; rfl) | simpa using g)); (try have q2 := f26 (by first | exact g | (rw [g]; rfl) | simpa using g)); and_intros <;> first | (with_reducible trivial) | assumption | exact nfc | (intro g2; rw [g, g2]; rfl) | (intro g2; assumption) | (simp only [g, Bool.true_and, Bool.and_true, Bool.not_false, Bool.not_true]; assumption) | grind) | (and_intros <;> first | (with_reducible trivial) | omega | assumption | exact nfc | first | exact rfl | exact trivial | exact fitI | exact .inr rfl | exact .inl rfl | exact fun x hx => absurd hx (by omega)) | grind))
        refine rg ctNo_ok ?_
        simp only [go_sem]
        refine ⟨_, (Option.some.inj H).symm, ?_⟩
        refine SubF_of ⟨[some 0], ?_, ?_, by rfl, by rfl⟩
        · simp [CvL, Cv, getM]
        · exact ⟨cv, trivial⟩
      · try dsimp only at H ⊢
        try simp only [tp]
        try simp only [m_normal]
        refine seqM ?_
        refine sq ctNo_ok ?_
        simp only [go_sem, Nat.reduceLT, Nat.reduceAdd]
        repeat ((with_reducible refine And.intro ?_ ?_); focus exact an0)
        refine blkM ?_
        refine loop_den (fun s : Bool × Int => (.top :: .ptr 0 0 0 0 :: .top :: .bool s.1 :: tp 97 (.ro 1 p0.Clear.length false (enR c_i64 p0.Clear) :: .int .i64 (p0.Clear.length : Nat) :: .int .i64 s.2 :: tp 16 []))) (fun s => [.lit 39 [.ro 3 p0.Table.length false (enR c_TRegulateChannel p0.Table), .int .i64 p0.Channel, .bool p0.Lead, .int .i64 p0.Heard, .bool p0.Stopped, .bool p0.Moving, .int .i64 p0.To, .int .i64 p0.At, .ro 2 p0.Blocked.length false (enR c_TRegulateBlock p0.Blocked), .ro 1 p0.Clear.length false (enR c_i64 p0.Clear)]]) (fun e : Bool => (.top :: .top :: .top :: .bool e :: tp 116 [])) (fun e => [.dead]) H ?_ (fun s o H hn1_4 hn2_4 => ?_) (fun w4_3 H => ?_)
        · refine SubF_of ⟨[some 0], ?_, ?_, by rfl, by rfl⟩
          · simp [CvL, Cv, getM, tp]
          · exact ⟨cv, trivial⟩
        · obtain ⟨v4_1, v4_2⟩ := s
          unfold F33_L4 at H
          try dsimp only at H ⊢
          try simp only [tp]
          refine sq ctNo_ok ?_
          simp only [go_sem]
          refine seqM ?_
          refine condM' rfl trivial (fun hc => ?_) (fun hc => ?_)
          · have hk27 : (bLt v4_2 (p0.Clear.length : Nat)) = false := by simpa using hc
            replace H := cond_f hc H
            refine rg ctNo_ok ?_
            simp only [go_sem]
            refine ⟨_, (Option.some.inj H).symm, ?_⟩
            refine SubF_of ⟨[some 0], ?_, ?_, by rfl, by rfl⟩
            · simp [CvL, Cv]
            · exact ⟨CvB_dead, trivial⟩
          have hk27 : (bLt v4_2 (p0.Clear.length : Nat)) = true := by simpa using hc
          replace H := cond_t hc H
          refine rg ctNo_ok ?_
          simp only [go_sem]
          refine seqM ?_
          refine blkM ?_
          refine seqM ?_
          obtain ⟨f28, H⟩ := need_some.1 H
          replace f28 := inb_iff.1 f28
          refine rg ctNo_ok ?_
          simp only [go_sem, Nat.reduceLT, f28]
          repeat ((with_reducible refine And.intro ?_ ?_); focus exact an4)
          obtain ⟨f29, H⟩ := need_some.1 H
          replace f29 := g_iff.1 f29
          obtain ⟨f30, H⟩ := need_some.1 H
          replace f30 := g_iff.1 f30
          refine rg ct33t4_ok ?_
          simp only [go_sem, Nat.reduceLT, Nat.reduceAdd, ct33t4_51, body51_0, ct33t4_61, body61_0]
          repeat ((with_reducible refine And.intro ?_ ?_); focus (first | (with_reducible trivial) | omega | exact f29 | exact f30 | (intro g; have q := f29 (by first | exact g | (rw [g]; rfl) | simpa using g); first | exact q | exact ⟨q.1, q.2.1⟩ | exact q.2.2 | omega | exact ⟨g, q⟩ | exact ⟨trivial, q⟩ | exact ⟨g, q.1, q.2.1⟩ | exact ⟨g, q.2.2⟩) | (intro g; have q := f30 (by first | exact g | (rw [g]; rfl) | simpa using g); first | exact q | exact ⟨q.1, q.2.1⟩ | exact q.2.2 | omega | exact ⟨g, q⟩ | exact ⟨trivial, q⟩ | exact ⟨g, q.1, q.2.1⟩ | exact ⟨g, q.2.2⟩) | (intro g; (try have q0 := f29 (by first | exact g | (rw [g]; rfl) | simpa using g)); (try have q1 := f30 (by first | exact g | (rw [g]; rfl) | simpa using g)); and_intros <;> first | (with_reducible trivial) | assumption | exact nfc | (intro g2; rw [g, g2]; rfl) | (intro g2; assumption) | (simp only [g, Bool.true_and, Bool.and_true, Bool.not_false, Bool.not_true]; assumption) | grind) | (and_intros <;> first | (with_reducible trivial) | omega | assumption | exact nfc | first | exact rfl | exact trivial | exact fitI | exact .inr rfl | exact .inl rfl | exact fun x hx => absurd hx (by omega)) | grind))
          refine rg ctNo_ok ?_
          simp only [go_sem]
          refine ⟨_, (Option.some.inj H).symm, ?_⟩
          refine SubF_of ⟨[some 0], ?_, ?_, by rfl, by rfl⟩
          · simp [CvL, Cv, getM]
          · exact ⟨cv, trivial⟩
        · try dsimp only at H ⊢
          try simp only [tp]
          try simp only [m_normal]
          refine seqM ?_
          refine sq ctNo_ok ?_
          simp only [go_sem]
          refine condM rfl trivial (fun hc => ?_) (fun hc => ?_)
          · have hk31 : (w4_3) = false := by simpa using hc
            replace H := cond_t hc H
            refine sq ctNo_ok ?_
            simp only [go_sem]
            refine rg ctNo_ok ?_
            simp only [go_sem]
            obtain rfl := Option.some.inj H
            first | rfl | simp only [Bool.and_false, Bool.false_and, Bool.and_true, Bool.true_and] | exact congrArg AV.bool (Eq.symm (by assumption))
          have hk31 : (w4_3) = true := by simpa using hc
          replace H := cond_f hc H
          refine rg ctNo_ok ?_
          simp only [go_sem]
          refine sq ctNo_ok ?_
          simp only [go_sem]
          refine rg ctNo_ok ?_
          simp only [go_sem]
          obtain rfl := Option.some.inj H
          first | rfl | simp only [Bool.and_false, Bool.false_and, Bool.and_true, Bool.true_and] | exact congrArg AV.bool (Eq.symm (by assumption))
    have hk6 : (p0.Moving) = true := by simpa using hc
    replace H := cond_t hc H
    obtain ⟨f7, H⟩ := need_some.1 H
    replace f7 := g_iff.1 f7
    refine rg ct33t1_ok ?_
    simp only [go_sem, Nat.reduceLeDiff, Nat.reduceLT, Nat.reduceAdd, ct33t1_61, body61_0]
    repeat ((with_reducible refine And.intro ?_ ?_); focus (first | (with_reducible trivial) | omega | exact f7 | (intro g; have q := f7 (by first | exact g | (rw [g]; rfl) | simpa using g); first | exact q | exact ⟨q.1, q.2.1⟩ | exact q.2.2 | omega | exact ⟨g, q⟩ | exact ⟨trivial, q⟩ | exact ⟨g, q.1, q.2.1⟩ | exact ⟨g, q.2.2⟩) | (intro g; (try have q0 := f7 (by first | exact g | (rw [g]; rfl) | simpa using g)); and_intros <;> first | (with_reducible trivial) | assumption | exact nfc | (intro g2; rw [g, g2]; rfl) | (intro g2; assumption) | (simp only [g, Bool.true_and, Bool.and_true, Bool.not_false, Bool.not_true]; assumption) | grind) | (and_intros <;> first | (with_reducible trivial) | omega | assumption | exact nfc | first | exact rfl | exact trivial | exact fitI | exact .inr rfl | exact .inl rfl | exact fun x hx => absurd hx (by omega)) | grind))
    refine seqM ?_
    obtain ⟨f8, H⟩ := need_some.1 H
    replace f8 := g_iff.1 f8
    obtain ⟨f9, H⟩ := need_some.1 H
    replace f9 := g_iff.1 f9
    refine rg ct33t2_ok ?_
    simp only [go_sem, Nat.reduceLeDiff, Nat.reduceLT, Nat.reduceAdd, ct33t2_73, body73_0, ct33t2_75, body75_0]
    repeat ((with_reducible refine And.intro ?_ ?_); focus (first | (with_reducible trivial) | omega | exact f8 | exact f9 | (intro g; have q := f8 (by first | exact g | (rw [g]; rfl) | simpa using g); first | exact q | exact ⟨q.1, q.2.1⟩ | exact q.2.2 | omega | exact ⟨g, q⟩ | exact ⟨trivial, q⟩ | exact ⟨g, q.1, q.2.1⟩ | exact ⟨g, q.2.2⟩) | (intro g; have q := f9 (by first | exact g | (rw [g]; rfl) | simpa using g); first | exact q | exact ⟨q.1, q.2.1⟩ | exact q.2.2 | omega | exact ⟨g, q⟩ | exact ⟨trivial, q⟩ | exact ⟨g, q.1, q.2.1⟩ | exact ⟨g, q.2.2⟩) | (intro g; (try have q0 := f8 (by first | exact g | (rw [g]; rfl) | simpa using g)); (try have q1 := f9 (by first | exact g | (rw [g]; rfl) | simpa using g)); and_intros <;> first | (with_reducible trivial) | assumption | exact nfc | (intro g2; rw [g, g2]; rfl) | (intro g2; assumption) | (simp only [g, Bool.true_and, Bool.and_true, Bool.not_false, Bool.not_true]; assumption) | grind) | (and_intros <;> first | (with_reducible trivial) | omega | assumption | exact nfc | first | exact rfl | exact trivial | exact fitI | exact .inr rfl | exact .inl rfl | exact fun x hx => absurd hx (by omega)) | grind))
    refine seqM ?_
    refine sq ctNo_ok ?_
    simp only [go_sem, Nat.reduceLeDiff, Nat.reduceLT, Nat.reduceAdd]
    repeat ((with_reducible refine And.intro ?_ ?_); focus exact an0)
    refine blkM ?_
    refine loop_den (fun s : Bool × Int => (.top :: .ptr 0 0 0 0 :: .top :: .bool s.1 :: tp 69 (.ro 2 p0.Blocked.length false (enR c_TRegulateBlock p0.Blocked) :: .int .i64 (p0.Blocked.length : Nat) :: .int .i64 s.2 :: tp 44 []))) (fun s => [.lit 39 [.ro 3 p0.Table.length false (enR c_TRegulateChannel p0.Table), .int .i64 p0.Channel, .bool p0.Lead, .int .i64 p0.Heard, .bool p0.Stopped, .bool p0.Moving, .int .i64 p0.To, .int .i64 p0.At, .ro 2 p0.Blocked.length false (enR c_TRegulateBlock p0.Blocked), .ro 1 p0.Clear.length false (enR c_i64 p0.Clear)]]) (fun e : Bool => (.top :: .ptr 0 0 0 0 :: .top :: .bool e :: tp 116 [])) (fun e => [.lit 39 [.ro 3 p0.Table.length false (enR c_TRegulateChannel p0.Table), .int .i64 p0.Channel, .bool p0.Lead, .int .i64 p0.Heard, .bool p0.Stopped, .bool p0.Moving, .int .i64 p0.To, .int .i64 p0.At, .ro 2 p0.Blocked.length false (enR c_TRegulateBlock p0.Blocked), .ro 1 p0.Clear.length false (enR c_i64 p0.Clear)]]) H ?_ (fun s o H hn1_1 hn2_1 => ?_) (fun w1_3 H => ?_)
    · refine SubF_of ⟨[some 0], ?_, ?_, by rfl, by rfl⟩
      · simp [CvL, Cv, getM, tp]
      · exact ⟨cv, trivial⟩
    · obtain ⟨v1_1, v1_2⟩ := s
      unfold F33_L1 at H
      try dsimp only at H ⊢
      try simp only [tp]
      refine sq ctNo_ok ?_
      simp only [go_sem]
      refine seqM ?_
      refine condM' rfl trivial (fun hc => ?_) (fun hc => ?_)
      · have hk10 : (bLt v1_2 (p0.Blocked.length : Nat)) = false := by simpa using hc
        replace H := cond_f hc H
        refine rg ctNo_ok ?_
        simp only [go_sem]
        refine ⟨_, (Option.some.inj H).symm, ?_⟩
        refine SubF_of ⟨[some 0], ?_, ?_, by rfl, by rfl⟩
        · simp [CvL, Cv, getM]
        · exact ⟨cv, trivial⟩
      have hk10 : (bLt v1_2 (p0.Blocked.length : Nat)) = true := by simpa using hc
      replace H := cond_t hc H
      refine rg ctNo_ok ?_
      simp only [go_sem]
      refine seqM ?_
      refine blkM ?_
      refine seqM ?_
      obtain ⟨f11, H⟩ := need_some.1 H
      replace f11 := inb_iff.1 f11
      refine rg ctNo_ok ?_
      simp only [go_sem, Nat.reduceLT, Nat.reduceAdd, f11]
      repeat ((with_reducible refine And.intro ?_ ?_); focus exact an4)
      obtain ⟨f12, H⟩ := need_some.1 H
      replace f12 := g_iff.1 f12
      obtain ⟨f13, H⟩ := need_some.1 H
      replace f13 := g_iff.1 f13
      obtain ⟨f14, H⟩ := need_some.1 H
      replace f14 := g_iff.1 f14
      refine rg ct33t3_ok ?_
      simp only [go_sem, Nat.reduceLeDiff, Nat.reduceLT, Nat.reduceAdd, ct33t3_60, body60, ct33t3_61, body61_0, ct33t3_77, body77]
      repeat ((with_reducible refine And.intro ?_ ?_); focus (first | (with_reducible trivial) | omega | exact f12 | exact f13 | exact f14 | (intro g; have q := f12 (by first | exact g | (rw [g]; rfl) | simpa using g); first | exact q | exact ⟨q.1, q.2.1⟩ | exact q.2.2 | omega | exact ⟨g, q⟩ | exact ⟨trivial, q⟩ | exact ⟨g, q.1, q.2.1⟩ | exact ⟨g, q.2.2⟩) | (intro g; have q := f13 (by first | exact g | (rw [g]; rfl) | simpa using g); first | exact q | exact ⟨q.1, q.2.1⟩ | exact q.2.2 | omega | exact ⟨g, q⟩ | exact ⟨trivial, q⟩ | exact ⟨g, q.1, q.2.1⟩ | exact ⟨g, q.2.2⟩) | (intro g; have q := f14 (by first | exact g | (rw [g]; rfl) | simpa using g); first | exact q | exact ⟨q.1, q.2.1⟩ | exact q.2.2 | omega | exact ⟨g, q⟩ | exact ⟨trivial, q⟩ | exact ⟨g, q.1, q.2.1⟩ | exact ⟨g, q.2.2⟩) | (intro g; (try have q0 := f12 (by first | exact g | (rw [g]; rfl) | simpa using g)); (try have q1 := f13 (by first | exact g | (rw [g]; rfl) | simpa using g)); (try have q2 := f14 (by first | exact g | (rw [g]; rfl) | simpa using g)); and_intros <;> first | (with_reducible trivial) | assumption | exact nfc | (intro g2; rw [g, g2]; rfl) | (intro g2; assumption) | (simp only [g, Bool.true_and, Bool.and_true, Bool.not_false, Bool.not_true]; assumption) | grind) | (and_intros <;> first | (with_reducible trivial) | omega | assumption | exact nfc | first | exact rfl | exact trivial | exact fitI | exact .inr rfl | exact .inl rfl | exact fun x hx => absurd hx (by omega)) | grind))
      refine rg ctNo_ok ?_
      simp only [go_sem]
      refine ⟨_, (Option.some.inj H).symm, ?_⟩
      refine SubF_of ⟨[some 0], ?_, ?_, by rfl, by rfl⟩
      · simp [CvL, Cv, getM]
      · exact ⟨cv, trivial⟩
    · try dsimp only at H ⊢
      try simp only [tp]
      try simp only [m_normal]
      refine seqM ?_
      refine sq ctNo_ok ?_
      simp only [go_sem, Nat.reduceLT, Nat.reduceAdd]
      repeat ((with_reducible refine And.intro ?_ ?_); focus exact an0)
      refine blkM ?_
      refine loop_den (fun s : Bool × Int => (.top :: .ptr 0 0 0 0 :: .top :: .bool s.1 :: tp 97 (.ro 1 p0.Clear.length false (enR c_i64 p0.Clear) :: .int .i64 (p0.Clear.length : Nat) :: .int .i64 s.2 :: tp 16 []))) (fun s => [.lit 39 [.ro 3 p0.Table.length false (enR c_TRegulateChannel p0.Table), .int .i64 p0.Channel, .bool p0.Lead, .int .i64 p0.Heard, .bool p0.Stopped, .bool p0.Moving, .int .i64 p0.To, .int .i64 p0.At, .ro 2 p0.Blocked.length false (enR c_TRegulateBlock p0.Blocked), .ro 1 p0.Clear.length false (enR c_i64 p0.Clear)]]) (fun e : Bool => (.top :: .top :: .top :: .bool e :: tp 116 [])) (fun e => [.dead]) H ?_ (fun s o H hn1_2 hn2_2 => ?_) (fun w2_3 H => ?_)
      · refine SubF_of ⟨[some 0], ?_, ?_, by rfl, by rfl⟩
        · simp [CvL, Cv, getM, tp]
        · exact ⟨cv, trivial⟩
      · obtain ⟨v2_1, v2_2⟩ := s
        unfold F33_L2 at H
        try dsimp only at H ⊢
        try simp only [tp]
        refine sq ctNo_ok ?_
        simp only [go_sem]
        refine seqM ?_
        refine condM' rfl trivial (fun hc => ?_) (fun hc => ?_)
        · have hk15 : (bLt v2_2 (p0.Clear.length : Nat)) = false := by simpa using hc
          replace H := cond_f hc H
          refine rg ctNo_ok ?_
          simp only [go_sem]
          refine ⟨_, (Option.some.inj H).symm, ?_⟩
          refine SubF_of ⟨[some 0], ?_, ?_, by rfl, by rfl⟩
          · simp [CvL, Cv]
          · exact ⟨CvB_dead, trivial⟩
        have hk15 : (bLt v2_2 (p0.Clear.length : Nat)) = true := by simpa using hc
        replace H := cond_t hc H
        refine rg ctNo_ok ?_
        simp only [go_sem]
        refine seqM ?_
        refine blkM ?_
        refine seqM ?_
        obtain ⟨f16, H⟩ := need_some.1 H
        replace f16 := inb_iff.1 f16
        refine rg ctNo_ok ?_
        simp only [go_sem, Nat.reduceLT, f16]
        repeat ((with_reducible refine And.intro ?_ ?_); focus exact an4)
        obtain ⟨f17, H⟩ := need_some.1 H
        replace f17 := g_iff.1 f17
        obtain ⟨f18, H⟩ := need_some.1 H
        replace f18 := g_iff.1 f18
        refine rg ct33t4_ok ?_
        simp only [go_sem, Nat.reduceLT, Nat.reduceAdd, ct33t4_51, body51_0, ct33t4_61, body61_0]
        repeat ((with_reducible refine And.intro ?_ ?_); focus (first | (with_reducible trivial) | omega | exact f17 | exact f18 | (intro g; have q := f17 (by first | exact g | (rw [g]; rfl) | simpa using g); first | exact q | exact ⟨q.1, q.2.1⟩ | exact q.2.2 | omega | exact ⟨g, q⟩ | exact ⟨trivial, q⟩ | exact ⟨g, q.1, q.2.1⟩ | exact ⟨g, q.2.2⟩) | (intro g; have q := f18 (by first | exact g | (rw [g]; rfl) | simpa using g); first | exact q | exact ⟨q.1, q.2.1⟩ | exact q.2.2 | omega | exact ⟨g, q⟩ | exact ⟨trivial, q⟩ | exact ⟨g, q.1, q.2.1⟩ | exact ⟨g, q.2.2⟩) | (intro g; (try have q0 := f17 (by first | exact g | (rw [g]; rfl) | simpa using g)); (try have q1 := f18 (by first | exact g | (rw [g]; rfl) | simpa using g)); and_intros <;> first | (with_reducible trivial) | assumption | exact nfc | (intro g2; rw [g, g2]; rfl) | (intro g2; assumption) | (simp only [g, Bool.true_and, Bool.and_true, Bool.not_false, Bool.not_true]; assumption) | grind) | (and_intros <;> first | (with_reducible trivial) | omega | assumption | exact nfc | first | exact rfl | exact trivial | exact fitI | exact .inr rfl | exact .inl rfl | exact fun x hx => absurd hx (by omega)) | grind))
        refine rg ctNo_ok ?_
        simp only [go_sem]
        refine ⟨_, (Option.some.inj H).symm, ?_⟩
        refine SubF_of ⟨[some 0], ?_, ?_, by rfl, by rfl⟩
        · simp [CvL, Cv, getM]
        · exact ⟨cv, trivial⟩
      · try dsimp only at H ⊢
        try simp only [tp]
        try simp only [m_normal]
        refine seqM ?_
        refine sq ctNo_ok ?_
        simp only [go_sem]
        refine condM rfl trivial (fun hc => ?_) (fun hc => ?_)
        · have hk19 : (w2_3) = false := by simpa using hc
          replace H := cond_t hc H
          refine sq ctNo_ok ?_
          simp only [go_sem]
          refine rg ctNo_ok ?_
          simp only [go_sem]
          obtain rfl := Option.some.inj H
          first | rfl | simp only [Bool.and_false, Bool.false_and, Bool.and_true, Bool.true_and] | exact congrArg AV.bool (Eq.symm (by assumption))
        have hk19 : (w2_3) = true := by simpa using hc
        replace H := cond_f hc H
        refine rg ctNo_ok ?_
        simp only [go_sem]
        refine sq ctNo_ok ?_
        simp only [go_sem]
        refine rg ctNo_ok ?_
        simp only [go_sem]
        obtain rfl := Option.some.inj H
        first | rfl | simp only [Bool.and_false, Bool.false_and, Bool.and_true, Bool.true_and] | exact congrArg AV.bool (Eq.symm (by assumption))
  · cases hb
noncomputable def F88 (p0 : List TRegulateBlock) : Option (List TRegulateBlock) :=
  need (capb 16 p0.length) <| some p0
noncomputable def body88 : List AV -> List ABlk -> ED
  | [v0], h => .ed [] (lK k_TRegulateBlock 2 (roD (deadL h []) v0) /\ roDOb (deadL h []) v0 /\ (F88 (lA g_TRegulateBlock (roD (deadL h []) v0))).isSome = true) (.sl 0 2 0 (gt (F88 (lA g_TRegulateBlock (roD (deadL h []) v0)))).length false) [.row 79 2 (gt (F88 (lA g_TRegulateBlock (roD (deadL h []) v0)))).length (enR c_TRegulateBlock (gt (F88 (lA g_TRegulateBlock (roD (deadL h []) v0)))))]
  | _, _ => .fail
theorem ok88 : FnOk Try.prog 88 (edC body88) := by
  refine edit_fnV body88 (rs := [.tmp 2]) Try.func88 (by kernel_rfl) rfl rfl ?_
  intro l h bs ob q0 g0 hb hob
  unfold body88 at hb
  split at hb
  · rename_i v0
    injection hb with q1 q2 q3 q4; subst q1 q2 q3 q4
    obtain ⟨hk0, hk1, hob⟩ := hob
    obtain ⟨r, H⟩ := Option.isSome_iff_exists.1 hob
    rw [H, gt_some]
    have hw0 := lK_wk (fun r h => w_TRegulateBlock h) hk0
    generalize lA g_TRegulateBlock (roD (deadL h []) v0) = p0 at H hw0
    unfold F88 at H
    obtain ⟨f1, H⟩ := need_some.1 H
    replace f1 := capb_iff.1 f1
    obtain rfl := Option.some.inj H
    refine ⟨[.ro 2 p0.length false (enR c_TRegulateBlock p0)], [], rfl, ⟨EW_view hk1 hw0, trivial⟩, trivial, trivial, ⟨nfB_en nr_TRegulateBlock, trivial⟩, ⟨noroB_en, trivial⟩, (by simp only [noro]), ?_⟩
    rw [Try.ntmps88]
    simp only [List.length_cons, List.length_nil, Nat.reduceAdd, Nat.reduceSub, List.replicate_succ, List.replicate_zero, List.cons_append, List.nil_append]
    refine rg ctNo_ok ?_
    have nfs : ∀ x y, nref (enR c_TRegulateBlock p0 x y) := fun x y => nfR_en nr_TRegulateBlock
    generalize hc : enR c_TRegulateBlock p0 = c at nfs hw0
    cases hn : p0.length with
    | zero =>
      simp only [go_sem, Nat.reduceLeDiff, Nat.reduceAdd]
      have hp : p0 = [] := List.eq_nil_of_length_eq_zero hn
      subst hp; subst hc
      refine ⟨?_, ?_⟩
      · refine RetE_mk [] [none] ?_ ?_ ?_ ?_ (by rfl) (by rfl)
        · simp only [fzOb]
        · simp only [fzObH]
        · simp [fzV, Cv]
        · simp only [fzH, fzHF, and_true, CvH, and_true]; exact CvB_none
      · refine ⟨by omega, RetE_mk [] [some 1] ?_ ?_ ?_ ?_ (by rfl) (by rfl)⟩
        · simp only [Nat.add_zero, fzOb, inL, rowOb, geth, cond_false, true_and, Nat.zero_add, Nat.le_refl]
        · simp only [fzObB, fzObH, and_self]
        · simp [fzV, inL, Cv, getM]
        · simp only [fzH, fzHF, fzB, inL, cond_false, and_true, CvH, and_true]; exact CvB_row0 nr_TRegulateBlock
    | succ m =>
      simp only [go_sem, Nat.reduceLeDiff, Nat.reduceAdd, reduceCtorEq]
      refine ⟨by omega, RetE_mk [] [some 1] ?_ ?_ ?_ ?_ (by rfl) (by rfl)⟩
      · simp only [fzOb, inL, rowOb, geth, cond_false, true_and, Nat.zero_add, Nat.le_refl]
      · simp only [fzObB, fzObH, and_self]
      · simp [fzV, inL, Cv, getM]
      · simp only [fzH, fzHF, fzB, inL, cond_false, and_true, CvH, and_true]; rw [← hn, ← hc]; exact CvB_row nr_TRegulateBlock rfl (fun x y hx hy => by simp only [appC, Nat.not_lt_zero, if_false, Nat.sub_zero])
  · cases hb
noncomputable def F89 (p0 : List Int) : Option (List Int) :=
  need (capb 8 p0.length) <| some p0
noncomputable def body89 : List AV -> List ABlk -> ED
  | [v0], h => .ed [] (lK k_i64 1 (roD (deadL h []) v0) /\ roDOb (deadL h []) v0 /\ (F89 (lA g_i64 (roD (deadL h []) v0))).isSome = true) (.sl 0 1 0 (gt (F89 (lA g_i64 (roD (deadL h []) v0)))).length false) [.row 3 1 (gt (F89 (lA g_i64 (roD (deadL h []) v0)))).length (enR c_i64 (gt (F89 (lA g_i64 (roD (deadL h []) v0)))))]
  | _, _ => .fail
theorem ok89 : FnOk Try.prog 89 (edC body89) := by
  refine edit_fnV body89 (rs := [.tmp 2]) Try.func89 (by kernel_rfl) rfl rfl ?_
  intro l h bs ob q0 g0 hb hob
  unfold body89 at hb
  split at hb
  · rename_i v0
    injection hb with q1 q2 q3 q4; subst q1 q2 q3 q4
    obtain ⟨hk0, hk1, hob⟩ := hob
    obtain ⟨r, H⟩ := Option.isSome_iff_exists.1 hob
    rw [H, gt_some]
    have hw0 := lK_wk (fun r h => w_i64 h) hk0
    generalize lA g_i64 (roD (deadL h []) v0) = p0 at H hw0
    unfold F89 at H
    obtain ⟨f1, H⟩ := need_some.1 H
    replace f1 := capb_iff.1 f1
    obtain rfl := Option.some.inj H
    refine ⟨[.ro 1 p0.length false (enR c_i64 p0)], [], rfl, ⟨EW_view hk1 hw0, trivial⟩, trivial, trivial, ⟨nfB_en nr_i64, trivial⟩, ⟨noroB_en, trivial⟩, (by simp only [noro]), ?_⟩
    rw [Try.ntmps89]
    simp only [List.length_cons, List.length_nil, Nat.reduceAdd, Nat.reduceSub, List.replicate_succ, List.replicate_zero, List.cons_append, List.nil_append]
    refine rg ctNo_ok ?_
    have nfs : ∀ x y, nref (enR c_i64 p0 x y) := fun x y => nfR_en nr_i64
    generalize hc : enR c_i64 p0 = c at nfs hw0
    cases hn : p0.length with
    | zero =>
      simp only [go_sem, Nat.reduceLeDiff]
      have hp : p0 = [] := List.eq_nil_of_length_eq_zero hn
      subst hp; subst hc
      refine ⟨?_, ?_⟩
      · refine RetE_mk [] [none] ?_ ?_ ?_ ?_ (by rfl) (by rfl)
        · simp only [fzOb]
        · simp only [fzObH]
        · simp [fzV, Cv]
        · simp only [fzH, fzHF, and_true, CvH, and_true]; exact CvB_none
      · refine ⟨by omega, RetE_mk [] [some 1] ?_ ?_ ?_ ?_ (by rfl) (by rfl)⟩
        · simp only [Nat.add_zero, fzOb, inL, rowOb, geth, cond_false, true_and, Nat.zero_add, Nat.le_refl]
        · simp only [fzObB, fzObH, and_self]
        · simp [fzV, inL, Cv, getM]
        · simp only [fzH, fzHF, fzB, inL, cond_false, and_true, CvH, and_true]; exact CvB_row0 nr_i64
    | succ m =>
      simp only [go_sem, Nat.reduceLeDiff, reduceCtorEq]
      refine ⟨by omega, RetE_mk [] [some 1] ?_ ?_ ?_ ?_ (by rfl) (by rfl)⟩
      · simp only [fzOb, inL, rowOb, geth, cond_false, true_and, Nat.zero_add, Nat.le_refl]
      · simp only [fzObB, fzObH, and_self]
      · simp [fzV, inL, Cv, getM]
      · simp only [fzH, fzHF, fzB, inL, cond_false, and_true, CvH, and_true]; rw [← hn, ← hc]; exact CvB_row nr_i64 rfl (fun x y hx hy => by simp only [appC, Nat.not_lt_zero, if_false, Nat.sub_zero])
  · cases hb
noncomputable def ct50t0 : Ct := tab [(33, pureC body33)]
theorem ct50t0_ok : CtOk Try.prog ct50t0 := tab_cons ok33 <| tab_nil
theorem ct50t0_33 (l : List AV) (h : List ABlk) : ct50t0 33 l h = pureC body33 l h := rfl
noncomputable def ct50t1 : Ct := tab [(60, pureC body60)]
theorem ct50t1_ok : CtOk Try.prog ct50t1 := tab_cons ok60 <| tab_nil
theorem ct50t1_60 (l : List AV) (h : List ABlk) : ct50t1 60 l h = pureC body60 l h := rfl
noncomputable def ct50t2 : Ct := tab [(58, edC body58), (88, edC body88), (89, edC body89)]
theorem ct50t2_ok : CtOk Try.prog ct50t2 := tab_cons ok58 <| tab_cons ok88 <| tab_cons ok89 <| tab_nil
theorem ct50t2_58 (l : List AV) (h : List ABlk) : ct50t2 58 l h = edC body58 l h := rfl
theorem ct50t2_88 (l : List AV) (h : List ABlk) : ct50t2 88 l h = edC body88 l h := rfl
theorem ct50t2_89 (l : List AV) (h : List ABlk) : ct50t2 89 l h = edC body89 l h := rfl
noncomputable def F50 (p0 : TRegulate) (p1 : Int) (p2 : Int) : Option ((Option TRegulate) × Int) :=
  (F33 p0).bind fun r1 => bif (!bEq r1 0) then (some (none, r1)) else ((F60 p1).bind fun r4 => bif (r4 || (bLt p2 0)) then (some (none, 2)) else ((F58 p0.Table).bind fun r7 => (F88 p0.Blocked).bind fun r9 => (F89 p0.Clear).bind fun r11 => some ((some (TRegulate.mk r7 p0.Channel p0.Lead p0.Heard p0.Stopped p0.Moving p0.To p0.At r9 r11)), 0)))
noncomputable def body50 : List AV -> List ABlk -> ED
  | [v0, v1, v2], h => .ed [] (aK 10 k_TRegulate (roD (deadL h []) v0) /\ roDOb (deadL h []) v0 /\ iK .i64 (roD (deadL h []) v1) /\ roDOb (deadL h []) v1 /\ iK .i64 (roD (deadL h []) v2) /\ roDOb (deadL h []) v2 /\ (F50 (g_TRegulate (aL (roD (deadL h []) v0))) (iA (roD (deadL h []) v1)) (iA (roD (deadL h []) v2))).isSome = true) (.tup [bif (gt (F50 (g_TRegulate (aL (roD (deadL h []) v0))) (iA (roD (deadL h []) v1)) (iA (roD (deadL h []) v2)))).1.isSome then .ptr 0 0 0 0 else .nilp, .int .i64 ((gt (F50 (g_TRegulate (aL (roD (deadL h []) v0))) (iA (roD (deadL h []) v1)) (iA (roD (deadL h []) v2)))).2)]) [bif (gt (F50 (g_TRegulate (aL (roD (deadL h []) v0))) (iA (roD (deadL h []) v1)) (iA (roD (deadL h []) v2)))).1.isSome then .lit 39 [.sl 1 3 0 (((gt (gt (F50 (g_TRegulate (aL (roD (deadL h []) v0))) (iA (roD (deadL h []) v1)) (iA (roD (deadL h []) v2)))).1).Table).length) false, .int .i64 ((gt (gt (F50 (g_TRegulate (aL (roD (deadL h []) v0))) (iA (roD (deadL h []) v1)) (iA (roD (deadL h []) v2)))).1).Channel), .bool ((gt (gt (F50 (g_TRegulate (aL (roD (deadL h []) v0))) (iA (roD (deadL h []) v1)) (iA (roD (deadL h []) v2)))).1).Lead), .int .i64 ((gt (gt (F50 (g_TRegulate (aL (roD (deadL h []) v0))) (iA (roD (deadL h []) v1)) (iA (roD (deadL h []) v2)))).1).Heard), .bool ((gt (gt (F50 (g_TRegulate (aL (roD (deadL h []) v0))) (iA (roD (deadL h []) v1)) (iA (roD (deadL h []) v2)))).1).Stopped), .bool ((gt (gt (F50 (g_TRegulate (aL (roD (deadL h []) v0))) (iA (roD (deadL h []) v1)) (iA (roD (deadL h []) v2)))).1).Moving), .int .i64 ((gt (gt (F50 (g_TRegulate (aL (roD (deadL h []) v0))) (iA (roD (deadL h []) v1)) (iA (roD (deadL h []) v2)))).1).To), .int .i64 ((gt (gt (F50 (g_TRegulate (aL (roD (deadL h []) v0))) (iA (roD (deadL h []) v1)) (iA (roD (deadL h []) v2)))).1).At), .sl 2 2 0 (((gt (gt (F50 (g_TRegulate (aL (roD (deadL h []) v0))) (iA (roD (deadL h []) v1)) (iA (roD (deadL h []) v2)))).1).Blocked).length) false, .sl 3 1 0 (((gt (gt (F50 (g_TRegulate (aL (roD (deadL h []) v0))) (iA (roD (deadL h []) v1)) (iA (roD (deadL h []) v2)))).1).Clear).length) false] else .dead, bif (gt (F50 (g_TRegulate (aL (roD (deadL h []) v0))) (iA (roD (deadL h []) v1)) (iA (roD (deadL h []) v2)))).1.isSome then .row 45 3 (((gt (gt (F50 (g_TRegulate (aL (roD (deadL h []) v0))) (iA (roD (deadL h []) v1)) (iA (roD (deadL h []) v2)))).1).Table).length) (enR c_TRegulateChannel ((gt (gt (F50 (g_TRegulate (aL (roD (deadL h []) v0))) (iA (roD (deadL h []) v1)) (iA (roD (deadL h []) v2)))).1).Table)) else .dead, bif (gt (F50 (g_TRegulate (aL (roD (deadL h []) v0))) (iA (roD (deadL h []) v1)) (iA (roD (deadL h []) v2)))).1.isSome then .row 79 2 (((gt (gt (F50 (g_TRegulate (aL (roD (deadL h []) v0))) (iA (roD (deadL h []) v1)) (iA (roD (deadL h []) v2)))).1).Blocked).length) (enR c_TRegulateBlock ((gt (gt (F50 (g_TRegulate (aL (roD (deadL h []) v0))) (iA (roD (deadL h []) v1)) (iA (roD (deadL h []) v2)))).1).Blocked)) else .dead, bif (gt (F50 (g_TRegulate (aL (roD (deadL h []) v0))) (iA (roD (deadL h []) v1)) (iA (roD (deadL h []) v2)))).1.isSome then .row 3 1 (((gt (gt (F50 (g_TRegulate (aL (roD (deadL h []) v0))) (iA (roD (deadL h []) v1)) (iA (roD (deadL h []) v2)))).1).Clear).length) (enR c_i64 ((gt (gt (F50 (g_TRegulate (aL (roD (deadL h []) v0))) (iA (roD (deadL h []) v1)) (iA (roD (deadL h []) v2)))).1).Clear)) else .dead]
  | _, _ => .fail
theorem ok50 : FnOk Try.prog 50 (edC body50) := by
  refine edit_fnV body50 (rs := [.tmp 6, .tmp 7]) Try.func50 (by kernel_rfl) rfl rfl ?_
  intro l h bs ob q0 g0 hb hob
  unfold body50 at hb
  split at hb
  · rename_i v0 v1 v2
    injection hb with q1 q2 q3 q4; subst q1 q2 q3 q4
    obtain ⟨hk0_0, hk0_1, hk1_0, hk1_1, hk2_0, hk2_1, hob⟩ := hob
    obtain ⟨r, H⟩ := Option.isSome_iff_exists.1 hob
    rw [H, gt_some]
    have hw0 := wA_TRegulate hk0_0
    obtain ⟨p0, hp_p0⟩ : ∃ p0, p0 = g_TRegulate (aL (roD (deadL h []) v0)) := ⟨_, rfl⟩
    rw [← hp_p0] at H hw0
    have hw1 := iK_wk hk1_0
    obtain ⟨p1, hp_p1⟩ : ∃ p1, p1 = iA (roD (deadL h []) v1) := ⟨_, rfl⟩
    rw [← hp_p1] at H hw1
    have hw2 := iK_wk hk2_0
    obtain ⟨p2, hp_p2⟩ : ∃ p2, p2 = iA (roD (deadL h []) v2) := ⟨_, rfl⟩
    rw [← hp_p2] at H hw2
    refine ⟨[.agg [.ro 3 p0.Table.length false (enR c_TRegulateChannel p0.Table), .int .i64 p0.Channel, .bool p0.Lead, .int .i64 p0.Heard, .bool p0.Stopped, .bool p0.Moving, .int .i64 p0.To, .int .i64 p0.At, .ro 2 p0.Blocked.length false (enR c_TRegulateBlock p0.Blocked), .ro 1 p0.Clear.length false (enR c_i64 p0.Clear)], .int .i64 p1, .int .i64 p2], [], rfl, ⟨(EW_view hk0_1 hw0), ⟨(EW_view hk1_1 hw1), ⟨(EW_view hk2_1 hw2), trivial⟩⟩⟩, trivial, trivial, ⟨(nfB_bif trivial trivial), ⟨(nfB_bif (nfB_en nr_TRegulateChannel) trivial), ⟨(nfB_bif (nfB_en nr_TRegulateBlock) trivial), ⟨(nfB_bif (nfB_en nr_i64) trivial), trivial⟩⟩⟩⟩, ⟨(noroB_bif (by simp only [noroB, noroL, noro, and_self]) trivial), ⟨(noroB_bif noroB_en trivial), ⟨(noroB_bif noroB_en trivial), ⟨(noroB_bif noroB_en trivial), trivial⟩⟩⟩⟩, (by first | (simp only [noro, noroL, and_self]; done) | (simp only [noro, noroL]; and_intros <;> first | trivial | exact noro_bif (by simp only [noro]) (by simp only [noro]) | (simp only [noro, noroL, and_self]))), ?_⟩
    rw [Try.ntmps50]
    simp only [List.length_cons, List.length_nil, Nat.reduceAdd, Nat.reduceSub, List.replicate_succ, List.replicate_zero, List.cons_append, List.nil_append]
    unfold F50 at H
    try dsimp only at H
    refine sq ctNo_ok ?_
    simp only [go_sem]
    refine seqM ?_
    refine seqM ?_
    obtain ⟨r1, e2, H⟩ := bsi H
    refine rg ct50t0_ok ?_
    simp only [go_sem, Nat.reduceLT, Nat.reduceAdd, ct50t0_33, body33, e2]
    repeat ((with_reducible refine And.intro ?_ ?_); focus exact an0)
    refine sq ctNo_ok ?_
    simp only [go_sem]
    refine condM rfl trivial (fun hc => ?_) (fun hc => ?_)
    · have hk3 : (bEq r1 0) = false := by simpa using hc
      replace H := cond_t hc H
      refine sq ctNo_ok ?_
      simp only [go_sem]
      refine rg ctNo_ok ?_
      simp only [go_sem]
      obtain rfl := Option.some.inj H
      refine RetE_mk [] [none, none, none, none] ?_ ?_ ?_ ?_ (by rfl) (by rfl)
      · simp only [go_sem]
        try exact at0
      · simp only [go_sem]
        try exact at0
      · simp only [go_sem]
        exact Cv_tup (CvL_cons (by simp [Cv]) (CvL_cons Cv_int CvL_nil))
      · simp only [go_sem, CvH, Option.isSome_none]
        first | exact ⟨CvB_dead, CvB_dead, CvB_dead, CvB_dead⟩ | trivial
    have hk3 : (bEq r1 0) = true := by simpa using hc
    replace H := cond_f hc H
    refine rg ctNo_ok ?_
    simp only [go_sem]
    refine seqM ?_
    refine seqM ?_
    obtain ⟨r4, e5, H⟩ := bsi H
    refine rg ct50t1_ok ?_
    simp only [go_sem, ct50t1_60, body60, e5]
    repeat ((with_reducible refine And.intro ?_ ?_); focus exact an1)
    refine condM rfl trivial (fun hc => ?_) (fun hc => ?_)
    · have hk6 : (r4 || (bLt p2 0)) = true := by simpa using hc
      replace H := cond_t hc H
      refine sq ctNo_ok ?_
      simp only [go_sem]
      refine rg ctNo_ok ?_
      simp only [go_sem]
      obtain rfl := Option.some.inj H
      refine RetE_mk [] [none, none, none, none] ?_ ?_ ?_ ?_ (by rfl) (by rfl)
      · simp only [go_sem]
        try exact at0
      · simp only [go_sem]
        try exact at0
      · simp only [go_sem]
        exact Cv_tup (CvL_cons (by simp [Cv]) (CvL_cons Cv_int CvL_nil))
      · simp only [go_sem, CvH, Option.isSome_none]
        first | exact ⟨CvB_dead, CvB_dead, CvB_dead, CvB_dead⟩ | trivial
    have hk6 : (r4 || (bLt p2 0)) = false := by simpa using hc
    replace H := cond_f hc H
    refine rg ctNo_ok ?_
    simp only [go_sem]
    refine seqM ?_
    obtain ⟨r7, e8, H⟩ := bsi H
    obtain ⟨r9, e10, H⟩ := bsi H
    obtain ⟨r11, e12, H⟩ := bsi H
    refine draw_rule shT_ok ct50t2_ok 3 (by kernel_rfl) (by kernel_rfl) ?_
    intro an han
    simp only [d_nil, d_cons, nxtD, xrD, xoD, roEq, minL, List.append_nil, refsOp, refs, refsL, mask, maskF, place, placeF, okLog, pairOk, hit, inL, slotsF, ren, rnN, nrH, nrB, nrL, nr, List.replicate_zero, List.replicate_succ, Nat.sub_self, Nat.add_zero, Nat.zero_add, Nat.reduceSub, Nat.lt_add_one, go_sem, Nat.reduceLeDiff, Nat.reduceLT, Nat.reduceAdd, Nat.reduceSub, Nat.reduceBEq, ct50t2_58, body58, ct50t2_88, body88, ct50t2_89, body89, e8, e10, e12]
    repeat ((with_reducible refine And.intro ?_ ?_); focus exact an2)
    refine sq ctNo_ok ?_
    simp only [go_sem]
    refine rg ctNo_ok ?_
    simp only [go_sem]
    obtain rfl := Option.some.inj H
    refine RetE_mk [] [some 0, some 1, some 2, some 3] ?_ ?_ ?_ ?_ (by rfl) (by rfl)
    · simp only [go_sem]
      try exact at0
    · simp only [go_sem]
      try exact at0
    · simp only [go_sem, Nat.reduceAdd]
      exact Cv_tup (CvL_cons (by simp [Cv, getM]) (CvL_cons Cv_int CvL_nil))
    · simp only [go_sem, CvH, gt_some, Option.isSome_some]
      first | exact ⟨(by simp [CvB, CvL, Cv, blkAt, geth, getM]), CvB_row nr_TRegulateChannel cl (fun _ _ _ _ => rfl), CvB_row nr_TRegulateBlock cl (fun _ _ _ _ => rfl), CvB_row nr_i64 cl (fun _ _ _ _ => rfl)⟩ | trivial
  · cases hb
noncomputable def F114_0 (p0 : Int) (p1_0_1 : Int) : Option (Bool) :=
  some (bEq p0 p1_0_1)
noncomputable def body114_0 : List AV -> AR
  | [v0, v1] => .pure (iK .i64 v0 /\ rM 1 v1 /\ rM 10 (rG v1 0) /\ iK .i64 (rG (rG v1 0) 1) /\ (F114_0 (iA v0) (iA (rG (rG v1 0) 1))).isSome = true) (.bool (gt (F114_0 (iA v0) (iA (rG (rG v1 0) 1)))))
  | _ => .fail
theorem ok114_0 : FnOk Try.prog 114 (pureC body114_0) := by
  refine pure_fnM body114_0 (rs := [.tmp 3]) Try.func114 (by kernel_rfl) rfl rfl ?_
  intro l ob v hb hob
  unfold body114_0 at hb
  split at hb
  · rename_i v0 v1
    injection hb with q1 q2; subst q1 q2
    obtain ⟨hk0_0, hk1_0, hk1_1, hk1_2, hob⟩ := hob
    obtain ⟨r, H⟩ := Option.isSome_iff_exists.1 hob
    rw [H, gt_some]
    have hw0 := iK_wk hk0_0
    have hw1 := (rM_wk (cells := [.rptr 10 1 0 0 (fun _ y => getL [AV.top, AV.int .i64 (iA (rG (rG v1 0) 1)), AV.top, AV.top, AV.top, AV.top, AV.top, AV.top, AV.top, AV.top] y)]) hk1_0 (fun y hy => match y, hy with | 0, _ => (rM_wk (cells := [AV.top, AV.int .i64 (iA (rG (rG v1 0) 1)), AV.top, AV.top, AV.top, AV.top, AV.top, AV.top, AV.top, AV.top]) hk1_1 (fun y hy => match y, hy with | 0, _ => top_wk | 1, _ => iK_wk hk1_2 | 2, _ => top_wk | 3, _ => top_wk | 4, _ => top_wk | 5, _ => top_wk | 6, _ => top_wk | 7, _ => top_wk | 8, _ => top_wk | 9, _ => top_wk | y + 10, hy => absurd hy (by omega))) | y + 1, hy => absurd hy (by omega)))
    generalize iA v0 = p0 at H hw0
    generalize iA (rG (rG v1 0) 1) = p1_0_1 at H hw1
    refine ⟨[.int .i64 p0, .rptr 1 1 0 0 (fun _ y => getL [.rptr 10 1 0 0 (fun _ y => getL [.top, .int .i64 p1_0_1, .top, .top, .top, .top, .top, .top, .top, .top] y)] y)], _, (fun E vs F => FR_wk1 hw0.1 F (fun vs F => FR_wk1 hw1.1 F (fun vs F => F))), rfl, rfl, ?_⟩
    rw [Try.ntmps114]
    simp only [List.length_cons, List.length_nil, Nat.reduceAdd, Nat.reduceSub, List.replicate_succ, List.replicate_zero, List.cons_append, List.nil_append]
    unfold F114_0 at H
    try dsimp only at H
    refine sq ctNo_ok ?_
    simp only [go_sem]
    refine sq ctNo_ok ?_
    simp only [go_sem, Nat.reduceLeDiff, Nat.reduceLT, Nat.reduceAdd]
    repeat ((with_reducible refine And.intro ?_ ?_); focus exact an4)
    refine rg ctNo_ok ?_
    simp only [go_sem]
    obtain rfl := Option.some.inj H
    first | rfl | simp only [Bool.and_false, Bool.false_and, Bool.and_true, Bool.true_and] | exact congrArg AV.bool (Eq.symm (by assumption))
  · cases hb
noncomputable def ct120_0t0 : Ct := tab [(114, pureC body114_0)]
theorem ct120_0t0_ok : CtOk Try.prog ct120_0t0 := tab_cons ok114_0 <| tab_nil
theorem ct120_0t0_114 (l : List AV) (h : List ABlk) : ct120_0t0 114 l h = pureC body114_0 l h := rfl
noncomputable def F120_0_L1 (p0 : List Int) (p1_0_1 : Int) (v1_1 : Int) : Option (Lp (Int) ((Unit) ⊕ (Int))) :=
  bif (bLt v1_1 (p0.length : Nat)) then (need (inb v1_1 p0.length) <| (F114_0 (gd p0 v1_1.toNat) p1_0_1).bind fun r3 => bif r3 then (some (.done (.inr v1_1))) else (some (.next (wr .i64 (v1_1 + 1))))) else (some (.done (.inl ())))
noncomputable def F120_0 (p0 : List Int) (p1_0_1 : Int) : Option (Int) :=
  lp (loopD (fun s => F120_0_L1 p0 p1_0_1 s) 0) (fun _ => some (-1)) some
noncomputable def body120_0 : List AV -> AR
  | [v0, .fn 114 [v1]] => .pure (lK k_i64 1 v0 /\ rM 1 v1 /\ rM 10 (rG v1 0) /\ iK .i64 (rG (rG v1 0) 1) /\ (F120_0 (lA g_i64 v0) (iA (rG (rG v1 0) 1))).isSome = true) (.int .i64 (gt (F120_0 (lA g_i64 v0) (iA (rG (rG v1 0) 1)))))
  | _ => .fail
theorem ok120_0 : FnOk Try.prog 120 (pureC body120_0) := by
  refine pure_fnM body120_0 (rs := [.tmp 4]) Try.func120 (by kernel_rfl) rfl rfl ?_
  intro l ob v hb hob
  unfold body120_0 at hb
  split at hb
  · rename_i v0 v1
    injection hb with q1 q2; subst q1 q2
    obtain ⟨hk0_0, hk1_0, hk1_1, hk1_2, hob⟩ := hob
    obtain ⟨r, H⟩ := Option.isSome_iff_exists.1 hob
    rw [H, gt_some]
    have hw0 := lK_wk (fun r h => w_i64 h) hk0_0
    have hw1 := (rM_wk (cells := [.rptr 10 1 0 0 (fun _ y => getL [AV.top, AV.int .i64 (iA (rG (rG v1 0) 1)), AV.top, AV.top, AV.top, AV.top, AV.top, AV.top, AV.top, AV.top] y)]) hk1_0 (fun y hy => match y, hy with | 0, _ => (rM_wk (cells := [AV.top, AV.int .i64 (iA (rG (rG v1 0) 1)), AV.top, AV.top, AV.top, AV.top, AV.top, AV.top, AV.top, AV.top]) hk1_1 (fun y hy => match y, hy with | 0, _ => top_wk | 1, _ => iK_wk hk1_2 | 2, _ => top_wk | 3, _ => top_wk | 4, _ => top_wk | 5, _ => top_wk | 6, _ => top_wk | 7, _ => top_wk | 8, _ => top_wk | 9, _ => top_wk | y + 10, hy => absurd hy (by omega))) | y + 1, hy => absurd hy (by omega)))
    generalize lA g_i64 v0 = p0 at H hw0
    generalize iA (rG (rG v1 0) 1) = p1_0_1 at H hw1
    refine ⟨[.ro 1 p0.length false (enR c_i64 p0), .fn 114 [.rptr 1 1 0 0 (fun _ y => getL [.rptr 10 1 0 0 (fun _ y => getL [.top, .int .i64 p1_0_1, .top, .top, .top, .top, .top, .top, .top, .top] y)] y)]], _, (fun E vs F => FR_wk1 hw0.1 F (fun vs F => FR_wk1 (fn_wk (LW_cons hw1.1 LW_nil)) F (fun vs F => F))), rfl, rfl, ?_⟩
    rw [Try.ntmps120]
    simp only [List.length_cons, List.length_nil, Nat.reduceAdd, Nat.reduceSub, List.replicate_succ, List.replicate_zero, List.cons_append, List.nil_append]
    unfold F120_0 at H
    try dsimp only at H
    refine sq ctNo_ok ?_
    simp only [go_sem]
    refine seqM ?_
    refine sq ctNo_ok ?_
    simp only [go_sem]
    repeat ((with_reducible refine And.intro ?_ ?_); focus exact an3)
    refine blkM ?_
    refine loop_den (fun s : Int => (.ro 1 p0.length false (enR c_i64 p0) :: .fn 114 [.rptr 1 1 0 0 (fun _ y => getL [.rptr 10 1 0 0 (fun _ y => getL [.top, .int .i64 p1_0_1, .top, .top, .top, .top, .top, .top, .top, .top] y)] y)] :: tp 5 (.int .i64 (p0.length : Nat) :: .int .i64 s :: tp 10 []))) (fun s => []) (fun e : Unit => (tp 19 [])) (fun e => []) H ?_ (fun v1_1 o H hn1_1 hn2_1 => ?_) (fun e H => ?_)
    · refine SubF_of ⟨[], ?_, ?_, by rfl, by rfl⟩
      · simp [CvL, Cv, tp]
      · trivial
    · unfold F120_0_L1 at H
      try dsimp only at H ⊢
      try simp only [tp]
      refine sq ctNo_ok ?_
      simp only [go_sem]
      refine seqM ?_
      refine condM' rfl trivial (fun hc => ?_) (fun hc => ?_)
      · have hk1 : (bLt v1_1 (p0.length : Nat)) = false := by simpa using hc
        replace H := cond_f hc H
        refine rg ctNo_ok ?_
        simp only [go_sem]
        refine ⟨_, (Option.some.inj H).symm, ?_⟩
        refine SubF_of ⟨[], ?_, ?_, by rfl, by rfl⟩
        · simp [CvL, Cv]
        · trivial
      have hk1 : (bLt v1_1 (p0.length : Nat)) = true := by simpa using hc
      replace H := cond_t hc H
      refine rg ctNo_ok ?_
      simp only [go_sem]
      refine seqM ?_
      refine blkM ?_
      refine sq ctNo_ok ?_
      simp only [go_sem]
      refine seqM ?_
      obtain ⟨f2, H⟩ := need_some.1 H
      replace f2 := inb_iff.1 f2
      obtain ⟨r3, e4, H⟩ := bsi H
      refine rg ct120_0t0_ok ?_
      simp only [go_sem, Nat.reduceLT, ct120_0t0_114, body114_0, f2, e4]
      repeat ((with_reducible refine And.intro ?_ ?_); focus exact an3)
      refine condM rfl trivial (fun hc => ?_) (fun hc => ?_)
      · have hk5 : (r3) = true := by simpa using hc
        replace H := cond_t hc H
        refine sq ctNo_ok ?_
        simp only [go_sem]
        refine rg ctNo_ok ?_
        simp only [go_sem]
        have H := hn2_1 _ (Option.some.inj H).symm
        obtain rfl := Option.some.inj H
        first | rfl | simp only [Bool.and_false, Bool.false_and, Bool.and_true, Bool.true_and] | exact congrArg AV.bool (Eq.symm (by assumption))
      have hk5 : (r3) = false := by simpa using hc
      replace H := cond_f hc H
      refine rg ctNo_ok ?_
      simp only [go_sem]
      refine rg ctNo_ok ?_
      simp only [go_sem]
      refine ⟨_, (Option.some.inj H).symm, ?_⟩
      refine SubF_of ⟨[], ?_, ?_, by rfl, by rfl⟩
      · simp [CvL, Cv]
      · trivial
    · try dsimp only at H ⊢
      try simp only [tp]
      try simp only [m_normal]
      refine sq ctNo_ok ?_
      simp only [go_sem]
      refine rg ctNo_ok ?_
      simp only [go_sem]
      obtain rfl := Option.some.inj H
      first | rfl | simp only [Bool.and_false, Bool.false_and, Bool.and_true, Bool.true_and] | exact congrArg AV.bool (Eq.symm (by assumption))
  · cases hb
noncomputable def ct113_0t0 : Ct := tab [(120, pureC body120_0)]
theorem ct113_0t0_ok : CtOk Try.prog ct113_0t0 := tab_cons ok120_0 <| tab_nil
theorem ct113_0t0_120 (l : List AV) (h : List ABlk) : ct113_0t0 120 l h = pureC body120_0 l h := rfl
noncomputable def ct113_0t1 : Ct := tab [(114, pureC body114_0)]
theorem ct113_0t1_ok : CtOk Try.prog ct113_0t1 := tab_cons ok114_0 <| tab_nil
theorem ct113_0t1_114 (l : List AV) (h : List ABlk) : ct113_0t1 114 l h = pureC body114_0 l h := rfl
noncomputable def F113_0_L1 (p1_0_1 : Int) (v1_1 : List Int) (v1_2 : Int) (v1_3 : Int) : Option (Lp ((List Int) × Int × Int) (((List Int) × Int) ⊕ (List Int))) :=
  bif (bLt v1_3 (v1_1.length : Nat)) then (need (inb v1_3 v1_1.length) <| (F114_0 (gd v1_1 v1_3.toNat) p1_0_1).bind fun r6 => bif (!r6) then (need (inb v1_2 v1_1.length) <| some (.next ((v1_1.set v1_2.toNat (gd v1_1 v1_3.toNat)), wr .i64 (v1_2 + 1), wr .i64 (v1_3 + 1)))) else (some (.next (v1_1, v1_2, wr .i64 (v1_3 + 1))))) else (some (.done (.inl (v1_1, v1_2))))
noncomputable def F113_0 (p0 : List Int) (p1_0_1 : Int) : Option (List Int) :=
  (F120_0 p0 p1_0_1).bind fun r1 => bif (bEq r1 (-1)) then (some p0) else (lp (loopD (fun s => F113_0_L1 p1_0_1 s.1 s.2.1 s.2.2) (p0, r1, wr .i64 (r1 + 1))) (fun e1 => need (slb e1.2 (e1.1.length : Nat) e1.1.length) <| need (slb 0 e1.2 e1.1.length) <| some (List.take e1.2.toNat e1.1)) some)
noncomputable def body113_0 : List AV -> List ABlk -> ED
  | [v0, .fn 114 [v1]], h => .ed [slN v0] (oS 3 1 h v0 /\ lK k_i64 1 (roW h v0) /\ rM 1 (roD (deadL h [slN v0]) v1) /\ rM 10 (rG (roD (deadL h [slN v0]) v1) 0) /\ iK .i64 (rG (rG (roD (deadL h [slN v0]) v1) 0) 1) /\ roDOb (deadL h [slN v0]) v1 /\ (F113_0 (lA g_i64 (roW h v0)) (iA (rG (rG (roD (deadL h [slN v0]) v1) 0) 1))).isSome = true) (.sl 1 1 0 ((gt (F113_0 (lA g_i64 (roW h v0)) (iA (rG (rG (roD (deadL h [slN v0]) v1) 0) 1)))).length) false) [.dead, .row 3 1 ((gt (F113_0 (lA g_i64 (roW h v0)) (iA (rG (rG (roD (deadL h [slN v0]) v1) 0) 1)))).length) (enR c_i64 (gt (F113_0 (lA g_i64 (roW h v0)) (iA (rG (rG (roD (deadL h [slN v0]) v1) 0) 1)))))]
  | _, _ => .fail
theorem ok113_0 : FnOk Try.prog 113 (edC body113_0) := by
  refine edit_fnV body113_0 (rs := [.tmp 4]) Try.func113 (by kernel_rfl) rfl rfl ?_
  intro l h bs ob q0 g0 hb hob
  unfold body113_0 at hb
  split at hb
  · rename_i v0 v1
    injection hb with q1 q2 q3 q4; subst q1 q2 q3 q4
    obtain ⟨hk0_0, hk0_1, hk1_0, hk1_1, hk1_2, hk1_3, hob⟩ := hob
    obtain ⟨r, H⟩ := Option.isSome_iff_exists.1 hob
    rw [H, gt_some]
    obtain ⟨p0, hp0⟩ : ∃ p0, p0 = lA g_i64 (roW h v0) := ⟨_, rfl⟩
    rw [← hp0] at H
    obtain ⟨ev0, eb0⟩ := own_row2 (f := c_i64) (g := g_i64) (bs := [slN v0]) (i := 0) (fun hr => w_i64 hr) hk0_0 hk0_1 (L := p0) (by rw [hp0]) rfl
    have hw1 := (rM_wk (cells := [.rptr 10 1 0 0 (fun _ y => getL [AV.top, AV.int .i64 (iA (rG (rG (roD (deadL h [slN v0]) v1) 0) 1)), AV.top, AV.top, AV.top, AV.top, AV.top, AV.top, AV.top, AV.top] y)]) hk1_0 (fun y hy => match y, hy with | 0, _ => (rM_wk (cells := [AV.top, AV.int .i64 (iA (rG (rG (roD (deadL h [slN v0]) v1) 0) 1)), AV.top, AV.top, AV.top, AV.top, AV.top, AV.top, AV.top, AV.top]) hk1_1 (fun y hy => match y, hy with | 0, _ => top_wk | 1, _ => iK_wk hk1_2 | 2, _ => top_wk | 3, _ => top_wk | 4, _ => top_wk | 5, _ => top_wk | 6, _ => top_wk | 7, _ => top_wk | 8, _ => top_wk | 9, _ => top_wk | y + 10, hy => absurd hy (by omega))) | y + 1, hy => absurd hy (by omega)))
    obtain ⟨p1_0_1, hp_p1_0_1⟩ : ∃ p1_0_1, p1_0_1 = iA (rG (rG (roD (deadL h [slN v0]) v1) 0) 1) := ⟨_, rfl⟩
    rw [← hp_p1_0_1] at H hw1
    refine ⟨[.sl 0 1 0 p0.length false, .fn 114 [.rptr 1 1 0 0 (fun _ y => getL [.rptr 10 1 0 0 (fun _ y => getL [.top, .int .i64 p1_0_1, .top, .top, .top, .top, .top, .top, .top, .top] y)] y)]], [.row 3 1 p0.length (enR c_i64 p0)], rfl, ⟨(EW_own ev0 (by simp only [noro])), ⟨(EW_fn ⟨(EW_view hk1_3 hw1), trivial⟩), trivial⟩⟩, ⟨eb0, trivial⟩, ⟨noroB_en, trivial⟩, ⟨trivial, ⟨(nfB_en nr_i64), trivial⟩⟩, ⟨trivial, ⟨noroB_en, trivial⟩⟩, (by first | (simp only [noro]; done) | (simp only [noro, noroL]; and_intros <;> first | trivial | exact noro_bif (by simp only [noro]) (by simp only [noro]) | (simp only [noro, noroL, and_self]))), ?_⟩
    rw [Try.ntmps113]
    simp only [List.length_cons, List.length_nil, Nat.reduceAdd, Nat.reduceSub, List.replicate_succ, List.replicate_zero, List.cons_append, List.nil_append]
    unfold F113_0 at H
    try dsimp only at H
    refine sq ctNo_ok ?_
    simp only [go_sem]
    refine seqM ?_
    obtain ⟨r1, e2, H⟩ := bsi H
    refine rg ct113_0t0_ok ?_
    simp only [go_sem, Nat.reduceLT, ct113_0t0_120, body120_0, e2]
    repeat ((with_reducible refine And.intro ?_ ?_); focus exact an3)
    refine seqM ?_
    refine sq ctNo_ok ?_
    simp only [go_sem]
    refine condM rfl trivial (fun hc => ?_) (fun hc => ?_)
    · have hk3 : (bEq r1 (-1)) = true := by simpa using hc
      replace H := cond_t hc H
      refine sq ctNo_ok ?_
      simp only [go_sem]
      refine rg ctNo_ok ?_
      simp only [go_sem]
      obtain rfl := Option.some.inj H
      refine RetE_mk [] [some 0, some 0] ?_ ?_ ?_ ?_ (by rfl) (by rfl)
      · simp only [go_sem]
        try exact at0
      · simp only [go_sem]
        try exact at0
      · simp only [go_sem]
        exact (by first | (simp [Cv, getM]; done) | (simp [Cv, CvL, getM, gt_some]; omega))
      · simp only [go_sem, CvH]
        first | exact ⟨CvB_dead, CvB_row nr_i64 cl (fun _ _ _ _ => rfl)⟩ | trivial
    have hk3 : (bEq r1 (-1)) = false := by simpa using hc
    replace H := cond_f hc H
    refine rg ctNo_ok ?_
    simp only [go_sem]
    refine seqM ?_
    refine sq ctNo_ok ?_
    simp only [go_sem]
    refine blkM ?_
    refine loop_den (fun s : (List Int) × Int × Int => (.sl 1 1 0 s.1.length false :: .fn 114 [.rptr 1 1 0 0 (fun _ y => getL [.rptr 10 1 0 0 (fun _ y => getL [.top, .int .i64 p1_0_1, .top, .top, .top, .top, .top, .top, .top, .top] y)] y)] :: .top :: .top :: .top :: .int .i64 s.2.1 :: .int .i64 s.2.2 :: tp 35 [])) (fun s => [.dead, .row 3 1 s.1.length (enR c_i64 s.1)]) (fun e : (List Int) × Int => (.sl 1 1 0 e.1.length false :: tp 4 (.int .i64 e.2 :: tp 36 []))) (fun e => [.dead, .row 3 1 e.1.length (enR c_i64 e.1)]) H ?_ (fun s o H hn1_1 hn2_1 => ?_) (fun e H => ?_)
    · refine SubF_of ⟨[some 0, some 0], ?_, ?_, by rfl, by rfl⟩
      · simp [CvL, Cv, getM, tp]
      · exact ⟨CvB_dead, CvB_row nr_i64 cl (fun _ _ _ _ => rfl), trivial⟩
    · obtain ⟨v1_1, v1_2, v1_3⟩ := s
      unfold F113_0_L1 at H
      try dsimp only at H ⊢
      try simp only [tp]
      refine seqM ?_
      refine sq ctNo_ok ?_
      simp only [go_sem]
      repeat ((with_reducible refine And.intro ?_ ?_); focus exact an3)
      refine condM' rfl trivial (fun hc => ?_) (fun hc => ?_)
      · have hk4 : (bLt v1_3 (v1_1.length : Nat)) = false := by simpa using hc
        replace H := cond_f hc H
        refine rg ctNo_ok ?_
        simp only [go_sem]
        refine ⟨_, (Option.some.inj H).symm, ?_⟩
        refine SubF_of ⟨[some 0, some 1], ?_, ?_, by rfl, by rfl⟩
        · simp [CvL, Cv, getM]
        · exact ⟨CvB_dead, CvB_row nr_i64 cl (fun _ _ _ _ => rfl), trivial⟩
      have hk4 : (bLt v1_3 (v1_1.length : Nat)) = true := by simpa using hc
      replace H := cond_t hc H
      refine rg ctNo_ok ?_
      simp only [go_sem]
      refine seqM ?_
      refine blkM ?_
      refine seqM ?_
      obtain ⟨f5, H⟩ := need_some.1 H
      replace f5 := inb_iff.1 f5
      refine rg ctNo_ok ?_
      simp only [go_sem, Nat.reduceLT, f5]
      repeat ((with_reducible refine And.intro ?_ ?_); focus exact an4)
      refine seqM ?_
      obtain ⟨r6, e7, H⟩ := bsi H
      refine rg ct113_0t1_ok ?_
      simp only [go_sem, Nat.reduceLT, ct113_0t1_114, body114_0, e7]
      repeat ((with_reducible refine And.intro ?_ ?_); focus exact an3)
      refine condM' rfl trivial (fun hc => ?_) (fun hc => ?_)
      · have hk8 : (r6) = true := by simpa using hc
        replace H := cond_f hc H
        refine rg ctNo_ok ?_
        simp only [go_sem]
        refine rg ctNo_ok ?_
        simp only [go_sem]
        refine ⟨_, (Option.some.inj H).symm, ?_⟩
        refine SubF_of ⟨[some 0, some 1], ?_, ?_, by rfl, by rfl⟩
        · simp [CvL, Cv, getM]
        · exact ⟨CvB_dead, CvB_row nr_i64 cl (fun _ _ _ _ => rfl), trivial⟩
      have hk8 : (r6) = false := by simpa using hc
      replace H := cond_t hc H
      refine seqM ?_
      obtain ⟨f9, H⟩ := need_some.1 H
      replace f9 := inb_iff.1 f9
      refine rg ctNo_ok ?_
      simp only [go_sem, f9]
      repeat ((with_reducible refine And.intro ?_ ?_); focus exact an4)
      refine rg ctNo_ok ?_
      simp only [go_sem]
      refine rg ctNo_ok ?_
      simp only [go_sem]
      refine ⟨_, (Option.some.inj H).symm, ?_⟩
      refine SubF_of ⟨[some 0, some 1], ?_, ?_, by rfl, by rfl⟩
      · simp [CvL, Cv, getM]
      · exact ⟨CvB_dead, CvB_row nr_i64 cl (upc_row (f := c_i64) v1_1 v1_2.toNat 0 (gd v1_1 v1_3.toNat) (fun _ _ _ _ => rfl) (fun y hy => match y, hy with | 0, _ => rfl | (y+1), h => absurd h nlt)), trivial⟩
    · obtain ⟨w1_4, w1_5⟩ := e
      try dsimp only at H ⊢
      try simp only [tp]
      try simp only [m_normal]
      refine seqM ?_
      obtain ⟨f10, H⟩ := need_some.1 H
      replace f10 := slb_iff.1 f10
      refine rg ctNo_ok ?_
      simp only [go_sem, f10]
      repeat ((with_reducible refine And.intro ?_ ?_); focus exact an3)
      refine seqM ?_
      obtain ⟨f11, H⟩ := need_some.1 H
      replace f11 := slb_iff.1 f11
      refine rg ctNo_ok ?_
      simp only [go_sem, f11]
      repeat ((with_reducible refine And.intro ?_ ?_); focus exact an4)
      refine rg ctNo_ok ?_
      simp only [go_sem]
      obtain rfl := Option.some.inj H
      refine RetE_mk [] [some 0, some 1] ?_ ?_ ?_ ?_ (by rfl) (by rfl)
      · simp only [go_sem]
        try exact at0
      · simp only [go_sem]
        try exact at0
      · simp only [go_sem]
        exact (by first | (simp [Cv, getM, (show (List.take w1_5.toNat w1_4).length = w1_5.toNat from take_len (n := w1_4.length) cl (by omega))]; done) | (simp [Cv, CvL, getM, gt_some, (show (List.take w1_5.toNat w1_4).length = w1_5.toNat from take_len (n := w1_4.length) cl (by omega))]; omega))
      · simp only [go_sem, CvH]
        first | exact ⟨CvB_dead, (CvB_pre nr_i64 (by rw [show (List.take w1_5.toNat w1_4).length = w1_5.toNat from take_len (n := w1_4.length) cl (by omega)]; omega) (clr_row (fun _ _ _ _ => rfl)))⟩ | trivial
  · cases hb
noncomputable def ct68t0 : Ct := tab [(98, pureC body98)]
theorem ct68t0_ok : CtOk Try.prog ct68t0 := tab_cons ok98 <| tab_nil
theorem ct68t0_98 (l : List AV) (h : List ABlk) : ct68t0 98 l h = pureC body98 l h := rfl
noncomputable def F68 (p0 : TRegulateBlock) (p1 : Int) : Option (Int) :=
  (F98 p0.Channel p1).bind fun r1 => some r1
noncomputable def body68 : List AV -> AR
  | [v0, v1] => .pure (aK 2 k_TRegulateBlock v0 /\ iK .i64 v1 /\ (F68 (g_TRegulateBlock (aL v0)) (iA v1)).isSome = true) (.int .i64 (gt (F68 (g_TRegulateBlock (aL v0)) (iA v1))))
  | _ => .fail
theorem ok68 : FnOk Try.prog 68 (pureC body68) := by
  refine pure_fnM body68 (rs := [.tmp 4]) Try.func68 (by kernel_rfl) rfl rfl ?_
  intro l ob v hb hob
  unfold body68 at hb
  split at hb
  · rename_i v0 v1
    injection hb with q1 q2; subst q1 q2
    obtain ⟨hk0_0, hk1_0, hob⟩ := hob
    obtain ⟨r, H⟩ := Option.isSome_iff_exists.1 hob
    rw [H, gt_some]
    have hw0 := wA_TRegulateBlock hk0_0
    have hw1 := iK_wk hk1_0
    generalize g_TRegulateBlock (aL v0) = p0 at H hw0
    generalize iA v1 = p1 at H hw1
    refine ⟨[.agg [.int .i64 p0.Channel, .int .i64 p0.Until], .int .i64 p1], _, (fun E vs F => FR_wk1 hw0.1 F (fun vs F => FR_wk1 hw1.1 F (fun vs F => F))), rfl, rfl, ?_⟩
    rw [Try.ntmps68]
    simp only [List.length_cons, List.length_nil, Nat.reduceAdd, Nat.reduceSub, List.replicate_succ, List.replicate_zero, List.cons_append, List.nil_append]
    unfold F68 at H
    try dsimp only at H
    refine sq ctNo_ok ?_
    simp only [go_sem]
    refine seqM ?_
    obtain ⟨r1, e2, H⟩ := bsi H
    refine rg ct68t0_ok ?_
    simp only [go_sem, Nat.reduceLeDiff, Nat.reduceLT, Nat.reduceAdd, ct68t0_98, body98, e2]
    repeat ((with_reducible refine And.intro ?_ ?_); focus exact an0)
    refine rg ctNo_ok ?_
    simp only [go_sem]
    obtain rfl := Option.some.inj H
    first | rfl | simp only [Bool.and_false, Bool.false_and, Bool.and_true, Bool.true_and] | exact congrArg AV.bool (Eq.symm (by assumption))
  · cases hb
noncomputable def ct67_0t0 : Ct := tab [(68, pureC body68)]
theorem ct67_0t0_ok : CtOk Try.prog ct67_0t0 := tab_cons ok68 <| tab_nil
theorem ct67_0t0_68 (l : List AV) (h : List ABlk) : ct67_0t0 68 l h = pureC body68 l h := rfl
noncomputable def F67_0_L1 (p0 : List TRegulateBlock) (p1 : Int) (v1_1 : Int) (v1_2 : Int) : Option (Lp (Int × Int) ((Int) ⊕ (Int × Bool))) :=
  bif (bLt v1_1 v1_2) then (need (inb (wr .i64 (shrI .u64 (wr .u64 (wr .i64 (v1_1 + v1_2))) 1)) p0.length) <| (F68 (gd p0 ((wr .i64 (shrI .u64 (wr .u64 (wr .i64 (v1_1 + v1_2))) 1)).toNat)) p1).bind fun r3 => bif (bLt r3 0) then (some (.next (wr .i64 ((wr .i64 (shrI .u64 (wr .u64 (wr .i64 (v1_1 + v1_2))) 1)) + 1), v1_2))) else (some (.next (v1_1, wr .i64 (shrI .u64 (wr .u64 (wr .i64 (v1_1 + v1_2))) 1))))) else (some (.done (.inl v1_1)))
noncomputable def F67_0 (p0 : List TRegulateBlock) (p1 : Int) : Option (Int × Bool) :=
  lp (loopD (fun s => F67_0_L1 p0 p1 s.1 s.2) (0, (p0.length : Nat))) (fun w1_3 => need (bif (bLt w1_3 (p0.length : Nat)) then inb w1_3 p0.length else true) <| need (bif (bLt w1_3 (p0.length : Nat)) then ((F68 (gd p0 w1_3.toNat) p1).isSome) else true) <| some (w1_3, ((bLt w1_3 (p0.length : Nat)) && (bEq (gt (F68 (gd p0 w1_3.toNat) p1)) 0)))) some
noncomputable def body67_0 : List AV -> AR
  | [v0, v1, .fn 68 []] => .pure (lK k_TRegulateBlock 2 v0 /\ iK .i64 v1 /\ (F67_0 (lA g_TRegulateBlock v0) (iA v1)).isSome = true) (.tup [.int .i64 ((gt (F67_0 (lA g_TRegulateBlock v0) (iA v1))).1), .bool ((gt (F67_0 (lA g_TRegulateBlock v0) (iA v1))).2)])
  | _ => .fail
theorem ok67_0 : FnOk Try.prog 67 (pureC body67_0) := by
  refine pure_fnM body67_0 (rs := [.tmp 6, .tmp 7]) Try.func67 (by kernel_rfl) rfl rfl ?_
  intro l ob v hb hob
  unfold body67_0 at hb
  split at hb
  · rename_i v0 v1
    injection hb with q1 q2; subst q1 q2
    obtain ⟨hk0_0, hk1_0, hob⟩ := hob
    obtain ⟨r, H⟩ := Option.isSome_iff_exists.1 hob
    rw [H, gt_some]
    have hw0 := lK_wk (fun r h => w_TRegulateBlock h) hk0_0
    have hw1 := iK_wk hk1_0
    generalize lA g_TRegulateBlock v0 = p0 at H hw0
    generalize iA v1 = p1 at H hw1
    refine ⟨[.ro 2 p0.length false (enR c_TRegulateBlock p0), .int .i64 p1, .fn 68 []], _, (fun E vs F => FR_wk1 hw0.1 F (fun vs F => FR_wk1 hw1.1 F (fun vs F => FR_wk1 (fn_wk LW_nil) F (fun vs F => F)))), rfl, rfl, ?_⟩
    rw [Try.ntmps67]
    simp only [List.length_cons, List.length_nil, Nat.reduceAdd, Nat.reduceSub, List.replicate_succ, List.replicate_zero, List.cons_append, List.nil_append]
    unfold F67_0 at H
    try dsimp only at H
    refine sq ctNo_ok ?_
    simp only [go_sem]
    refine sq ctNo_ok ?_
    simp only [go_sem]
    repeat ((with_reducible refine And.intro ?_ ?_); focus exact an0)
    refine sq ctNo_ok ?_
    simp only [go_sem]
    refine seqM ?_
    refine blkM ?_
    refine loop_den (fun s : Int × Int => (.ro 2 p0.length false (enR c_TRegulateBlock p0) :: .int .i64 p1 :: .fn 68 [] :: tp 5 (.int .i64 (p0.length : Nat) :: .int .i64 s.1 :: .int .i64 s.2 :: tp 38 []))) (fun s => []) (fun e : Int => (.ro 2 p0.length false (enR c_TRegulateBlock p0) :: .int .i64 p1 :: .fn 68 [] :: tp 5 (.int .i64 (p0.length : Nat) :: .int .i64 e :: tp 39 []))) (fun e => []) H ?_ (fun s o H hn1_1 hn2_1 => ?_) (fun w1_3 H => ?_)
    · refine SubF_of ⟨[], ?_, ?_, by rfl, by rfl⟩
      · simp [CvL, Cv, tp]
      · trivial
    · obtain ⟨v1_1, v1_2⟩ := s
      unfold F67_0_L1 at H
      try dsimp only at H ⊢
      try simp only [tp]
      refine seqM ?_
      refine sq ctNo_ok ?_
      simp only [go_sem]
      refine condM' rfl trivial (fun hc => ?_) (fun hc => ?_)
      · have hk1 : (bLt v1_1 v1_2) = false := by simpa using hc
        replace H := cond_f hc H
        refine rg ctNo_ok ?_
        simp only [go_sem]
        refine ⟨_, (Option.some.inj H).symm, ?_⟩
        refine SubF_of ⟨[], ?_, ?_, by rfl, by rfl⟩
        · simp [CvL, Cv]
        · trivial
      have hk1 : (bLt v1_1 v1_2) = true := by simpa using hc
      replace H := cond_t hc H
      refine rg ctNo_ok ?_
      simp only [go_sem]
      refine blkM ?_
      refine sq ctNo_ok ?_
      simp only [go_sem]
      repeat ((with_reducible refine And.intro ?_ ?_); focus exact an4)
      refine seqM ?_
      obtain ⟨f2, H⟩ := need_some.1 H
      replace f2 := inb_iff.1 f2
      obtain ⟨r3, e4, H⟩ := bsi H
      refine rg ct67_0t0_ok ?_
      simp only [go_sem, Nat.reduceLT, Nat.reduceAdd, ct67_0t0_68, body68, f2, e4]
      repeat ((with_reducible refine And.intro ?_ ?_); focus exact an0)
      refine condM rfl trivial (fun hc => ?_) (fun hc => ?_)
      · have hk5 : (bLt r3 0) = true := by simpa using hc
        replace H := cond_t hc H
        refine rg ctNo_ok ?_
        simp only [go_sem]
        refine ⟨_, (Option.some.inj H).symm, ?_⟩
        refine SubF_of ⟨[], ?_, ?_, by rfl, by rfl⟩
        · simp [CvL, Cv]
        · trivial
      have hk5 : (bLt r3 0) = false := by simpa using hc
      replace H := cond_f hc H
      refine rg ctNo_ok ?_
      simp only [go_sem]
      refine ⟨_, (Option.some.inj H).symm, ?_⟩
      refine SubF_of ⟨[], ?_, ?_, by rfl, by rfl⟩
      · simp [CvL, Cv]
      · trivial
    · try dsimp only at H ⊢
      try simp only [tp]
      try simp only [m_normal]
      refine seqM ?_
      obtain ⟨f6, H⟩ := need_some.1 H
      replace f6 := g_iff.1 f6
      replace f6 := fun g => inb_iff.1 (f6 g)
      obtain ⟨f7, H⟩ := need_some.1 H
      replace f7 := g_iff.1 f7
      refine rg ct67_0t0_ok ?_
      simp only [go_sem, Nat.reduceLT, Nat.reduceAdd, ct67_0t0_68, body68]
      repeat ((with_reducible refine And.intro ?_ ?_); focus (first | (with_reducible trivial) | omega | exact f6 | exact f7 | (intro g; have q := f6 (by first | exact g | (rw [g]; rfl) | simpa using g); first | exact q | exact ⟨q.1, q.2.1⟩ | exact q.2.2 | omega | exact ⟨g, q⟩ | exact ⟨trivial, q⟩ | exact ⟨g, q.1, q.2.1⟩ | exact ⟨g, q.2.2⟩) | (intro g; have q := f7 (by first | exact g | (rw [g]; rfl) | simpa using g); first | exact q | exact ⟨q.1, q.2.1⟩ | exact q.2.2 | omega | exact ⟨g, q⟩ | exact ⟨trivial, q⟩ | exact ⟨g, q.1, q.2.1⟩ | exact ⟨g, q.2.2⟩) | (intro g; (try have q0 := f6 (by first | exact g | (rw [g]; rfl) | simpa using g)); (try have q1 := f7 (by first | exact g | (rw [g]; rfl) | simpa using g)); and_intros <;> first | (with_reducible trivial) | assumption | exact nfc | (intro g2; rw [g, g2]; rfl) | (intro g2; assumption) | (simp only [g, Bool.true_and, Bool.and_true, Bool.not_false, Bool.not_true]; assumption) | grind) | (and_intros <;> first | (with_reducible trivial) | omega | assumption | exact nfc | first | exact rfl | exact trivial | exact fitI | exact .inr rfl | exact .inl rfl | exact fun x hx => absurd hx (by omega)) | grind))
      refine rg ctNo_ok ?_
      simp only [go_sem]
      obtain rfl := Option.some.inj H
      first | rfl | simp only [Bool.and_false, Bool.false_and, Bool.and_true, Bool.true_and] | exact congrArg AV.bool (Eq.symm (by assumption))
  · cases hb
end Go.Proofs.Ytjhkehdbjnhplaa
