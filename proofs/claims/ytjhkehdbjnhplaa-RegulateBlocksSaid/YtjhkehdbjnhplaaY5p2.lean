/-
  What the law reaches.
-/
import Derived.Test.YtjhkehdbjnhplaaY5p1
namespace Go.Proofs.Ytjhkehdbjnhplaa
open Go.Am
set_option linter.unusedVariables false
set_option linter.unusedSimpArgs false
attribute [local go_sem] w_skip w_label w_goto w_scope k_goto b_goto l_goto s_normal s_exit s_ret s_goto w_region w_draw w_seq w_cond w_block w_exit w_ret w_loop k_normal k_exit k_ret b_normal b_exit b_ret l_normal l_exit l_ret m_normal m_exit m_ret m_goto kL_normal kL_exit kL_ret kS_normal kS_exit kS_ret kS_goto r_normal r_ret o_nil o_cons q_nil q_cons nxt gval gvd gvl gvw dstOf evO ogOp ogC og ogL ogP ogO rho rhoO strip optOk getL setL setT absC absV absL pO hO evLoad ldB geth seth evStore stRes stB evBox evAlloc evFieldAddr evField evIndexAddr evBin2 binI binB binNR binU nilR_isEmpty nilR_t nilR_0 nilR_s evInt evStr evUn evConv cvO evPick mrg evExtract evNil evCall mapR evBuiltin evLen2 vcells vcOk atom tabF cnd retK resFin resL resA resC resCons evBuild evBuildP placeS placeA fillA fillOk putL getP nxtQ pureC_eq pureR genC_eq genR roV roL roOb roObL roW roWL roWOb roWObL nref nrefL binA binN eqSh eqRes evIndex evIndex2 evIndexS evSlice evSlice2 evSliceS evBound evConv2 cvS evAppend appRes srcOf evMake evBuildSlice repL evFn evMin evMax freshC freshR sub_enR0 evClear evClearR evCopy evCopyR lenS cutS Bool.or_false Bool.false_or Bool.or_true Bool.true_or Bool.and_false Bool.false_and Option.map_some Option.map_none Option.getD_some Option.getD_none Option.bind_some Option.bind_none Option.or_some Option.or_none Option.none_or Option.isSome_none Option.isNone_none Option.isNone_some List.nil_append List.cons_append List.append_nil cond_true cond_false List.length_cons List.length_nil beq_self_eq_true Bool.and_true Bool.true_and Bool.not_true Bool.not_false true_and and_true and_self true_implies implies_true ne_eq not_false_eq_true Bool.false_eq_true Bool.true_eq_false false_implies Nat.lt_irrefl Nat.le_refl Nat.succ_ne_self imp_self Bool.cond_false_right Bool.cond_true_left decide_true decide_false Bool.not_eq_true' Bool.not_eq_false' Bool.not_not Nat.zero_mul Nat.zero_add Nat.add_zero Nat.mul_one Nat.one_mul Bool.cond_self tsz3 tby3 tagg3 tslice3 tarr3 tzero3 tzn3 tplaces3 tint3 tstr3 tnoint3 tbool3 tany3 tintk3 tbytes3 tsz4 tby4 tagg4 tslice4 tarr4 tzero4 tzn4 tplaces4 tint4 tstr4 tnoint4 tbool4 tany4 tintk4 tbytes4 tsz5 tby5 tagg5 tslice5 tarr5 tzero5 tzn5 tplaces5 tint5 tstr5 tnoint5 tbool5 tany5 tintk5 tbytes5 tsz9 tby9 tagg9 tslice9 tarr9 tzero9 tzn9 tplaces9 tint9 tstr9 tnoint9 tbool9 tany9 tintk9 tbytes9 tsz23 tby23 tagg23 tslice23 tarr23 tzero23 tzn23 tplaces23 tint23 tstr23 tnoint23 tbool23 tany23 tintk23 tbytes23 tfld23_0 tfld23_1 tfld23_2 tfld23_3 tsz24 tby24 tagg24 tslice24 tarr24 tzero24 tzn24 tplaces24 tint24 tstr24 tnoint24 tbool24 tany24 tintk24 tbytes24 tsz25 tby25 tagg25 tslice25 tarr25 tzero25 tzn25 tplaces25 tint25 tstr25 tnoint25 tbool25 tany25 tintk25 tbytes25 tsz35 tby35 tagg35 tslice35 tarr35 tzero35 tzn35 tplaces35 tint35 tstr35 tnoint35 tbool35 tany35 tintk35 tbytes35 tsz36 tby36 tagg36 tslice36 tarr36 tzero36 tzn36 tplaces36 tint36 tstr36 tnoint36 tbool36 tany36 tintk36 tbytes36 tsz37 tby37 tagg37 tslice37 tarr37 tzero37 tzn37 tplaces37 tint37 tstr37 tnoint37 tbool37 tany37 tintk37 tbytes37 tsz39 tby39 tagg39 tslice39 tarr39 tzero39 tzn39 tplaces39 tint39 tstr39 tnoint39 tbool39 tany39 tintk39 tbytes39 tfld39_0 tfld39_1 tfld39_2 tfld39_3 tfld39_4 tfld39_5 tfld39_6 tfld39_7 tfld39_8 tfld39_9 tsz45 tby45 tagg45 tslice45 tarr45 tzero45 tzn45 tplaces45 tint45 tstr45 tnoint45 tbool45 tany45 tintk45 tbytes45 tfld45_0 tfld45_1 tfld45_2 tsz54 tby54 tagg54 tslice54 tarr54 tzero54 tzn54 tplaces54 tint54 tstr54 tnoint54 tbool54 tany54 tintk54 tbytes54 tsz79 tby79 tagg79 tslice79 tarr79 tzero79 tzn79 tplaces79 tint79 tstr79 tnoint79 tbool79 tany79 tintk79 tbytes79 tfld79_0 tfld79_1 tsz81 tby81 tagg81 tslice81 tarr81 tzero81 tzn81 tplaces81 tint81 tstr81 tnoint81 tbool81 tany81 tintk81 tbytes81 tsz83 tby83 tagg83 tslice83 tarr83 tzero83 tzn83 tplaces83 tint83 tstr83 tnoint83 tbool83 tany83 tintk83 tbytes83 tsz84 tby84 tagg84 tslice84 tarr84 tzero84 tzn84 tplaces84 tint84 tstr84 tnoint84 tbool84 tany84 tintk84 tbytes84 tsz87 tby87 tagg87 tslice87 tarr87 tzn87 tplaces87 tint87 tstr87 tnoint87 tbool87 tany87 tintk87 tbytes87 tfld87_0 tfld87_1 tfld87_2 tfld87_3 tsz88 tby88 tagg88 tslice88 tarr88 tzero88 tzn88 tplaces88 tint88 tstr88 tnoint88 tbool88 tany88 tintk88 tbytes88 tsz93 tby93 tagg93 tslice93 tarr93 tzero93 tzn93 tplaces93 tint93 tstr93 tnoint93 tbool93 tany93 tintk93 tbytes93 tsz96 tby96 tagg96 tslice96 tarr96 tzero96 tzn96 tplaces96 tint96 tstr96 tnoint96 tbool96 tany96 tintk96 tbytes96 tfld96_0 tfld96_1 tsz101 tby101 tagg101 tslice101 tarr101 tzero101 tzn101 tplaces101 tint101 tstr101 tnoint101 tbool101 tany101 tintk101 tbytes101 tsz109 tby109 tagg109 tslice109 tarr109 tzero109 tzn109 tplaces109 tint109 tstr109 tnoint109 tbool109 tany109 tintk109 tbytes109 tsz113 tby113 tagg113 tslice113 tarr113 tzero113 tzn113 tplaces113 tint113 tstr113 tnoint113 tbool113 tany113 tintk113 tbytes113 tsz119 tby119 tagg119 tslice119 tarr119 tzero119 tzn119 tplaces119 tint119 tstr119 tnoint119 tbool119 tany119 tintk119 tbytes119 tsz124 tby124 tagg124 tslice124 tarr124 tzero124 tzn124 tplaces124 tint124 tstr124 tnoint124 tbool124 tany124 tintk124 tbytes124 tsz126 tby126 tagg126 tslice126 tarr126 tzero126 tzn126 tplaces126 tint126 tstr126 tnoint126 tbool126 tany126 tintk126 tbytes126 tsz129 tby129 tagg129 tslice129 tarr129 tzero129 tzn129 tplaces129 tint129 tstr129 tnoint129 tbool129 tany129 tintk129 tbytes129 tsz130 tby130 tagg130 tslice130 tarr130 tzero130 tzn130 tplaces130 tint130 tstr130 tnoint130 tbool130 tany130 tintk130 tbytes130 tsz132 tby132 tagg132 tslice132 tarr132 tzero132 tzn132 tplaces132 tint132 tstr132 tnoint132 tbool132 tany132 tintk132 tbytes132 tfld132_0 tfld132_1 tsz139 tby139 tagg139 tslice139 tarr139 tzero139 tzn139 tplaces139 tint139 tstr139 tnoint139 tbool139 tany139 tintk139 tbytes139 tfld139_0 tfld139_1 tfld139_2 tfld139_3 tsz141 tby141 tagg141 tslice141 tarr141 tzero141 tzn141 tplaces141 tint141 tstr141 tnoint141 tbool141 tany141 tintk141 tbytes141 tsz149 tby149 tagg149 tslice149 tarr149 tzero149 tzn149 tplaces149 tint149 tstr149 tnoint149 tbool149 tany149 tintk149 tbytes149 tsz152 tby152 tagg152 tslice152 tarr152 tzero152 tzn152 tplaces152 tint152 tstr152 tnoint152 tbool152 tany152 tintk152 tbytes152 tsz155 tby155 tagg155 tslice155 tarr155 tzero155 tzn155 tplaces155 tint155 tstr155 tnoint155 tbool155 tany155 tintk155 tbytes155 tsz156 tby156 tagg156 tslice156 tarr156 tzero156 tzn156 tplaces156 tint156 tstr156 tnoint156 tbool156 tany156 tintk156 tbytes156 e_u8_0 fit_u8 de_u8 g_u8 k_u8 e_i64_0 fit_i64 de_i64 g_i64 k_i64 e_b_0 fit_b de_b g_b k_b e_s_0 fit_s de_s g_s k_s e_TRegulateWord_0 e_TRegulateWord_1 e_TRegulateWord_2 e_TRegulateWord_3 fit_TRegulateWord de_TRegulateWord g_TRegulateWord k_TRegulateWord eta_TRegulateWord e_lu8_0 fit_lu8 de_lu8 g_lu8 k_lu8 e_TRegulateChannel_0 e_TRegulateChannel_1 e_TRegulateChannel_2 fit_TRegulateChannel de_TRegulateChannel g_TRegulateChannel k_TRegulateChannel eta_TRegulateChannel e_lTRegulateChannel_0 fit_lTRegulateChannel de_lTRegulateChannel g_lTRegulateChannel k_lTRegulateChannel e_TRegulateBlock_0 e_TRegulateBlock_1 fit_TRegulateBlock de_TRegulateBlock g_TRegulateBlock k_TRegulateBlock eta_TRegulateBlock e_lTRegulateBlock_0 fit_lTRegulateBlock de_lTRegulateBlock g_lTRegulateBlock k_lTRegulateBlock e_li64_0 fit_li64 de_li64 g_li64 k_li64 e_TRegulate_0 e_TRegulate_1 e_TRegulate_2 e_TRegulate_3 e_TRegulate_4 e_TRegulate_5 e_TRegulate_6 e_TRegulate_7 e_TRegulate_8 e_TRegulate_9 fit_TRegulate de_TRegulate g_TRegulate k_TRegulate eta_TRegulate e_lTRegulateWord_0 fit_lTRegulateWord de_lTRegulateWord g_lTRegulateWord k_lTRegulateWord e_TEvent_0 e_TEvent_1 e_TEvent_2 e_TEvent_3 fit_TEvent de_TEvent g_TEvent k_TEvent eta_TEvent e_lTEvent_0 fit_lTEvent de_lTEvent g_lTEvent k_lTEvent e_lTRegulate_0 fit_lTRegulate de_lTRegulate g_lTRegulate k_lTRegulate e_u64_0 fit_u64 de_u64 g_u64 k_u64 e_TReader_0 e_TReader_1 fit_TReader de_TReader g_TReader k_TReader eta_TReader deR_0 deR_1 deR_2 deR_3 deR_4 deR_5 deR_6 deR_7 deR_8 deR_9 deR_10 deR_11 deR_12 litC_x0 litC_x1 litC_x2 litC_x3 litC_x4 litC_x5 litC_x6 litC_x7 litC_x8 litC_x9 litC_x10 litC_x11 strE_u8 Fit_0 Option.isSome_some gt_some gd_one evCopyL tabR sub_enR List.drop_zero xrD xoD roEq minL rK rM rG aL aK iK bK sK lK iA bA sA lA or_true true_or Int.toNat_natCast shT_23 shT_45 shT_79 shT_139 Int.toNat_zero Int.cast_ofNat_Int
/-! slices.DeleteFunc[[]int,int] -/
noncomputable def ct113_0t0 : Ct := tab [(120, pureC body120_0)]
theorem ct113_0t0_ok : CtOk Try.prog ct113_0t0 := tab_cons ok120_0 <| tab_nil
theorem ct113_0t0_120 (l : List AV) (h : List ABlk) : ct113_0t0 120 l h = pureC body120_0 l h := rfl
noncomputable def ct113_0t1 : Ct := tab [(114, pureC body114_0)]
theorem ct113_0t1_ok : CtOk Try.prog ct113_0t1 := tab_cons ok114_0 <| tab_nil
theorem ct113_0t1_114 (l : List AV) (h : List ABlk) : ct113_0t1 114 l h = pureC body114_0 l h := rfl
noncomputable def F113_0_L1 (p1_0_1 : Int) (v1_1 : List Int) (v1_2 : Int) (v1_3 : Int) : Option (Lp ((List Int) × Int × Int) (((List Int) × Int) ⊕ (List Int))) :=
  bif (bLt v1_3 (v1_1.length : Nat)) then (need (inb v1_3 v1_1.length) <| (F114_0 (gd v1_1 v1_3.toNat) p1_0_1).bind fun r4 => bif (!r4) then (need (inb v1_2 v1_1.length) <| some (.next ((v1_1.set v1_2.toNat (gd v1_1 v1_3.toNat)), wr .i64 (v1_2 + 1), wr .i64 (v1_3 + 1)))) else (some (.next (v1_1, v1_2, wr .i64 (v1_3 + 1))))) else (some (.done (.inl (v1_1, v1_2))))
noncomputable def F113_0 (p0 : List Int) (p1_0_1 : Int) : Option (List Int) :=
  (F120_0 p0 p1_0_1).bind fun r1 => bif (bEq r1 (-1)) then (some p0) else (lp (loopD (fun s => F113_0_L1 p1_0_1 s.1 s.2.1 s.2.2) (p0, r1, wr .i64 (r1 + 1))) (fun e => need (slb e.2 (e.1.length : Nat) e.1.length) <| need (slb 0 e.2 e.1.length) <| some (List.take e.2.toNat e.1)) some)
noncomputable def body113_0 : List AV → List ABlk → ED
  | [v0, .fn 114 [v1]], h => .ed [slN v0] (oS 3 1 h v0 ∧ lK k_i64 1 (roW h v0) ∧ rM 1 (roD (deadL h [slN v0]) v1) ∧ rM 10 (rG (roD (deadL h [slN v0]) v1) 0) ∧ iK .i64 (rG (rG (roD (deadL h [slN v0]) v1) 0) 1) ∧ roDOb (deadL h [slN v0]) v1 ∧ (F113_0 (lA g_i64 (roW h v0)) (iA (rG (rG (roD (deadL h [slN v0]) v1) 0) 1))).isSome = true) (.sl 1 1 0 ((gt (F113_0 (lA g_i64 (roW h v0)) (iA (rG (rG (roD (deadL h [slN v0]) v1) 0) 1)))).length) false) [.dead, .row 3 1 ((gt (F113_0 (lA g_i64 (roW h v0)) (iA (rG (rG (roD (deadL h [slN v0]) v1) 0) 1)))).length) (enR c_i64 (gt (F113_0 (lA g_i64 (roW h v0)) (iA (rG (rG (roD (deadL h [slN v0]) v1) 0) 1)))))]
  | _, _ => .fail
set_option maxHeartbeats 4000000 in
set_option maxRecDepth 20000 in
theorem ok113_0 : FnOk Try.prog 113 (edC body113_0) := by
  refine edit_fnV body113_0 (rs := [.tmp 4]) Try.func113 (by kernel_rfl) rfl rfl ?_
  intro l h bs ob q0 g0 hb hob
  unfold body113_0 at hb
  split at hb
  · rename_i v0 v1
    injection hb with q1 q2 q3 q4; subst q1 q2 q3 q4
    obtain ⟨hk0_0, hk0_1, hk1_0, hk1_1, hk1_2, hk1_3, hob⟩ := hob
    obtain ⟨r, H⟩ := Option.isSome_iff_exists.1 hob
    rw [H, gt_some]
    obtain ⟨p0, hp0⟩ : ∃ p0, p0 = lA g_i64 (roW h v0) := ⟨_, rfl⟩
    rw [← hp0] at H
    obtain ⟨ev0, eb0⟩ := own_row2 (f := c_i64) (g := g_i64) (bs := [slN v0]) (i := 0) (fun hr => w_i64 hr) hk0_0 hk0_1 (L := p0) (by rw [hp0]) rfl
    have hw1 := (rM_wk (cells := [.rptr 10 1 0 0 (fun _ y => getL [AV.top, AV.int .i64 (iA (rG (rG (roD (deadL h [slN v0]) v1) 0) 1)), AV.top, AV.top, AV.top, AV.top, AV.top, AV.top, AV.top, AV.top] y)]) hk1_0 (fun y hy => match y, hy with | 0, _ => (rM_wk (cells := [AV.top, AV.int .i64 (iA (rG (rG (roD (deadL h [slN v0]) v1) 0) 1)), AV.top, AV.top, AV.top, AV.top, AV.top, AV.top, AV.top, AV.top]) hk1_1 (fun y hy => match y, hy with | 0, _ => top_wk | 1, _ => iK_wk hk1_2 | 2, _ => top_wk | 3, _ => top_wk | 4, _ => top_wk | 5, _ => top_wk | 6, _ => top_wk | 7, _ => top_wk | 8, _ => top_wk | 9, _ => top_wk | y + 10, hy => absurd hy (by omega))) | y + 1, hy => absurd hy (by omega)))
    obtain ⟨p1_0_1, hp_p1_0_1⟩ : ∃ p1_0_1, p1_0_1 = iA (rG (rG (roD (deadL h [slN v0]) v1) 0) 1) := ⟨_, rfl⟩
    rw [← hp_p1_0_1] at H hw1
    refine ⟨[.sl 0 1 0 p0.length false, .fn 114 [.rptr 1 1 0 0 (fun _ y => getL [.rptr 10 1 0 0 (fun _ y => getL [.top, .int .i64 p1_0_1, .top, .top, .top, .top, .top, .top, .top, .top] y)] y)]], [.row 3 1 p0.length (enR c_i64 p0)], rfl, ⟨(EW_own ev0 (by simp only [noro])), ⟨(EW_fn ⟨(EW_view hk1_3 hw1), trivial⟩), trivial⟩⟩, ⟨eb0, trivial⟩, ⟨noroB_en, trivial⟩, ⟨trivial, ⟨(nfB_en nr_i64), trivial⟩⟩, ⟨trivial, ⟨noroB_en, trivial⟩⟩, (by first | (simp only [noro, noroL, and_self]; done) | (simp only [noro, noroL]; and_intros <;> first | trivial | exact noro_bif (by simp only [noro]) (by simp only [noro]) | (simp only [noro, noroL, and_self]))), ?_⟩
    rw [Try.ntmps113]
    simp only [List.length_cons, List.length_nil, Nat.reduceAdd, Nat.reduceSub, List.replicate_succ, List.replicate_zero, List.cons_append, List.nil_append]
    unfold F113_0 at H
    try dsimp only at H
    refine sq ctNo_ok ?_
    simp only [go_sem, Nat.reduceLeDiff, Nat.reduceLT, Nat.reduceAdd, Nat.reduceMul, Nat.reduceSub, Nat.reduceEqDiff, Nat.reduceBEq, Int.reduceToNat, reduceCtorEq]
    refine seqM ?_
    obtain ⟨r1, e2, H⟩ := Option.bind_eq_some_iff.1 H
    refine rg ct113_0t0_ok ?_
    simp only [go_sem, Nat.reduceLeDiff, Nat.reduceLT, Nat.reduceAdd, Nat.reduceMul, Nat.reduceSub, Nat.reduceEqDiff, Nat.reduceBEq, Int.reduceToNat, reduceCtorEq, ct113_0t0_120, body120_0, e2]
    repeat ((with_reducible refine And.intro ?_ ?_); focus (first | (with_reducible trivial) | omega | (and_intros <;> first | (with_reducible trivial) | omega | assumption | exact nfc | first | exact rfl | exact trivial | exact fitI | exact Or.inr rfl | exact Or.inl rfl | exact fun x hx => absurd hx (by omega) | (intro x hx; (repeat (first | (and_intros <;> (first | exact rfl | exact trivial | exact fitI | exact Or.inr rfl | exact Or.inl rfl | exact fun x hx => absurd hx (by omega))) | (exfalso; omega) | (rcases x with _ | x))); done)) | grind))
    refine seqM ?_
    refine sq ctNo_ok ?_
    simp only [go_sem, Nat.reduceLeDiff, Nat.reduceLT, Nat.reduceAdd, Nat.reduceMul, Nat.reduceSub, Nat.reduceEqDiff, Nat.reduceBEq, Int.reduceToNat, reduceCtorEq]
    refine condM rfl trivial (fun hc => ?_) (fun hc => ?_)
    · replace H := cond_t hc H
      refine sq ctNo_ok ?_
      simp only [go_sem, Nat.reduceLeDiff, Nat.reduceLT, Nat.reduceAdd, Nat.reduceMul, Nat.reduceSub, Nat.reduceEqDiff, Nat.reduceBEq, Int.reduceToNat, reduceCtorEq]
      refine rg ctNo_ok ?_
      simp only [go_sem, Nat.reduceLeDiff, Nat.reduceLT, Nat.reduceAdd, Nat.reduceMul, Nat.reduceSub, Nat.reduceEqDiff, Nat.reduceBEq, Int.reduceToNat, reduceCtorEq]
      obtain rfl := Option.some.inj H
      refine RetE_mk [] [some 0, some 0] ?_ ?_ ?_ ?_ (by rfl) (by rfl)
      · simp only [List.length_cons, List.length_nil, Nat.zero_mul, Nat.add_zero, fzV, fzL, fzOb, fzObL, fzH, fzHF, fzB, fzObB, fzObH, inL, rowOb, geth, cond_true, cond_false, Bool.or_false, Bool.or_true, Bool.false_or, Bool.true_or, and_self, true_and, and_true, Nat.reduceEqDiff, Nat.reduceBEq, beq_self_eq_true, sub_enR0, Nat.reduceAdd, Nat.zero_add, Nat.le_refl, List.nil_append]
        try (and_intros <;> first | trivial | omega | exact nfc)
      · simp only [List.length_cons, List.length_nil, Nat.zero_mul, Nat.add_zero, fzV, fzL, fzOb, fzObL, fzH, fzHF, fzB, fzObB, fzObH, inL, rowOb, geth, cond_true, cond_false, Bool.or_false, Bool.or_true, Bool.false_or, Bool.true_or, and_self, true_and, and_true, Nat.reduceEqDiff, Nat.reduceBEq, beq_self_eq_true, sub_enR0, Nat.reduceAdd, Nat.zero_add, Nat.le_refl, List.nil_append]
        try (and_intros <;> first | trivial | omega | exact nfc)
      · simp only [List.length_cons, List.length_nil, Nat.zero_mul, Nat.add_zero, fzV, fzL, fzOb, fzObL, fzH, fzHF, fzB, fzObB, fzObH, inL, rowOb, geth, cond_true, cond_false, Bool.or_false, Bool.or_true, Bool.false_or, Bool.true_or, and_self, true_and, and_true, Nat.reduceEqDiff, Nat.reduceBEq, beq_self_eq_true, sub_enR0, Nat.reduceAdd, Nat.zero_add, Nat.le_refl, List.nil_append]
        exact (by simp [Cv, CvL, getM, gt_some])
      · simp only [List.length_cons, List.length_nil, Nat.zero_mul, Nat.add_zero, fzV, fzL, fzOb, fzObL, fzH, fzHF, fzB, fzObB, fzObH, inL, rowOb, geth, cond_true, cond_false, Bool.or_false, Bool.or_true, Bool.false_or, Bool.true_or, and_self, true_and, and_true, Nat.reduceEqDiff, Nat.reduceBEq, beq_self_eq_true, sub_enR0, Nat.reduceAdd, Nat.zero_add, Nat.le_refl, List.nil_append, CvH, gt_some, Option.isSome_some, Option.isSome_none]
        first | exact ⟨CvB_dead, CvB_row nr_i64 (by first | rfl | simp) (fun _ _ _ _ => rfl)⟩ | trivial
    replace H := cond_f hc H
    refine rg ctNo_ok ?_
    simp only [go_sem, Nat.reduceLeDiff, Nat.reduceLT, Nat.reduceAdd, Nat.reduceMul, Nat.reduceSub, Nat.reduceEqDiff, Nat.reduceBEq, Int.reduceToNat, reduceCtorEq]
    refine seqM ?_
    refine sq ctNo_ok ?_
    simp only [go_sem, Nat.reduceLeDiff, Nat.reduceLT, Nat.reduceAdd, Nat.reduceMul, Nat.reduceSub, Nat.reduceEqDiff, Nat.reduceBEq, Int.reduceToNat, reduceCtorEq]
    refine blkM ?_
    refine loop_den (fun s : (List Int) × Int × Int => (.sl 1 1 0 s.1.length false :: .fn 114 [.rptr 1 1 0 0 (fun _ y => getL [.rptr 10 1 0 0 (fun _ y => getL [.top, .int .i64 p1_0_1, .top, .top, .top, .top, .top, .top, .top, .top] y)] y)] :: .top :: .top :: .top :: .int .i64 s.2.1 :: .int .i64 s.2.2 :: .top :: .top :: .top :: .top :: .top :: .top :: .top :: .top :: .top :: .top :: .top :: .top :: .top :: .top :: .top :: .top :: .top :: .top :: .top :: .top :: .top :: .top :: .top :: .top :: .top :: .top :: .top :: .top :: .top :: .top :: .top :: .top :: .top :: .top :: .top :: [])) (fun s => [.dead, .row 3 1 s.1.length (enR c_i64 s.1)]) (fun e : (List Int) × Int => (.sl 1 1 0 e.1.length false :: .top :: .top :: .top :: .top :: .int .i64 e.2 :: .top :: .top :: .top :: .top :: .top :: .top :: .top :: .top :: .top :: .top :: .top :: .top :: .top :: .top :: .top :: .top :: .top :: .top :: .top :: .top :: .top :: .top :: .top :: .top :: .top :: .top :: .top :: .top :: .top :: .top :: .top :: .top :: .top :: .top :: .top :: .top :: [])) (fun e => [.dead, .row 3 1 e.1.length (enR c_i64 e.1)]) H ?_ (fun s o H hn1_1 hn2_1 => ?_) (fun e H => ?_)
    · refine SubF_of ⟨[some 0, some 0], ?_, ?_, by rfl, by rfl⟩
      · simp [CvL, Cv, getM]
      · exact ⟨CvB_dead, CvB_row nr_i64 (by first | rfl | simp) (fun _ _ _ _ => rfl), trivial⟩
    · obtain ⟨v1_1, v1_2, v1_3⟩ := s
      unfold F113_0_L1 at H
      try dsimp only at H ⊢
      refine seqM ?_
      refine sq ctNo_ok ?_
      simp only [go_sem, Nat.reduceLeDiff, Nat.reduceLT, Nat.reduceAdd, Nat.reduceMul, Nat.reduceSub, Nat.reduceEqDiff, Nat.reduceBEq, Int.reduceToNat, reduceCtorEq]
      repeat ((with_reducible refine And.intro ?_ ?_); focus (first | (with_reducible trivial) | omega | (and_intros <;> first | (with_reducible trivial) | omega | assumption | exact nfc | first | exact rfl | exact trivial | exact fitI | exact Or.inr rfl | exact Or.inl rfl | exact fun x hx => absurd hx (by omega) | (intro x hx; (repeat (first | (and_intros <;> (first | exact rfl | exact trivial | exact fitI | exact Or.inr rfl | exact Or.inl rfl | exact fun x hx => absurd hx (by omega))) | (exfalso; omega) | (rcases x with _ | x))); done)) | grind))
      refine condM' rfl trivial (fun hc => ?_) (fun hc => ?_)
      · replace H := cond_f hc H
        refine rg ctNo_ok ?_
        simp only [go_sem, Nat.reduceLeDiff, Nat.reduceLT, Nat.reduceAdd, Nat.reduceMul, Nat.reduceSub, Nat.reduceEqDiff, Nat.reduceBEq, Int.reduceToNat, reduceCtorEq]
        refine ⟨_, (Option.some.inj H).symm, ?_⟩
        refine SubF_of ⟨[some 0, some 1], ?_, ?_, by rfl, by rfl⟩
        · simp [CvL, Cv, getM]
        · exact ⟨CvB_dead, CvB_row nr_i64 (by first | rfl | simp) (fun _ _ _ _ => rfl), trivial⟩
      replace H := cond_t hc H
      refine rg ctNo_ok ?_
      simp only [go_sem, Nat.reduceLeDiff, Nat.reduceLT, Nat.reduceAdd, Nat.reduceMul, Nat.reduceSub, Nat.reduceEqDiff, Nat.reduceBEq, Int.reduceToNat, reduceCtorEq]
      refine seqM ?_
      refine blkM ?_
      refine seqM ?_
      obtain ⟨f3, H⟩ := need_some.1 H
      replace f3 := inb_iff.1 f3
      refine rg ctNo_ok ?_
      simp only [go_sem, Nat.reduceLeDiff, Nat.reduceLT, Nat.reduceAdd, Nat.reduceMul, Nat.reduceSub, Nat.reduceEqDiff, Nat.reduceBEq, Int.reduceToNat, reduceCtorEq, f3]
      repeat ((with_reducible refine And.intro ?_ ?_); focus (first | (with_reducible trivial) | omega | grind))
      refine seqM ?_
      obtain ⟨r4, e5, H⟩ := Option.bind_eq_some_iff.1 H
      refine rg ct113_0t1_ok ?_
      simp only [go_sem, Nat.reduceLeDiff, Nat.reduceLT, Nat.reduceAdd, Nat.reduceMul, Nat.reduceSub, Nat.reduceEqDiff, Nat.reduceBEq, Int.reduceToNat, reduceCtorEq, ct113_0t1_114, body114_0, e5]
      repeat ((with_reducible refine And.intro ?_ ?_); focus (first | (with_reducible trivial) | omega | (and_intros <;> first | (with_reducible trivial) | omega | assumption | exact nfc | first | exact rfl | exact trivial | exact fitI | exact Or.inr rfl | exact Or.inl rfl | exact fun x hx => absurd hx (by omega) | (intro x hx; (repeat (first | (and_intros <;> (first | exact rfl | exact trivial | exact fitI | exact Or.inr rfl | exact Or.inl rfl | exact fun x hx => absurd hx (by omega))) | (exfalso; omega) | (rcases x with _ | x))); done)) | grind))
      refine condM' rfl trivial (fun hc => ?_) (fun hc => ?_)
      · replace H := cond_f hc H
        refine rg ctNo_ok ?_
        simp only [go_sem, Nat.reduceLeDiff, Nat.reduceLT, Nat.reduceAdd, Nat.reduceMul, Nat.reduceSub, Nat.reduceEqDiff, Nat.reduceBEq, Int.reduceToNat, reduceCtorEq]
        refine rg ctNo_ok ?_
        simp only [go_sem, Nat.reduceLeDiff, Nat.reduceLT, Nat.reduceAdd, Nat.reduceMul, Nat.reduceSub, Nat.reduceEqDiff, Nat.reduceBEq, Int.reduceToNat, reduceCtorEq]
        refine ⟨_, (Option.some.inj H).symm, ?_⟩
        refine SubF_of ⟨[some 0, some 1], ?_, ?_, by rfl, by rfl⟩
        · simp [CvL, Cv, getM]
        · exact ⟨CvB_dead, CvB_row nr_i64 (by first | rfl | simp) (fun _ _ _ _ => rfl), trivial⟩
      replace H := cond_t hc H
      refine seqM ?_
      obtain ⟨f6, H⟩ := need_some.1 H
      replace f6 := inb_iff.1 f6
      refine rg ctNo_ok ?_
      simp only [go_sem, Nat.reduceLeDiff, Nat.reduceLT, Nat.reduceAdd, Nat.reduceMul, Nat.reduceSub, Nat.reduceEqDiff, Nat.reduceBEq, Int.reduceToNat, reduceCtorEq, f6]
      repeat ((with_reducible refine And.intro ?_ ?_); focus (first | (with_reducible trivial) | omega | grind))
      refine rg ctNo_ok ?_
      simp only [go_sem, Nat.reduceLeDiff, Nat.reduceLT, Nat.reduceAdd, Nat.reduceMul, Nat.reduceSub, Nat.reduceEqDiff, Nat.reduceBEq, Int.reduceToNat, reduceCtorEq]
      refine rg ctNo_ok ?_
      simp only [go_sem, Nat.reduceLeDiff, Nat.reduceLT, Nat.reduceAdd, Nat.reduceMul, Nat.reduceSub, Nat.reduceEqDiff, Nat.reduceBEq, Int.reduceToNat, reduceCtorEq]
      refine ⟨_, (Option.some.inj H).symm, ?_⟩
      refine SubF_of ⟨[some 0, some 1], ?_, ?_, by rfl, by rfl⟩
      · simp [CvL, Cv, getM]
      · exact ⟨CvB_dead, CvB_row nr_i64 (by first | rfl | simp) (upc_row (f := c_i64) v1_1 v1_2.toNat 0 (gd v1_1 v1_3.toNat) (fun _ _ _ _ => rfl) (fun y hy => match y, hy with | 0, _ => rfl | (y+1), h => absurd h (by omega))), trivial⟩
    · obtain ⟨w1_4, w1_5⟩ := e
      try dsimp only at H ⊢
      try simp only [m_normal, k_normal, b_normal, kL_normal, r_normal]
      refine seqM ?_
      obtain ⟨f7, H⟩ := need_some.1 H
      replace f7 := slb_iff.1 f7
      refine rg ctNo_ok ?_
      simp only [go_sem, Nat.reduceLeDiff, Nat.reduceLT, Nat.reduceAdd, Nat.reduceMul, Nat.reduceSub, Nat.reduceEqDiff, Nat.reduceBEq, Int.reduceToNat, reduceCtorEq, f7]
      repeat ((with_reducible refine And.intro ?_ ?_); focus (first | (with_reducible trivial) | omega | (and_intros <;> first | (with_reducible trivial) | omega | assumption | exact nfc | first | exact rfl | exact trivial | exact fitI | exact Or.inr rfl | exact Or.inl rfl | exact fun x hx => absurd hx (by omega) | (intro x hx; (repeat (first | (and_intros <;> (first | exact rfl | exact trivial | exact fitI | exact Or.inr rfl | exact Or.inl rfl | exact fun x hx => absurd hx (by omega))) | (exfalso; omega) | (rcases x with _ | x))); done)) | grind))
      refine seqM ?_
      obtain ⟨f8, H⟩ := need_some.1 H
      replace f8 := slb_iff.1 f8
      refine rg ctNo_ok ?_
      simp only [go_sem, Nat.reduceLeDiff, Nat.reduceLT, Nat.reduceAdd, Nat.reduceMul, Nat.reduceSub, Nat.reduceEqDiff, Nat.reduceBEq, Int.reduceToNat, reduceCtorEq, f8]
      repeat ((with_reducible refine And.intro ?_ ?_); focus (first | (with_reducible trivial) | omega | grind))
      refine rg ctNo_ok ?_
      simp only [go_sem, Nat.reduceLeDiff, Nat.reduceLT, Nat.reduceAdd, Nat.reduceMul, Nat.reduceSub, Nat.reduceEqDiff, Nat.reduceBEq, Int.reduceToNat, reduceCtorEq]
      obtain rfl := Option.some.inj H
      refine RetE_mk [] [some 0, some 1] ?_ ?_ ?_ ?_ (by rfl) (by rfl)
      · simp only [List.length_cons, List.length_nil, Nat.zero_mul, Nat.add_zero, fzV, fzL, fzOb, fzObL, fzH, fzHF, fzB, fzObB, fzObH, inL, rowOb, geth, cond_true, cond_false, Bool.or_false, Bool.or_true, Bool.false_or, Bool.true_or, and_self, true_and, and_true, Nat.reduceEqDiff, Nat.reduceBEq, beq_self_eq_true, sub_enR0, Nat.reduceAdd, Nat.zero_add, Nat.le_refl, List.nil_append]
        try (and_intros <;> first | trivial | omega | exact nfc)
      · simp only [List.length_cons, List.length_nil, Nat.zero_mul, Nat.add_zero, fzV, fzL, fzOb, fzObL, fzH, fzHF, fzB, fzObB, fzObH, inL, rowOb, geth, cond_true, cond_false, Bool.or_false, Bool.or_true, Bool.false_or, Bool.true_or, and_self, true_and, and_true, Nat.reduceEqDiff, Nat.reduceBEq, beq_self_eq_true, sub_enR0, Nat.reduceAdd, Nat.zero_add, Nat.le_refl, List.nil_append]
        try (and_intros <;> first | trivial | omega | exact nfc)
      · simp only [List.length_cons, List.length_nil, Nat.zero_mul, Nat.add_zero, fzV, fzL, fzOb, fzObL, fzH, fzHF, fzB, fzObB, fzObH, inL, rowOb, geth, cond_true, cond_false, Bool.or_false, Bool.or_true, Bool.false_or, Bool.true_or, and_self, true_and, and_true, Nat.reduceEqDiff, Nat.reduceBEq, beq_self_eq_true, sub_enR0, Nat.reduceAdd, Nat.zero_add, Nat.le_refl, List.nil_append]
        exact (by simp [Cv, CvL, getM, gt_some, (show (List.take w1_5.toNat w1_4).length = w1_5.toNat from take_len (n := w1_4.length) (by first | rfl | simp) (by omega))])
      · simp only [List.length_cons, List.length_nil, Nat.zero_mul, Nat.add_zero, fzV, fzL, fzOb, fzObL, fzH, fzHF, fzB, fzObB, fzObH, inL, rowOb, geth, cond_true, cond_false, Bool.or_false, Bool.or_true, Bool.false_or, Bool.true_or, and_self, true_and, and_true, Nat.reduceEqDiff, Nat.reduceBEq, beq_self_eq_true, sub_enR0, Nat.reduceAdd, Nat.zero_add, Nat.le_refl, List.nil_append, CvH, gt_some, Option.isSome_some, Option.isSome_none]
        first | exact ⟨CvB_dead, (CvB_pre nr_i64 (by rw [show (List.take w1_5.toNat w1_4).length = w1_5.toNat from take_len (n := w1_4.length) (by first | rfl | simp) (by omega)]; omega) (clr_row (fun _ _ _ _ => rfl)))⟩ | trivial
  · cases hb
/-! hotspot/regulate.byChannel -/
noncomputable def ct68t0 : Ct := tab [(98, pureC body98)]
theorem ct68t0_ok : CtOk Try.prog ct68t0 := tab_cons ok98 <| tab_nil
theorem ct68t0_98 (l : List AV) (h : List ABlk) : ct68t0 98 l h = pureC body98 l h := rfl
noncomputable def F68 (p0 : TRegulateBlock) (p1 : Int) : Option (Int) :=
  (F98 p0.Channel p1).bind fun r1 => some r1
noncomputable def body68 : List AV → AR
  | [v0, v1] => .pure (aK 2 k_TRegulateBlock v0 ∧ iK .i64 v1 ∧ (F68 (g_TRegulateBlock (aL v0)) (iA v1)).isSome = true) (.int .i64 (gt (F68 (g_TRegulateBlock (aL v0)) (iA v1))))
  | _ => .fail
set_option maxHeartbeats 4000000 in
set_option maxRecDepth 20000 in
theorem ok68 : FnOk Try.prog 68 (pureC body68) := by
  refine pure_fnM body68 (rs := [.tmp 4]) Try.func68 (by kernel_rfl) rfl rfl ?_
  intro l ob v hb hob
  unfold body68 at hb
  split at hb
  · rename_i v0 v1
    injection hb with q1 q2; subst q1 q2
    obtain ⟨hk0_0, hk1_0, hob⟩ := hob
    obtain ⟨r, H⟩ := Option.isSome_iff_exists.1 hob
    rw [H, gt_some]
    have hw0 := wA_TRegulateBlock hk0_0
    have hw1 := iK_wk hk1_0
    generalize g_TRegulateBlock (aL v0) = p0 at H hw0
    generalize iA v1 = p1 at H hw1
    refine ⟨[.agg [.int .i64 p0.Channel, .int .i64 p0.Until], .int .i64 p1], _, (fun E vs F => FR_wk1 hw0.1 F (fun vs F => FR_wk1 hw1.1 F (fun vs F => F))), rfl, rfl, ?_⟩
    rw [Try.ntmps68]
    simp only [List.length_cons, List.length_nil, Nat.reduceAdd, Nat.reduceSub, List.replicate_succ, List.replicate_zero, List.cons_append, List.nil_append]
    unfold F68 at H
    try dsimp only at H
    refine sq ctNo_ok ?_
    simp only [go_sem, Nat.reduceLeDiff, Nat.reduceLT, Nat.reduceAdd, Nat.reduceMul, Nat.reduceSub, Nat.reduceEqDiff, Nat.reduceBEq, Int.reduceToNat, reduceCtorEq]
    refine seqM ?_
    obtain ⟨r1, e2, H⟩ := Option.bind_eq_some_iff.1 H
    refine rg ct68t0_ok ?_
    simp only [go_sem, Nat.reduceLeDiff, Nat.reduceLT, Nat.reduceAdd, Nat.reduceMul, Nat.reduceSub, Nat.reduceEqDiff, Nat.reduceBEq, Int.reduceToNat, reduceCtorEq, ct68t0_98, body98, e2]
    repeat ((with_reducible refine And.intro ?_ ?_); focus (first | (with_reducible trivial) | omega | (and_intros <;> first | (with_reducible trivial) | omega | assumption | exact nfc | first | exact rfl | exact trivial | exact fitI | exact Or.inr rfl | exact Or.inl rfl | exact fun x hx => absurd hx (by omega) | (intro x hx; (repeat (first | (and_intros <;> (first | exact rfl | exact trivial | exact fitI | exact Or.inr rfl | exact Or.inl rfl | exact fun x hx => absurd hx (by omega))) | (exfalso; omega) | (rcases x with _ | x))); done)) | grind))
    refine rg ctNo_ok ?_
    simp only [go_sem, Nat.reduceLeDiff, Nat.reduceLT, Nat.reduceAdd, Nat.reduceMul, Nat.reduceSub, Nat.reduceEqDiff, Nat.reduceBEq, Int.reduceToNat, reduceCtorEq]
    obtain rfl := Option.some.inj H
    first | rfl | simp only [Bool.and_false, Bool.false_and, Bool.and_true, Bool.true_and]
  · cases hb
/-! slices.BinarySearchFunc[[]hotspot/api.RegulateBlock,hotspot/api.RegulateBlock,int] -/
noncomputable def ct67_0t0 : Ct := tab [(68, pureC body68)]
theorem ct67_0t0_ok : CtOk Try.prog ct67_0t0 := tab_cons ok68 <| tab_nil
theorem ct67_0t0_68 (l : List AV) (h : List ABlk) : ct67_0t0 68 l h = pureC body68 l h := rfl
noncomputable def F67_0_L1 (p0 : List TRegulateBlock) (p1 : Int) (v1_1 : Int) (v1_2 : Int) : Option (Lp (Int × Int) ((Int) ⊕ (Int × Bool))) :=
  bif (bLt v1_1 v1_2) then (need (inb (wr .i64 (shrI .u64 (wr .u64 (wr .i64 (v1_1 + v1_2))) 1)) p0.length) <| (F68 (gd p0 ((wr .i64 (shrI .u64 (wr .u64 (wr .i64 (v1_1 + v1_2))) 1)).toNat)) p1).bind fun r2 => bif (bLt r2 0) then (some (.next (wr .i64 ((wr .i64 (shrI .u64 (wr .u64 (wr .i64 (v1_1 + v1_2))) 1)) + 1), v1_2))) else (some (.next (v1_1, wr .i64 (shrI .u64 (wr .u64 (wr .i64 (v1_1 + v1_2))) 1))))) else (some (.done (.inl v1_1)))
noncomputable def F67_0 (p0 : List TRegulateBlock) (p1 : Int) : Option (Int × Bool) :=
  lp (loopD (fun s => F67_0_L1 p0 p1 s.1 s.2) (0, (p0.length : Nat))) (fun w1_3 => need (bif (bLt w1_3 (p0.length : Nat)) then inb w1_3 p0.length else true) <| need (bif (bLt w1_3 (p0.length : Nat)) then ((F68 (gd p0 w1_3.toNat) p1).isSome) else true) <| some (w1_3, ((bLt w1_3 (p0.length : Nat)) && (bEq (gt (F68 (gd p0 w1_3.toNat) p1)) 0)))) some
noncomputable def body67_0 : List AV → AR
  | [v0, v1, .fn 68 []] => .pure (lK k_TRegulateBlock 2 v0 ∧ iK .i64 v1 ∧ (F67_0 (lA g_TRegulateBlock v0) (iA v1)).isSome = true) (.tup [.int .i64 ((gt (F67_0 (lA g_TRegulateBlock v0) (iA v1))).1), .bool ((gt (F67_0 (lA g_TRegulateBlock v0) (iA v1))).2)])
  | _ => .fail
set_option maxHeartbeats 4000000 in
set_option maxRecDepth 20000 in
theorem ok67_0 : FnOk Try.prog 67 (pureC body67_0) := by
  refine pure_fnM body67_0 (rs := [.tmp 6, .tmp 7]) Try.func67 (by kernel_rfl) rfl rfl ?_
  intro l ob v hb hob
  unfold body67_0 at hb
  split at hb
  · rename_i v0 v1
    injection hb with q1 q2; subst q1 q2
    obtain ⟨hk0_0, hk1_0, hob⟩ := hob
    obtain ⟨r, H⟩ := Option.isSome_iff_exists.1 hob
    rw [H, gt_some]
    have hw0 := lK_wk (fun r h => w_TRegulateBlock h) hk0_0
    have hw1 := iK_wk hk1_0
    generalize lA g_TRegulateBlock v0 = p0 at H hw0
    generalize iA v1 = p1 at H hw1
    refine ⟨[.ro 2 p0.length false (enR c_TRegulateBlock p0), .int .i64 p1, .fn 68 []], _, (fun E vs F => FR_wk1 hw0.1 F (fun vs F => FR_wk1 hw1.1 F (fun vs F => FR_wk1 (fn_wk LW_nil) F (fun vs F => F)))), rfl, rfl, ?_⟩
    rw [Try.ntmps67]
    simp only [List.length_cons, List.length_nil, Nat.reduceAdd, Nat.reduceSub, List.replicate_succ, List.replicate_zero, List.cons_append, List.nil_append]
    unfold F67_0 at H
    try dsimp only at H
    refine sq ctNo_ok ?_
    simp only [go_sem, Nat.reduceLeDiff, Nat.reduceLT, Nat.reduceAdd, Nat.reduceMul, Nat.reduceSub, Nat.reduceEqDiff, Nat.reduceBEq, Int.reduceToNat, reduceCtorEq]
    refine sq ctNo_ok ?_
    simp only [go_sem, Nat.reduceLeDiff, Nat.reduceLT, Nat.reduceAdd, Nat.reduceMul, Nat.reduceSub, Nat.reduceEqDiff, Nat.reduceBEq, Int.reduceToNat, reduceCtorEq]
    repeat ((with_reducible refine And.intro ?_ ?_); focus (first | (with_reducible trivial) | omega | (and_intros <;> first | (with_reducible trivial) | omega | assumption | exact nfc | first | exact rfl | exact trivial | exact fitI | exact Or.inr rfl | exact Or.inl rfl | exact fun x hx => absurd hx (by omega) | (intro x hx; (repeat (first | (and_intros <;> (first | exact rfl | exact trivial | exact fitI | exact Or.inr rfl | exact Or.inl rfl | exact fun x hx => absurd hx (by omega))) | (exfalso; omega) | (rcases x with _ | x))); done)) | grind))
    refine sq ctNo_ok ?_
    simp only [go_sem, Nat.reduceLeDiff, Nat.reduceLT, Nat.reduceAdd, Nat.reduceMul, Nat.reduceSub, Nat.reduceEqDiff, Nat.reduceBEq, Int.reduceToNat, reduceCtorEq]
    refine seqM ?_
    refine blkM ?_
    refine loop_den (fun s : Int × Int => (.ro 2 p0.length false (enR c_TRegulateBlock p0) :: .int .i64 p1 :: .fn 68 [] :: .top :: .top :: .top :: .top :: .top :: .int .i64 (p0.length : Nat) :: .int .i64 s.1 :: .int .i64 s.2 :: .top :: .top :: .top :: .top :: .top :: .top :: .top :: .top :: .top :: .top :: .top :: .top :: .top :: .top :: .top :: .top :: .top :: .top :: .top :: .top :: .top :: .top :: .top :: .top :: .top :: .top :: .top :: .top :: .top :: .top :: .top :: .top :: .top :: .top :: .top :: .top :: .top :: .top :: [])) (fun s => []) (fun e : Int => (.ro 2 p0.length false (enR c_TRegulateBlock p0) :: .int .i64 p1 :: .fn 68 [] :: .top :: .top :: .top :: .top :: .top :: .int .i64 (p0.length : Nat) :: .int .i64 e :: .top :: .top :: .top :: .top :: .top :: .top :: .top :: .top :: .top :: .top :: .top :: .top :: .top :: .top :: .top :: .top :: .top :: .top :: .top :: .top :: .top :: .top :: .top :: .top :: .top :: .top :: .top :: .top :: .top :: .top :: .top :: .top :: .top :: .top :: .top :: .top :: .top :: .top :: .top :: [])) (fun e => []) H ?_ (fun s o H hn1_1 hn2_1 => ?_) (fun w1_3 H => ?_)
    · refine SubF_of ⟨[], ?_, ?_, by rfl, by rfl⟩
      · simp [CvL, Cv, getM]
      · trivial
    · obtain ⟨v1_1, v1_2⟩ := s
      unfold F67_0_L1 at H
      try dsimp only at H ⊢
      refine seqM ?_
      refine sq ctNo_ok ?_
      simp only [go_sem, Nat.reduceLeDiff, Nat.reduceLT, Nat.reduceAdd, Nat.reduceMul, Nat.reduceSub, Nat.reduceEqDiff, Nat.reduceBEq, Int.reduceToNat, reduceCtorEq]
      refine condM' rfl trivial (fun hc => ?_) (fun hc => ?_)
      · replace H := cond_f hc H
        refine rg ctNo_ok ?_
        simp only [go_sem, Nat.reduceLeDiff, Nat.reduceLT, Nat.reduceAdd, Nat.reduceMul, Nat.reduceSub, Nat.reduceEqDiff, Nat.reduceBEq, Int.reduceToNat, reduceCtorEq]
        refine ⟨_, (Option.some.inj H).symm, ?_⟩
        refine SubF_of ⟨[], ?_, ?_, by rfl, by rfl⟩
        · simp [CvL, Cv, getM]
        · trivial
      replace H := cond_t hc H
      refine rg ctNo_ok ?_
      simp only [go_sem, Nat.reduceLeDiff, Nat.reduceLT, Nat.reduceAdd, Nat.reduceMul, Nat.reduceSub, Nat.reduceEqDiff, Nat.reduceBEq, Int.reduceToNat, reduceCtorEq]
      refine blkM ?_
      refine sq ctNo_ok ?_
      simp only [go_sem, Nat.reduceLeDiff, Nat.reduceLT, Nat.reduceAdd, Nat.reduceMul, Nat.reduceSub, Nat.reduceEqDiff, Nat.reduceBEq, Int.reduceToNat, reduceCtorEq]
      repeat ((with_reducible refine And.intro ?_ ?_); focus (first | (with_reducible trivial) | omega | grind))
      refine seqM ?_
      obtain ⟨f1, H⟩ := need_some.1 H
      replace f1 := inb_iff.1 f1
      obtain ⟨r2, e3, H⟩ := Option.bind_eq_some_iff.1 H
      refine rg ct67_0t0_ok ?_
      simp only [go_sem, Nat.reduceLeDiff, Nat.reduceLT, Nat.reduceAdd, Nat.reduceMul, Nat.reduceSub, Nat.reduceEqDiff, Nat.reduceBEq, Int.reduceToNat, reduceCtorEq, ct67_0t0_68, body68, f1, e3]
      repeat ((with_reducible refine And.intro ?_ ?_); focus (first | (with_reducible trivial) | omega | (and_intros <;> first | (with_reducible trivial) | omega | assumption | exact nfc | first | exact rfl | exact trivial | exact fitI | exact Or.inr rfl | exact Or.inl rfl | exact fun x hx => absurd hx (by omega) | (intro x hx; (repeat (first | (and_intros <;> (first | exact rfl | exact trivial | exact fitI | exact Or.inr rfl | exact Or.inl rfl | exact fun x hx => absurd hx (by omega))) | (exfalso; omega) | (rcases x with _ | x))); done)) | grind))
      refine condM rfl trivial (fun hc => ?_) (fun hc => ?_)
      · replace H := cond_t hc H
        refine rg ctNo_ok ?_
        simp only [go_sem, Nat.reduceLeDiff, Nat.reduceLT, Nat.reduceAdd, Nat.reduceMul, Nat.reduceSub, Nat.reduceEqDiff, Nat.reduceBEq, Int.reduceToNat, reduceCtorEq]
        refine ⟨_, (Option.some.inj H).symm, ?_⟩
        refine SubF_of ⟨[], ?_, ?_, by rfl, by rfl⟩
        · simp [CvL, Cv, getM]
        · trivial
      replace H := cond_f hc H
      refine rg ctNo_ok ?_
      simp only [go_sem, Nat.reduceLeDiff, Nat.reduceLT, Nat.reduceAdd, Nat.reduceMul, Nat.reduceSub, Nat.reduceEqDiff, Nat.reduceBEq, Int.reduceToNat, reduceCtorEq]
      refine ⟨_, (Option.some.inj H).symm, ?_⟩
      refine SubF_of ⟨[], ?_, ?_, by rfl, by rfl⟩
      · simp [CvL, Cv, getM]
      · trivial
    · try dsimp only at H ⊢
      try simp only [m_normal, k_normal, b_normal, kL_normal, r_normal]
      refine seqM ?_
      obtain ⟨f4, H⟩ := need_some.1 H
      replace f4 := g_iff.1 f4
      replace f4 := fun g => inb_iff.1 (f4 g)
      obtain ⟨f5, H⟩ := need_some.1 H
      replace f5 := g_iff.1 f5
      refine rg ct67_0t0_ok ?_
      simp only [go_sem, Nat.reduceLeDiff, Nat.reduceLT, Nat.reduceAdd, Nat.reduceMul, Nat.reduceSub, Nat.reduceEqDiff, Nat.reduceBEq, Int.reduceToNat, reduceCtorEq, ct67_0t0_68, body68]
      repeat ((with_reducible refine And.intro ?_ ?_); focus (first | (with_reducible trivial) | omega | exact f4 | exact f5 | (intro g; have q := f4 (by first | exact g | (rw [g]; rfl) | simpa using g); first | exact q | exact ⟨q.1, q.2.1⟩ | exact q.2.2 | omega | exact ⟨g, q⟩ | exact ⟨trivial, q⟩ | exact ⟨g, q.1, q.2.1⟩ | exact ⟨g, q.2.2⟩) | (intro g; have q := f5 (by first | exact g | (rw [g]; rfl) | simpa using g); first | exact q | exact ⟨q.1, q.2.1⟩ | exact q.2.2 | omega | exact ⟨g, q⟩ | exact ⟨trivial, q⟩ | exact ⟨g, q.1, q.2.1⟩ | exact ⟨g, q.2.2⟩) | (intro g; (try have q0 := f4 (by first | exact g | (rw [g]; rfl) | simpa using g)); (try have q1 := f5 (by first | exact g | (rw [g]; rfl) | simpa using g)); and_intros <;> first | (with_reducible trivial) | assumption | exact nfc | (intro g2; rw [g, g2]; rfl) | (intro g2; assumption) | (simp only [g, Bool.true_and, Bool.and_true, Bool.not_false, Bool.not_true]; assumption) | grind) | (and_intros <;> first | (with_reducible trivial) | omega | assumption | exact nfc | first | exact rfl | exact trivial | exact fitI | exact Or.inr rfl | exact Or.inl rfl | exact fun x hx => absurd hx (by omega) | (intro x hx; (repeat (first | (and_intros <;> (first | exact rfl | exact trivial | exact fitI | exact Or.inr rfl | exact Or.inl rfl | exact fun x hx => absurd hx (by omega))) | (exfalso; omega) | (rcases x with _ | x))); done)) | grind))
      refine rg ctNo_ok ?_
      simp only [go_sem, Nat.reduceLeDiff, Nat.reduceLT, Nat.reduceAdd, Nat.reduceMul, Nat.reduceSub, Nat.reduceEqDiff, Nat.reduceBEq, Int.reduceToNat, reduceCtorEq]
      obtain rfl := Option.some.inj H
      first | rfl | simp only [Bool.and_false, Bool.false_and, Bool.and_true, Bool.true_and]
  · cases hb
/-! slices.Insert[[]hotspot/api.RegulateBlock,hotspot/api.RegulateBlock] -/
theorem ext115 : ExtOk Try.prog 121 ovC2 := ov_ext2 (t := 36) (tr := 4) (e := 79) (z := 2) Try.func121 (by kernel_rfl) (by kernel_rfl) (by kernel_rfl) (by kernel_rfl) (by kernel_rfl) (by kernel_rfl)
def ctI115 : Ct := tab [(121, ovC2)]
theorem ctI115_ok : CtOk Try.prog ctI115 := tab_ext ext115 tab_nil
theorem ctI115_eq (l : List AV) (h : List ABlk) : ctI115 121 l h = ovC2 l h := rfl
theorem tik115_0 : tintk Try.prog 2 = true := by kernel_rfl
theorem tik115_1 : tintk Try.prog 36 = false := by kernel_rfl
set_option maxHeartbeats 8000000 in
set_option maxRecDepth 20000 in
theorem okF115 : FnOk Try.prog 115 (insF 79 2) := by
  refine edit1_fn (sh := fun _ => none) (fun _ _ h => by cases h) ctI115_ok (insF 79 2) (rs := [.tmp 6]) Try.func115 (by kernel_rfl) rfl rfl insF_np ?_
  intro E h l vs ob v h' H F hc hob
  unfold insF at hc
  split at hc
  · rename_i b es' i n nl p b2 es3 i2 m nl2
    split at hc
    · rename_i e' es2 NN c hb
      split at hc
      · rename_i e4 es4 N2 d hb2
        injection hc with q1 q2 q3
        subst q1 q2 q3
        obtain ⟨rfl, rfl, rfl, rfl, rfl, hbb, hN, hN2, hpn, hmm, hbig, hfl, hfl2⟩ := hob
        obtain ⟨vs⟩ := vs
        match vs, F.1 with
        | [u1, u2, u3], _ =>
          have hne : geth h b ≠ .dead := by rw [hb]; exact fun e => by cases e
          obtain ⟨cap, hcap, hV⟩ := csl_of_sl (only_sl (F.2 0 _ u1 rfl rfl))
          have g2 := F.2 1 _ u2 rfl rfl
          have g3 := only_ro (b := b) H (F.2 2 _ u3 rfl rfl) hb2 hne hbb hN2 fun x y hx hy => (hfl2 x y hx hy).1
          obtain rfl := VR_int g2
          refine ⟨b, 79, 2, NN, c, n + m, insA i p m c (subC i2 d), [.csl 0 2 i n cap, .int .i64 p, .ro 2 m nl2 (subC i2 d)], hb, fun x y hx hy => (hfl x y hx hy).1, fun x y hx hy => ?_, rfl, rfl, ?_, ?_⟩
          · unfold insA subC
            split
            · exact hfl _ _ (by omega) hy
            · split
              · exact hfl2 _ _ (by omega) hy
              · exact hfl _ _ (by omega) hy
          · refine ⟨rfl, fun j a w ha hw => ?_⟩
            match j with
            | 0 => simp at ha hw; subst ha hw; exact hV
            | 1 => simp at ha hw; subst ha hw; exact .int _ _
            | 2 => simp at ha hw; subst ha hw; exact g3
            | j + 3 => simp at ha
          · rw [Try.ntmps115]
            show wpC _ _ _ _ _ (.csl 0 2 i n cap :: .int .i64 p :: .ro 2 m nl2 (subC i2 d) :: .top :: .top :: .top :: .top :: .top :: .top :: .top :: .top :: .top :: .top :: .top :: .top :: .top :: .top :: .top :: .top :: .top :: .top :: .top :: .top :: .top :: .top :: .top :: .top :: .top :: .top :: .top :: .top :: .top :: .top :: .top :: .top :: .top :: .top :: .top :: .top :: .top :: .top :: .top :: .top :: .top :: .top :: .top :: .top :: .top :: .top :: .top :: .top :: .top :: .top :: .top :: .top :: .top :: .top :: .top :: .top :: .top :: .top :: .top :: .top :: .top :: .top :: .top :: .top :: .top :: .top :: .top :: .top :: .top :: .top :: .top :: .top :: .top :: .top :: .top :: .top :: .top :: .top :: .top :: .top :: .top :: .top :: .top :: .top :: .top :: .top :: .top :: .top :: .top :: .top :: .top :: .top :: []) _
            have hm0 : 0 < m := by omega
            have hm1 : ((m : Int) == 0) = false := by simp; omega
            rcases Nat.lt_or_ge p n with hp | hp
            · have hpq : ((p : Int) == (n : Int)) = false := by simp; omega
              have w1 : wr .i64 ((n : Int) + (m : Int)) = ((n + m : Nat) : Int) := by unfold wr; rw [IntWalk.i64_in _ (by omega)]; omega
              have w2 : wr .i64 (((n + m : Nat) : Int) - (p : Int)) = ((n + m - p : Nat) : Int) := by unfold wr; rw [IntWalk.i64_in _ (by omega)]; omega
              have w3 : wr .i64 ((p : Int) + (m : Int)) = ((p + m : Nat) : Int) := by unfold wr; rw [IntWalk.i64_in _ (by omega)]; omega
              have hpm : p + (n + m - p) = n + m := by omega
              have mn1 : min m (n + m - p) = m := by omega
              have mn2 : min (n - p) (n + m - (p + m)) = n - p := by omega
              have mn3 : min (n + m - p) (n + m - (p + m)) = n - p := by omega
              have fin : ∀ x y, x < n + m → insA i p m c (subC i2 d) x y = insA i p m c (subC i2 d) x y := fun _ _ _ => rfl
              by_cases hroom : n + m ≤ cap
              · have hg : decide ((cap : Int) < ((n + m : Nat) : Int)) = false := by simp; omega
                simp only [go_sem, Nat.reduceLeDiff, Nat.reduceLT, Nat.reduceAdd, Nat.reduceMul, Nat.reduceSub, Nat.reduceEqDiff, Nat.reduceBEq, Int.reduceToNat, reduceCtorEq, evCopy, evCopyR, lenS, cutS, evClear, evClearR, evCap, evAppZ, tik115_0, tik115_1, bEq, Option.isSome_some, Option.isNone_some, Option.isSome_none, Option.isNone_none, Int.ofNat_eq_natCast, Int.toNat_natCast, hm1, hpq, hg, Nat.sub_zero, bLt, bLe, w1, w2, w3, hpm, mn1, mn2, mn3, ctI115_eq, ovC2, slB, Nat.add_zero, Nat.zero_add]
                refine ⟨by omega, by omega, by omega, by omega, ?_⟩
                refine draw_rule (sh := fun _ => none) (fun _ _ h => by cases h) ctI115_ok 0 (by kernel_rfl) (by kernel_rfl) ?_
                intro an han
                simp only [go_sem, Nat.reduceLeDiff, Nat.reduceLT, Nat.reduceAdd, Nat.reduceMul, Nat.reduceSub, Nat.reduceEqDiff, Nat.reduceBEq, Int.reduceToNat, reduceCtorEq, evCopy, evCopyR, lenS, cutS, evClear, evClearR, evCap, evAppZ, tik115_0, tik115_1, bEq, Option.isSome_some, Option.isNone_some, Option.isSome_none, Option.isNone_none, Int.ofNat_eq_natCast, Int.toNat_natCast, hm1, hpq, hg, Nat.sub_zero, bLt, bLe, w1, w2, w3, hpm, mn1, mn2, mn3, ctI115_eq, ovC2, slB, Nat.add_zero, Nat.zero_add, d_nil, d_cons, nxtD, refsOp, refs, refsL, mask, maskF, place, placeF, okLog, pairOk, hit, inL, slotsF, ren, renL, rnN, nrH, nrB, nrL, nr, dead0, deadS, List.replicate_zero, List.replicate_succ, Bool.or_false, Bool.false_or, Bool.or_true, Bool.true_or, Bool.and_false, Bool.false_and, Nat.sub_self, Nat.add_zero, Nat.zero_add, Nat.reduceSub, Nat.not_lt_zero, Nat.zero_le, Nat.lt_add_one]
                refine ⟨by omega, by omega, by omega, by omega, by omega, ?_⟩
                refine conv_move (b := 0) rfl (by omega) (by omega) fun x y hx hy => ?_
                unfold ovwC insA subC
                by_cases hxp : x < p
                · rw [if_neg (by omega), if_neg (by omega), if_pos hxp]
                · rw [if_neg hxp]
                  by_cases hxm : x < p + m
                  · rw [if_pos (by omega), if_pos hxm]
                    congr 1
                    omega
                  · rw [if_neg (by omega), if_pos (by omega), if_neg hxm]
                    congr 1
                    omega
              · have hg : decide ((cap : Int) < ((n + m : Nat) : Int)) = true := by simp; omega
                have hd : decide (cap < n + m) = true := by simp; omega
                simp only [go_sem, Nat.reduceLeDiff, Nat.reduceLT, Nat.reduceAdd, Nat.reduceMul, Nat.reduceSub, Nat.reduceEqDiff, Nat.reduceBEq, Int.reduceToNat, reduceCtorEq, evCopy, evCopyR, lenS, cutS, evClear, evClearR, evCap, evAppZ, tik115_0, tik115_1, bEq, Option.isSome_some, Option.isNone_some, Option.isSome_none, Option.isNone_none, Int.ofNat_eq_natCast, Int.toNat_natCast, hm1, hpq, hg, hd, Nat.sub_zero, bLt, bLe, w1, w2, w3, hpm, mn1, mn2, mn3, ctI115_eq, ovC2, slB, Nat.add_zero, Nat.zero_add]
                refine ⟨by omega, by omega, by omega, by omega, by omega, ?_⟩
                refine draw_rule (sh := fun _ => none) (fun _ _ h => by cases h) ctI115_ok 0 (by kernel_rfl) (by kernel_rfl) ?_
                intro an han
                simp only [go_sem, Nat.reduceLeDiff, Nat.reduceLT, Nat.reduceAdd, Nat.reduceMul, Nat.reduceSub, Nat.reduceEqDiff, Nat.reduceBEq, Int.reduceToNat, reduceCtorEq, evCopy, evCopyR, lenS, cutS, evClear, evClearR, evCap, evAppZ, tik115_0, tik115_1, bEq, Option.isSome_some, Option.isNone_some, Option.isSome_none, Option.isNone_none, Int.ofNat_eq_natCast, Int.toNat_natCast, hm1, hpq, hg, hd, Nat.sub_zero, bLt, bLe, w1, w2, w3, hpm, mn1, mn2, mn3, ctI115_eq, ovC2, slB, Nat.add_zero, Nat.zero_add, d_nil, d_cons, nxtD, refsOp, refs, refsL, mask, maskF, place, placeF, okLog, pairOk, hit, inL, slotsF, ren, renL, rnN, nrH, nrB, nrL, nr, dead0, deadS, List.replicate_zero, List.replicate_succ, Bool.or_false, Bool.false_or, Bool.or_true, Bool.true_or, Bool.and_false, Bool.false_and, Nat.sub_self, Nat.add_zero, Nat.zero_add, Nat.reduceSub, Nat.not_lt_zero, Nat.zero_le, Nat.lt_add_one]
                refine ⟨by omega, by omega, by omega, ?_⟩
                refine conv_two (by omega) fun x y hx hy => ?_
                unfold ovwC appC insA subC
                by_cases hxp : x < p
                · rw [if_neg (by omega), if_neg (by omega), if_pos hxp, if_pos hxp]
                · by_cases hxm : x < p + m
                  · rw [if_neg (by omega), if_pos (by omega), if_neg hxp, if_pos hxm]
                  · rw [if_pos (by omega), if_neg hxp, if_neg hxm]
                    congr 1
                    omega
            · obtain rfl : p = n := by omega
              have hpq : ((p : Int) == (p : Int)) = true := by simp
              by_cases hroom : p + m ≤ cap
              · have hd1 : decide (p + m ≤ cap) = true := by simpa using hroom
                simp only [go_sem, Nat.reduceLeDiff, Nat.reduceLT, Nat.reduceAdd, Nat.reduceMul, Nat.reduceSub, Nat.reduceEqDiff, Nat.reduceBEq, Int.reduceToNat, reduceCtorEq, evCopy, evCopyR, lenS, cutS, evClear, evClearR, evCap, evAppZ, tik115_0, tik115_1, bEq, Option.isSome_some, Option.isNone_some, Option.isSome_none, Option.isNone_none, Int.ofNat_eq_natCast, Int.toNat_natCast, hm1, hpq, hd1, Nat.sub_zero]
                refine ⟨by omega, by omega, ?_⟩
                refine conv_move (b := 0) rfl (by omega) (by omega) fun x y hx hy => ?_
                unfold ovwC insA
                by_cases hxp : x < p
                · rw [if_neg (by omega), if_pos hxp]
                · rw [if_pos (by omega), if_neg hxp, if_pos (by omega)]
                  congr 1
                  omega
              · have hd1 : decide (p + m ≤ cap) = false := by simpa using hroom
                simp only [go_sem, Nat.reduceLeDiff, Nat.reduceLT, Nat.reduceAdd, Nat.reduceMul, Nat.reduceSub, Nat.reduceEqDiff, Nat.reduceBEq, Int.reduceToNat, reduceCtorEq, evCopy, evCopyR, lenS, cutS, evClear, evClearR, evCap, evAppZ, tik115_0, tik115_1, bEq, Option.isSome_some, Option.isNone_some, Option.isSome_none, Option.isNone_none, Int.ofNat_eq_natCast, Int.toNat_natCast, hm1, hpq, hd1, Nat.sub_zero]
                refine ⟨by omega, by omega, ?_⟩
                refine conv_two (Nat.le_refl _) fun x y hx hy => ?_
                unfold appC insA subC
                by_cases hxp : x < p
                · rw [if_pos hxp, if_pos hxp]
                · rw [if_neg hxp, if_neg hxp, if_pos (by omega)]
      · cases hc
    · cases hc
  · cases hc
theorem ok115 : FnOk Try.prog 115 (insN 79 2) := insN_ok okF115
/-! hotspot/regulate.stop -/
noncomputable def ct92_0t0 : Ct := tab [(113, edC body113_0)]
theorem ct92_0t0_ok : CtOk Try.prog ct92_0t0 := tab_cons ok113_0 <| tab_nil
theorem ct92_0t0_113 (l : List AV) (h : List ABlk) : ct92_0t0 113 l h = edC body113_0 l h := rfl
noncomputable def ct92_0t1 : Ct := tab [(67, pureC body67_0)]
theorem ct92_0t1_ok : CtOk Try.prog ct92_0t1 := tab_cons ok67_0 <| tab_nil
theorem ct92_0t1_67 (l : List AV) (h : List ABlk) : ct92_0t1 67 l h = pureC body67_0 l h := rfl
noncomputable def ct92_0t2 : Ct := tab [(115, insN 79 2)]
theorem ct92_0t2_ok : CtOk Try.prog ct92_0t2 := tab_cons ok115 <| tab_nil
theorem ct92_0t2_115 (l : List AV) (h : List ABlk) : ct92_0t2 115 l h = insN 79 2 l h := rfl
noncomputable def F92_0 (p0 : TRegulate) (p1 : Int) : Option (TRegulate) :=
  (F113_0 p0.Clear p0.Channel).bind fun r1 => (F67_0 p0.Blocked p0.Channel).bind fun r3 => bif (!r3.2) then (need (insb r3.1 p0.Blocked.length) <| (some [(TRegulateBlock.mk p0.Channel 0)]).bind fun w6 => (some (insL p0.Blocked r3.1 [(TRegulateBlock.mk p0.Channel 0)])).bind fun w8 => need (inb r3.1 w8.length) <| some (TRegulate.mk p0.Table p0.Channel p0.Lead p0.Heard true p0.Moving p0.To p0.At (w8.set r3.1.toNat (TRegulateBlock.mk ((gd w8 r3.1.toNat).Channel) (minI (wr .i64 (p1 + 1800000000)) 1099511627776))) r1)) else (need (inb r3.1 p0.Blocked.length) <| some (TRegulate.mk p0.Table p0.Channel p0.Lead p0.Heard true p0.Moving p0.To p0.At (p0.Blocked.set r3.1.toNat (TRegulateBlock.mk ((gd p0.Blocked r3.1.toNat).Channel) (minI (wr .i64 (p1 + 1800000000)) 1099511627776))) r1))
noncomputable def body92_0 : List AV → List ABlk → ED
  | [v0, v1], h => .ed [ptB v0, slN (getL (celL h v0) 0), slN (getL (celL h v0) 8), slN (getL (celL h v0) 9)] (pK 39 10 h v0 ∧ k_TRegulate (getL (roWL h (celL h v0))) ∧ oS 45 3 h (getL (celL h v0) 0) ∧ nref (getL (celL h v0) 1) ∧ nref (getL (celL h v0) 2) ∧ nref (getL (celL h v0) 3) ∧ nref (getL (celL h v0) 4) ∧ nref (getL (celL h v0) 5) ∧ nref (getL (celL h v0) 6) ∧ nref (getL (celL h v0) 7) ∧ oS 79 2 h (getL (celL h v0) 8) ∧ oS 3 1 h (getL (celL h v0) 9) ∧ iK .i64 (roD (deadL h [ptB v0, slN (getL (celL h v0) 0), slN (getL (celL h v0) 8), slN (getL (celL h v0) 9)]) v1) ∧ roDOb (deadL h [ptB v0, slN (getL (celL h v0) 0), slN (getL (celL h v0) 8), slN (getL (celL h v0) 9)]) v1 ∧ (F92_0 (g_TRegulate (getL (roWL h (celL h v0)))) (iA (roD (deadL h [ptB v0, slN (getL (celL h v0) 0), slN (getL (celL h v0) 8), slN (getL (celL h v0) 9)]) v1))).isSome = true) (.tup []) [.lit 39 [.sl 4 3 0 (((gt (F92_0 (g_TRegulate (getL (roWL h (celL h v0)))) (iA (roD (deadL h [ptB v0, slN (getL (celL h v0) 0), slN (getL (celL h v0) 8), slN (getL (celL h v0) 9)]) v1)))).Table).length) false, .int .i64 ((gt (F92_0 (g_TRegulate (getL (roWL h (celL h v0)))) (iA (roD (deadL h [ptB v0, slN (getL (celL h v0) 0), slN (getL (celL h v0) 8), slN (getL (celL h v0) 9)]) v1)))).Channel), .bool ((gt (F92_0 (g_TRegulate (getL (roWL h (celL h v0)))) (iA (roD (deadL h [ptB v0, slN (getL (celL h v0) 0), slN (getL (celL h v0) 8), slN (getL (celL h v0) 9)]) v1)))).Lead), .int .i64 ((gt (F92_0 (g_TRegulate (getL (roWL h (celL h v0)))) (iA (roD (deadL h [ptB v0, slN (getL (celL h v0) 0), slN (getL (celL h v0) 8), slN (getL (celL h v0) 9)]) v1)))).Heard), .bool ((gt (F92_0 (g_TRegulate (getL (roWL h (celL h v0)))) (iA (roD (deadL h [ptB v0, slN (getL (celL h v0) 0), slN (getL (celL h v0) 8), slN (getL (celL h v0) 9)]) v1)))).Stopped), .bool ((gt (F92_0 (g_TRegulate (getL (roWL h (celL h v0)))) (iA (roD (deadL h [ptB v0, slN (getL (celL h v0) 0), slN (getL (celL h v0) 8), slN (getL (celL h v0) 9)]) v1)))).Moving), .int .i64 ((gt (F92_0 (g_TRegulate (getL (roWL h (celL h v0)))) (iA (roD (deadL h [ptB v0, slN (getL (celL h v0) 0), slN (getL (celL h v0) 8), slN (getL (celL h v0) 9)]) v1)))).To), .int .i64 ((gt (F92_0 (g_TRegulate (getL (roWL h (celL h v0)))) (iA (roD (deadL h [ptB v0, slN (getL (celL h v0) 0), slN (getL (celL h v0) 8), slN (getL (celL h v0) 9)]) v1)))).At), .sl 5 2 0 (((gt (F92_0 (g_TRegulate (getL (roWL h (celL h v0)))) (iA (roD (deadL h [ptB v0, slN (getL (celL h v0) 0), slN (getL (celL h v0) 8), slN (getL (celL h v0) 9)]) v1)))).Blocked).length) false, .sl 6 1 0 (((gt (F92_0 (g_TRegulate (getL (roWL h (celL h v0)))) (iA (roD (deadL h [ptB v0, slN (getL (celL h v0) 0), slN (getL (celL h v0) 8), slN (getL (celL h v0) 9)]) v1)))).Clear).length) false], .dead, .dead, .dead, .row 45 3 (((gt (F92_0 (g_TRegulate (getL (roWL h (celL h v0)))) (iA (roD (deadL h [ptB v0, slN (getL (celL h v0) 0), slN (getL (celL h v0) 8), slN (getL (celL h v0) 9)]) v1)))).Table).length) (enR c_TRegulateChannel ((gt (F92_0 (g_TRegulate (getL (roWL h (celL h v0)))) (iA (roD (deadL h [ptB v0, slN (getL (celL h v0) 0), slN (getL (celL h v0) 8), slN (getL (celL h v0) 9)]) v1)))).Table)), .row 79 2 (((gt (F92_0 (g_TRegulate (getL (roWL h (celL h v0)))) (iA (roD (deadL h [ptB v0, slN (getL (celL h v0) 0), slN (getL (celL h v0) 8), slN (getL (celL h v0) 9)]) v1)))).Blocked).length) (enR c_TRegulateBlock ((gt (F92_0 (g_TRegulate (getL (roWL h (celL h v0)))) (iA (roD (deadL h [ptB v0, slN (getL (celL h v0) 0), slN (getL (celL h v0) 8), slN (getL (celL h v0) 9)]) v1)))).Blocked)), .row 3 1 (((gt (F92_0 (g_TRegulate (getL (roWL h (celL h v0)))) (iA (roD (deadL h [ptB v0, slN (getL (celL h v0) 0), slN (getL (celL h v0) 8), slN (getL (celL h v0) 9)]) v1)))).Clear).length) (enR c_i64 ((gt (F92_0 (g_TRegulate (getL (roWL h (celL h v0)))) (iA (roD (deadL h [ptB v0, slN (getL (celL h v0) 0), slN (getL (celL h v0) 8), slN (getL (celL h v0) 9)]) v1)))).Clear))]
  | _, _ => .fail
set_option maxHeartbeats 4000000 in
set_option maxRecDepth 20000 in
theorem ok92_0 : FnOk Try.prog 92 (edC body92_0) := by
  refine edit_fnV body92_0 (rs := []) Try.func92 (by kernel_rfl) rfl rfl ?_
  intro l h bs ob q0 g0 hb hob
  unfold body92_0 at hb
  split at hb
  · rename_i v0 v1
    injection hb with q1 q2 q3 q4; subst q1 q2 q3 q4
    obtain ⟨hk0_0, hk0_1, hk0_2, hk0_3, hk0_4, hk0_5, hk0_6, hk0_7, hk0_8, hk0_9, hk0_10, hk0_11, hk1_0, hk1_1, hob⟩ := hob
    obtain ⟨r, H⟩ := Option.isSome_iff_exists.1 hob
    rw [H, gt_some]
    obtain ⟨p0, hp0⟩ : ∃ p0, p0 = g_TRegulate (getL (roWL h (celL h v0))) := ⟨_, rfl⟩
    rw [← hp0] at H
    have hw0 : ∀ y, y < 10 → WkV (getL (c_TRegulate p0) y) (roW h (getL (celL h v0) y)) ∧ nref (getL (c_TRegulate p0) y) := fun y hy => by rw [hp0, ← getL_roWL]; exact w_TRegulate hk0_1 y hy
    have hk0_K := hk0_1
    unfold k_TRegulate at hk0_K
    obtain ⟨kk0_0, kk0_1, kk0_2, kk0_3, kk0_4, kk0_5, kk0_6, kk0_7, kk0_8, kk0_9⟩ := hk0_K
    obtain ⟨ev0_0, eb0_0⟩ := own_row2 (f := c_TRegulateChannel) (g := g_TRegulateChannel) (bs := [ptB v0, slN (getL (celL h v0) 0), slN (getL (celL h v0) 8), slN (getL (celL h v0) 9)]) (i := 1) (fun hr => w_TRegulateChannel hr) hk0_2 (by rw [← getL_roWL]; exact kk0_0) (L := p0.Table) (by rw [hp0, ← getL_roWL]; rfl) rfl
    obtain ⟨ev0_8, eb0_8⟩ := own_row2 (f := c_TRegulateBlock) (g := g_TRegulateBlock) (bs := [ptB v0, slN (getL (celL h v0) 0), slN (getL (celL h v0) 8), slN (getL (celL h v0) 9)]) (i := 2) (fun hr => w_TRegulateBlock hr) hk0_10 (by rw [← getL_roWL]; exact kk0_8) (L := p0.Blocked) (by rw [hp0, ← getL_roWL]; rfl) rfl
    obtain ⟨ev0_9, eb0_9⟩ := own_row2 (f := c_i64) (g := g_i64) (bs := [ptB v0, slN (getL (celL h v0) 0), slN (getL (celL h v0) 8), slN (getL (celL h v0) 9)]) (i := 3) (fun hr => w_i64 hr) hk0_11 (by rw [← getL_roWL]; exact kk0_9) (L := p0.Clear) (by rw [hp0, ← getL_roWL]; rfl) rfl
    have hw1 := iK_wk hk1_0
    obtain ⟨p1, hp_p1⟩ : ∃ p1, p1 = iA (roD (deadL h [ptB v0, slN (getL (celL h v0) 0), slN (getL (celL h v0) 8), slN (getL (celL h v0) 9)]) v1) := ⟨_, rfl⟩
    rw [← hp_p1] at H hw1
    refine ⟨[.ptr 0 0 0 0, .int .i64 p1], [.lit 39 [.sl 1 3 0 p0.Table.length false, .int .i64 p0.Channel, .bool p0.Lead, .int .i64 p0.Heard, .bool p0.Stopped, .bool p0.Moving, .int .i64 p0.To, .int .i64 p0.At, .sl 2 2 0 p0.Blocked.length false, .sl 3 1 0 p0.Clear.length false], .row 45 3 p0.Table.length (enR c_TRegulateChannel p0.Table), .row 79 2 p0.Blocked.length (enR c_TRegulateBlock p0.Blocked), .row 3 1 p0.Clear.length (enR c_i64 p0.Clear)], rfl, ⟨(EW_own (EV_pK hk0_0 rfl) (by simp only [noro, noroL, and_self])), ⟨(EW_view hk1_1 hw1), trivial⟩⟩, ⟨(EB_pK hk0_0 rfl rfl (fun y hy => by
          match y, hy with
          | 0, _ => exact ev0_0
          | 1, _ => exact EV_t hk0_3 (hw0 1 (by decide))
          | 2, _ => exact EV_t hk0_4 (hw0 2 (by decide))
          | 3, _ => exact EV_t hk0_5 (hw0 3 (by decide))
          | 4, _ => exact EV_t hk0_6 (hw0 4 (by decide))
          | 5, _ => exact EV_t hk0_7 (hw0 5 (by decide))
          | 6, _ => exact EV_t hk0_8 (hw0 6 (by decide))
          | 7, _ => exact EV_t hk0_9 (hw0 7 (by decide))
          | 8, _ => exact ev0_8
          | 9, _ => exact ev0_9
          | y + 10, hy => omega)), ⟨eb0_0, ⟨eb0_8, ⟨eb0_9, trivial⟩⟩⟩⟩, ⟨(by simp only [noroB, noroL, noro, and_self]), ⟨noroB_en, ⟨noroB_en, ⟨noroB_en, trivial⟩⟩⟩⟩, ⟨trivial, ⟨trivial, ⟨trivial, ⟨trivial, ⟨(nfB_en nr_TRegulateChannel), ⟨(nfB_en nr_TRegulateBlock), ⟨(nfB_en nr_i64), trivial⟩⟩⟩⟩⟩⟩⟩, ⟨(by simp only [noroB, noroL, noro, and_self]), ⟨trivial, ⟨trivial, ⟨trivial, ⟨noroB_en, ⟨noroB_en, ⟨noroB_en, trivial⟩⟩⟩⟩⟩⟩⟩, (by first | (simp only [noro, noroL, and_self]; done) | (simp only [noro, noroL]; and_intros <;> first | trivial | exact noro_bif (by simp only [noro]) (by simp only [noro]) | (simp only [noro, noroL, and_self]))), ?_⟩
    rw [Try.ntmps92]
    simp only [List.length_cons, List.length_nil, Nat.reduceAdd, Nat.reduceSub, List.replicate_succ, List.replicate_zero, List.cons_append, List.nil_append]
    unfold F92_0 at H
    try dsimp only at H
    refine sq ctNo_ok ?_
    simp only [go_sem, Nat.reduceLeDiff, Nat.reduceLT, Nat.reduceAdd, Nat.reduceMul, Nat.reduceSub, Nat.reduceEqDiff, Nat.reduceBEq, Int.reduceToNat, reduceCtorEq]
    refine sq ctNo_ok ?_
    simp only [go_sem, Nat.reduceLeDiff, Nat.reduceLT, Nat.reduceAdd, Nat.reduceMul, Nat.reduceSub, Nat.reduceEqDiff, Nat.reduceBEq, Int.reduceToNat, reduceCtorEq]
    repeat ((with_reducible refine And.intro ?_ ?_); focus (first | (with_reducible trivial) | omega | grind))
    refine seqM ?_
    obtain ⟨r1, e2, H⟩ := Option.bind_eq_some_iff.1 H
    refine draw_ruleX [(16, [0, 1, 2], [4, 0, 1, 2])] shT_ok ct92_0t0_ok 1 (by kernel_rfl) (by kernel_rfl) ?_
    intro an han
    simp only [d_nil, d_cons, nxtD, xrD, xoD, roEq, minL, List.append_nil, refsOp, refs, refsL, mask, maskF, place, placeF, okLog, pairOk, hit, inL, slotsF, ren, renL, rnN, nrH, nrB, nrL, nr, dead0, deadS, List.replicate_zero, List.replicate_succ, Nat.sub_self, Nat.add_zero, Nat.zero_add, Nat.reduceSub, Nat.not_lt_zero, Nat.zero_le, Nat.lt_add_one, go_sem, Nat.reduceLeDiff, Nat.reduceLT, Nat.reduceAdd, Nat.reduceMul, Nat.reduceSub, Nat.reduceEqDiff, Nat.reduceBEq, Int.reduceToNat, reduceCtorEq, roD, roDOb, deadL, edC, edR, nodupB, rnm, rnmL, rnmB, rnmH, rnm_bif, rnmB_bif, putH, dropH, rhoN, ptB, slN, litL, celL, pK, isLit, oS, isRow, inL, ct92_0t0_113, body113_0, e2]
    repeat ((with_reducible refine And.intro ?_ ?_); focus (and_intros <;> first | (with_reducible trivial) | (show anB _ _ _ = true; subst han; kernel_rfl) | (show (anB _ _ _ && _) = true; subst han; kernel_rfl) | omega | assumption | exact nrc | exact nfc | first | exact rfl | exact trivial | exact fitI | exact Or.inr rfl | exact Or.inl rfl | exact fun x hx => absurd hx (by omega) | (intro x hx; (repeat (first | (and_intros <;> (first | exact rfl | exact trivial | exact fitI | exact Or.inr rfl | exact Or.inl rfl | exact fun x hx => absurd hx (by omega))) | (exfalso; omega) | (rcases x with _ | x))); done)))
    refine sq ctNo_ok ?_
    simp only [go_sem, Nat.reduceLeDiff, Nat.reduceLT, Nat.reduceAdd, Nat.reduceMul, Nat.reduceSub, Nat.reduceEqDiff, Nat.reduceBEq, Int.reduceToNat, reduceCtorEq]
    repeat ((with_reducible refine And.intro ?_ ?_); focus (first | (with_reducible trivial) | omega | (and_intros <;> first | (with_reducible trivial) | omega | assumption | exact nfc | first | exact rfl | exact trivial | exact fitI | exact Or.inr rfl | exact Or.inl rfl | exact fun x hx => absurd hx (by omega) | (intro x hx; (repeat (first | (and_intros <;> (first | exact rfl | exact trivial | exact fitI | exact Or.inr rfl | exact Or.inl rfl | exact fun x hx => absurd hx (by omega))) | (exfalso; omega) | (rcases x with _ | x))); done)) | grind))
    refine seqM ?_
    obtain ⟨r3, e4, H⟩ := Option.bind_eq_some_iff.1 H
    refine draw_quiet shT_ok ct92_0t1_ok (by kernel_rfl) (by kernel_rfl) ?_
    simp only [go_sem, Nat.reduceLeDiff, Nat.reduceLT, Nat.reduceAdd, Nat.reduceMul, Nat.reduceSub, Nat.reduceEqDiff, Nat.reduceBEq, Int.reduceToNat, reduceCtorEq, ct92_0t1_67, body67_0, e4]
    repeat ((with_reducible refine And.intro ?_ ?_); focus (first | (with_reducible trivial) | omega | (and_intros <;> first | (with_reducible trivial) | omega | assumption | exact nfc | first | exact rfl | exact trivial | exact fitI | exact Or.inr rfl | exact Or.inl rfl | exact fun x hx => absurd hx (by omega) | (intro x hx; (repeat (first | (and_intros <;> (first | exact rfl | exact trivial | exact fitI | exact Or.inr rfl | exact Or.inl rfl | exact fun x hx => absurd hx (by omega))) | (exfalso; omega) | (rcases x with _ | x))); done)) | grind))
    refine seqM ?_
    refine sq ctNo_ok ?_
    simp only [go_sem, Nat.reduceLeDiff, Nat.reduceLT, Nat.reduceAdd, Nat.reduceMul, Nat.reduceSub, Nat.reduceEqDiff, Nat.reduceBEq, Int.reduceToNat, reduceCtorEq]
    refine condM' rfl trivial (fun hc => ?_) (fun hc => ?_)
    · replace H := cond_f hc H
      refine rg ctNo_ok ?_
      simp only [go_sem, Nat.reduceLeDiff, Nat.reduceLT, Nat.reduceAdd, Nat.reduceMul, Nat.reduceSub, Nat.reduceEqDiff, Nat.reduceBEq, Int.reduceToNat, reduceCtorEq]
      obtain ⟨f11, H⟩ := need_some.1 H
      replace f11 := inb_iff.1 f11
      refine rg ctNo_ok ?_
      simp only [go_sem, Nat.reduceLeDiff, Nat.reduceLT, Nat.reduceAdd, Nat.reduceMul, Nat.reduceSub, Nat.reduceEqDiff, Nat.reduceBEq, Int.reduceToNat, reduceCtorEq, f11]
      repeat ((with_reducible refine And.intro ?_ ?_); focus (first | (with_reducible trivial) | omega | grind))
      obtain rfl := Option.some.inj H
      refine RetE_mk [] [some 0, some 1, some 2, some 3, some 1, some 2, some 5] ?_ ?_ ?_ ?_ (by rfl) (by rfl)
      · simp only [List.length_cons, List.length_nil, Nat.zero_mul, Nat.add_zero, fzV, fzL, fzOb, fzObL, fzH, fzHF, fzB, fzObB, fzObH, inL, rowOb, geth, cond_true, cond_false, Bool.or_false, Bool.or_true, Bool.false_or, Bool.true_or, and_self, true_and, and_true, Nat.reduceEqDiff, Nat.reduceBEq, beq_self_eq_true, sub_enR0, Nat.reduceAdd, Nat.zero_add, Nat.le_refl, List.nil_append]
        try (and_intros <;> first | trivial | omega | exact nfc)
      · simp only [List.length_cons, List.length_nil, Nat.zero_mul, Nat.add_zero, fzV, fzL, fzOb, fzObL, fzH, fzHF, fzB, fzObB, fzObH, inL, rowOb, geth, cond_true, cond_false, Bool.or_false, Bool.or_true, Bool.false_or, Bool.true_or, and_self, true_and, and_true, Nat.reduceEqDiff, Nat.reduceBEq, beq_self_eq_true, sub_enR0, Nat.reduceAdd, Nat.zero_add, Nat.le_refl, List.nil_append]
        try (and_intros <;> first | trivial | omega | exact nfc)
      · simp only [List.length_cons, List.length_nil, Nat.zero_mul, Nat.add_zero, fzV, fzL, fzOb, fzObL, fzH, fzHF, fzB, fzObB, fzObH, inL, rowOb, geth, cond_true, cond_false, Bool.or_false, Bool.or_true, Bool.false_or, Bool.true_or, and_self, true_and, and_true, Nat.reduceEqDiff, Nat.reduceBEq, beq_self_eq_true, sub_enR0, Nat.reduceAdd, Nat.zero_add, Nat.le_refl, List.nil_append]
        simp [Cv, CvL, getM, gt_some]
      · simp only [List.length_cons, List.length_nil, Nat.zero_mul, Nat.add_zero, fzV, fzL, fzOb, fzObL, fzH, fzHF, fzB, fzObB, fzObH, inL, rowOb, geth, cond_true, cond_false, Bool.or_false, Bool.or_true, Bool.false_or, Bool.true_or, and_self, true_and, and_true, Nat.reduceEqDiff, Nat.reduceBEq, beq_self_eq_true, sub_enR0, Nat.reduceAdd, Nat.zero_add, Nat.le_refl, List.nil_append, CvH, gt_some, Option.isSome_some, Option.isSome_none]
        first | exact ⟨(by simp [CvB, CvL, Cv, blkAt, geth, getM, gt_some, cond_true, cond_false]), CvB_dead, CvB_dead, CvB_dead, CvB_row nr_TRegulateChannel (by first | rfl | simp) (fun _ _ _ _ => rfl), CvB_row nr_TRegulateBlock (by first | rfl | simp) (upc_row (f := c_TRegulateBlock) p0.Blocked r3.1.toNat 1 (TRegulateBlock.mk ((gd p0.Blocked r3.1.toNat).Channel) (minI (wr .i64 (p1 + 1800000000)) 1099511627776)) (fun _ _ _ _ => rfl) (fun y hy => match y, hy with | 0, _ => rfl | 1, _ => rfl | (y+2), h => absurd h (by omega))), CvB_row nr_i64 (by first | rfl | simp) (fun _ _ _ _ => rfl)⟩ | trivial
    replace H := cond_t hc H
    obtain ⟨f5, H⟩ := need_some.1 H
    replace f5 := insb_iff.1 f5
    refine draw_ruleX [(48, [], [6])] shT_ok ct92_0t2_ok 2 (by kernel_rfl) (by kernel_rfl) ?_
    intro an han
    simp only [d_nil, d_cons, nxtD, xrD, xoD, roEq, minL, List.append_nil, refsOp, refs, refsL, mask, maskF, place, placeF, okLog, pairOk, hit, inL, slotsF, ren, renL, rnN, nrH, nrB, nrL, nr, dead0, deadS, List.replicate_zero, List.replicate_succ, Nat.sub_self, Nat.add_zero, Nat.zero_add, Nat.reduceSub, Nat.not_lt_zero, Nat.zero_le, Nat.lt_add_one, go_sem, Nat.reduceLeDiff, Nat.reduceLT, Nat.reduceAdd, Nat.reduceMul, Nat.reduceSub, Nat.reduceEqDiff, Nat.reduceBEq, Int.reduceToNat, reduceCtorEq, ct92_0t2_115, insN, f5]
    repeat ((with_reducible refine And.intro ?_ ?_); focus (and_intros <;> first | (with_reducible trivial) | (show anB _ _ _ = true; subst han; kernel_rfl) | (show (anB _ _ _ && _) = true; subst han; kernel_rfl) | omega | assumption | exact nrc | exact nfc | first | exact rfl | exact trivial | exact fitI | exact Or.inr rfl | exact Or.inl rfl | exact fun x hx => absurd hx (by omega) | (intro x hx; (repeat (first | (and_intros <;> (first | exact rfl | exact trivial | exact fitI | exact Or.inr rfl | exact Or.inl rfl | exact fun x hx => absurd hx (by omega))) | (exfalso; omega) | (rcases x with _ | x))); done)))
    obtain ⟨w6, hw7, H⟩ := Option.bind_eq_some_iff.1 H
    replace hw7 := Option.some.inj hw7
    have lhw7 : w6.length = 1 := by rw [← hw7]; exact (by first | rfl | simp)
    obtain ⟨w8, hw9, H⟩ := Option.bind_eq_some_iff.1 H
    replace hw9 := Option.some.inj hw9
    have lhw9 : w8.length = p0.Blocked.length + 1 := by rw [← hw9]; exact (ins_len f5 (by first | rfl | simp))
    refine subF_mean (t2 := (.ptr 0 0 0 0 :: .int .i64 p1 :: .ptr 4 0 0 0 :: .top :: .int .i64 (minI (wr .i64 (p1 + 1800000000)) 1099511627776) :: .int .i64 r3.1 :: .bool r3.2 :: .ptr 0 0 0 0 :: .ptr 0 0 0 0 :: .ptr 0 0 0 4 :: .ptr 0 0 0 0 :: .ptr 0 0 0 0 :: .ptr 0 0 0 0 :: .ptr 0 0 0 9 :: .sl 3 1 0 p0.Clear.length false :: .fn 114 [.ptr 4 0 0 0] :: .sl 5 1 0 r1.length false :: .ptr 0 0 0 0 :: .ptr 0 0 0 9 :: .int .i64 p1 :: .int .i64 (wr .i64 (p1 + 1800000000)) :: .int .i64 (minI (wr .i64 (p1 + 1800000000)) 1099511627776) :: .tup [.int .i64 r3.1, .bool r3.2] :: .ptr 0 0 0 0 :: .ptr 0 0 0 0 :: .ptr 0 0 0 8 :: .sl 2 2 0 p0.Blocked.length false :: .ptr 0 0 0 0 :: .ptr 0 0 0 0 :: .ptr 0 0 0 1 :: .int .i64 p0.Channel :: .tup [.int .i64 r3.1, .bool r3.2] :: .int .i64 r3.1 :: .bool r3.2 :: .bool r3.2 :: .bool (!r3.2) :: .ptr 0 0 0 0 :: .ptr 0 0 0 0 :: .ptr 0 0 0 0 :: .ptr 0 0 0 8 :: .sl 2 2 0 p0.Blocked.length false :: .int .i64 r3.1 :: .ptr 0 0 0 0 :: .ptr 0 0 0 0 :: .ptr 0 0 0 1 :: .int .i64 p0.Channel :: .agg [.int .i64 p0.Channel, .int .i64 0] :: .sl 6 2 0 w6.length false :: .sl 7 2 0 w8.length false :: .ptr 0 0 0 0 :: .ptr 0 0 0 8 :: .top :: .top :: .top :: .top :: .top :: .top :: .top :: .top :: [])) (h2 := [.lit 39 [.sl 1 3 0 p0.Table.length false, .int .i64 p0.Channel, .bool p0.Lead, .int .i64 p0.Heard, .bool true, .bool p0.Moving, .int .i64 p0.To, .int .i64 p0.At, .sl 7 2 0 w8.length false, .sl 5 1 0 r1.length false], .row 45 3 p0.Table.length (enR c_TRegulateChannel p0.Table), .dead, .dead, .lit 101 [.ptr 0 0 0 0], .row 3 1 r1.length (enR c_i64 r1), .row 79 2 w6.length (enR c_TRegulateBlock w6), .row 79 2 w8.length (enR c_TRegulateBlock w8)]) ?_ ?_
    · refine SubF_of ⟨[some 0, some 1, some 2, some 3, some 4, some 5, some 6, some 7], ?_, ?_, by rfl, by rfl⟩
      · simp [CvL, Cv, getM, lhw7, lhw9]
      · exact ⟨(by simp [CvB, CvL, Cv, blkAt, geth, getM, lhw7, lhw9]), CvB_row nr_TRegulateChannel rfl (fun _ _ _ _ => rfl), CvB_dead, CvB_dead, (by simp [CvB, CvL, Cv, blkAt, geth, getM, lhw7, lhw9]), CvB_row nr_i64 rfl (fun _ _ _ _ => rfl), CvB_row nr_TRegulateBlock lhw7 (hw7 ▸ (lit_row (f := c_TRegulateBlock) [(TRegulateBlock.mk p0.Channel 0)] (fun _ _ => rfl) rfl)), CvB_row nr_TRegulateBlock lhw9 (hw9 ▸ (ins_row f5 (by first | rfl | simp) (fun _ _ _ _ => rfl) (lit_row (f := c_TRegulateBlock) [(TRegulateBlock.mk p0.Channel 0)] (fun _ _ => rfl) rfl))), trivial⟩
    obtain ⟨f10, H⟩ := need_some.1 H
    replace f10 := inb_iff.1 f10
    refine rg ctNo_ok ?_
    simp only [go_sem, Nat.reduceLeDiff, Nat.reduceLT, Nat.reduceAdd, Nat.reduceMul, Nat.reduceSub, Nat.reduceEqDiff, Nat.reduceBEq, Int.reduceToNat, reduceCtorEq, f10]
    repeat ((with_reducible refine And.intro ?_ ?_); focus (first | (with_reducible trivial) | omega | grind))
    obtain rfl := Option.some.inj H
    refine RetE_mk [] [some 0, some 1, some 2, some 3, some 1, some 7, some 5] ?_ ?_ ?_ ?_ (by rfl) (by rfl)
    · simp only [List.length_cons, List.length_nil, Nat.zero_mul, Nat.add_zero, fzV, fzL, fzOb, fzObL, fzH, fzHF, fzB, fzObB, fzObH, inL, rowOb, geth, cond_true, cond_false, Bool.or_false, Bool.or_true, Bool.false_or, Bool.true_or, and_self, true_and, and_true, Nat.reduceEqDiff, Nat.reduceBEq, beq_self_eq_true, sub_enR0, Nat.reduceAdd, Nat.zero_add, Nat.le_refl, List.nil_append]
      try (and_intros <;> first | trivial | omega | exact nfc)
    · simp only [List.length_cons, List.length_nil, Nat.zero_mul, Nat.add_zero, fzV, fzL, fzOb, fzObL, fzH, fzHF, fzB, fzObB, fzObH, inL, rowOb, geth, cond_true, cond_false, Bool.or_false, Bool.or_true, Bool.false_or, Bool.true_or, and_self, true_and, and_true, Nat.reduceEqDiff, Nat.reduceBEq, beq_self_eq_true, sub_enR0, Nat.reduceAdd, Nat.zero_add, Nat.le_refl, List.nil_append]
      try (and_intros <;> first | trivial | omega | exact nfc)
    · simp only [List.length_cons, List.length_nil, Nat.zero_mul, Nat.add_zero, fzV, fzL, fzOb, fzObL, fzH, fzHF, fzB, fzObB, fzObH, inL, rowOb, geth, cond_true, cond_false, Bool.or_false, Bool.or_true, Bool.false_or, Bool.true_or, and_self, true_and, and_true, Nat.reduceEqDiff, Nat.reduceBEq, beq_self_eq_true, sub_enR0, Nat.reduceAdd, Nat.zero_add, Nat.le_refl, List.nil_append]
      simp [Cv, CvL, getM, gt_some]
    · simp only [List.length_cons, List.length_nil, Nat.zero_mul, Nat.add_zero, fzV, fzL, fzOb, fzObL, fzH, fzHF, fzB, fzObB, fzObH, inL, rowOb, geth, cond_true, cond_false, Bool.or_false, Bool.or_true, Bool.false_or, Bool.true_or, and_self, true_and, and_true, Nat.reduceEqDiff, Nat.reduceBEq, beq_self_eq_true, sub_enR0, Nat.reduceAdd, Nat.zero_add, Nat.le_refl, List.nil_append, CvH, gt_some, Option.isSome_some, Option.isSome_none]
      first | exact ⟨(by simp [CvB, CvL, Cv, blkAt, geth, getM, gt_some, cond_true, cond_false]), CvB_dead, CvB_dead, CvB_dead, CvB_row nr_TRegulateChannel (by first | rfl | simp) (fun _ _ _ _ => rfl), CvB_row nr_TRegulateBlock (by first | rfl | simp) (upc_row (f := c_TRegulateBlock) w8 r3.1.toNat 1 (TRegulateBlock.mk ((gd w8 r3.1.toNat).Channel) (minI (wr .i64 (p1 + 1800000000)) 1099511627776)) (fun _ _ _ _ => rfl) (fun y hy => match y, hy with | 0, _ => rfl | 1, _ => rfl | (y+2), h => absurd h (by omega))), CvB_row nr_i64 (by first | rfl | simp) (fun _ _ _ _ => rfl)⟩ | trivial
  · cases hb
/-! hotspot/regulate.free -/
noncomputable def ct52_0t0 : Ct := tab [(67, pureC body67_0)]
theorem ct52_0t0_ok : CtOk Try.prog ct52_0t0 := tab_cons ok67_0 <| tab_nil
theorem ct52_0t0_67 (l : List AV) (h : List ABlk) : ct52_0t0 67 l h = pureC body67_0 l h := rfl
noncomputable def ct52_0t1 : Ct := tab [(51, pureC body51_0), (77, pureC body77)]
theorem ct52_0t1_ok : CtOk Try.prog ct52_0t1 := tab_cons ok51_0 <| tab_cons ok77 <| tab_nil
theorem ct52_0t1_51 (l : List AV) (h : List ABlk) : ct52_0t1 51 l h = pureC body51_0 l h := rfl
theorem ct52_0t1_77 (l : List AV) (h : List ABlk) : ct52_0t1 77 l h = pureC body77 l h := rfl
noncomputable def F52_0 (p0_0 : List TRegulateChannel) (p0_8 : List TRegulateBlock) (p0_9 : List Int) (p1 : Int) (p2 : Int) : Option (Bool) :=
  (F67_0 p0_8 p1).bind fun r1 => need (bif r1.2 then inb r1.1 p0_8.length else true) <| bif (r1.2 && (bLt p2 ((gd p0_8 r1.1.toNat).Until))) then (some false) else ((F51_0 p0_0 p1).bind fun r4 => need (bif (!(!r4.Radar)) then ((F77 p0_9 p1).isSome) else true) <| some ((!r4.Radar) || (gt (F77 p0_9 p1))))
noncomputable def body52_0 : List AV → AR
  | [v0, v1, v2] => .pure (rM 10 v0 ∧ lK k_TRegulateChannel 3 (rG v0 0) ∧ lK k_TRegulateBlock 2 (rG v0 8) ∧ lK k_i64 1 (rG v0 9) ∧ iK .i64 v1 ∧ iK .i64 v2 ∧ (F52_0 (lA g_TRegulateChannel (rG v0 0)) (lA g_TRegulateBlock (rG v0 8)) (lA g_i64 (rG v0 9)) (iA v1) (iA v2)).isSome = true) (.bool (gt (F52_0 (lA g_TRegulateChannel (rG v0 0)) (lA g_TRegulateBlock (rG v0 8)) (lA g_i64 (rG v0 9)) (iA v1) (iA v2))))
  | _ => .fail
set_option maxHeartbeats 4000000 in
set_option maxRecDepth 20000 in
theorem ok52_0 : FnOk Try.prog 52 (pureC body52_0) := by
  refine pure_fnM body52_0 (rs := [.tmp 6]) Try.func52 (by kernel_rfl) rfl rfl ?_
  intro l ob v hb hob
  unfold body52_0 at hb
  split at hb
  · rename_i v0 v1 v2
    injection hb with q1 q2; subst q1 q2
    obtain ⟨hk0_0, hk0_1, hk0_2, hk0_3, hk1_0, hk2_0, hob⟩ := hob
    obtain ⟨r, H⟩ := Option.isSome_iff_exists.1 hob
    rw [H, gt_some]
    have hw0 := (rM_wk (cells := [AV.ro 3 (lA g_TRegulateChannel (rG v0 0)).length false (enR c_TRegulateChannel (lA g_TRegulateChannel (rG v0 0))), AV.top, AV.top, AV.top, AV.top, AV.top, AV.top, AV.top, AV.ro 2 (lA g_TRegulateBlock (rG v0 8)).length false (enR c_TRegulateBlock (lA g_TRegulateBlock (rG v0 8))), AV.ro 1 (lA g_i64 (rG v0 9)).length false (enR c_i64 (lA g_i64 (rG v0 9)))]) hk0_0 (fun y hy => match y, hy with | 0, _ => lK_wk (fun r h => w_TRegulateChannel h) hk0_1 | 1, _ => top_wk | 2, _ => top_wk | 3, _ => top_wk | 4, _ => top_wk | 5, _ => top_wk | 6, _ => top_wk | 7, _ => top_wk | 8, _ => lK_wk (fun r h => w_TRegulateBlock h) hk0_2 | 9, _ => lK_wk (fun r h => w_i64 h) hk0_3 | y + 10, hy => absurd hy (by omega)))
    have hw1 := iK_wk hk1_0
    have hw2 := iK_wk hk2_0
    generalize lA g_TRegulateChannel (rG v0 0) = p0_0 at H hw0
    generalize lA g_TRegulateBlock (rG v0 8) = p0_8 at H hw0
    generalize lA g_i64 (rG v0 9) = p0_9 at H hw0
    generalize iA v1 = p1 at H hw1
    generalize iA v2 = p2 at H hw2
    refine ⟨[.rptr 10 1 0 0 (fun _ y => getL [.ro 3 p0_0.length false (enR c_TRegulateChannel p0_0), .top, .top, .top, .top, .top, .top, .top, .ro 2 p0_8.length false (enR c_TRegulateBlock p0_8), .ro 1 p0_9.length false (enR c_i64 p0_9)] y), .int .i64 p1, .int .i64 p2], _, (fun E vs F => FR_wk1 hw0.1 F (fun vs F => FR_wk1 hw1.1 F (fun vs F => FR_wk1 hw2.1 F (fun vs F => F)))), rfl, rfl, ?_⟩
    rw [Try.ntmps52]
    simp only [List.length_cons, List.length_nil, Nat.reduceAdd, Nat.reduceSub, List.replicate_succ, List.replicate_zero, List.cons_append, List.nil_append]
    unfold F52_0 at H
    try dsimp only at H
    refine sq ctNo_ok ?_
    simp only [go_sem, Nat.reduceLeDiff, Nat.reduceLT, Nat.reduceAdd, Nat.reduceMul, Nat.reduceSub, Nat.reduceEqDiff, Nat.reduceBEq, Int.reduceToNat, reduceCtorEq]
    refine seqM ?_
    refine seqM ?_
    obtain ⟨r1, e2, H⟩ := Option.bind_eq_some_iff.1 H
    refine rg ct52_0t0_ok ?_
    simp only [go_sem, Nat.reduceLeDiff, Nat.reduceLT, Nat.reduceAdd, Nat.reduceMul, Nat.reduceSub, Nat.reduceEqDiff, Nat.reduceBEq, Int.reduceToNat, reduceCtorEq, ct52_0t0_67, body67_0, e2]
    repeat ((with_reducible refine And.intro ?_ ?_); focus (first | (with_reducible trivial) | omega | (and_intros <;> first | (with_reducible trivial) | omega | assumption | exact nfc | first | exact rfl | exact trivial | exact fitI | exact Or.inr rfl | exact Or.inl rfl | exact fun x hx => absurd hx (by omega) | (intro x hx; (repeat (first | (and_intros <;> (first | exact rfl | exact trivial | exact fitI | exact Or.inr rfl | exact Or.inl rfl | exact fun x hx => absurd hx (by omega))) | (exfalso; omega) | (rcases x with _ | x))); done)) | grind))
    refine seqM ?_
    obtain ⟨f3, H⟩ := need_some.1 H
    replace f3 := g_iff.1 f3
    replace f3 := fun g => inb_iff.1 (f3 g)
    refine rg ctNo_ok ?_
    simp only [go_sem, Nat.reduceLeDiff, Nat.reduceLT, Nat.reduceAdd, Nat.reduceMul, Nat.reduceSub, Nat.reduceEqDiff, Nat.reduceBEq, Int.reduceToNat, reduceCtorEq]
    repeat ((with_reducible refine And.intro ?_ ?_); focus (first | (with_reducible trivial) | omega | exact f3 | (intro g; have q := f3 (by first | exact g | (rw [g]; rfl) | simpa using g); first | exact q | exact ⟨q.1, q.2.1⟩ | exact q.2.2 | omega | exact ⟨g, q⟩ | exact ⟨trivial, q⟩ | exact ⟨g, q.1, q.2.1⟩ | exact ⟨g, q.2.2⟩) | grind))
    refine condM rfl trivial (fun hc => ?_) (fun hc => ?_)
    · replace H := cond_t hc H
      refine sq ctNo_ok ?_
      simp only [go_sem, Nat.reduceLeDiff, Nat.reduceLT, Nat.reduceAdd, Nat.reduceMul, Nat.reduceSub, Nat.reduceEqDiff, Nat.reduceBEq, Int.reduceToNat, reduceCtorEq]
      refine rg ctNo_ok ?_
      simp only [go_sem, Nat.reduceLeDiff, Nat.reduceLT, Nat.reduceAdd, Nat.reduceMul, Nat.reduceSub, Nat.reduceEqDiff, Nat.reduceBEq, Int.reduceToNat, reduceCtorEq]
      obtain rfl := Option.some.inj H
      first | rfl | simp only [Bool.and_false, Bool.false_and, Bool.and_true, Bool.true_and]
    replace H := cond_f hc H
    refine rg ctNo_ok ?_
    simp only [go_sem, Nat.reduceLeDiff, Nat.reduceLT, Nat.reduceAdd, Nat.reduceMul, Nat.reduceSub, Nat.reduceEqDiff, Nat.reduceBEq, Int.reduceToNat, reduceCtorEq]
    refine seqM ?_
    obtain ⟨r4, e5, H⟩ := Option.bind_eq_some_iff.1 H
    obtain ⟨f6, H⟩ := need_some.1 H
    replace f6 := g_iff.1 f6
    refine rg ct52_0t1_ok ?_
    simp only [go_sem, Nat.reduceLeDiff, Nat.reduceLT, Nat.reduceAdd, Nat.reduceMul, Nat.reduceSub, Nat.reduceEqDiff, Nat.reduceBEq, Int.reduceToNat, reduceCtorEq, ct52_0t1_51, body51_0, ct52_0t1_77, body77, e5]
    repeat ((with_reducible refine And.intro ?_ ?_); focus (first | (with_reducible trivial) | omega | exact f6 | (intro g; have q := f6 (by first | exact g | (rw [g]; rfl) | simpa using g); first | exact q | exact ⟨q.1, q.2.1⟩ | exact q.2.2 | omega | exact ⟨g, q⟩ | exact ⟨trivial, q⟩ | exact ⟨g, q.1, q.2.1⟩ | exact ⟨g, q.2.2⟩) | (intro g; (try have q0 := f6 (by first | exact g | (rw [g]; rfl) | simpa using g)); and_intros <;> first | (with_reducible trivial) | assumption | exact nfc | (intro g2; rw [g, g2]; rfl) | (intro g2; assumption) | (simp only [g, Bool.true_and, Bool.and_true, Bool.not_false, Bool.not_true]; assumption) | grind) | (and_intros <;> first | (with_reducible trivial) | omega | assumption | exact nfc | first | exact rfl | exact trivial | exact fitI | exact Or.inr rfl | exact Or.inl rfl | exact fun x hx => absurd hx (by omega) | (intro x hx; (repeat (first | (and_intros <;> (first | exact rfl | exact trivial | exact fitI | exact Or.inr rfl | exact Or.inl rfl | exact fun x hx => absurd hx (by omega))) | (exfalso; omega) | (rcases x with _ | x))); done)) | grind))
    refine rg ctNo_ok ?_
    simp only [go_sem, Nat.reduceLeDiff, Nat.reduceLT, Nat.reduceAdd, Nat.reduceMul, Nat.reduceSub, Nat.reduceEqDiff, Nat.reduceBEq, Int.reduceToNat, reduceCtorEq]
    obtain rfl := Option.some.inj H
    first | rfl | simp only [Bool.and_false, Bool.false_and, Bool.and_true, Bool.true_and]
  · cases hb
/-! hotspot/regulate.usable -/
noncomputable def ct53_0t0 : Ct := tab [(52, pureC body52_0)]
theorem ct53_0t0_ok : CtOk Try.prog ct53_0t0 := tab_cons ok52_0 <| tab_nil
theorem ct53_0t0_52 (l : List AV) (h : List ABlk) : ct53_0t0 52 l h = pureC body52_0 l h := rfl
noncomputable def F53_0_L1 (p0_0 : List TRegulateChannel) (p0_1 : Int) (p0_8 : List TRegulateBlock) (p0_9 : List Int) (p1 : Int) (v1_1 : List Int) (v1_2 : Int) : Option (Lp ((List Int) × Int) ((List Int) ⊕ (List Int))) :=
  bif (bLt v1_2 (p0_0.length : Nat)) then (need (inb v1_2 p0_0.length) <| need (bif (!bEq ((gd p0_0 v1_2.toNat).Number) p0_1) then ((F52_0 p0_0 p0_8 p0_9 ((gd p0_0 v1_2.toNat).Number) p1).isSome) else true) <| bif ((!bEq ((gd p0_0 v1_2.toNat).Number) p0_1) && (gt (F52_0 p0_0 p0_8 p0_9 ((gd p0_0 v1_2.toNat).Number) p1))) then (need (capb 8 (v1_1.length + 1)) <| some (.next ((v1_1 ++ [(gd p0_0 v1_2.toNat).Number]), wr .i64 (v1_2 + 1)))) else (some (.next (v1_1, wr .i64 (v1_2 + 1))))) else (some (.done (.inl v1_1)))
noncomputable def F53_0 (p0_0 : List TRegulateChannel) (p0_1 : Int) (p0_8 : List TRegulateBlock) (p0_9 : List Int) (p1 : Int) : Option (List Int) :=
  lp (loopD (fun s => F53_0_L1 p0_0 p0_1 p0_8 p0_9 p1 s.1 s.2) ([], 0)) (fun w1_3 => some w1_3) some
noncomputable def body53_0 : List AV → List ABlk → ED
  | [v0, v1], h => .ed [] (rM 10 (roD (deadL h []) v0) ∧ lK k_TRegulateChannel 3 (rG (roD (deadL h []) v0) 0) ∧ iK .i64 (rG (roD (deadL h []) v0) 1) ∧ lK k_TRegulateBlock 2 (rG (roD (deadL h []) v0) 8) ∧ lK k_i64 1 (rG (roD (deadL h []) v0) 9) ∧ roDOb (deadL h []) v0 ∧ iK .i64 (roD (deadL h []) v1) ∧ roDOb (deadL h []) v1 ∧ (F53_0 (lA g_TRegulateChannel (rG (roD (deadL h []) v0) 0)) (iA (rG (roD (deadL h []) v0) 1)) (lA g_TRegulateBlock (rG (roD (deadL h []) v0) 8)) (lA g_i64 (rG (roD (deadL h []) v0) 9)) (iA (roD (deadL h []) v1))).isSome = true) (.sl 0 1 0 ((gt (F53_0 (lA g_TRegulateChannel (rG (roD (deadL h []) v0) 0)) (iA (rG (roD (deadL h []) v0) 1)) (lA g_TRegulateBlock (rG (roD (deadL h []) v0) 8)) (lA g_i64 (rG (roD (deadL h []) v0) 9)) (iA (roD (deadL h []) v1)))).length) false) [.row 3 1 ((gt (F53_0 (lA g_TRegulateChannel (rG (roD (deadL h []) v0) 0)) (iA (rG (roD (deadL h []) v0) 1)) (lA g_TRegulateBlock (rG (roD (deadL h []) v0) 8)) (lA g_i64 (rG (roD (deadL h []) v0) 9)) (iA (roD (deadL h []) v1)))).length) (enR c_i64 (gt (F53_0 (lA g_TRegulateChannel (rG (roD (deadL h []) v0) 0)) (iA (rG (roD (deadL h []) v0) 1)) (lA g_TRegulateBlock (rG (roD (deadL h []) v0) 8)) (lA g_i64 (rG (roD (deadL h []) v0) 9)) (iA (roD (deadL h []) v1)))))]
  | _, _ => .fail
set_option maxHeartbeats 4000000 in
set_option maxRecDepth 20000 in
theorem ok53_0 : FnOk Try.prog 53 (edC body53_0) := by
  refine edit_fnV body53_0 (rs := [.tmp 4]) Try.func53 (by kernel_rfl) rfl rfl ?_
  intro l h bs ob q0 g0 hb hob
  unfold body53_0 at hb
  split at hb
  · rename_i v0 v1
    injection hb with q1 q2 q3 q4; subst q1 q2 q3 q4
    obtain ⟨hk0_0, hk0_1, hk0_2, hk0_3, hk0_4, hk0_5, hk1_0, hk1_1, hob⟩ := hob
    obtain ⟨r, H⟩ := Option.isSome_iff_exists.1 hob
    rw [H, gt_some]
    have hw0 := (rM_wk (cells := [AV.ro 3 (lA g_TRegulateChannel (rG (roD (deadL h []) v0) 0)).length false (enR c_TRegulateChannel (lA g_TRegulateChannel (rG (roD (deadL h []) v0) 0))), AV.int .i64 (iA (rG (roD (deadL h []) v0) 1)), AV.top, AV.top, AV.top, AV.top, AV.top, AV.top, AV.ro 2 (lA g_TRegulateBlock (rG (roD (deadL h []) v0) 8)).length false (enR c_TRegulateBlock (lA g_TRegulateBlock (rG (roD (deadL h []) v0) 8))), AV.ro 1 (lA g_i64 (rG (roD (deadL h []) v0) 9)).length false (enR c_i64 (lA g_i64 (rG (roD (deadL h []) v0) 9)))]) hk0_0 (fun y hy => match y, hy with | 0, _ => lK_wk (fun r h => w_TRegulateChannel h) hk0_1 | 1, _ => iK_wk hk0_2 | 2, _ => top_wk | 3, _ => top_wk | 4, _ => top_wk | 5, _ => top_wk | 6, _ => top_wk | 7, _ => top_wk | 8, _ => lK_wk (fun r h => w_TRegulateBlock h) hk0_3 | 9, _ => lK_wk (fun r h => w_i64 h) hk0_4 | y + 10, hy => absurd hy (by omega)))
    obtain ⟨p0_0, hp_p0_0⟩ : ∃ p0_0, p0_0 = lA g_TRegulateChannel (rG (roD (deadL h []) v0) 0) := ⟨_, rfl⟩
    rw [← hp_p0_0] at H hw0
    obtain ⟨p0_1, hp_p0_1⟩ : ∃ p0_1, p0_1 = iA (rG (roD (deadL h []) v0) 1) := ⟨_, rfl⟩
    rw [← hp_p0_1] at H hw0
    obtain ⟨p0_8, hp_p0_8⟩ : ∃ p0_8, p0_8 = lA g_TRegulateBlock (rG (roD (deadL h []) v0) 8) := ⟨_, rfl⟩
    rw [← hp_p0_8] at H hw0
    obtain ⟨p0_9, hp_p0_9⟩ : ∃ p0_9, p0_9 = lA g_i64 (rG (roD (deadL h []) v0) 9) := ⟨_, rfl⟩
    rw [← hp_p0_9] at H hw0
    have hw1 := iK_wk hk1_0
    obtain ⟨p1, hp_p1⟩ : ∃ p1, p1 = iA (roD (deadL h []) v1) := ⟨_, rfl⟩
    rw [← hp_p1] at H hw1
    refine ⟨[.rptr 10 1 0 0 (fun _ y => getL [.ro 3 p0_0.length false (enR c_TRegulateChannel p0_0), .int .i64 p0_1, .top, .top, .top, .top, .top, .top, .ro 2 p0_8.length false (enR c_TRegulateBlock p0_8), .ro 1 p0_9.length false (enR c_i64 p0_9)] y), .int .i64 p1], [], rfl, ⟨(EW_view hk0_5 hw0), ⟨(EW_view hk1_1 hw1), trivial⟩⟩, trivial, trivial, ⟨(nfB_en nr_i64), trivial⟩, ⟨noroB_en, trivial⟩, (by first | (simp only [noro, noroL, and_self]; done) | (simp only [noro, noroL]; and_intros <;> first | trivial | exact noro_bif (by simp only [noro]) (by simp only [noro]) | (simp only [noro, noroL, and_self]))), ?_⟩
    rw [Try.ntmps53]
    simp only [List.length_cons, List.length_nil, Nat.reduceAdd, Nat.reduceSub, List.replicate_succ, List.replicate_zero, List.cons_append, List.nil_append]
    unfold F53_0 at H
    try dsimp only at H
    refine sq ctNo_ok ?_
    simp only [go_sem, Nat.reduceLeDiff, Nat.reduceLT, Nat.reduceAdd, Nat.reduceMul, Nat.reduceSub, Nat.reduceEqDiff, Nat.reduceBEq, Int.reduceToNat, reduceCtorEq]
    refine sq ctNo_ok ?_
    simp only [go_sem, Nat.reduceLeDiff, Nat.reduceLT, Nat.reduceAdd, Nat.reduceMul, Nat.reduceSub, Nat.reduceEqDiff, Nat.reduceBEq, Int.reduceToNat, reduceCtorEq]
    refine seqM ?_
    refine sq ctNo_ok ?_
    simp only [go_sem, Nat.reduceLeDiff, Nat.reduceLT, Nat.reduceAdd, Nat.reduceMul, Nat.reduceSub, Nat.reduceEqDiff, Nat.reduceBEq, Int.reduceToNat, reduceCtorEq]
    repeat ((with_reducible refine And.intro ?_ ?_); focus (first | (with_reducible trivial) | omega | (and_intros <;> first | (with_reducible trivial) | omega | assumption | exact nfc | first | exact rfl | exact trivial | exact fitI | exact Or.inr rfl | exact Or.inl rfl | exact fun x hx => absurd hx (by omega) | (intro x hx; (repeat (first | (and_intros <;> (first | exact rfl | exact trivial | exact fitI | exact Or.inr rfl | exact Or.inl rfl | exact fun x hx => absurd hx (by omega))) | (exfalso; omega) | (rcases x with _ | x))); done)) | grind))
    refine blkM ?_
    refine loop_den (fun s : (List Int) × Int => (.rptr 10 1 0 0 (fun _ y => getL [.ro 3 p0_0.length false (enR c_TRegulateChannel p0_0), .int .i64 p0_1, .top, .top, .top, .top, .top, .top, .ro 2 p0_8.length false (enR c_TRegulateBlock p0_8), .ro 1 p0_9.length false (enR c_i64 p0_9)] y) :: .int .i64 p1 :: .top :: .top :: .top :: .sl 0 1 0 s.1.length false :: .top :: .top :: .top :: .top :: .top :: .ro 3 p0_0.length false (enR c_TRegulateChannel p0_0) :: .int .i64 (p0_0.length : Nat) :: .int .i64 s.2 :: .top :: .top :: .top :: .top :: .top :: .top :: .top :: .top :: .top :: .top :: .top :: .top :: .top :: .top :: .top :: .top :: .top :: .top :: .top :: .top :: .top :: .top :: .top :: .top :: [])) (fun s => [.row 3 1 s.1.length (enR c_i64 s.1)]) (fun e : List Int => (.top :: .top :: .top :: .top :: .top :: .sl 0 1 0 e.length false :: .top :: .top :: .top :: .top :: .top :: .top :: .top :: .top :: .top :: .top :: .top :: .top :: .top :: .top :: .top :: .top :: .top :: .top :: .top :: .top :: .top :: .top :: .top :: .top :: .top :: .top :: .top :: .top :: .top :: .top :: .top :: .top :: [])) (fun e => [.row 3 1 e.length (enR c_i64 e)]) H ?_ (fun s o H hn1_1 hn2_1 => ?_) (fun w1_3 H => ?_)
    · refine SubF_of ⟨[none], ?_, ?_, by rfl, by rfl⟩
      · simp [CvL, Cv, getM]
      · exact ⟨CvB_none, trivial⟩
    · obtain ⟨v1_1, v1_2⟩ := s
      unfold F53_0_L1 at H
      try dsimp only at H ⊢
      refine sq ctNo_ok ?_
      simp only [go_sem, Nat.reduceLeDiff, Nat.reduceLT, Nat.reduceAdd, Nat.reduceMul, Nat.reduceSub, Nat.reduceEqDiff, Nat.reduceBEq, Int.reduceToNat, reduceCtorEq]
      refine seqM ?_
      refine condM' rfl trivial (fun hc => ?_) (fun hc => ?_)
      · replace H := cond_f hc H
        refine rg ctNo_ok ?_
        simp only [go_sem, Nat.reduceLeDiff, Nat.reduceLT, Nat.reduceAdd, Nat.reduceMul, Nat.reduceSub, Nat.reduceEqDiff, Nat.reduceBEq, Int.reduceToNat, reduceCtorEq]
        refine ⟨_, (Option.some.inj H).symm, ?_⟩
        refine SubF_of ⟨[some 0], ?_, ?_, by rfl, by rfl⟩
        · simp [CvL, Cv, getM]
        · exact ⟨CvB_row nr_i64 (by first | rfl | simp) (fun _ _ _ _ => rfl), trivial⟩
      replace H := cond_t hc H
      refine rg ctNo_ok ?_
      simp only [go_sem, Nat.reduceLeDiff, Nat.reduceLT, Nat.reduceAdd, Nat.reduceMul, Nat.reduceSub, Nat.reduceEqDiff, Nat.reduceBEq, Int.reduceToNat, reduceCtorEq]
      refine seqM ?_
      refine blkM ?_
      refine seqM ?_
      obtain ⟨f1, H⟩ := need_some.1 H
      replace f1 := inb_iff.1 f1
      refine rg ctNo_ok ?_
      simp only [go_sem, Nat.reduceLeDiff, Nat.reduceLT, Nat.reduceAdd, Nat.reduceMul, Nat.reduceSub, Nat.reduceEqDiff, Nat.reduceBEq, Int.reduceToNat, reduceCtorEq, f1]
      repeat ((with_reducible refine And.intro ?_ ?_); focus (first | (with_reducible trivial) | omega | grind))
      refine seqM ?_
      obtain ⟨f2, H⟩ := need_some.1 H
      replace f2 := g_iff.1 f2
      refine draw_quiet shT_ok ct53_0t0_ok (by kernel_rfl) (by kernel_rfl) ?_
      simp only [go_sem, Nat.reduceLeDiff, Nat.reduceLT, Nat.reduceAdd, Nat.reduceMul, Nat.reduceSub, Nat.reduceEqDiff, Nat.reduceBEq, Int.reduceToNat, reduceCtorEq, ct53_0t0_52, body52_0]
      repeat ((with_reducible refine And.intro ?_ ?_); focus (first | (with_reducible trivial) | omega | exact f2 | (intro g; have q := f2 (by first | exact g | (rw [g]; rfl) | simpa using g); first | exact q | exact ⟨q.1, q.2.1⟩ | exact q.2.2 | omega | exact ⟨g, q⟩ | exact ⟨trivial, q⟩ | exact ⟨g, q.1, q.2.1⟩ | exact ⟨g, q.2.2⟩) | (intro g; (try have q0 := f2 (by first | exact g | (rw [g]; rfl) | simpa using g)); and_intros <;> first | (with_reducible trivial) | assumption | exact nfc | (intro g2; rw [g, g2]; rfl) | (intro g2; assumption) | (simp only [g, Bool.true_and, Bool.and_true, Bool.not_false, Bool.not_true]; assumption) | grind) | (and_intros <;> first | (with_reducible trivial) | omega | assumption | exact nfc | first | exact rfl | exact trivial | exact fitI | exact Or.inr rfl | exact Or.inl rfl | exact fun x hx => absurd hx (by omega) | (intro x hx; (repeat (first | (and_intros <;> (first | exact rfl | exact trivial | exact fitI | exact Or.inr rfl | exact Or.inl rfl | exact fun x hx => absurd hx (by omega))) | (exfalso; omega) | (rcases x with _ | x))); done)) | grind))
      refine condM' rfl trivial (fun hc => ?_) (fun hc => ?_)
      · replace H := cond_f hc H
        refine rg ctNo_ok ?_
        simp only [go_sem, Nat.reduceLeDiff, Nat.reduceLT, Nat.reduceAdd, Nat.reduceMul, Nat.reduceSub, Nat.reduceEqDiff, Nat.reduceBEq, Int.reduceToNat, reduceCtorEq]
        refine rg ctNo_ok ?_
        simp only [go_sem, Nat.reduceLeDiff, Nat.reduceLT, Nat.reduceAdd, Nat.reduceMul, Nat.reduceSub, Nat.reduceEqDiff, Nat.reduceBEq, Int.reduceToNat, reduceCtorEq]
        refine ⟨_, (Option.some.inj H).symm, ?_⟩
        refine SubF_of ⟨[some 0], ?_, ?_, by rfl, by rfl⟩
        · simp [CvL, Cv, getM]
        · exact ⟨CvB_row nr_i64 (by first | rfl | simp) (fun _ _ _ _ => rfl), trivial⟩
      replace H := cond_t hc H
      obtain ⟨f3, H⟩ := need_some.1 H
      replace f3 := capb_iff.1 f3
      refine rg ctNo_ok ?_
      simp only [go_sem, Nat.reduceLeDiff, Nat.reduceLT, Nat.reduceAdd, Nat.reduceMul, Nat.reduceSub, Nat.reduceEqDiff, Nat.reduceBEq, Int.reduceToNat, reduceCtorEq, f3]
      repeat ((with_reducible refine And.intro ?_ ?_); focus (first | (with_reducible trivial) | omega | (and_intros <;> first | (with_reducible trivial) | omega | assumption | exact nfc | first | exact rfl | exact trivial | exact fitI | exact Or.inr rfl | exact Or.inl rfl | exact fun x hx => absurd hx (by omega) | (intro x hx; (repeat (first | (and_intros <;> (first | exact rfl | exact trivial | exact fitI | exact Or.inr rfl | exact Or.inl rfl | exact fun x hx => absurd hx (by omega))) | (exfalso; omega) | (rcases x with _ | x))); done) | (refine Fit_app ?_ ?_ <;> first | exact fitI | (intro x hx; (repeat (first | (and_intros <;> (first | exact rfl | exact trivial | exact fitI | exact Or.inr rfl | exact Or.inl rfl | exact fun x hx => absurd hx (by omega))) | (exfalso; omega) | (rcases x with _ | x))); done) | (refine Fit_app ?_ ?_ <;> first | exact fitI | (intro x hx; (repeat (first | (and_intros <;> (first | exact rfl | exact trivial | exact fitI | exact Or.inr rfl | exact Or.inl rfl | exact fun x hx => absurd hx (by omega))) | (exfalso; omega) | (rcases x with _ | x))); done)))) | grind))
      refine rg ctNo_ok ?_
      simp only [go_sem, Nat.reduceLeDiff, Nat.reduceLT, Nat.reduceAdd, Nat.reduceMul, Nat.reduceSub, Nat.reduceEqDiff, Nat.reduceBEq, Int.reduceToNat, reduceCtorEq]
      refine ⟨_, (Option.some.inj H).symm, ?_⟩
      refine SubF_of ⟨[some 3], ?_, ?_, by rfl, by rfl⟩
      · simp [CvL, Cv, getM]
      · exact ⟨CvB_row nr_i64 (by first | rfl | simp) (app_row (f := c_i64) v1_1 [(gd p0_0 v1_2.toNat).Number] (fun _ _ _ _ => rfl) (lit_row (f := c_i64) [(gd p0_0 v1_2.toNat).Number] (fun _ _ => rfl) rfl)), trivial⟩
    · try dsimp only at H ⊢
      try simp only [m_normal, k_normal, b_normal, kL_normal, r_normal]
      refine sq ctNo_ok ?_
      simp only [go_sem, Nat.reduceLeDiff, Nat.reduceLT, Nat.reduceAdd, Nat.reduceMul, Nat.reduceSub, Nat.reduceEqDiff, Nat.reduceBEq, Int.reduceToNat, reduceCtorEq]
      refine rg ctNo_ok ?_
      simp only [go_sem, Nat.reduceLeDiff, Nat.reduceLT, Nat.reduceAdd, Nat.reduceMul, Nat.reduceSub, Nat.reduceEqDiff, Nat.reduceBEq, Int.reduceToNat, reduceCtorEq]
      obtain rfl := Option.some.inj H
      refine RetE_mk [] [some 0] ?_ ?_ ?_ ?_ (by rfl) (by rfl)
      · simp only [List.length_cons, List.length_nil, Nat.zero_mul, Nat.add_zero, fzV, fzL, fzOb, fzObL, fzH, fzHF, fzB, fzObB, fzObH, inL, rowOb, geth, cond_true, cond_false, Bool.or_false, Bool.or_true, Bool.false_or, Bool.true_or, and_self, true_and, and_true, Nat.reduceEqDiff, Nat.reduceBEq, beq_self_eq_true, sub_enR0, Nat.reduceAdd, Nat.zero_add, Nat.le_refl, List.nil_append]
        try (and_intros <;> first | trivial | omega | exact nfc)
      · simp only [List.length_cons, List.length_nil, Nat.zero_mul, Nat.add_zero, fzV, fzL, fzOb, fzObL, fzH, fzHF, fzB, fzObB, fzObH, inL, rowOb, geth, cond_true, cond_false, Bool.or_false, Bool.or_true, Bool.false_or, Bool.true_or, and_self, true_and, and_true, Nat.reduceEqDiff, Nat.reduceBEq, beq_self_eq_true, sub_enR0, Nat.reduceAdd, Nat.zero_add, Nat.le_refl, List.nil_append]
        try (and_intros <;> first | trivial | omega | exact nfc)
      · simp only [List.length_cons, List.length_nil, Nat.zero_mul, Nat.add_zero, fzV, fzL, fzOb, fzObL, fzH, fzHF, fzB, fzObB, fzObH, inL, rowOb, geth, cond_true, cond_false, Bool.or_false, Bool.or_true, Bool.false_or, Bool.true_or, and_self, true_and, and_true, Nat.reduceEqDiff, Nat.reduceBEq, beq_self_eq_true, sub_enR0, Nat.reduceAdd, Nat.zero_add, Nat.le_refl, List.nil_append]
        exact (by simp [Cv, CvL, getM, gt_some])
      · simp only [List.length_cons, List.length_nil, Nat.zero_mul, Nat.add_zero, fzV, fzL, fzOb, fzObL, fzH, fzHF, fzB, fzObB, fzObH, inL, rowOb, geth, cond_true, cond_false, Bool.or_false, Bool.or_true, Bool.false_or, Bool.true_or, and_self, true_and, and_true, Nat.reduceEqDiff, Nat.reduceBEq, beq_self_eq_true, sub_enR0, Nat.reduceAdd, Nat.zero_add, Nat.le_refl, List.nil_append, CvH, gt_some, Option.isSome_some, Option.isSome_none]
        exact CvB_row nr_i64 (by first | rfl | simp) (fun _ _ _ _ => rfl)
  · cases hb
/-! hotspot/regulate.announcement -/
noncomputable def F57_0 (p0_1 : Int) (p0_6 : Int) (p0_7 : Int) : Option (List TRegulateWord) :=
  some [(TRegulateWord.mk 1 p0_1 p0_6 p0_7)]
noncomputable def body57_0 : List AV → List ABlk → ED
  | [v0], h => .ed [] (rM 10 (roD (deadL h []) v0) ∧ iK .i64 (rG (roD (deadL h []) v0) 1) ∧ iK .i64 (rG (roD (deadL h []) v0) 6) ∧ iK .i64 (rG (roD (deadL h []) v0) 7) ∧ roDOb (deadL h []) v0 ∧ (F57_0 (iA (rG (roD (deadL h []) v0) 1)) (iA (rG (roD (deadL h []) v0) 6)) (iA (rG (roD (deadL h []) v0) 7))).isSome = true) (.sl 0 4 0 ((gt (F57_0 (iA (rG (roD (deadL h []) v0) 1)) (iA (rG (roD (deadL h []) v0) 6)) (iA (rG (roD (deadL h []) v0) 7)))).length) false) [.row 23 4 ((gt (F57_0 (iA (rG (roD (deadL h []) v0) 1)) (iA (rG (roD (deadL h []) v0) 6)) (iA (rG (roD (deadL h []) v0) 7)))).length) (enR c_TRegulateWord (gt (F57_0 (iA (rG (roD (deadL h []) v0) 1)) (iA (rG (roD (deadL h []) v0) 6)) (iA (rG (roD (deadL h []) v0) 7)))))]
  | _, _ => .fail
set_option maxHeartbeats 4000000 in
set_option maxRecDepth 20000 in
theorem ok57_0 : FnOk Try.prog 57 (edC body57_0) := by
  refine edit_fnV body57_0 (rs := [.tmp 2]) Try.func57 (by kernel_rfl) rfl rfl ?_
  intro l h bs ob q0 g0 hb hob
  unfold body57_0 at hb
  split at hb
  · rename_i v0
    injection hb with q1 q2 q3 q4; subst q1 q2 q3 q4
    obtain ⟨hk0_0, hk0_1, hk0_2, hk0_3, hk0_4, hob⟩ := hob
    obtain ⟨r, H⟩ := Option.isSome_iff_exists.1 hob
    rw [H, gt_some]
    have hw0 := (rM_wk (cells := [AV.top, AV.int .i64 (iA (rG (roD (deadL h []) v0) 1)), AV.top, AV.top, AV.top, AV.top, AV.int .i64 (iA (rG (roD (deadL h []) v0) 6)), AV.int .i64 (iA (rG (roD (deadL h []) v0) 7)), AV.top, AV.top]) hk0_0 (fun y hy => match y, hy with | 0, _ => top_wk | 1, _ => iK_wk hk0_1 | 2, _ => top_wk | 3, _ => top_wk | 4, _ => top_wk | 5, _ => top_wk | 6, _ => iK_wk hk0_2 | 7, _ => iK_wk hk0_3 | 8, _ => top_wk | 9, _ => top_wk | y + 10, hy => absurd hy (by omega)))
    obtain ⟨p0_1, hp_p0_1⟩ : ∃ p0_1, p0_1 = iA (rG (roD (deadL h []) v0) 1) := ⟨_, rfl⟩
    rw [← hp_p0_1] at H hw0
    obtain ⟨p0_6, hp_p0_6⟩ : ∃ p0_6, p0_6 = iA (rG (roD (deadL h []) v0) 6) := ⟨_, rfl⟩
    rw [← hp_p0_6] at H hw0
    obtain ⟨p0_7, hp_p0_7⟩ : ∃ p0_7, p0_7 = iA (rG (roD (deadL h []) v0) 7) := ⟨_, rfl⟩
    rw [← hp_p0_7] at H hw0
    refine ⟨[.rptr 10 1 0 0 (fun _ y => getL [.top, .int .i64 p0_1, .top, .top, .top, .top, .int .i64 p0_6, .int .i64 p0_7, .top, .top] y)], [], rfl, ⟨(EW_view hk0_4 hw0), trivial⟩, trivial, trivial, ⟨(nfB_en nr_TRegulateWord), trivial⟩, ⟨noroB_en, trivial⟩, (by first | (simp only [noro, noroL, and_self]; done) | (simp only [noro, noroL]; and_intros <;> first | trivial | exact noro_bif (by simp only [noro]) (by simp only [noro]) | (simp only [noro, noroL, and_self]))), ?_⟩
    rw [Try.ntmps57]
    simp only [List.length_cons, List.length_nil, Nat.reduceAdd, Nat.reduceSub, List.replicate_succ, List.replicate_zero, List.cons_append, List.nil_append]
    unfold F57_0 at H
    try dsimp only at H
    refine sq ctNo_ok ?_
    simp only [go_sem, Nat.reduceLeDiff, Nat.reduceLT, Nat.reduceAdd, Nat.reduceMul, Nat.reduceSub, Nat.reduceEqDiff, Nat.reduceBEq, Int.reduceToNat, reduceCtorEq]
    refine seqM ?_
    refine draw_rule shT_ok ctNo_ok 1 (by kernel_rfl) (by kernel_rfl) ?_
    intro an han
    simp only [d_nil, d_cons, nxtD, xrD, xoD, roEq, minL, List.append_nil, refsOp, refs, refsL, mask, maskF, place, placeF, okLog, pairOk, hit, inL, slotsF, ren, renL, rnN, nrH, nrB, nrL, nr, dead0, deadS, List.replicate_zero, List.replicate_succ, Nat.sub_self, Nat.add_zero, Nat.zero_add, Nat.reduceSub, Nat.not_lt_zero, Nat.zero_le, Nat.lt_add_one, go_sem, Nat.reduceLeDiff, Nat.reduceLT, Nat.reduceAdd, Nat.reduceMul, Nat.reduceSub, Nat.reduceEqDiff, Nat.reduceBEq, Int.reduceToNat, reduceCtorEq]
    repeat ((with_reducible refine And.intro ?_ ?_); focus (and_intros <;> first | (with_reducible trivial) | (show anB _ _ _ = true; subst han; kernel_rfl) | (show (anB _ _ _ && _) = true; subst han; kernel_rfl) | omega | assumption | exact nrc | exact nfc | first | exact rfl | exact trivial | exact fitI | exact Or.inr rfl | exact Or.inl rfl | exact fun x hx => absurd hx (by omega) | (intro x hx; (repeat (first | (and_intros <;> (first | exact rfl | exact trivial | exact fitI | exact Or.inr rfl | exact Or.inl rfl | exact fun x hx => absurd hx (by omega))) | (exfalso; omega) | (rcases x with _ | x))); done)))
    refine rg ctNo_ok ?_
    simp only [go_sem, Nat.reduceLeDiff, Nat.reduceLT, Nat.reduceAdd, Nat.reduceMul, Nat.reduceSub, Nat.reduceEqDiff, Nat.reduceBEq, Int.reduceToNat, reduceCtorEq]
    obtain rfl := Option.some.inj H
    refine RetE_mk [] [some 0] ?_ ?_ ?_ ?_ (by rfl) (by rfl)
    · simp only [List.length_cons, List.length_nil, Nat.zero_mul, Nat.add_zero, fzV, fzL, fzOb, fzObL, fzH, fzHF, fzB, fzObB, fzObH, inL, rowOb, geth, cond_true, cond_false, Bool.or_false, Bool.or_true, Bool.false_or, Bool.true_or, and_self, true_and, and_true, Nat.reduceEqDiff, Nat.reduceBEq, beq_self_eq_true, sub_enR0, Nat.reduceAdd, Nat.zero_add, Nat.le_refl, List.nil_append]
      try (and_intros <;> first | trivial | omega | exact nfc)
    · simp only [List.length_cons, List.length_nil, Nat.zero_mul, Nat.add_zero, fzV, fzL, fzOb, fzObL, fzH, fzHF, fzB, fzObB, fzObH, inL, rowOb, geth, cond_true, cond_false, Bool.or_false, Bool.or_true, Bool.false_or, Bool.true_or, and_self, true_and, and_true, Nat.reduceEqDiff, Nat.reduceBEq, beq_self_eq_true, sub_enR0, Nat.reduceAdd, Nat.zero_add, Nat.le_refl, List.nil_append]
      try (and_intros <;> first | trivial | omega | exact nfc)
    · simp only [List.length_cons, List.length_nil, Nat.zero_mul, Nat.add_zero, fzV, fzL, fzOb, fzObL, fzH, fzHF, fzB, fzObB, fzObH, inL, rowOb, geth, cond_true, cond_false, Bool.or_false, Bool.or_true, Bool.false_or, Bool.true_or, and_self, true_and, and_true, Nat.reduceEqDiff, Nat.reduceBEq, beq_self_eq_true, sub_enR0, Nat.reduceAdd, Nat.zero_add, Nat.le_refl, List.nil_append]
      exact (by simp [Cv, CvL, getM, gt_some])
    · simp only [List.length_cons, List.length_nil, Nat.zero_mul, Nat.add_zero, fzV, fzL, fzOb, fzObL, fzH, fzHF, fzB, fzObB, fzObH, inL, rowOb, geth, cond_true, cond_false, Bool.or_false, Bool.or_true, Bool.false_or, Bool.true_or, and_self, true_and, and_true, Nat.reduceEqDiff, Nat.reduceBEq, beq_self_eq_true, sub_enR0, Nat.reduceAdd, Nat.zero_add, Nat.le_refl, List.nil_append, CvH, gt_some, Option.isSome_some, Option.isSome_none]
      exact CvB_row nr_TRegulateWord (by first | rfl | simp) (lit_row (f := c_TRegulateWord) [(TRegulateWord.mk 1 p0_1 p0_6 p0_7)] (fun _ _ => rfl) rfl)
  · cases hb
/-! hotspot/regulate.radar -/
noncomputable def ct54_0t0 : Ct := tab [(92, edC body92_0)]
theorem ct54_0t0_ok : CtOk Try.prog ct54_0t0 := tab_cons ok92_0 <| tab_nil
theorem ct54_0t0_92 (l : List AV) (h : List ABlk) : ct54_0t0 92 l h = edC body92_0 l h := rfl
noncomputable def ct54_0t1 : Ct := tab [(53, edC body53_0)]
theorem ct54_0t1_ok : CtOk Try.prog ct54_0t1 := tab_cons ok53_0 <| tab_nil
theorem ct54_0t1_53 (l : List AV) (h : List ABlk) : ct54_0t1 53 l h = edC body53_0 l h := rfl
noncomputable def ct54_0t2 : Ct := tab [(57, edC body57_0)]
theorem ct54_0t2_ok : CtOk Try.prog ct54_0t2 := tab_cons ok57_0 <| tab_nil
theorem ct54_0t2_57 (l : List AV) (h : List ABlk) : ct54_0t2 57 l h = edC body57_0 l h := rfl
noncomputable def F54_0 (p0 : TRegulate) (p1 : Int) (p2 : Int) : Option ((List TRegulateWord) × TRegulate) :=
  (F92_0 (TRegulate.mk p0.Table p0.Channel p0.Lead p0.Heard p0.Stopped p0.Moving p0.To p0.At p0.Blocked p0.Clear) p2).bind fun r1 => bif (!r1.Lead) then (some ([(TRegulateWord.mk 2 r1.Channel 0 0)], (TRegulate.mk r1.Table r1.Channel r1.Lead r1.Heard r1.Stopped r1.Moving r1.To r1.At r1.Blocked r1.Clear))) else ((F53_0 r1.Table r1.Channel r1.Blocked r1.Clear p2).bind fun r3 => bif (bEq (r3.length : Nat) 0) then (some ([], (TRegulate.mk r1.Table r1.Channel r1.Lead r1.Heard r1.Stopped r1.Moving r1.To r1.At r1.Blocked r1.Clear))) else (need (!(bEq (r3.length : Nat) 0)) <| need (inb (p1.tmod (r3.length : Nat)) r3.length) <| (F57_0 r1.Channel (gd r3 ((p1.tmod (r3.length : Nat)).toNat)) (minI (wr .i64 (p2 + 150000)) 1099511627776)).bind fun r7 => some (r7, (TRegulate.mk r1.Table r1.Channel r1.Lead r1.Heard r1.Stopped true (gd r3 ((p1.tmod (r3.length : Nat)).toNat)) (minI (wr .i64 (p2 + 150000)) 1099511627776) r1.Blocked r1.Clear))))
noncomputable def body54_0 : List AV → List ABlk → ED
  | [v0, v1, v2], h => .ed [ptB v0, slN (getL (celL h v0) 0), slN (getL (celL h v0) 8), slN (getL (celL h v0) 9)] (pK 39 10 h v0 ∧ k_TRegulate (getL (roWL h (celL h v0))) ∧ oS 45 3 h (getL (celL h v0) 0) ∧ nref (getL (celL h v0) 1) ∧ nref (getL (celL h v0) 2) ∧ nref (getL (celL h v0) 3) ∧ nref (getL (celL h v0) 4) ∧ nref (getL (celL h v0) 5) ∧ nref (getL (celL h v0) 6) ∧ nref (getL (celL h v0) 7) ∧ oS 79 2 h (getL (celL h v0) 8) ∧ oS 3 1 h (getL (celL h v0) 9) ∧ iK .i64 (roD (deadL h [ptB v0, slN (getL (celL h v0) 0), slN (getL (celL h v0) 8), slN (getL (celL h v0) 9)]) v1) ∧ roDOb (deadL h [ptB v0, slN (getL (celL h v0) 0), slN (getL (celL h v0) 8), slN (getL (celL h v0) 9)]) v1 ∧ iK .i64 (roD (deadL h [ptB v0, slN (getL (celL h v0) 0), slN (getL (celL h v0) 8), slN (getL (celL h v0) 9)]) v2) ∧ roDOb (deadL h [ptB v0, slN (getL (celL h v0) 0), slN (getL (celL h v0) 8), slN (getL (celL h v0) 9)]) v2 ∧ (F54_0 (g_TRegulate (getL (roWL h (celL h v0)))) (iA (roD (deadL h [ptB v0, slN (getL (celL h v0) 0), slN (getL (celL h v0) 8), slN (getL (celL h v0) 9)]) v1)) (iA (roD (deadL h [ptB v0, slN (getL (celL h v0) 0), slN (getL (celL h v0) 8), slN (getL (celL h v0) 9)]) v2))).isSome = true) (.sl 7 4 0 (((gt (F54_0 (g_TRegulate (getL (roWL h (celL h v0)))) (iA (roD (deadL h [ptB v0, slN (getL (celL h v0) 0), slN (getL (celL h v0) 8), slN (getL (celL h v0) 9)]) v1)) (iA (roD (deadL h [ptB v0, slN (getL (celL h v0) 0), slN (getL (celL h v0) 8), slN (getL (celL h v0) 9)]) v2)))).1).length) false) [.lit 39 [.sl 4 3 0 ((((gt (F54_0 (g_TRegulate (getL (roWL h (celL h v0)))) (iA (roD (deadL h [ptB v0, slN (getL (celL h v0) 0), slN (getL (celL h v0) 8), slN (getL (celL h v0) 9)]) v1)) (iA (roD (deadL h [ptB v0, slN (getL (celL h v0) 0), slN (getL (celL h v0) 8), slN (getL (celL h v0) 9)]) v2)))).2).Table).length) false, .int .i64 (((gt (F54_0 (g_TRegulate (getL (roWL h (celL h v0)))) (iA (roD (deadL h [ptB v0, slN (getL (celL h v0) 0), slN (getL (celL h v0) 8), slN (getL (celL h v0) 9)]) v1)) (iA (roD (deadL h [ptB v0, slN (getL (celL h v0) 0), slN (getL (celL h v0) 8), slN (getL (celL h v0) 9)]) v2)))).2).Channel), .bool (((gt (F54_0 (g_TRegulate (getL (roWL h (celL h v0)))) (iA (roD (deadL h [ptB v0, slN (getL (celL h v0) 0), slN (getL (celL h v0) 8), slN (getL (celL h v0) 9)]) v1)) (iA (roD (deadL h [ptB v0, slN (getL (celL h v0) 0), slN (getL (celL h v0) 8), slN (getL (celL h v0) 9)]) v2)))).2).Lead), .int .i64 (((gt (F54_0 (g_TRegulate (getL (roWL h (celL h v0)))) (iA (roD (deadL h [ptB v0, slN (getL (celL h v0) 0), slN (getL (celL h v0) 8), slN (getL (celL h v0) 9)]) v1)) (iA (roD (deadL h [ptB v0, slN (getL (celL h v0) 0), slN (getL (celL h v0) 8), slN (getL (celL h v0) 9)]) v2)))).2).Heard), .bool (((gt (F54_0 (g_TRegulate (getL (roWL h (celL h v0)))) (iA (roD (deadL h [ptB v0, slN (getL (celL h v0) 0), slN (getL (celL h v0) 8), slN (getL (celL h v0) 9)]) v1)) (iA (roD (deadL h [ptB v0, slN (getL (celL h v0) 0), slN (getL (celL h v0) 8), slN (getL (celL h v0) 9)]) v2)))).2).Stopped), .bool (((gt (F54_0 (g_TRegulate (getL (roWL h (celL h v0)))) (iA (roD (deadL h [ptB v0, slN (getL (celL h v0) 0), slN (getL (celL h v0) 8), slN (getL (celL h v0) 9)]) v1)) (iA (roD (deadL h [ptB v0, slN (getL (celL h v0) 0), slN (getL (celL h v0) 8), slN (getL (celL h v0) 9)]) v2)))).2).Moving), .int .i64 (((gt (F54_0 (g_TRegulate (getL (roWL h (celL h v0)))) (iA (roD (deadL h [ptB v0, slN (getL (celL h v0) 0), slN (getL (celL h v0) 8), slN (getL (celL h v0) 9)]) v1)) (iA (roD (deadL h [ptB v0, slN (getL (celL h v0) 0), slN (getL (celL h v0) 8), slN (getL (celL h v0) 9)]) v2)))).2).To), .int .i64 (((gt (F54_0 (g_TRegulate (getL (roWL h (celL h v0)))) (iA (roD (deadL h [ptB v0, slN (getL (celL h v0) 0), slN (getL (celL h v0) 8), slN (getL (celL h v0) 9)]) v1)) (iA (roD (deadL h [ptB v0, slN (getL (celL h v0) 0), slN (getL (celL h v0) 8), slN (getL (celL h v0) 9)]) v2)))).2).At), .sl 5 2 0 ((((gt (F54_0 (g_TRegulate (getL (roWL h (celL h v0)))) (iA (roD (deadL h [ptB v0, slN (getL (celL h v0) 0), slN (getL (celL h v0) 8), slN (getL (celL h v0) 9)]) v1)) (iA (roD (deadL h [ptB v0, slN (getL (celL h v0) 0), slN (getL (celL h v0) 8), slN (getL (celL h v0) 9)]) v2)))).2).Blocked).length) false, .sl 6 1 0 ((((gt (F54_0 (g_TRegulate (getL (roWL h (celL h v0)))) (iA (roD (deadL h [ptB v0, slN (getL (celL h v0) 0), slN (getL (celL h v0) 8), slN (getL (celL h v0) 9)]) v1)) (iA (roD (deadL h [ptB v0, slN (getL (celL h v0) 0), slN (getL (celL h v0) 8), slN (getL (celL h v0) 9)]) v2)))).2).Clear).length) false], .dead, .dead, .dead, .row 45 3 ((((gt (F54_0 (g_TRegulate (getL (roWL h (celL h v0)))) (iA (roD (deadL h [ptB v0, slN (getL (celL h v0) 0), slN (getL (celL h v0) 8), slN (getL (celL h v0) 9)]) v1)) (iA (roD (deadL h [ptB v0, slN (getL (celL h v0) 0), slN (getL (celL h v0) 8), slN (getL (celL h v0) 9)]) v2)))).2).Table).length) (enR c_TRegulateChannel (((gt (F54_0 (g_TRegulate (getL (roWL h (celL h v0)))) (iA (roD (deadL h [ptB v0, slN (getL (celL h v0) 0), slN (getL (celL h v0) 8), slN (getL (celL h v0) 9)]) v1)) (iA (roD (deadL h [ptB v0, slN (getL (celL h v0) 0), slN (getL (celL h v0) 8), slN (getL (celL h v0) 9)]) v2)))).2).Table)), .row 79 2 ((((gt (F54_0 (g_TRegulate (getL (roWL h (celL h v0)))) (iA (roD (deadL h [ptB v0, slN (getL (celL h v0) 0), slN (getL (celL h v0) 8), slN (getL (celL h v0) 9)]) v1)) (iA (roD (deadL h [ptB v0, slN (getL (celL h v0) 0), slN (getL (celL h v0) 8), slN (getL (celL h v0) 9)]) v2)))).2).Blocked).length) (enR c_TRegulateBlock (((gt (F54_0 (g_TRegulate (getL (roWL h (celL h v0)))) (iA (roD (deadL h [ptB v0, slN (getL (celL h v0) 0), slN (getL (celL h v0) 8), slN (getL (celL h v0) 9)]) v1)) (iA (roD (deadL h [ptB v0, slN (getL (celL h v0) 0), slN (getL (celL h v0) 8), slN (getL (celL h v0) 9)]) v2)))).2).Blocked)), .row 3 1 ((((gt (F54_0 (g_TRegulate (getL (roWL h (celL h v0)))) (iA (roD (deadL h [ptB v0, slN (getL (celL h v0) 0), slN (getL (celL h v0) 8), slN (getL (celL h v0) 9)]) v1)) (iA (roD (deadL h [ptB v0, slN (getL (celL h v0) 0), slN (getL (celL h v0) 8), slN (getL (celL h v0) 9)]) v2)))).2).Clear).length) (enR c_i64 (((gt (F54_0 (g_TRegulate (getL (roWL h (celL h v0)))) (iA (roD (deadL h [ptB v0, slN (getL (celL h v0) 0), slN (getL (celL h v0) 8), slN (getL (celL h v0) 9)]) v1)) (iA (roD (deadL h [ptB v0, slN (getL (celL h v0) 0), slN (getL (celL h v0) 8), slN (getL (celL h v0) 9)]) v2)))).2).Clear)), .row 23 4 (((gt (F54_0 (g_TRegulate (getL (roWL h (celL h v0)))) (iA (roD (deadL h [ptB v0, slN (getL (celL h v0) 0), slN (getL (celL h v0) 8), slN (getL (celL h v0) 9)]) v1)) (iA (roD (deadL h [ptB v0, slN (getL (celL h v0) 0), slN (getL (celL h v0) 8), slN (getL (celL h v0) 9)]) v2)))).1).length) (enR c_TRegulateWord ((gt (F54_0 (g_TRegulate (getL (roWL h (celL h v0)))) (iA (roD (deadL h [ptB v0, slN (getL (celL h v0) 0), slN (getL (celL h v0) 8), slN (getL (celL h v0) 9)]) v1)) (iA (roD (deadL h [ptB v0, slN (getL (celL h v0) 0), slN (getL (celL h v0) 8), slN (getL (celL h v0) 9)]) v2)))).1))]
  | _, _ => .fail
set_option maxHeartbeats 4000000 in
set_option maxRecDepth 20000 in
theorem ok54_0 : FnOk Try.prog 54 (edC body54_0) := by
  refine edit_fnV body54_0 (rs := [.tmp 6]) Try.func54 (by kernel_rfl) rfl rfl ?_
  intro l h bs ob q0 g0 hb hob
  unfold body54_0 at hb
  split at hb
  · rename_i v0 v1 v2
    injection hb with q1 q2 q3 q4; subst q1 q2 q3 q4
    obtain ⟨hk0_0, hk0_1, hk0_2, hk0_3, hk0_4, hk0_5, hk0_6, hk0_7, hk0_8, hk0_9, hk0_10, hk0_11, hk1_0, hk1_1, hk2_0, hk2_1, hob⟩ := hob
    obtain ⟨r, H⟩ := Option.isSome_iff_exists.1 hob
    rw [H, gt_some]
    obtain ⟨p0, hp0⟩ : ∃ p0, p0 = g_TRegulate (getL (roWL h (celL h v0))) := ⟨_, rfl⟩
    rw [← hp0] at H
    have hw0 : ∀ y, y < 10 → WkV (getL (c_TRegulate p0) y) (roW h (getL (celL h v0) y)) ∧ nref (getL (c_TRegulate p0) y) := fun y hy => by rw [hp0, ← getL_roWL]; exact w_TRegulate hk0_1 y hy
    have hk0_K := hk0_1
    unfold k_TRegulate at hk0_K
    obtain ⟨kk0_0, kk0_1, kk0_2, kk0_3, kk0_4, kk0_5, kk0_6, kk0_7, kk0_8, kk0_9⟩ := hk0_K
    obtain ⟨ev0_0, eb0_0⟩ := own_row2 (f := c_TRegulateChannel) (g := g_TRegulateChannel) (bs := [ptB v0, slN (getL (celL h v0) 0), slN (getL (celL h v0) 8), slN (getL (celL h v0) 9)]) (i := 1) (fun hr => w_TRegulateChannel hr) hk0_2 (by rw [← getL_roWL]; exact kk0_0) (L := p0.Table) (by rw [hp0, ← getL_roWL]; rfl) rfl
    obtain ⟨ev0_8, eb0_8⟩ := own_row2 (f := c_TRegulateBlock) (g := g_TRegulateBlock) (bs := [ptB v0, slN (getL (celL h v0) 0), slN (getL (celL h v0) 8), slN (getL (celL h v0) 9)]) (i := 2) (fun hr => w_TRegulateBlock hr) hk0_10 (by rw [← getL_roWL]; exact kk0_8) (L := p0.Blocked) (by rw [hp0, ← getL_roWL]; rfl) rfl
    obtain ⟨ev0_9, eb0_9⟩ := own_row2 (f := c_i64) (g := g_i64) (bs := [ptB v0, slN (getL (celL h v0) 0), slN (getL (celL h v0) 8), slN (getL (celL h v0) 9)]) (i := 3) (fun hr => w_i64 hr) hk0_11 (by rw [← getL_roWL]; exact kk0_9) (L := p0.Clear) (by rw [hp0, ← getL_roWL]; rfl) rfl
    have hw1 := iK_wk hk1_0
    obtain ⟨p1, hp_p1⟩ : ∃ p1, p1 = iA (roD (deadL h [ptB v0, slN (getL (celL h v0) 0), slN (getL (celL h v0) 8), slN (getL (celL h v0) 9)]) v1) := ⟨_, rfl⟩
    rw [← hp_p1] at H hw1
    have hw2 := iK_wk hk2_0
    obtain ⟨p2, hp_p2⟩ : ∃ p2, p2 = iA (roD (deadL h [ptB v0, slN (getL (celL h v0) 0), slN (getL (celL h v0) 8), slN (getL (celL h v0) 9)]) v2) := ⟨_, rfl⟩
    rw [← hp_p2] at H hw2
    refine ⟨[.ptr 0 0 0 0, .int .i64 p1, .int .i64 p2], [.lit 39 [.sl 1 3 0 p0.Table.length false, .int .i64 p0.Channel, .bool p0.Lead, .int .i64 p0.Heard, .bool p0.Stopped, .bool p0.Moving, .int .i64 p0.To, .int .i64 p0.At, .sl 2 2 0 p0.Blocked.length false, .sl 3 1 0 p0.Clear.length false], .row 45 3 p0.Table.length (enR c_TRegulateChannel p0.Table), .row 79 2 p0.Blocked.length (enR c_TRegulateBlock p0.Blocked), .row 3 1 p0.Clear.length (enR c_i64 p0.Clear)], rfl, ⟨(EW_own (EV_pK hk0_0 rfl) (by simp only [noro, noroL, and_self])), ⟨(EW_view hk1_1 hw1), ⟨(EW_view hk2_1 hw2), trivial⟩⟩⟩, ⟨(EB_pK hk0_0 rfl rfl (fun y hy => by
          match y, hy with
          | 0, _ => exact ev0_0
          | 1, _ => exact EV_t hk0_3 (hw0 1 (by decide))
          | 2, _ => exact EV_t hk0_4 (hw0 2 (by decide))
          | 3, _ => exact EV_t hk0_5 (hw0 3 (by decide))
          | 4, _ => exact EV_t hk0_6 (hw0 4 (by decide))
          | 5, _ => exact EV_t hk0_7 (hw0 5 (by decide))
          | 6, _ => exact EV_t hk0_8 (hw0 6 (by decide))
          | 7, _ => exact EV_t hk0_9 (hw0 7 (by decide))
          | 8, _ => exact ev0_8
          | 9, _ => exact ev0_9
          | y + 10, hy => omega)), ⟨eb0_0, ⟨eb0_8, ⟨eb0_9, trivial⟩⟩⟩⟩, ⟨(by simp only [noroB, noroL, noro, and_self]), ⟨noroB_en, ⟨noroB_en, ⟨noroB_en, trivial⟩⟩⟩⟩, ⟨trivial, ⟨trivial, ⟨trivial, ⟨trivial, ⟨(nfB_en nr_TRegulateChannel), ⟨(nfB_en nr_TRegulateBlock), ⟨(nfB_en nr_i64), ⟨(nfB_en nr_TRegulateWord), trivial⟩⟩⟩⟩⟩⟩⟩⟩, ⟨(by simp only [noroB, noroL, noro, and_self]), ⟨trivial, ⟨trivial, ⟨trivial, ⟨noroB_en, ⟨noroB_en, ⟨noroB_en, ⟨noroB_en, trivial⟩⟩⟩⟩⟩⟩⟩⟩, (by first | (simp only [noro, noroL, and_self]; done) | (simp only [noro, noroL]; and_intros <;> first | trivial | exact noro_bif (by simp only [noro]) (by simp only [noro]) | (simp only [noro, noroL, and_self]))), ?_⟩
    rw [Try.ntmps54]
    simp only [List.length_cons, List.length_nil, Nat.reduceAdd, Nat.reduceSub, List.replicate_succ, List.replicate_zero, List.cons_append, List.nil_append]
    unfold F54_0 at H
    try dsimp only at H
    refine sq ctNo_ok ?_
    simp only [go_sem, Nat.reduceLeDiff, Nat.reduceLT, Nat.reduceAdd, Nat.reduceMul, Nat.reduceSub, Nat.reduceEqDiff, Nat.reduceBEq, Int.reduceToNat, reduceCtorEq]
    refine seqM ?_
    obtain ⟨r1, e2, H⟩ := Option.bind_eq_some_iff.1 H
    refine rg ct54_0t0_ok ?_
    simp only [go_sem, Nat.reduceLeDiff, Nat.reduceLT, Nat.reduceAdd, Nat.reduceMul, Nat.reduceSub, Nat.reduceEqDiff, Nat.reduceBEq, Int.reduceToNat, reduceCtorEq, roD, roDOb, deadL, edC, edR, nodupB, rnm, rnmL, rnmB, rnmH, rnm_bif, rnmB_bif, putH, dropH, rhoN, ptB, slN, litL, celL, pK, isLit, oS, isRow, inL, ct54_0t0_92, body92_0, e2]
    repeat ((with_reducible refine And.intro ?_ ?_); focus (first | (with_reducible trivial) | omega | (and_intros <;> first | (with_reducible trivial) | omega | assumption | exact nfc | first | exact rfl | exact trivial | exact fitI | exact Or.inr rfl | exact Or.inl rfl | exact fun x hx => absurd hx (by omega) | (intro x hx; (repeat (first | (and_intros <;> (first | exact rfl | exact trivial | exact fitI | exact Or.inr rfl | exact Or.inl rfl | exact fun x hx => absurd hx (by omega))) | (exfalso; omega) | (rcases x with _ | x))); done)) | grind))
    refine seqM ?_
    refine sq ctNo_ok ?_
    simp only [go_sem, Nat.reduceLeDiff, Nat.reduceLT, Nat.reduceAdd, Nat.reduceMul, Nat.reduceSub, Nat.reduceEqDiff, Nat.reduceBEq, Int.reduceToNat, reduceCtorEq]
    refine condM rfl trivial (fun hc => ?_) (fun hc => ?_)
    · replace H := cond_t hc H
      refine sq ctNo_ok ?_
      simp only [go_sem, Nat.reduceLeDiff, Nat.reduceLT, Nat.reduceAdd, Nat.reduceMul, Nat.reduceSub, Nat.reduceEqDiff, Nat.reduceBEq, Int.reduceToNat, reduceCtorEq]
      refine rg ctNo_ok ?_
      simp only [go_sem, Nat.reduceLeDiff, Nat.reduceLT, Nat.reduceAdd, Nat.reduceMul, Nat.reduceSub, Nat.reduceEqDiff, Nat.reduceBEq, Int.reduceToNat, reduceCtorEq]
      obtain rfl := Option.some.inj H
      refine RetE_mk [] [some 0, some 1, some 2, some 3, some 4, some 5, some 6, some 7] ?_ ?_ ?_ ?_ (by rfl) (by rfl)
      · simp only [List.length_cons, List.length_nil, Nat.zero_mul, Nat.add_zero, fzV, fzL, fzOb, fzObL, fzH, fzHF, fzB, fzObB, fzObH, inL, rowOb, geth, cond_true, cond_false, Bool.or_false, Bool.or_true, Bool.false_or, Bool.true_or, and_self, true_and, and_true, Nat.reduceEqDiff, Nat.reduceBEq, beq_self_eq_true, sub_enR0, Nat.reduceAdd, Nat.zero_add, Nat.le_refl, List.nil_append]
        try (and_intros <;> first | trivial | omega | exact nfc)
      · simp only [List.length_cons, List.length_nil, Nat.zero_mul, Nat.add_zero, fzV, fzL, fzOb, fzObL, fzH, fzHF, fzB, fzObB, fzObH, inL, rowOb, geth, cond_true, cond_false, Bool.or_false, Bool.or_true, Bool.false_or, Bool.true_or, and_self, true_and, and_true, Nat.reduceEqDiff, Nat.reduceBEq, beq_self_eq_true, sub_enR0, Nat.reduceAdd, Nat.zero_add, Nat.le_refl, List.nil_append]
        try (and_intros <;> first | trivial | omega | exact nfc)
      · simp only [List.length_cons, List.length_nil, Nat.zero_mul, Nat.add_zero, fzV, fzL, fzOb, fzObL, fzH, fzHF, fzB, fzObB, fzObH, inL, rowOb, geth, cond_true, cond_false, Bool.or_false, Bool.or_true, Bool.false_or, Bool.true_or, and_self, true_and, and_true, Nat.reduceEqDiff, Nat.reduceBEq, beq_self_eq_true, sub_enR0, Nat.reduceAdd, Nat.zero_add, Nat.le_refl, List.nil_append]
        exact (by simp [Cv, CvL, getM, gt_some])
      · simp only [List.length_cons, List.length_nil, Nat.zero_mul, Nat.add_zero, fzV, fzL, fzOb, fzObL, fzH, fzHF, fzB, fzObB, fzObH, inL, rowOb, geth, cond_true, cond_false, Bool.or_false, Bool.or_true, Bool.false_or, Bool.true_or, and_self, true_and, and_true, Nat.reduceEqDiff, Nat.reduceBEq, beq_self_eq_true, sub_enR0, Nat.reduceAdd, Nat.zero_add, Nat.le_refl, List.nil_append, CvH, gt_some, Option.isSome_some, Option.isSome_none]
        first | exact ⟨(by simp [CvB, CvL, Cv, blkAt, geth, getM, gt_some, cond_true, cond_false]), CvB_dead, CvB_dead, CvB_dead, CvB_row nr_TRegulateChannel (by first | rfl | simp) (fun _ _ _ _ => rfl), CvB_row nr_TRegulateBlock (by first | rfl | simp) (fun _ _ _ _ => rfl), CvB_row nr_i64 (by first | rfl | simp) (fun _ _ _ _ => rfl), CvB_row nr_TRegulateWord (by first | rfl | simp) (lit_row (f := c_TRegulateWord) [(TRegulateWord.mk 2 r1.Channel 0 0)] (fun _ _ => rfl) rfl)⟩ | trivial
    replace H := cond_f hc H
    refine rg ctNo_ok ?_
    simp only [go_sem, Nat.reduceLeDiff, Nat.reduceLT, Nat.reduceAdd, Nat.reduceMul, Nat.reduceSub, Nat.reduceEqDiff, Nat.reduceBEq, Int.reduceToNat, reduceCtorEq]
    refine seqM ?_
    obtain ⟨r3, e4, H⟩ := Option.bind_eq_some_iff.1 H
    refine rg ct54_0t1_ok ?_
    simp only [go_sem, Nat.reduceLeDiff, Nat.reduceLT, Nat.reduceAdd, Nat.reduceMul, Nat.reduceSub, Nat.reduceEqDiff, Nat.reduceBEq, Int.reduceToNat, reduceCtorEq, roD, roDOb, deadL, edC, edR, nodupB, rnm, rnmL, rnmB, rnmH, rnm_bif, rnmB_bif, putH, dropH, rhoN, ptB, slN, litL, celL, pK, isLit, oS, isRow, inL, ct54_0t1_53, body53_0, e4]
    repeat ((with_reducible refine And.intro ?_ ?_); focus (first | (with_reducible trivial) | omega | (and_intros <;> first | (with_reducible trivial) | omega | assumption | exact nfc | first | exact rfl | exact trivial | exact fitI | exact Or.inr rfl | exact Or.inl rfl | exact fun x hx => absurd hx (by omega) | (intro x hx; (repeat (first | (and_intros <;> (first | exact rfl | exact trivial | exact fitI | exact Or.inr rfl | exact Or.inl rfl | exact fun x hx => absurd hx (by omega))) | (exfalso; omega) | (rcases x with _ | x))); done)) | grind))
    refine seqM ?_
    refine sq ctNo_ok ?_
    simp only [go_sem, Nat.reduceLeDiff, Nat.reduceLT, Nat.reduceAdd, Nat.reduceMul, Nat.reduceSub, Nat.reduceEqDiff, Nat.reduceBEq, Int.reduceToNat, reduceCtorEq]
    repeat ((with_reducible refine And.intro ?_ ?_); focus (first | (with_reducible trivial) | omega | (and_intros <;> first | (with_reducible trivial) | omega | assumption | exact nfc | first | exact rfl | exact trivial | exact fitI | exact Or.inr rfl | exact Or.inl rfl | exact fun x hx => absurd hx (by omega) | (intro x hx; (repeat (first | (and_intros <;> (first | exact rfl | exact trivial | exact fitI | exact Or.inr rfl | exact Or.inl rfl | exact fun x hx => absurd hx (by omega))) | (exfalso; omega) | (rcases x with _ | x))); done)) | grind))
    refine condM rfl trivial (fun hc => ?_) (fun hc => ?_)
    · replace H := cond_t hc H
      refine sq ctNo_ok ?_
      simp only [go_sem, Nat.reduceLeDiff, Nat.reduceLT, Nat.reduceAdd, Nat.reduceMul, Nat.reduceSub, Nat.reduceEqDiff, Nat.reduceBEq, Int.reduceToNat, reduceCtorEq]
      refine rg ctNo_ok ?_
      simp only [go_sem, Nat.reduceLeDiff, Nat.reduceLT, Nat.reduceAdd, Nat.reduceMul, Nat.reduceSub, Nat.reduceEqDiff, Nat.reduceBEq, Int.reduceToNat, reduceCtorEq]
      obtain rfl := Option.some.inj H
      refine RetE_mk [] [some 0, some 1, some 2, some 3, some 4, some 5, some 6, none] ?_ ?_ ?_ ?_ (by rfl) (by rfl)
      · simp only [List.length_cons, List.length_nil, Nat.zero_mul, Nat.add_zero, fzV, fzL, fzOb, fzObL, fzH, fzHF, fzB, fzObB, fzObH, inL, rowOb, geth, cond_true, cond_false, Bool.or_false, Bool.or_true, Bool.false_or, Bool.true_or, and_self, true_and, and_true, Nat.reduceEqDiff, Nat.reduceBEq, beq_self_eq_true, sub_enR0, Nat.reduceAdd, Nat.zero_add, Nat.le_refl, List.nil_append]
        try (and_intros <;> first | trivial | omega | exact nfc)
      · simp only [List.length_cons, List.length_nil, Nat.zero_mul, Nat.add_zero, fzV, fzL, fzOb, fzObL, fzH, fzHF, fzB, fzObB, fzObH, inL, rowOb, geth, cond_true, cond_false, Bool.or_false, Bool.or_true, Bool.false_or, Bool.true_or, and_self, true_and, and_true, Nat.reduceEqDiff, Nat.reduceBEq, beq_self_eq_true, sub_enR0, Nat.reduceAdd, Nat.zero_add, Nat.le_refl, List.nil_append]
        try (and_intros <;> first | trivial | omega | exact nfc)
      · simp only [List.length_cons, List.length_nil, Nat.zero_mul, Nat.add_zero, fzV, fzL, fzOb, fzObL, fzH, fzHF, fzB, fzObB, fzObH, inL, rowOb, geth, cond_true, cond_false, Bool.or_false, Bool.or_true, Bool.false_or, Bool.true_or, and_self, true_and, and_true, Nat.reduceEqDiff, Nat.reduceBEq, beq_self_eq_true, sub_enR0, Nat.reduceAdd, Nat.zero_add, Nat.le_refl, List.nil_append]
        exact (by simp [Cv, CvL, getM, gt_some])
      · simp only [List.length_cons, List.length_nil, Nat.zero_mul, Nat.add_zero, fzV, fzL, fzOb, fzObL, fzH, fzHF, fzB, fzObB, fzObH, inL, rowOb, geth, cond_true, cond_false, Bool.or_false, Bool.or_true, Bool.false_or, Bool.true_or, and_self, true_and, and_true, Nat.reduceEqDiff, Nat.reduceBEq, beq_self_eq_true, sub_enR0, Nat.reduceAdd, Nat.zero_add, Nat.le_refl, List.nil_append, CvH, gt_some, Option.isSome_some, Option.isSome_none]
        first | exact ⟨(by simp [CvB, CvL, Cv, blkAt, geth, getM, gt_some, cond_true, cond_false]), CvB_dead, CvB_dead, CvB_dead, CvB_row nr_TRegulateChannel (by first | rfl | simp) (fun _ _ _ _ => rfl), CvB_row nr_TRegulateBlock (by first | rfl | simp) (fun _ _ _ _ => rfl), CvB_row nr_i64 (by first | rfl | simp) (fun _ _ _ _ => rfl), CvB_none⟩ | trivial
    replace H := cond_f hc H
    refine rg ctNo_ok ?_
    simp only [go_sem, Nat.reduceLeDiff, Nat.reduceLT, Nat.reduceAdd, Nat.reduceMul, Nat.reduceSub, Nat.reduceEqDiff, Nat.reduceBEq, Int.reduceToNat, reduceCtorEq]
    refine seqM ?_
    obtain ⟨f5, H⟩ := need_some.1 H
    replace f5 := ne0_iff.1 f5
    obtain ⟨f6, H⟩ := need_some.1 H
    replace f6 := inb_iff.1 f6
    refine rg ctNo_ok ?_
    simp only [go_sem, Nat.reduceLeDiff, Nat.reduceLT, Nat.reduceAdd, Nat.reduceMul, Nat.reduceSub, Nat.reduceEqDiff, Nat.reduceBEq, Int.reduceToNat, reduceCtorEq, f5, f6]
    repeat ((with_reducible refine And.intro ?_ ?_); focus (first | (with_reducible trivial) | omega | (and_intros <;> first | (with_reducible trivial) | omega | assumption | exact nfc | first | exact rfl | exact trivial | exact fitI | exact Or.inr rfl | exact Or.inl rfl | exact fun x hx => absurd hx (by omega) | (intro x hx; (repeat (first | (and_intros <;> (first | exact rfl | exact trivial | exact fitI | exact Or.inr rfl | exact Or.inl rfl | exact fun x hx => absurd hx (by omega))) | (exfalso; omega) | (rcases x with _ | x))); done)) | grind))
    refine seqM ?_
    obtain ⟨r7, e8, H⟩ := Option.bind_eq_some_iff.1 H
    refine rg ct54_0t2_ok ?_
    simp only [go_sem, Nat.reduceLeDiff, Nat.reduceLT, Nat.reduceAdd, Nat.reduceMul, Nat.reduceSub, Nat.reduceEqDiff, Nat.reduceBEq, Int.reduceToNat, reduceCtorEq, roD, roDOb, deadL, edC, edR, nodupB, rnm, rnmL, rnmB, rnmH, rnm_bif, rnmB_bif, putH, dropH, rhoN, ptB, slN, litL, celL, pK, isLit, oS, isRow, inL, ct54_0t2_57, body57_0, e8]
    repeat ((with_reducible refine And.intro ?_ ?_); focus (first | (with_reducible trivial) | omega | (and_intros <;> first | (with_reducible trivial) | omega | assumption | exact nfc | first | exact rfl | exact trivial | exact fitI | exact Or.inr rfl | exact Or.inl rfl | exact fun x hx => absurd hx (by omega) | (intro x hx; (repeat (first | (and_intros <;> (first | exact rfl | exact trivial | exact fitI | exact Or.inr rfl | exact Or.inl rfl | exact fun x hx => absurd hx (by omega))) | (exfalso; omega) | (rcases x with _ | x))); done)) | grind))
    refine rg ctNo_ok ?_
    simp only [go_sem, Nat.reduceLeDiff, Nat.reduceLT, Nat.reduceAdd, Nat.reduceMul, Nat.reduceSub, Nat.reduceEqDiff, Nat.reduceBEq, Int.reduceToNat, reduceCtorEq]
    obtain rfl := Option.some.inj H
    refine RetE_mk [] [some 0, some 1, some 2, some 3, some 4, some 5, some 6, some 8] ?_ ?_ ?_ ?_ (by rfl) (by rfl)
    · simp only [List.length_cons, List.length_nil, Nat.zero_mul, Nat.add_zero, fzV, fzL, fzOb, fzObL, fzH, fzHF, fzB, fzObB, fzObH, inL, rowOb, geth, cond_true, cond_false, Bool.or_false, Bool.or_true, Bool.false_or, Bool.true_or, and_self, true_and, and_true, Nat.reduceEqDiff, Nat.reduceBEq, beq_self_eq_true, sub_enR0, Nat.reduceAdd, Nat.zero_add, Nat.le_refl, List.nil_append]
      try (and_intros <;> first | trivial | omega | exact nfc)
    · simp only [List.length_cons, List.length_nil, Nat.zero_mul, Nat.add_zero, fzV, fzL, fzOb, fzObL, fzH, fzHF, fzB, fzObB, fzObH, inL, rowOb, geth, cond_true, cond_false, Bool.or_false, Bool.or_true, Bool.false_or, Bool.true_or, and_self, true_and, and_true, Nat.reduceEqDiff, Nat.reduceBEq, beq_self_eq_true, sub_enR0, Nat.reduceAdd, Nat.zero_add, Nat.le_refl, List.nil_append]
      try (and_intros <;> first | trivial | omega | exact nfc)
    · simp only [List.length_cons, List.length_nil, Nat.zero_mul, Nat.add_zero, fzV, fzL, fzOb, fzObL, fzH, fzHF, fzB, fzObB, fzObH, inL, rowOb, geth, cond_true, cond_false, Bool.or_false, Bool.or_true, Bool.false_or, Bool.true_or, and_self, true_and, and_true, Nat.reduceEqDiff, Nat.reduceBEq, beq_self_eq_true, sub_enR0, Nat.reduceAdd, Nat.zero_add, Nat.le_refl, List.nil_append]
      exact (by simp [Cv, CvL, getM, gt_some])
    · simp only [List.length_cons, List.length_nil, Nat.zero_mul, Nat.add_zero, fzV, fzL, fzOb, fzObL, fzH, fzHF, fzB, fzObB, fzObH, inL, rowOb, geth, cond_true, cond_false, Bool.or_false, Bool.or_true, Bool.false_or, Bool.true_or, and_self, true_and, and_true, Nat.reduceEqDiff, Nat.reduceBEq, beq_self_eq_true, sub_enR0, Nat.reduceAdd, Nat.zero_add, Nat.le_refl, List.nil_append, CvH, gt_some, Option.isSome_some, Option.isSome_none]
      first | exact ⟨(by simp [CvB, CvL, Cv, blkAt, geth, getM, gt_some, cond_true, cond_false]), CvB_dead, CvB_dead, CvB_dead, CvB_row nr_TRegulateChannel (by first | rfl | simp) (fun _ _ _ _ => rfl), CvB_row nr_TRegulateBlock (by first | rfl | simp) (fun _ _ _ _ => rfl), CvB_row nr_i64 (by first | rfl | simp) (fun _ _ _ _ => rfl), CvB_row nr_TRegulateWord (by first | rfl | simp) (fun _ _ _ _ => rfl)⟩ | trivial
  · cases hb
/-! hotspot/regulate.Radar -/
noncomputable def ct22t0 : Ct := tab [(50, edC body50)]
theorem ct22t0_ok : CtOk Try.prog ct22t0 := tab_cons ok50 <| tab_nil
theorem ct22t0_50 (l : List AV) (h : List ABlk) : ct22t0 50 l h = edC body50 l h := rfl
noncomputable def ct22t1 : Ct := tab [(54, edC body54_0)]
theorem ct22t1_ok : CtOk Try.prog ct22t1 := tab_cons ok54_0 <| tab_nil
theorem ct22t1_54 (l : List AV) (h : List ABlk) : ct22t1 54 l h = edC body54_0 l h := rfl
noncomputable def F22 (p0 : TRegulate) (p1 : Int) (p2 : Int) : Option (TRegulate × (List TRegulateWord) × Int) :=
  (F50 p0 p2 p1).bind fun r1 => bif r1.1.isSome then (bif (!bEq r1.2 0) then (some ((TRegulate.mk [] 0 false 0 false false 0 0 [] []), [], r1.2)) else (bif (gt r1.1).Stopped then (some ((TRegulate.mk [] 0 false 0 false false 0 0 [] []), [], 20)) else ((F54_0 (TRegulate.mk ((gt r1.1).Table) ((gt r1.1).Channel) ((gt r1.1).Lead) ((gt r1.1).Heard) ((gt r1.1).Stopped) ((gt r1.1).Moving) ((gt r1.1).To) ((gt r1.1).At) ((gt r1.1).Blocked) ((gt r1.1).Clear)) p1 p2).bind fun r4 => some ((TRegulate.mk r4.2.Table r4.2.Channel r4.2.Lead r4.2.Heard r4.2.Stopped r4.2.Moving r4.2.To r4.2.At r4.2.Blocked r4.2.Clear), r4.1, 0)))) else (bif (!bEq r1.2 0) then (some ((TRegulate.mk [] 0 false 0 false false 0 0 [] []), [], r1.2)) else (none))
noncomputable def body22 : List AV → List ABlk → ED
  | [v0, v1, v2], h => .ed [] (aK 10 k_TRegulate (roD (deadL h []) v0) ∧ roDOb (deadL h []) v0 ∧ iK .i64 (roD (deadL h []) v1) ∧ roDOb (deadL h []) v1 ∧ iK .i64 (roD (deadL h []) v2) ∧ roDOb (deadL h []) v2 ∧ (F22 (g_TRegulate (aL (roD (deadL h []) v0))) (iA (roD (deadL h []) v1)) (iA (roD (deadL h []) v2))).isSome = true) (.tup [.agg [.sl 0 3 0 ((((gt (F22 (g_TRegulate (aL (roD (deadL h []) v0))) (iA (roD (deadL h []) v1)) (iA (roD (deadL h []) v2)))).1).Table).length) false, .int .i64 (((gt (F22 (g_TRegulate (aL (roD (deadL h []) v0))) (iA (roD (deadL h []) v1)) (iA (roD (deadL h []) v2)))).1).Channel), .bool (((gt (F22 (g_TRegulate (aL (roD (deadL h []) v0))) (iA (roD (deadL h []) v1)) (iA (roD (deadL h []) v2)))).1).Lead), .int .i64 (((gt (F22 (g_TRegulate (aL (roD (deadL h []) v0))) (iA (roD (deadL h []) v1)) (iA (roD (deadL h []) v2)))).1).Heard), .bool (((gt (F22 (g_TRegulate (aL (roD (deadL h []) v0))) (iA (roD (deadL h []) v1)) (iA (roD (deadL h []) v2)))).1).Stopped), .bool (((gt (F22 (g_TRegulate (aL (roD (deadL h []) v0))) (iA (roD (deadL h []) v1)) (iA (roD (deadL h []) v2)))).1).Moving), .int .i64 (((gt (F22 (g_TRegulate (aL (roD (deadL h []) v0))) (iA (roD (deadL h []) v1)) (iA (roD (deadL h []) v2)))).1).To), .int .i64 (((gt (F22 (g_TRegulate (aL (roD (deadL h []) v0))) (iA (roD (deadL h []) v1)) (iA (roD (deadL h []) v2)))).1).At), .sl 1 2 0 ((((gt (F22 (g_TRegulate (aL (roD (deadL h []) v0))) (iA (roD (deadL h []) v1)) (iA (roD (deadL h []) v2)))).1).Blocked).length) false, .sl 2 1 0 ((((gt (F22 (g_TRegulate (aL (roD (deadL h []) v0))) (iA (roD (deadL h []) v1)) (iA (roD (deadL h []) v2)))).1).Clear).length) false], .sl 3 4 0 (((gt (F22 (g_TRegulate (aL (roD (deadL h []) v0))) (iA (roD (deadL h []) v1)) (iA (roD (deadL h []) v2)))).2.1).length) false, .int .i64 ((gt (F22 (g_TRegulate (aL (roD (deadL h []) v0))) (iA (roD (deadL h []) v1)) (iA (roD (deadL h []) v2)))).2.2)]) [.row 45 3 ((((gt (F22 (g_TRegulate (aL (roD (deadL h []) v0))) (iA (roD (deadL h []) v1)) (iA (roD (deadL h []) v2)))).1).Table).length) (enR c_TRegulateChannel (((gt (F22 (g_TRegulate (aL (roD (deadL h []) v0))) (iA (roD (deadL h []) v1)) (iA (roD (deadL h []) v2)))).1).Table)), .row 79 2 ((((gt (F22 (g_TRegulate (aL (roD (deadL h []) v0))) (iA (roD (deadL h []) v1)) (iA (roD (deadL h []) v2)))).1).Blocked).length) (enR c_TRegulateBlock (((gt (F22 (g_TRegulate (aL (roD (deadL h []) v0))) (iA (roD (deadL h []) v1)) (iA (roD (deadL h []) v2)))).1).Blocked)), .row 3 1 ((((gt (F22 (g_TRegulate (aL (roD (deadL h []) v0))) (iA (roD (deadL h []) v1)) (iA (roD (deadL h []) v2)))).1).Clear).length) (enR c_i64 (((gt (F22 (g_TRegulate (aL (roD (deadL h []) v0))) (iA (roD (deadL h []) v1)) (iA (roD (deadL h []) v2)))).1).Clear)), .row 23 4 (((gt (F22 (g_TRegulate (aL (roD (deadL h []) v0))) (iA (roD (deadL h []) v1)) (iA (roD (deadL h []) v2)))).2.1).length) (enR c_TRegulateWord ((gt (F22 (g_TRegulate (aL (roD (deadL h []) v0))) (iA (roD (deadL h []) v1)) (iA (roD (deadL h []) v2)))).2.1))]
  | _, _ => .fail
set_option maxHeartbeats 4000000 in
set_option maxRecDepth 20000 in
theorem ok22 : FnOk Try.prog 22 (edC body22) := by
  refine edit_fnV body22 (rs := [.cell 6 39, .tmp 7, .tmp 8]) Try.func22 (by kernel_rfl) rfl rfl ?_
  intro l h bs ob q0 g0 hb hob
  unfold body22 at hb
  split at hb
  · rename_i v0 v1 v2
    injection hb with q1 q2 q3 q4; subst q1 q2 q3 q4
    obtain ⟨hk0_0, hk0_1, hk1_0, hk1_1, hk2_0, hk2_1, hob⟩ := hob
    obtain ⟨r, H⟩ := Option.isSome_iff_exists.1 hob
    rw [H, gt_some]
    have hw0 := wA_TRegulate hk0_0
    obtain ⟨p0, hp_p0⟩ : ∃ p0, p0 = g_TRegulate (aL (roD (deadL h []) v0)) := ⟨_, rfl⟩
    rw [← hp_p0] at H hw0
    have hw1 := iK_wk hk1_0
    obtain ⟨p1, hp_p1⟩ : ∃ p1, p1 = iA (roD (deadL h []) v1) := ⟨_, rfl⟩
    rw [← hp_p1] at H hw1
    have hw2 := iK_wk hk2_0
    obtain ⟨p2, hp_p2⟩ : ∃ p2, p2 = iA (roD (deadL h []) v2) := ⟨_, rfl⟩
    rw [← hp_p2] at H hw2
    refine ⟨[.agg [.ro 3 p0.Table.length false (enR c_TRegulateChannel p0.Table), .int .i64 p0.Channel, .bool p0.Lead, .int .i64 p0.Heard, .bool p0.Stopped, .bool p0.Moving, .int .i64 p0.To, .int .i64 p0.At, .ro 2 p0.Blocked.length false (enR c_TRegulateBlock p0.Blocked), .ro 1 p0.Clear.length false (enR c_i64 p0.Clear)], .int .i64 p1, .int .i64 p2], [], rfl, ⟨(EW_view hk0_1 hw0), ⟨(EW_view hk1_1 hw1), ⟨(EW_view hk2_1 hw2), trivial⟩⟩⟩, trivial, trivial, ⟨(nfB_en nr_TRegulateChannel), ⟨(nfB_en nr_TRegulateBlock), ⟨(nfB_en nr_i64), ⟨(nfB_en nr_TRegulateWord), trivial⟩⟩⟩⟩, ⟨noroB_en, ⟨noroB_en, ⟨noroB_en, ⟨noroB_en, trivial⟩⟩⟩⟩, (by first | (simp only [noro, noroL, and_self]; done) | (simp only [noro, noroL]; and_intros <;> first | trivial | exact noro_bif (by simp only [noro]) (by simp only [noro]) | (simp only [noro, noroL, and_self]))), ?_⟩
    rw [Try.ntmps22]
    simp only [List.length_cons, List.length_nil, Nat.reduceAdd, Nat.reduceSub, List.replicate_succ, List.replicate_zero, List.cons_append, List.nil_append]
    unfold F22 at H
    try dsimp only at H
    refine sq ctNo_ok ?_
    simp only [go_sem, Nat.reduceLeDiff, Nat.reduceLT, Nat.reduceAdd, Nat.reduceMul, Nat.reduceSub, Nat.reduceEqDiff, Nat.reduceBEq, Int.reduceToNat, reduceCtorEq]
    refine seqM ?_
    obtain ⟨r1, e2, H⟩ := Option.bind_eq_some_iff.1 H
    refine rg ct22t0_ok ?_
    simp only [go_sem, Nat.reduceLeDiff, Nat.reduceLT, Nat.reduceAdd, Nat.reduceMul, Nat.reduceSub, Nat.reduceEqDiff, Nat.reduceBEq, Int.reduceToNat, reduceCtorEq, roD, roDOb, deadL, edC, edR, nodupB, rnm, rnmL, rnmB, rnmH, rnm_bif, rnmB_bif, putH, dropH, rhoN, ptB, slN, litL, celL, pK, isLit, oS, isRow, inL, ct22t0_50, body50, e2]
    repeat ((with_reducible refine And.intro ?_ ?_); focus (first | (with_reducible trivial) | omega | (and_intros <;> first | (with_reducible trivial) | omega | assumption | exact nfc | first | exact rfl | exact trivial | exact fitI | exact Or.inr rfl | exact Or.inl rfl | exact fun x hx => absurd hx (by omega) | (intro x hx; (repeat (first | (and_intros <;> (first | exact rfl | exact trivial | exact fitI | exact Or.inr rfl | exact Or.inl rfl | exact fun x hx => absurd hx (by omega))) | (exfalso; omega) | (rcases x with _ | x))); done)) | grind))
    refine bif_split (c := r1.1.isSome) (fun hq3 => ?_) (fun hq3 => ?_)
    · replace H := cond_t hq3 H
      simp only [go_sem, Nat.reduceLeDiff, Nat.reduceLT, Nat.reduceAdd, Nat.reduceMul, Nat.reduceSub, Nat.reduceEqDiff, Nat.reduceBEq, Int.reduceToNat, reduceCtorEq, hq3, cond_true, cond_false, rnm, rnmL, rnmB, rnmH, rhoN]
      refine seqM ?_
      refine sq ctNo_ok ?_
      simp only [go_sem, Nat.reduceLeDiff, Nat.reduceLT, Nat.reduceAdd, Nat.reduceMul, Nat.reduceSub, Nat.reduceEqDiff, Nat.reduceBEq, Int.reduceToNat, reduceCtorEq]
      refine condM rfl trivial (fun hc => ?_) (fun hc => ?_)
      · replace H := cond_t hc H
        refine sq ctNo_ok ?_
        simp only [go_sem, Nat.reduceLeDiff, Nat.reduceLT, Nat.reduceAdd, Nat.reduceMul, Nat.reduceSub, Nat.reduceEqDiff, Nat.reduceBEq, Int.reduceToNat, reduceCtorEq]
        repeat ((with_reducible refine And.intro ?_ ?_); focus (first | (with_reducible trivial) | omega | grind))
        refine rg ctNo_ok ?_
        simp only [go_sem, Nat.reduceLeDiff, Nat.reduceLT, Nat.reduceAdd, Nat.reduceMul, Nat.reduceSub, Nat.reduceEqDiff, Nat.reduceBEq, Int.reduceToNat, reduceCtorEq]
        obtain rfl := Option.some.inj H
        refine RetE_mk [] [none, none, none, none] ?_ ?_ ?_ ?_ (by rfl) (by rfl)
        · simp only [List.length_cons, List.length_nil, Nat.zero_mul, Nat.add_zero, fzV, fzL, fzOb, fzObL, fzH, fzHF, fzB, fzObB, fzObH, inL, rowOb, geth, cond_true, cond_false, Bool.or_false, Bool.or_true, Bool.false_or, Bool.true_or, and_self, true_and, and_true, Nat.reduceEqDiff, Nat.reduceBEq, beq_self_eq_true, sub_enR0, Nat.reduceAdd, Nat.zero_add, Nat.le_refl, List.nil_append]
          try (and_intros <;> first | trivial | omega | exact nfc)
        · simp only [List.length_cons, List.length_nil, Nat.zero_mul, Nat.add_zero, fzV, fzL, fzOb, fzObL, fzH, fzHF, fzB, fzObB, fzObH, inL, rowOb, geth, cond_true, cond_false, Bool.or_false, Bool.or_true, Bool.false_or, Bool.true_or, and_self, true_and, and_true, Nat.reduceEqDiff, Nat.reduceBEq, beq_self_eq_true, sub_enR0, Nat.reduceAdd, Nat.zero_add, Nat.le_refl, List.nil_append]
          try (and_intros <;> first | trivial | omega | exact nfc)
        · simp only [List.length_cons, List.length_nil, Nat.zero_mul, Nat.add_zero, fzV, fzL, fzOb, fzObL, fzH, fzHF, fzB, fzObB, fzObH, inL, rowOb, geth, cond_true, cond_false, Bool.or_false, Bool.or_true, Bool.false_or, Bool.true_or, and_self, true_and, and_true, Nat.reduceEqDiff, Nat.reduceBEq, beq_self_eq_true, sub_enR0, Nat.reduceAdd, Nat.zero_add, Nat.le_refl, List.nil_append]
          exact Cv_tup (CvL_cons (by simp [Cv, CvL, getM, gt_some]) (CvL_cons (by simp [Cv, CvL, getM, gt_some]) (CvL_cons (by simp [Cv, CvL, getM, gt_some]) CvL_nil)))
        · simp only [List.length_cons, List.length_nil, Nat.zero_mul, Nat.add_zero, fzV, fzL, fzOb, fzObL, fzH, fzHF, fzB, fzObB, fzObH, inL, rowOb, geth, cond_true, cond_false, Bool.or_false, Bool.or_true, Bool.false_or, Bool.true_or, and_self, true_and, and_true, Nat.reduceEqDiff, Nat.reduceBEq, beq_self_eq_true, sub_enR0, Nat.reduceAdd, Nat.zero_add, Nat.le_refl, List.nil_append, CvH, gt_some, Option.isSome_some, Option.isSome_none]
          first | exact ⟨CvB_none, CvB_none, CvB_none, CvB_none⟩ | trivial
      replace H := cond_f hc H
      refine rg ctNo_ok ?_
      simp only [go_sem, Nat.reduceLeDiff, Nat.reduceLT, Nat.reduceAdd, Nat.reduceMul, Nat.reduceSub, Nat.reduceEqDiff, Nat.reduceBEq, Int.reduceToNat, reduceCtorEq]
      refine seqM ?_
      refine sq ctNo_ok ?_
      simp only [go_sem, Nat.reduceLeDiff, Nat.reduceLT, Nat.reduceAdd, Nat.reduceMul, Nat.reduceSub, Nat.reduceEqDiff, Nat.reduceBEq, Int.reduceToNat, reduceCtorEq]
      refine condM rfl trivial (fun hc => ?_) (fun hc => ?_)
      · replace H := cond_t hc H
        refine sq ctNo_ok ?_
        simp only [go_sem, Nat.reduceLeDiff, Nat.reduceLT, Nat.reduceAdd, Nat.reduceMul, Nat.reduceSub, Nat.reduceEqDiff, Nat.reduceBEq, Int.reduceToNat, reduceCtorEq]
        repeat ((with_reducible refine And.intro ?_ ?_); focus (first | (with_reducible trivial) | omega | grind))
        refine rg ctNo_ok ?_
        simp only [go_sem, Nat.reduceLeDiff, Nat.reduceLT, Nat.reduceAdd, Nat.reduceMul, Nat.reduceSub, Nat.reduceEqDiff, Nat.reduceBEq, Int.reduceToNat, reduceCtorEq]
        obtain rfl := Option.some.inj H
        refine RetE_mk [] [none, none, none, none] ?_ ?_ ?_ ?_ (by rfl) (by rfl)
        · simp only [List.length_cons, List.length_nil, Nat.zero_mul, Nat.add_zero, fzV, fzL, fzOb, fzObL, fzH, fzHF, fzB, fzObB, fzObH, inL, rowOb, geth, cond_true, cond_false, Bool.or_false, Bool.or_true, Bool.false_or, Bool.true_or, and_self, true_and, and_true, Nat.reduceEqDiff, Nat.reduceBEq, beq_self_eq_true, sub_enR0, Nat.reduceAdd, Nat.zero_add, Nat.le_refl, List.nil_append]
          try (and_intros <;> first | trivial | omega | exact nfc)
        · simp only [List.length_cons, List.length_nil, Nat.zero_mul, Nat.add_zero, fzV, fzL, fzOb, fzObL, fzH, fzHF, fzB, fzObB, fzObH, inL, rowOb, geth, cond_true, cond_false, Bool.or_false, Bool.or_true, Bool.false_or, Bool.true_or, and_self, true_and, and_true, Nat.reduceEqDiff, Nat.reduceBEq, beq_self_eq_true, sub_enR0, Nat.reduceAdd, Nat.zero_add, Nat.le_refl, List.nil_append]
          try (and_intros <;> first | trivial | omega | exact nfc)
        · simp only [List.length_cons, List.length_nil, Nat.zero_mul, Nat.add_zero, fzV, fzL, fzOb, fzObL, fzH, fzHF, fzB, fzObB, fzObH, inL, rowOb, geth, cond_true, cond_false, Bool.or_false, Bool.or_true, Bool.false_or, Bool.true_or, and_self, true_and, and_true, Nat.reduceEqDiff, Nat.reduceBEq, beq_self_eq_true, sub_enR0, Nat.reduceAdd, Nat.zero_add, Nat.le_refl, List.nil_append]
          exact Cv_tup (CvL_cons (by simp [Cv, CvL, getM, gt_some]) (CvL_cons (by simp [Cv, CvL, getM, gt_some]) (CvL_cons (by simp [Cv, CvL, getM, gt_some]) CvL_nil)))
        · simp only [List.length_cons, List.length_nil, Nat.zero_mul, Nat.add_zero, fzV, fzL, fzOb, fzObL, fzH, fzHF, fzB, fzObB, fzObH, inL, rowOb, geth, cond_true, cond_false, Bool.or_false, Bool.or_true, Bool.false_or, Bool.true_or, and_self, true_and, and_true, Nat.reduceEqDiff, Nat.reduceBEq, beq_self_eq_true, sub_enR0, Nat.reduceAdd, Nat.zero_add, Nat.le_refl, List.nil_append, CvH, gt_some, Option.isSome_some, Option.isSome_none]
          first | exact ⟨CvB_none, CvB_none, CvB_none, CvB_none⟩ | trivial
      replace H := cond_f hc H
      refine rg ctNo_ok ?_
      simp only [go_sem, Nat.reduceLeDiff, Nat.reduceLT, Nat.reduceAdd, Nat.reduceMul, Nat.reduceSub, Nat.reduceEqDiff, Nat.reduceBEq, Int.reduceToNat, reduceCtorEq]
      refine seqM ?_
      obtain ⟨r4, e5, H⟩ := Option.bind_eq_some_iff.1 H
      refine rg ct22t1_ok ?_
      simp only [go_sem, Nat.reduceLeDiff, Nat.reduceLT, Nat.reduceAdd, Nat.reduceMul, Nat.reduceSub, Nat.reduceEqDiff, Nat.reduceBEq, Int.reduceToNat, reduceCtorEq, roD, roDOb, deadL, edC, edR, nodupB, rnm, rnmL, rnmB, rnmH, rnm_bif, rnmB_bif, putH, dropH, rhoN, ptB, slN, litL, celL, pK, isLit, oS, isRow, inL, ct22t1_54, body54_0, e5]
      repeat ((with_reducible refine And.intro ?_ ?_); focus (first | (with_reducible trivial) | omega | (and_intros <;> first | (with_reducible trivial) | omega | assumption | exact nfc | first | exact rfl | exact trivial | exact fitI | exact Or.inr rfl | exact Or.inl rfl | exact fun x hx => absurd hx (by omega) | (intro x hx; (repeat (first | (and_intros <;> (first | exact rfl | exact trivial | exact fitI | exact Or.inr rfl | exact Or.inl rfl | exact fun x hx => absurd hx (by omega))) | (exfalso; omega) | (rcases x with _ | x))); done)) | grind))
      refine sq ctNo_ok ?_
      simp only [go_sem, Nat.reduceLeDiff, Nat.reduceLT, Nat.reduceAdd, Nat.reduceMul, Nat.reduceSub, Nat.reduceEqDiff, Nat.reduceBEq, Int.reduceToNat, reduceCtorEq]
      repeat ((with_reducible refine And.intro ?_ ?_); focus (first | (with_reducible trivial) | omega | grind))
      refine rg ctNo_ok ?_
      simp only [go_sem, Nat.reduceLeDiff, Nat.reduceLT, Nat.reduceAdd, Nat.reduceMul, Nat.reduceSub, Nat.reduceEqDiff, Nat.reduceBEq, Int.reduceToNat, reduceCtorEq]
      obtain rfl := Option.some.inj H
      refine RetE_mk [] [some 6, some 7, some 8, some 9] ?_ ?_ ?_ ?_ (by rfl) (by rfl)
      · simp only [List.length_cons, List.length_nil, Nat.zero_mul, Nat.add_zero, fzV, fzL, fzOb, fzObL, fzH, fzHF, fzB, fzObB, fzObH, inL, rowOb, geth, cond_true, cond_false, Bool.or_false, Bool.or_true, Bool.false_or, Bool.true_or, and_self, true_and, and_true, Nat.reduceEqDiff, Nat.reduceBEq, beq_self_eq_true, sub_enR0, Nat.reduceAdd, Nat.zero_add, Nat.le_refl, List.nil_append]
        try (and_intros <;> first | trivial | omega | exact nfc)
      · simp only [List.length_cons, List.length_nil, Nat.zero_mul, Nat.add_zero, fzV, fzL, fzOb, fzObL, fzH, fzHF, fzB, fzObB, fzObH, inL, rowOb, geth, cond_true, cond_false, Bool.or_false, Bool.or_true, Bool.false_or, Bool.true_or, and_self, true_and, and_true, Nat.reduceEqDiff, Nat.reduceBEq, beq_self_eq_true, sub_enR0, Nat.reduceAdd, Nat.zero_add, Nat.le_refl, List.nil_append]
        try (and_intros <;> first | trivial | omega | exact nfc)
      · simp only [List.length_cons, List.length_nil, Nat.zero_mul, Nat.add_zero, fzV, fzL, fzOb, fzObL, fzH, fzHF, fzB, fzObB, fzObH, inL, rowOb, geth, cond_true, cond_false, Bool.or_false, Bool.or_true, Bool.false_or, Bool.true_or, and_self, true_and, and_true, Nat.reduceEqDiff, Nat.reduceBEq, beq_self_eq_true, sub_enR0, Nat.reduceAdd, Nat.zero_add, Nat.le_refl, List.nil_append]
        exact Cv_tup (CvL_cons (by simp [Cv, CvL, getM, gt_some]) (CvL_cons (by simp [Cv, CvL, getM, gt_some]) (CvL_cons (by simp [Cv, CvL, getM, gt_some]) CvL_nil)))
      · simp only [List.length_cons, List.length_nil, Nat.zero_mul, Nat.add_zero, fzV, fzL, fzOb, fzObL, fzH, fzHF, fzB, fzObB, fzObH, inL, rowOb, geth, cond_true, cond_false, Bool.or_false, Bool.or_true, Bool.false_or, Bool.true_or, and_self, true_and, and_true, Nat.reduceEqDiff, Nat.reduceBEq, beq_self_eq_true, sub_enR0, Nat.reduceAdd, Nat.zero_add, Nat.le_refl, List.nil_append, CvH, gt_some, Option.isSome_some, Option.isSome_none]
        first | exact ⟨CvB_row nr_TRegulateChannel (by first | rfl | simp) (fun _ _ _ _ => rfl), CvB_row nr_TRegulateBlock (by first | rfl | simp) (fun _ _ _ _ => rfl), CvB_row nr_i64 (by first | rfl | simp) (fun _ _ _ _ => rfl), CvB_row nr_TRegulateWord (by first | rfl | simp) (fun _ _ _ _ => rfl)⟩ | trivial
    replace H := cond_f hq3 H
    simp only [go_sem, Nat.reduceLeDiff, Nat.reduceLT, Nat.reduceAdd, Nat.reduceMul, Nat.reduceSub, Nat.reduceEqDiff, Nat.reduceBEq, Int.reduceToNat, reduceCtorEq, hq3, cond_true, cond_false, rnm, rnmL, rnmB, rnmH, rhoN]
    refine seqM ?_
    refine sq ctNo_ok ?_
    simp only [go_sem, Nat.reduceLeDiff, Nat.reduceLT, Nat.reduceAdd, Nat.reduceMul, Nat.reduceSub, Nat.reduceEqDiff, Nat.reduceBEq, Int.reduceToNat, reduceCtorEq]
    refine condM' rfl trivial (fun hc => ?_) (fun hc => ?_)
    · replace H := cond_f hc H
      refine rg ctNo_ok ?_
      simp only [go_sem, Nat.reduceLeDiff, Nat.reduceLT, Nat.reduceAdd, Nat.reduceMul, Nat.reduceSub, Nat.reduceEqDiff, Nat.reduceBEq, Int.reduceToNat, reduceCtorEq]
      refine seqM ?_
      refine seqM ?_
      cases H
    replace H := cond_t hc H
    refine sq ctNo_ok ?_
    simp only [go_sem, Nat.reduceLeDiff, Nat.reduceLT, Nat.reduceAdd, Nat.reduceMul, Nat.reduceSub, Nat.reduceEqDiff, Nat.reduceBEq, Int.reduceToNat, reduceCtorEq]
    repeat ((with_reducible refine And.intro ?_ ?_); focus (first | (with_reducible trivial) | omega | grind))
    refine rg ctNo_ok ?_
    simp only [go_sem, Nat.reduceLeDiff, Nat.reduceLT, Nat.reduceAdd, Nat.reduceMul, Nat.reduceSub, Nat.reduceEqDiff, Nat.reduceBEq, Int.reduceToNat, reduceCtorEq]
    obtain rfl := Option.some.inj H
    refine RetE_mk [] [none, none, none, none] ?_ ?_ ?_ ?_ (by rfl) (by rfl)
    · simp only [List.length_cons, List.length_nil, Nat.zero_mul, Nat.add_zero, fzV, fzL, fzOb, fzObL, fzH, fzHF, fzB, fzObB, fzObH, inL, rowOb, geth, cond_true, cond_false, Bool.or_false, Bool.or_true, Bool.false_or, Bool.true_or, and_self, true_and, and_true, Nat.reduceEqDiff, Nat.reduceBEq, beq_self_eq_true, sub_enR0, Nat.reduceAdd, Nat.zero_add, Nat.le_refl, List.nil_append]
      try (and_intros <;> first | trivial | omega | exact nfc)
    · simp only [List.length_cons, List.length_nil, Nat.zero_mul, Nat.add_zero, fzV, fzL, fzOb, fzObL, fzH, fzHF, fzB, fzObB, fzObH, inL, rowOb, geth, cond_true, cond_false, Bool.or_false, Bool.or_true, Bool.false_or, Bool.true_or, and_self, true_and, and_true, Nat.reduceEqDiff, Nat.reduceBEq, beq_self_eq_true, sub_enR0, Nat.reduceAdd, Nat.zero_add, Nat.le_refl, List.nil_append]
      try (and_intros <;> first | trivial | omega | exact nfc)
    · simp only [List.length_cons, List.length_nil, Nat.zero_mul, Nat.add_zero, fzV, fzL, fzOb, fzObL, fzH, fzHF, fzB, fzObB, fzObH, inL, rowOb, geth, cond_true, cond_false, Bool.or_false, Bool.or_true, Bool.false_or, Bool.true_or, and_self, true_and, and_true, Nat.reduceEqDiff, Nat.reduceBEq, beq_self_eq_true, sub_enR0, Nat.reduceAdd, Nat.zero_add, Nat.le_refl, List.nil_append]
      exact Cv_tup (CvL_cons (by simp [Cv, CvL, getM, gt_some]) (CvL_cons (by simp [Cv, CvL, getM, gt_some]) (CvL_cons (by simp [Cv, CvL, getM, gt_some]) CvL_nil)))
    · simp only [List.length_cons, List.length_nil, Nat.zero_mul, Nat.add_zero, fzV, fzL, fzOb, fzObL, fzH, fzHF, fzB, fzObB, fzObH, inL, rowOb, geth, cond_true, cond_false, Bool.or_false, Bool.or_true, Bool.false_or, Bool.true_or, and_self, true_and, and_true, Nat.reduceEqDiff, Nat.reduceBEq, beq_self_eq_true, sub_enR0, Nat.reduceAdd, Nat.zero_add, Nat.le_refl, List.nil_append, CvH, gt_some, Option.isSome_some, Option.isSome_none]
      first | exact ⟨CvB_none, CvB_none, CvB_none, CvB_none⟩ | trivial
  · cases hb
/-! hotspot/hotspotref45.SameWords -/
noncomputable def F39_L1 (p0 : List TRegulateWord) (p1 : List TRegulateWord) (v1_1 : Int) : Option (Lp (Int) ((Unit) ⊕ (Bool))) :=
  bif (bLt v1_1 (p0.length : Nat)) then (need (inb v1_1 p0.length) <| need (inb v1_1 p1.length) <| bif (!(bEq ((gd p0 v1_1.toNat).Kind) ((gd p1 v1_1.toNat).Kind) && (bEq ((gd p0 v1_1.toNat).Channel) ((gd p1 v1_1.toNat).Channel) && (bEq ((gd p0 v1_1.toNat).To) ((gd p1 v1_1.toNat).To) && (bEq ((gd p0 v1_1.toNat).At) ((gd p1 v1_1.toNat).At)))))) then (some (.done (.inr false))) else (some (.next (wr .i64 (v1_1 + 1))))) else (some (.done (.inl ())))
noncomputable def F39 (p0 : List TRegulateWord) (p1 : List TRegulateWord) : Option (Bool) :=
  bif (!bEq (p0.length : Nat) (p1.length : Nat)) then (some false) else (lp (loopD (fun s => F39_L1 p0 p1 s) 0) (fun e => some true) some)
noncomputable def body39 : List AV → AR
  | [v0, v1] => .pure (lK k_TRegulateWord 4 v0 ∧ lK k_TRegulateWord 4 v1 ∧ (F39 (lA g_TRegulateWord v0) (lA g_TRegulateWord v1)).isSome = true) (.bool (gt (F39 (lA g_TRegulateWord v0) (lA g_TRegulateWord v1))))
  | _ => .fail
set_option maxHeartbeats 4000000 in
set_option maxRecDepth 20000 in
theorem ok39 : FnOk Try.prog 39 (pureC body39) := by
  refine pure_fnM body39 (rs := [.tmp 4]) Try.func39 (by kernel_rfl) rfl rfl ?_
  intro l ob v hb hob
  unfold body39 at hb
  split at hb
  · rename_i v0 v1
    injection hb with q1 q2; subst q1 q2
    obtain ⟨hk0_0, hk1_0, hob⟩ := hob
    obtain ⟨r, H⟩ := Option.isSome_iff_exists.1 hob
    rw [H, gt_some]
    have hw0 := lK_wk (fun r h => w_TRegulateWord h) hk0_0
    have hw1 := lK_wk (fun r h => w_TRegulateWord h) hk1_0
    generalize lA g_TRegulateWord v0 = p0 at H hw0
    generalize lA g_TRegulateWord v1 = p1 at H hw1
    refine ⟨[.ro 4 p0.length false (enR c_TRegulateWord p0), .ro 4 p1.length false (enR c_TRegulateWord p1)], _, (fun E vs F => FR_wk1 hw0.1 F (fun vs F => FR_wk1 hw1.1 F (fun vs F => F))), rfl, rfl, ?_⟩
    rw [Try.ntmps39]
    simp only [List.length_cons, List.length_nil, Nat.reduceAdd, Nat.reduceSub, List.replicate_succ, List.replicate_zero, List.cons_append, List.nil_append]
    unfold F39 at H
    try dsimp only at H
    refine sq ctNo_ok ?_
    simp only [go_sem, Nat.reduceLeDiff, Nat.reduceLT, Nat.reduceAdd, Nat.reduceMul, Nat.reduceSub, Nat.reduceEqDiff, Nat.reduceBEq, Int.reduceToNat, reduceCtorEq]
    refine seqM ?_
    refine sq ctNo_ok ?_
    simp only [go_sem, Nat.reduceLeDiff, Nat.reduceLT, Nat.reduceAdd, Nat.reduceMul, Nat.reduceSub, Nat.reduceEqDiff, Nat.reduceBEq, Int.reduceToNat, reduceCtorEq]
    repeat ((with_reducible refine And.intro ?_ ?_); focus (first | (with_reducible trivial) | omega | (and_intros <;> first | (with_reducible trivial) | omega | assumption | exact nfc | first | exact rfl | exact trivial | exact fitI | exact Or.inr rfl | exact Or.inl rfl | exact fun x hx => absurd hx (by omega) | (intro x hx; (repeat (first | (and_intros <;> (first | exact rfl | exact trivial | exact fitI | exact Or.inr rfl | exact Or.inl rfl | exact fun x hx => absurd hx (by omega))) | (exfalso; omega) | (rcases x with _ | x))); done)) | grind))
    refine condM rfl trivial (fun hc => ?_) (fun hc => ?_)
    · replace H := cond_t hc H
      refine sq ctNo_ok ?_
      simp only [go_sem, Nat.reduceLeDiff, Nat.reduceLT, Nat.reduceAdd, Nat.reduceMul, Nat.reduceSub, Nat.reduceEqDiff, Nat.reduceBEq, Int.reduceToNat, reduceCtorEq]
      refine rg ctNo_ok ?_
      simp only [go_sem, Nat.reduceLeDiff, Nat.reduceLT, Nat.reduceAdd, Nat.reduceMul, Nat.reduceSub, Nat.reduceEqDiff, Nat.reduceBEq, Int.reduceToNat, reduceCtorEq]
      obtain rfl := Option.some.inj H
      first | rfl | simp only [Bool.and_false, Bool.false_and, Bool.and_true, Bool.true_and]
    replace H := cond_f hc H
    refine rg ctNo_ok ?_
    simp only [go_sem, Nat.reduceLeDiff, Nat.reduceLT, Nat.reduceAdd, Nat.reduceMul, Nat.reduceSub, Nat.reduceEqDiff, Nat.reduceBEq, Int.reduceToNat, reduceCtorEq]
    refine seqM ?_
    refine sq ctNo_ok ?_
    simp only [go_sem, Nat.reduceLeDiff, Nat.reduceLT, Nat.reduceAdd, Nat.reduceMul, Nat.reduceSub, Nat.reduceEqDiff, Nat.reduceBEq, Int.reduceToNat, reduceCtorEq]
    refine blkM ?_
    refine loop_den (fun s : Int => [.ro 4 p0.length false (enR c_TRegulateWord p0), .ro 4 p1.length false (enR c_TRegulateWord p1), .top, .top, .top, .int .i64 s, .top, .top, .top, .top, .top, .top, .top, .top, .top, .top, .top, .top, .top, .top, .top, .top, .top, .top, .top, .top]) (fun s => []) (fun e : Unit => [.top, .top, .top, .top, .top, .top, .top, .top, .top, .top, .top, .top, .top, .top, .top, .top, .top, .top, .top, .top, .top, .top, .top, .top, .top, .top]) (fun e => []) H ?_ (fun v1_1 o H hn1_1 hn2_1 => ?_) (fun e H => ?_)
    · refine SubF_of ⟨[], ?_, ?_, by rfl, by rfl⟩
      · simp [CvL, Cv, getM]
      · trivial
    · unfold F39_L1 at H
      try dsimp only at H ⊢
      refine seqM ?_
      refine sq ctNo_ok ?_
      simp only [go_sem, Nat.reduceLeDiff, Nat.reduceLT, Nat.reduceAdd, Nat.reduceMul, Nat.reduceSub, Nat.reduceEqDiff, Nat.reduceBEq, Int.reduceToNat, reduceCtorEq]
      repeat ((with_reducible refine And.intro ?_ ?_); focus (first | (with_reducible trivial) | omega | (and_intros <;> first | (with_reducible trivial) | omega | assumption | exact nfc | first | exact rfl | exact trivial | exact fitI | exact Or.inr rfl | exact Or.inl rfl | exact fun x hx => absurd hx (by omega) | (intro x hx; (repeat (first | (and_intros <;> (first | exact rfl | exact trivial | exact fitI | exact Or.inr rfl | exact Or.inl rfl | exact fun x hx => absurd hx (by omega))) | (exfalso; omega) | (rcases x with _ | x))); done)) | grind))
      refine condM' rfl trivial (fun hc => ?_) (fun hc => ?_)
      · replace H := cond_f hc H
        refine rg ctNo_ok ?_
        simp only [go_sem, Nat.reduceLeDiff, Nat.reduceLT, Nat.reduceAdd, Nat.reduceMul, Nat.reduceSub, Nat.reduceEqDiff, Nat.reduceBEq, Int.reduceToNat, reduceCtorEq]
        refine ⟨_, (Option.some.inj H).symm, ?_⟩
        refine SubF_of ⟨[], ?_, ?_, by rfl, by rfl⟩
        · simp [CvL, Cv, getM]
        · trivial
      replace H := cond_t hc H
      refine rg ctNo_ok ?_
      simp only [go_sem, Nat.reduceLeDiff, Nat.reduceLT, Nat.reduceAdd, Nat.reduceMul, Nat.reduceSub, Nat.reduceEqDiff, Nat.reduceBEq, Int.reduceToNat, reduceCtorEq]
      refine seqM ?_
      refine blkM ?_
      refine seqM ?_
      obtain ⟨f1, H⟩ := need_some.1 H
      replace f1 := inb_iff.1 f1
      obtain ⟨f2, H⟩ := need_some.1 H
      replace f2 := inb_iff.1 f2
      refine draw_quiet shT_ok ctNo_ok (by kernel_rfl) (by kernel_rfl) ?_
      simp only [go_sem, Nat.reduceLeDiff, Nat.reduceLT, Nat.reduceAdd, Nat.reduceMul, Nat.reduceSub, Nat.reduceEqDiff, Nat.reduceBEq, Int.reduceToNat, reduceCtorEq, f1, f2]
      repeat ((with_reducible refine And.intro ?_ ?_); focus (first | (with_reducible trivial) | omega | grind))
      refine condM rfl trivial (fun hc => ?_) (fun hc => ?_)
      · replace H := cond_t hc H
        refine sq ctNo_ok ?_
        simp only [go_sem, Nat.reduceLeDiff, Nat.reduceLT, Nat.reduceAdd, Nat.reduceMul, Nat.reduceSub, Nat.reduceEqDiff, Nat.reduceBEq, Int.reduceToNat, reduceCtorEq]
        refine rg ctNo_ok ?_
        simp only [go_sem, Nat.reduceLeDiff, Nat.reduceLT, Nat.reduceAdd, Nat.reduceMul, Nat.reduceSub, Nat.reduceEqDiff, Nat.reduceBEq, Int.reduceToNat, reduceCtorEq]
        have H := hn2_1 _ (Option.some.inj H).symm
        obtain rfl := Option.some.inj H
        first | rfl | simp only [Bool.and_false, Bool.false_and, Bool.and_true, Bool.true_and]
      replace H := cond_f hc H
      refine rg ctNo_ok ?_
      simp only [go_sem, Nat.reduceLeDiff, Nat.reduceLT, Nat.reduceAdd, Nat.reduceMul, Nat.reduceSub, Nat.reduceEqDiff, Nat.reduceBEq, Int.reduceToNat, reduceCtorEq]
      refine rg ctNo_ok ?_
      simp only [go_sem, Nat.reduceLeDiff, Nat.reduceLT, Nat.reduceAdd, Nat.reduceMul, Nat.reduceSub, Nat.reduceEqDiff, Nat.reduceBEq, Int.reduceToNat, reduceCtorEq]
      refine ⟨_, (Option.some.inj H).symm, ?_⟩
      refine SubF_of ⟨[], ?_, ?_, by rfl, by rfl⟩
      · simp [CvL, Cv, getM]
      · trivial
    · try dsimp only at H ⊢
      try simp only [m_normal, k_normal, b_normal, kL_normal, r_normal]
      refine sq ctNo_ok ?_
      simp only [go_sem, Nat.reduceLeDiff, Nat.reduceLT, Nat.reduceAdd, Nat.reduceMul, Nat.reduceSub, Nat.reduceEqDiff, Nat.reduceBEq, Int.reduceToNat, reduceCtorEq]
      refine rg ctNo_ok ?_
      simp only [go_sem, Nat.reduceLeDiff, Nat.reduceLT, Nat.reduceAdd, Nat.reduceMul, Nat.reduceSub, Nat.reduceEqDiff, Nat.reduceBEq, Int.reduceToNat, reduceCtorEq]
      obtain rfl := Option.some.inj H
      first | rfl | simp only [Bool.and_false, Bool.false_and, Bool.and_true, Bool.true_and]
  · cases hb
/-! hotspot/hotspotlaw45.alive -/
noncomputable def ct15t0 : Ct := tab [(25, edC body25), (43, edC body43)]
theorem ct15t0_ok : CtOk Try.prog ct15t0 := tab_cons ok25 <| tab_cons ok43 <| tab_nil
theorem ct15t0_25 (l : List AV) (h : List ABlk) : ct15t0 25 l h = edC body25 l h := rfl
theorem ct15t0_43 (l : List AV) (h : List ABlk) : ct15t0 43 l h = edC body43 l h := rfl
noncomputable def ct15t1 : Ct := tab [(22, edC body22)]
theorem ct15t1_ok : CtOk Try.prog ct15t1 := tab_cons ok22 <| tab_nil
theorem ct15t1_22 (l : List AV) (h : List ABlk) : ct15t1 22 l h = edC body22 l h := rfl
noncomputable def ct15t2 : Ct := tab [(39, pureC body39)]
theorem ct15t2_ok : CtOk Try.prog ct15t2 := tab_cons ok39 <| tab_nil
theorem ct15t2_39 (l : List AV) (h : List ABlk) : ct15t2 39 l h = pureC body39 l h := rfl
noncomputable def F15 : Option (Bool) :=
  (F43).bind fun r1 => (F25 r1 1 true 0).bind fun r3 => (F22 (TRegulate.mk r3.1.Table r3.1.Channel r3.1.Lead r3.1.Heard r3.1.Stopped r3.1.Moving r3.1.To r3.1.At r3.1.Blocked r3.1.Clear) 1 1000).bind fun r5 => (some [(TRegulateWord.mk 1 1 11 151000)]).bind fun w7 => need (bif ((bEq r3.2 0) && (bEq r5.2.2 0)) then ((F39 r5.2.1 w7).isSome) else true) <| need (bif (((((((bEq r3.2 0) && (bEq r5.2.2 0)) && (gt (F39 r5.2.1 w7))) && r5.1.Stopped) && r5.1.Moving) && (bEq r5.1.To 11)) && (bEq (r5.1.Blocked.length : Nat) 1)) then inb 0 r5.1.Blocked.length else true) <| some ((((((((bEq r3.2 0) && (bEq r5.2.2 0)) && (gt (F39 r5.2.1 w7))) && r5.1.Stopped) && r5.1.Moving) && (bEq r5.1.To 11)) && (bEq (r5.1.Blocked.length : Nat) 1)) && (bEq ((gd r5.1.Blocked 0).Channel) 1 && (bEq ((gd r5.1.Blocked 0).Until) 1800001000)))
noncomputable def body15 : List AV → AR
  | [] => .pure ((F15).isSome = true) (.bool (gt F15))
  | _ => .fail
set_option maxHeartbeats 4000000 in
set_option maxRecDepth 20000 in
theorem ok15 : FnOk Try.prog 15 (pureC body15) := by
  refine pure_fnM body15 (rs := [.tmp 0]) Try.func15 (by kernel_rfl) rfl rfl ?_
  intro l ob v hb hob
  unfold body15 at hb
  split at hb
  · injection hb with q1 q2; subst q1 q2
    obtain ⟨r, H⟩ := Option.isSome_iff_exists.1 hob
    rw [H, gt_some]
    refine ⟨[], _, (fun E vs F => F), rfl, rfl, ?_⟩
    rw [Try.ntmps15]
    simp only [List.length_cons, List.length_nil, Nat.reduceAdd, Nat.reduceSub, List.replicate_succ, List.replicate_zero, List.cons_append, List.nil_append]
    unfold F15 at H
    try dsimp only at H
    refine sq ctNo_ok ?_
    simp only [go_sem, Nat.reduceLeDiff, Nat.reduceLT, Nat.reduceAdd, Nat.reduceMul, Nat.reduceSub, Nat.reduceEqDiff, Nat.reduceBEq, Int.reduceToNat, reduceCtorEq]
    refine seqM ?_
    obtain ⟨r1, e2, H⟩ := Option.bind_eq_some_iff.1 H
    obtain ⟨r3, e4, H⟩ := Option.bind_eq_some_iff.1 H
    refine rg ct15t0_ok ?_
    simp only [go_sem, Nat.reduceLeDiff, Nat.reduceLT, Nat.reduceAdd, Nat.reduceMul, Nat.reduceSub, Nat.reduceEqDiff, Nat.reduceBEq, Int.reduceToNat, reduceCtorEq, roD, roDOb, deadL, edC, edR, nodupB, rnm, rnmL, rnmB, rnmH, rnm_bif, rnmB_bif, putH, dropH, rhoN, ptB, slN, litL, celL, pK, isLit, oS, isRow, inL, ct15t0_25, body25, ct15t0_43, body43, e2, e4]
    repeat ((with_reducible refine And.intro ?_ ?_); focus (first | (with_reducible trivial) | omega | (and_intros <;> first | (with_reducible trivial) | omega | assumption | exact nfc | first | exact rfl | exact trivial | exact fitI | exact Or.inr rfl | exact Or.inl rfl | exact fun x hx => absurd hx (by omega) | (intro x hx; (repeat (first | (and_intros <;> (first | exact rfl | exact trivial | exact fitI | exact Or.inr rfl | exact Or.inl rfl | exact fun x hx => absurd hx (by omega))) | (exfalso; omega) | (rcases x with _ | x))); done)) | grind))
    refine seqM ?_
    obtain ⟨r5, e6, H⟩ := Option.bind_eq_some_iff.1 H
    refine rg ct15t1_ok ?_
    simp only [go_sem, Nat.reduceLeDiff, Nat.reduceLT, Nat.reduceAdd, Nat.reduceMul, Nat.reduceSub, Nat.reduceEqDiff, Nat.reduceBEq, Int.reduceToNat, reduceCtorEq, roD, roDOb, deadL, edC, edR, nodupB, rnm, rnmL, rnmB, rnmH, rnm_bif, rnmB_bif, putH, dropH, rhoN, ptB, slN, litL, celL, pK, isLit, oS, isRow, inL, ct15t1_22, body22, e6]
    repeat ((with_reducible refine And.intro ?_ ?_); focus (first | (with_reducible trivial) | omega | (and_intros <;> first | (with_reducible trivial) | omega | assumption | exact nfc | first | exact rfl | exact trivial | exact fitI | exact Or.inr rfl | exact Or.inl rfl | exact fun x hx => absurd hx (by omega) | (intro x hx; (repeat (first | (and_intros <;> (first | exact rfl | exact trivial | exact fitI | exact Or.inr rfl | exact Or.inl rfl | exact fun x hx => absurd hx (by omega))) | (exfalso; omega) | (rcases x with _ | x))); done)) | grind))
    refine sq ctNo_ok ?_
    simp only [go_sem, Nat.reduceLeDiff, Nat.reduceLT, Nat.reduceAdd, Nat.reduceMul, Nat.reduceSub, Nat.reduceEqDiff, Nat.reduceBEq, Int.reduceToNat, reduceCtorEq]
    refine seqM ?_
    obtain ⟨w7, hw8, H⟩ := Option.bind_eq_some_iff.1 H
    replace hw8 := Option.some.inj hw8
    have lhw8 : w7.length = 1 := by rw [← hw8]; exact (by first | rfl | simp)
    refine subF_mean (t2 := (.bool false :: .ptr 4 0 0 0 :: .int .i64 r3.2 :: .ptr 9 0 0 0 :: .sl 8 4 0 r5.2.1.length false :: .int .i64 r5.2.2 :: .sl 10 4 0 w7.length false :: .tup [.agg [.sl 1 3 0 r3.1.Table.length false, .int .i64 r3.1.Channel, .bool r3.1.Lead, .int .i64 r3.1.Heard, .bool r3.1.Stopped, .bool r3.1.Moving, .int .i64 r3.1.To, .int .i64 r3.1.At, .sl 2 2 0 r3.1.Blocked.length false, .sl 3 1 0 r3.1.Clear.length false], .int .i64 r3.2] :: .sl 0 3 0 r1.length false :: .tup [.agg [.sl 1 3 0 r3.1.Table.length false, .int .i64 r3.1.Channel, .bool r3.1.Lead, .int .i64 r3.1.Heard, .bool r3.1.Stopped, .bool r3.1.Moving, .int .i64 r3.1.To, .int .i64 r3.1.At, .sl 2 2 0 r3.1.Blocked.length false, .sl 3 1 0 r3.1.Clear.length false], .int .i64 r3.2] :: .agg [.sl 1 3 0 r3.1.Table.length false, .int .i64 r3.1.Channel, .bool r3.1.Lead, .int .i64 r3.1.Heard, .bool r3.1.Stopped, .bool r3.1.Moving, .int .i64 r3.1.To, .int .i64 r3.1.At, .sl 2 2 0 r3.1.Blocked.length false, .sl 3 1 0 r3.1.Clear.length false] :: .int .i64 r3.2 :: .tup [.agg [.sl 5 3 0 r5.1.Table.length false, .int .i64 r5.1.Channel, .bool r5.1.Lead, .int .i64 r5.1.Heard, .bool r5.1.Stopped, .bool r5.1.Moving, .int .i64 r5.1.To, .int .i64 r5.1.At, .sl 6 2 0 r5.1.Blocked.length false, .sl 7 1 0 r5.1.Clear.length false], .sl 8 4 0 r5.2.1.length false, .int .i64 r5.2.2] :: .agg [.sl 1 3 0 r3.1.Table.length false, .int .i64 r3.1.Channel, .bool r3.1.Lead, .int .i64 r3.1.Heard, .bool r3.1.Stopped, .bool r3.1.Moving, .int .i64 r3.1.To, .int .i64 r3.1.At, .sl 2 2 0 r3.1.Blocked.length false, .sl 3 1 0 r3.1.Clear.length false] :: .tup [.agg [.sl 5 3 0 r5.1.Table.length false, .int .i64 r5.1.Channel, .bool r5.1.Lead, .int .i64 r5.1.Heard, .bool r5.1.Stopped, .bool r5.1.Moving, .int .i64 r5.1.To, .int .i64 r5.1.At, .sl 6 2 0 r5.1.Blocked.length false, .sl 7 1 0 r5.1.Clear.length false], .sl 8 4 0 r5.2.1.length false, .int .i64 r5.2.2] :: .agg [.sl 5 3 0 r5.1.Table.length false, .int .i64 r5.1.Channel, .bool r5.1.Lead, .int .i64 r5.1.Heard, .bool r5.1.Stopped, .bool r5.1.Moving, .int .i64 r5.1.To, .int .i64 r5.1.At, .sl 6 2 0 r5.1.Blocked.length false, .sl 7 1 0 r5.1.Clear.length false] :: .sl 8 4 0 r5.2.1.length false :: .int .i64 r5.2.2 :: .agg [.int .u8 1, .int .i64 1, .int .i64 11, .int .i64 151000] :: .sl 10 4 0 w7.length false :: .top :: .top :: .top :: .top :: .top :: .top :: .top :: .top :: .top :: .top :: .top :: .top :: .top :: .top :: .top :: .top :: .top :: .top :: .top :: .top :: .top :: .top :: .top :: .top :: .top :: .top :: .top :: .top :: .top :: .top :: .top :: .top :: .top :: .top :: .top :: .top :: .top :: .top :: [])) (h2 := [.row 45 3 r1.length (enR c_TRegulateChannel r1), .row 45 3 r3.1.Table.length (enR c_TRegulateChannel r3.1.Table), .row 79 2 r3.1.Blocked.length (enR c_TRegulateBlock r3.1.Blocked), .row 3 1 r3.1.Clear.length (enR c_i64 r3.1.Clear), .lit 39 [.sl 1 3 0 r3.1.Table.length false, .int .i64 r3.1.Channel, .bool r3.1.Lead, .int .i64 r3.1.Heard, .bool r3.1.Stopped, .bool r3.1.Moving, .int .i64 r3.1.To, .int .i64 r3.1.At, .sl 2 2 0 r3.1.Blocked.length false, .sl 3 1 0 r3.1.Clear.length false], .row 45 3 r5.1.Table.length (enR c_TRegulateChannel r5.1.Table), .row 79 2 r5.1.Blocked.length (enR c_TRegulateBlock r5.1.Blocked), .row 3 1 r5.1.Clear.length (enR c_i64 r5.1.Clear), .row 23 4 r5.2.1.length (enR c_TRegulateWord r5.2.1), .lit 39 [.sl 5 3 0 r5.1.Table.length false, .int .i64 r5.1.Channel, .bool r5.1.Lead, .int .i64 r5.1.Heard, .bool r5.1.Stopped, .bool r5.1.Moving, .int .i64 r5.1.To, .int .i64 r5.1.At, .sl 6 2 0 r5.1.Blocked.length false, .sl 7 1 0 r5.1.Clear.length false], .row 23 4 w7.length (enR c_TRegulateWord w7)]) ?_ ?_
    · refine SubF_of ⟨[some 0, some 1, some 2, some 3, some 4, some 5, some 6, some 7, some 8, some 9, some 10], ?_, ?_, by rfl, by rfl⟩
      · simp [CvL, Cv, getM, lhw8]
      · exact ⟨CvB_row nr_TRegulateChannel rfl (fun _ _ _ _ => rfl), CvB_row nr_TRegulateChannel rfl (fun _ _ _ _ => rfl), CvB_row nr_TRegulateBlock rfl (fun _ _ _ _ => rfl), CvB_row nr_i64 rfl (fun _ _ _ _ => rfl), (by simp [CvB, CvL, Cv, blkAt, geth, getM, lhw8]), CvB_row nr_TRegulateChannel rfl (fun _ _ _ _ => rfl), CvB_row nr_TRegulateBlock rfl (fun _ _ _ _ => rfl), CvB_row nr_i64 rfl (fun _ _ _ _ => rfl), CvB_row nr_TRegulateWord rfl (fun _ _ _ _ => rfl), (by simp [CvB, CvL, Cv, blkAt, geth, getM, lhw8]), CvB_row nr_TRegulateWord lhw8 (hw8 ▸ (lit_row (f := c_TRegulateWord) [(TRegulateWord.mk 1 1 11 151000)] (fun _ _ => rfl) rfl)), trivial⟩
    obtain ⟨f9, H⟩ := need_some.1 H
    replace f9 := g_iff.1 f9
    obtain ⟨f10, H⟩ := need_some.1 H
    replace f10 := g_iff.1 f10
    replace f10 := fun g => inb_iff.1 (f10 g)
    refine rg ct15t2_ok ?_
    simp only [go_sem, Nat.reduceLeDiff, Nat.reduceLT, Nat.reduceAdd, Nat.reduceMul, Nat.reduceSub, Nat.reduceEqDiff, Nat.reduceBEq, Int.reduceToNat, reduceCtorEq, ct15t2_39, body39]
    repeat ((with_reducible refine And.intro ?_ ?_); focus (first | (with_reducible trivial) | omega | exact f9 | exact f10 | (intro g; have q := f9 (by first | exact g | (rw [g]; rfl) | simpa using g); first | exact q | exact ⟨q.1, q.2.1⟩ | exact q.2.2 | omega | exact ⟨g, q⟩ | exact ⟨trivial, q⟩ | exact ⟨g, q.1, q.2.1⟩ | exact ⟨g, q.2.2⟩) | (intro g; have q := f10 (by first | exact g | (rw [g]; rfl) | simpa using g); first | exact q | exact ⟨q.1, q.2.1⟩ | exact q.2.2 | omega | exact ⟨g, q⟩ | exact ⟨trivial, q⟩ | exact ⟨g, q.1, q.2.1⟩ | exact ⟨g, q.2.2⟩) | (intro g; (try have q0 := f9 (by first | exact g | (rw [g]; rfl) | simpa using g)); (try have q1 := f10 (by first | exact g | (rw [g]; rfl) | simpa using g)); and_intros <;> first | (with_reducible trivial) | assumption | exact nfc | (intro g2; rw [g, g2]; rfl) | (intro g2; assumption) | (simp only [g, Bool.true_and, Bool.and_true, Bool.not_false, Bool.not_true]; assumption) | grind) | (and_intros <;> first | (with_reducible trivial) | omega | assumption | exact nfc | first | exact rfl | exact trivial | exact fitI | exact Or.inr rfl | exact Or.inl rfl | exact fun x hx => absurd hx (by omega) | (intro x hx; (repeat (first | (and_intros <;> (first | exact rfl | exact trivial | exact fitI | exact Or.inr rfl | exact Or.inl rfl | exact fun x hx => absurd hx (by omega))) | (exfalso; omega) | (rcases x with _ | x))); done)) | grind))
    refine rg ctNo_ok ?_
    simp only [go_sem, Nat.reduceLeDiff, Nat.reduceLT, Nat.reduceAdd, Nat.reduceMul, Nat.reduceSub, Nat.reduceEqDiff, Nat.reduceBEq, Int.reduceToNat, reduceCtorEq]
    obtain rfl := Option.some.inj H
    first | rfl | simp only [Bool.and_false, Bool.false_and, Bool.and_true, Bool.true_and]
  · cases hb
/-! hotspot/hotspotref45.Great -/
noncomputable def F16 (p0 : TRegulate) : Option (Bool) :=
  some (((bLt 40 (p0.Table.length : Nat)) || (bLt 40 (p0.Blocked.length : Nat))) || (bLt 40 (p0.Clear.length : Nat)))
noncomputable def body16 : List AV → AR
  | [v0] => .pure (aK 10 k_TRegulate v0 ∧ (F16 (g_TRegulate (aL v0))).isSome = true) (.bool (gt (F16 (g_TRegulate (aL v0)))))
  | _ => .fail
set_option maxHeartbeats 4000000 in
set_option maxRecDepth 20000 in
theorem ok16 : FnOk Try.prog 16 (pureC body16) := by
  refine pure_fnM body16 (rs := [.tmp 2]) Try.func16 (by kernel_rfl) rfl rfl ?_
  intro l ob v hb hob
  unfold body16 at hb
  split at hb
  · rename_i v0
    injection hb with q1 q2; subst q1 q2
    obtain ⟨hk0_0, hob⟩ := hob
    obtain ⟨r, H⟩ := Option.isSome_iff_exists.1 hob
    rw [H, gt_some]
    have hw0 := wA_TRegulate hk0_0
    generalize g_TRegulate (aL v0) = p0 at H hw0
    refine ⟨[.agg [.ro 3 p0.Table.length false (enR c_TRegulateChannel p0.Table), .int .i64 p0.Channel, .bool p0.Lead, .int .i64 p0.Heard, .bool p0.Stopped, .bool p0.Moving, .int .i64 p0.To, .int .i64 p0.At, .ro 2 p0.Blocked.length false (enR c_TRegulateBlock p0.Blocked), .ro 1 p0.Clear.length false (enR c_i64 p0.Clear)]], _, (fun E vs F => FR_wk1 hw0.1 F (fun vs F => F)), rfl, rfl, ?_⟩
    rw [Try.ntmps16]
    simp only [List.length_cons, List.length_nil, Nat.reduceAdd, Nat.reduceSub, List.replicate_succ, List.replicate_zero, List.cons_append, List.nil_append]
    unfold F16 at H
    try dsimp only at H
    refine sq ctNo_ok ?_
    simp only [go_sem, Nat.reduceLeDiff, Nat.reduceLT, Nat.reduceAdd, Nat.reduceMul, Nat.reduceSub, Nat.reduceEqDiff, Nat.reduceBEq, Int.reduceToNat, reduceCtorEq]
    refine sq ctNo_ok ?_
    simp only [go_sem, Nat.reduceLeDiff, Nat.reduceLT, Nat.reduceAdd, Nat.reduceMul, Nat.reduceSub, Nat.reduceEqDiff, Nat.reduceBEq, Int.reduceToNat, reduceCtorEq]
    repeat ((with_reducible refine And.intro ?_ ?_); focus (first | (with_reducible trivial) | omega | (intro g; and_intros <;> first | (with_reducible trivial) | assumption | exact nfc | (intro g2; rw [g, g2]; rfl) | (intro g2; assumption) | (simp only [g, Bool.true_and, Bool.and_true, Bool.not_false, Bool.not_true]; assumption) | grind) | (and_intros <;> first | (with_reducible trivial) | omega | assumption | exact nfc | first | exact rfl | exact trivial | exact fitI | exact Or.inr rfl | exact Or.inl rfl | exact fun x hx => absurd hx (by omega) | (intro x hx; (repeat (first | (and_intros <;> (first | exact rfl | exact trivial | exact fitI | exact Or.inr rfl | exact Or.inl rfl | exact fun x hx => absurd hx (by omega))) | (exfalso; omega) | (rcases x with _ | x))); done)) | grind))
    refine rg ctNo_ok ?_
    simp only [go_sem, Nat.reduceLeDiff, Nat.reduceLT, Nat.reduceAdd, Nat.reduceMul, Nat.reduceSub, Nat.reduceEqDiff, Nat.reduceBEq, Int.reduceToNat, reduceCtorEq]
    obtain rfl := Option.some.inj H
    first | rfl | simp only [Bool.and_false, Bool.false_and, Bool.and_true, Bool.true_and]
  · cases hb
/-! hotspot/regulate.Usable -/
noncomputable def ct21t0 : Ct := tab [(50, edC body50)]
theorem ct21t0_ok : CtOk Try.prog ct21t0 := tab_cons ok50 <| tab_nil
theorem ct21t0_50 (l : List AV) (h : List ABlk) : ct21t0 50 l h = edC body50 l h := rfl
noncomputable def ct21t1 : Ct := tab [(53, edC body53_0)]
theorem ct21t1_ok : CtOk Try.prog ct21t1 := tab_cons ok53_0 <| tab_nil
theorem ct21t1_53 (l : List AV) (h : List ABlk) : ct21t1 53 l h = edC body53_0 l h := rfl
noncomputable def F21 (p0 : TRegulate) (p1 : Int) : Option ((List Int) × Int) :=
  (F50 p0 p1 0).bind fun r1 => bif r1.1.isSome then (bif (!bEq r1.2 0) then (some ([], r1.2)) else ((F53_0 ((gt r1.1).Table) ((gt r1.1).Channel) ((gt r1.1).Blocked) ((gt r1.1).Clear) p1).bind fun r4 => some (r4, 0))) else (bif (!bEq r1.2 0) then (some ([], r1.2)) else (none))
noncomputable def body21 : List AV → List ABlk → ED
  | [v0, v1], h => .ed [] (aK 10 k_TRegulate (roD (deadL h []) v0) ∧ roDOb (deadL h []) v0 ∧ iK .i64 (roD (deadL h []) v1) ∧ roDOb (deadL h []) v1 ∧ (F21 (g_TRegulate (aL (roD (deadL h []) v0))) (iA (roD (deadL h []) v1))).isSome = true) (.tup [.sl 0 1 0 (((gt (F21 (g_TRegulate (aL (roD (deadL h []) v0))) (iA (roD (deadL h []) v1)))).1).length) false, .int .i64 ((gt (F21 (g_TRegulate (aL (roD (deadL h []) v0))) (iA (roD (deadL h []) v1)))).2)]) [.row 3 1 (((gt (F21 (g_TRegulate (aL (roD (deadL h []) v0))) (iA (roD (deadL h []) v1)))).1).length) (enR c_i64 ((gt (F21 (g_TRegulate (aL (roD (deadL h []) v0))) (iA (roD (deadL h []) v1)))).1))]
  | _, _ => .fail
set_option maxHeartbeats 4000000 in
set_option maxRecDepth 20000 in
theorem ok21 : FnOk Try.prog 21 (edC body21) := by
  refine edit_fnV body21 (rs := [.tmp 4, .tmp 5]) Try.func21 (by kernel_rfl) rfl rfl ?_
  intro l h bs ob q0 g0 hb hob
  unfold body21 at hb
  split at hb
  · rename_i v0 v1
    injection hb with q1 q2 q3 q4; subst q1 q2 q3 q4
    obtain ⟨hk0_0, hk0_1, hk1_0, hk1_1, hob⟩ := hob
    obtain ⟨r, H⟩ := Option.isSome_iff_exists.1 hob
    rw [H, gt_some]
    have hw0 := wA_TRegulate hk0_0
    obtain ⟨p0, hp_p0⟩ : ∃ p0, p0 = g_TRegulate (aL (roD (deadL h []) v0)) := ⟨_, rfl⟩
    rw [← hp_p0] at H hw0
    have hw1 := iK_wk hk1_0
    obtain ⟨p1, hp_p1⟩ : ∃ p1, p1 = iA (roD (deadL h []) v1) := ⟨_, rfl⟩
    rw [← hp_p1] at H hw1
    refine ⟨[.agg [.ro 3 p0.Table.length false (enR c_TRegulateChannel p0.Table), .int .i64 p0.Channel, .bool p0.Lead, .int .i64 p0.Heard, .bool p0.Stopped, .bool p0.Moving, .int .i64 p0.To, .int .i64 p0.At, .ro 2 p0.Blocked.length false (enR c_TRegulateBlock p0.Blocked), .ro 1 p0.Clear.length false (enR c_i64 p0.Clear)], .int .i64 p1], [], rfl, ⟨(EW_view hk0_1 hw0), ⟨(EW_view hk1_1 hw1), trivial⟩⟩, trivial, trivial, ⟨(nfB_en nr_i64), trivial⟩, ⟨noroB_en, trivial⟩, (by first | (simp only [noro, noroL, and_self]; done) | (simp only [noro, noroL]; and_intros <;> first | trivial | exact noro_bif (by simp only [noro]) (by simp only [noro]) | (simp only [noro, noroL, and_self]))), ?_⟩
    rw [Try.ntmps21]
    simp only [List.length_cons, List.length_nil, Nat.reduceAdd, Nat.reduceSub, List.replicate_succ, List.replicate_zero, List.cons_append, List.nil_append]
    unfold F21 at H
    try dsimp only at H
    refine sq ctNo_ok ?_
    simp only [go_sem, Nat.reduceLeDiff, Nat.reduceLT, Nat.reduceAdd, Nat.reduceMul, Nat.reduceSub, Nat.reduceEqDiff, Nat.reduceBEq, Int.reduceToNat, reduceCtorEq]
    refine seqM ?_
    obtain ⟨r1, e2, H⟩ := Option.bind_eq_some_iff.1 H
    refine rg ct21t0_ok ?_
    simp only [go_sem, Nat.reduceLeDiff, Nat.reduceLT, Nat.reduceAdd, Nat.reduceMul, Nat.reduceSub, Nat.reduceEqDiff, Nat.reduceBEq, Int.reduceToNat, reduceCtorEq, roD, roDOb, deadL, edC, edR, nodupB, rnm, rnmL, rnmB, rnmH, rnm_bif, rnmB_bif, putH, dropH, rhoN, ptB, slN, litL, celL, pK, isLit, oS, isRow, inL, ct21t0_50, body50, e2]
    repeat ((with_reducible refine And.intro ?_ ?_); focus (first | (with_reducible trivial) | omega | (and_intros <;> first | (with_reducible trivial) | omega | assumption | exact nfc | first | exact rfl | exact trivial | exact fitI | exact Or.inr rfl | exact Or.inl rfl | exact fun x hx => absurd hx (by omega) | (intro x hx; (repeat (first | (and_intros <;> (first | exact rfl | exact trivial | exact fitI | exact Or.inr rfl | exact Or.inl rfl | exact fun x hx => absurd hx (by omega))) | (exfalso; omega) | (rcases x with _ | x))); done)) | grind))
    refine bif_split (c := r1.1.isSome) (fun hq3 => ?_) (fun hq3 => ?_)
    · replace H := cond_t hq3 H
      simp only [go_sem, Nat.reduceLeDiff, Nat.reduceLT, Nat.reduceAdd, Nat.reduceMul, Nat.reduceSub, Nat.reduceEqDiff, Nat.reduceBEq, Int.reduceToNat, reduceCtorEq, hq3, cond_true, cond_false, rnm, rnmL, rnmB, rnmH, rhoN]
      refine seqM ?_
      refine sq ctNo_ok ?_
      simp only [go_sem, Nat.reduceLeDiff, Nat.reduceLT, Nat.reduceAdd, Nat.reduceMul, Nat.reduceSub, Nat.reduceEqDiff, Nat.reduceBEq, Int.reduceToNat, reduceCtorEq]
      refine condM rfl trivial (fun hc => ?_) (fun hc => ?_)
      · replace H := cond_t hc H
        refine sq ctNo_ok ?_
        simp only [go_sem, Nat.reduceLeDiff, Nat.reduceLT, Nat.reduceAdd, Nat.reduceMul, Nat.reduceSub, Nat.reduceEqDiff, Nat.reduceBEq, Int.reduceToNat, reduceCtorEq]
        refine rg ctNo_ok ?_
        simp only [go_sem, Nat.reduceLeDiff, Nat.reduceLT, Nat.reduceAdd, Nat.reduceMul, Nat.reduceSub, Nat.reduceEqDiff, Nat.reduceBEq, Int.reduceToNat, reduceCtorEq]
        obtain rfl := Option.some.inj H
        refine RetE_mk [] [none] ?_ ?_ ?_ ?_ (by rfl) (by rfl)
        · simp only [List.length_cons, List.length_nil, Nat.zero_mul, Nat.add_zero, fzV, fzL, fzOb, fzObL, fzH, fzHF, fzB, fzObB, fzObH, inL, rowOb, geth, cond_true, cond_false, Bool.or_false, Bool.or_true, Bool.false_or, Bool.true_or, and_self, true_and, and_true, Nat.reduceEqDiff, Nat.reduceBEq, beq_self_eq_true, sub_enR0, Nat.reduceAdd, Nat.zero_add, Nat.le_refl, List.nil_append]
          try (and_intros <;> first | trivial | omega | exact nfc)
        · simp only [List.length_cons, List.length_nil, Nat.zero_mul, Nat.add_zero, fzV, fzL, fzOb, fzObL, fzH, fzHF, fzB, fzObB, fzObH, inL, rowOb, geth, cond_true, cond_false, Bool.or_false, Bool.or_true, Bool.false_or, Bool.true_or, and_self, true_and, and_true, Nat.reduceEqDiff, Nat.reduceBEq, beq_self_eq_true, sub_enR0, Nat.reduceAdd, Nat.zero_add, Nat.le_refl, List.nil_append]
          try (and_intros <;> first | trivial | omega | exact nfc)
        · simp only [List.length_cons, List.length_nil, Nat.zero_mul, Nat.add_zero, fzV, fzL, fzOb, fzObL, fzH, fzHF, fzB, fzObB, fzObH, inL, rowOb, geth, cond_true, cond_false, Bool.or_false, Bool.or_true, Bool.false_or, Bool.true_or, and_self, true_and, and_true, Nat.reduceEqDiff, Nat.reduceBEq, beq_self_eq_true, sub_enR0, Nat.reduceAdd, Nat.zero_add, Nat.le_refl, List.nil_append]
          exact Cv_tup (CvL_cons (by simp [Cv, CvL, getM, gt_some]) (CvL_cons (by simp [Cv, CvL, getM, gt_some]) CvL_nil))
        · simp only [List.length_cons, List.length_nil, Nat.zero_mul, Nat.add_zero, fzV, fzL, fzOb, fzObL, fzH, fzHF, fzB, fzObB, fzObH, inL, rowOb, geth, cond_true, cond_false, Bool.or_false, Bool.or_true, Bool.false_or, Bool.true_or, and_self, true_and, and_true, Nat.reduceEqDiff, Nat.reduceBEq, beq_self_eq_true, sub_enR0, Nat.reduceAdd, Nat.zero_add, Nat.le_refl, List.nil_append, CvH, gt_some, Option.isSome_some, Option.isSome_none]
          exact CvB_none
      replace H := cond_f hc H
      refine rg ctNo_ok ?_
      simp only [go_sem, Nat.reduceLeDiff, Nat.reduceLT, Nat.reduceAdd, Nat.reduceMul, Nat.reduceSub, Nat.reduceEqDiff, Nat.reduceBEq, Int.reduceToNat, reduceCtorEq]
      refine seqM ?_
      obtain ⟨r4, e5, H⟩ := Option.bind_eq_some_iff.1 H
      refine rg ct21t1_ok ?_
      simp only [go_sem, Nat.reduceLeDiff, Nat.reduceLT, Nat.reduceAdd, Nat.reduceMul, Nat.reduceSub, Nat.reduceEqDiff, Nat.reduceBEq, Int.reduceToNat, reduceCtorEq, roD, roDOb, deadL, edC, edR, nodupB, rnm, rnmL, rnmB, rnmH, rnm_bif, rnmB_bif, putH, dropH, rhoN, ptB, slN, litL, celL, pK, isLit, oS, isRow, inL, ct21t1_53, body53_0, e5]
      repeat ((with_reducible refine And.intro ?_ ?_); focus (first | (with_reducible trivial) | omega | (and_intros <;> first | (with_reducible trivial) | omega | assumption | exact nfc | first | exact rfl | exact trivial | exact fitI | exact Or.inr rfl | exact Or.inl rfl | exact fun x hx => absurd hx (by omega) | (intro x hx; (repeat (first | (and_intros <;> (first | exact rfl | exact trivial | exact fitI | exact Or.inr rfl | exact Or.inl rfl | exact fun x hx => absurd hx (by omega))) | (exfalso; omega) | (rcases x with _ | x))); done)) | grind))
      refine rg ctNo_ok ?_
      simp only [go_sem, Nat.reduceLeDiff, Nat.reduceLT, Nat.reduceAdd, Nat.reduceMul, Nat.reduceSub, Nat.reduceEqDiff, Nat.reduceBEq, Int.reduceToNat, reduceCtorEq]
      obtain rfl := Option.some.inj H
      refine RetE_mk [] [some 5] ?_ ?_ ?_ ?_ (by rfl) (by rfl)
      · simp only [List.length_cons, List.length_nil, Nat.zero_mul, Nat.add_zero, fzV, fzL, fzOb, fzObL, fzH, fzHF, fzB, fzObB, fzObH, inL, rowOb, geth, cond_true, cond_false, Bool.or_false, Bool.or_true, Bool.false_or, Bool.true_or, and_self, true_and, and_true, Nat.reduceEqDiff, Nat.reduceBEq, beq_self_eq_true, sub_enR0, Nat.reduceAdd, Nat.zero_add, Nat.le_refl, List.nil_append]
        try (and_intros <;> first | trivial | omega | exact nfc)
      · simp only [List.length_cons, List.length_nil, Nat.zero_mul, Nat.add_zero, fzV, fzL, fzOb, fzObL, fzH, fzHF, fzB, fzObB, fzObH, inL, rowOb, geth, cond_true, cond_false, Bool.or_false, Bool.or_true, Bool.false_or, Bool.true_or, and_self, true_and, and_true, Nat.reduceEqDiff, Nat.reduceBEq, beq_self_eq_true, sub_enR0, Nat.reduceAdd, Nat.zero_add, Nat.le_refl, List.nil_append]
        try (and_intros <;> first | trivial | omega | exact nfc)
      · simp only [List.length_cons, List.length_nil, Nat.zero_mul, Nat.add_zero, fzV, fzL, fzOb, fzObL, fzH, fzHF, fzB, fzObB, fzObH, inL, rowOb, geth, cond_true, cond_false, Bool.or_false, Bool.or_true, Bool.false_or, Bool.true_or, and_self, true_and, and_true, Nat.reduceEqDiff, Nat.reduceBEq, beq_self_eq_true, sub_enR0, Nat.reduceAdd, Nat.zero_add, Nat.le_refl, List.nil_append]
        exact Cv_tup (CvL_cons (by simp [Cv, CvL, getM, gt_some]) (CvL_cons (by simp [Cv, CvL, getM, gt_some]) CvL_nil))
      · simp only [List.length_cons, List.length_nil, Nat.zero_mul, Nat.add_zero, fzV, fzL, fzOb, fzObL, fzH, fzHF, fzB, fzObB, fzObH, inL, rowOb, geth, cond_true, cond_false, Bool.or_false, Bool.or_true, Bool.false_or, Bool.true_or, and_self, true_and, and_true, Nat.reduceEqDiff, Nat.reduceBEq, beq_self_eq_true, sub_enR0, Nat.reduceAdd, Nat.zero_add, Nat.le_refl, List.nil_append, CvH, gt_some, Option.isSome_some, Option.isSome_none]
        exact CvB_row nr_i64 (by first | rfl | simp) (fun _ _ _ _ => rfl)
    replace H := cond_f hq3 H
    simp only [go_sem, Nat.reduceLeDiff, Nat.reduceLT, Nat.reduceAdd, Nat.reduceMul, Nat.reduceSub, Nat.reduceEqDiff, Nat.reduceBEq, Int.reduceToNat, reduceCtorEq, hq3, cond_true, cond_false, rnm, rnmL, rnmB, rnmH, rhoN]
    refine seqM ?_
    refine sq ctNo_ok ?_
    simp only [go_sem, Nat.reduceLeDiff, Nat.reduceLT, Nat.reduceAdd, Nat.reduceMul, Nat.reduceSub, Nat.reduceEqDiff, Nat.reduceBEq, Int.reduceToNat, reduceCtorEq]
    refine condM' rfl trivial (fun hc => ?_) (fun hc => ?_)
    · replace H := cond_f hc H
      refine rg ctNo_ok ?_
      simp only [go_sem, Nat.reduceLeDiff, Nat.reduceLT, Nat.reduceAdd, Nat.reduceMul, Nat.reduceSub, Nat.reduceEqDiff, Nat.reduceBEq, Int.reduceToNat, reduceCtorEq]
      refine seqM ?_
      cases H
    replace H := cond_t hc H
    refine sq ctNo_ok ?_
    simp only [go_sem, Nat.reduceLeDiff, Nat.reduceLT, Nat.reduceAdd, Nat.reduceMul, Nat.reduceSub, Nat.reduceEqDiff, Nat.reduceBEq, Int.reduceToNat, reduceCtorEq]
    refine rg ctNo_ok ?_
    simp only [go_sem, Nat.reduceLeDiff, Nat.reduceLT, Nat.reduceAdd, Nat.reduceMul, Nat.reduceSub, Nat.reduceEqDiff, Nat.reduceBEq, Int.reduceToNat, reduceCtorEq]
    obtain rfl := Option.some.inj H
    refine RetE_mk [] [none] ?_ ?_ ?_ ?_ (by rfl) (by rfl)
    · simp only [List.length_cons, List.length_nil, Nat.zero_mul, Nat.add_zero, fzV, fzL, fzOb, fzObL, fzH, fzHF, fzB, fzObB, fzObH, inL, rowOb, geth, cond_true, cond_false, Bool.or_false, Bool.or_true, Bool.false_or, Bool.true_or, and_self, true_and, and_true, Nat.reduceEqDiff, Nat.reduceBEq, beq_self_eq_true, sub_enR0, Nat.reduceAdd, Nat.zero_add, Nat.le_refl, List.nil_append]
      try (and_intros <;> first | trivial | omega | exact nfc)
    · simp only [List.length_cons, List.length_nil, Nat.zero_mul, Nat.add_zero, fzV, fzL, fzOb, fzObL, fzH, fzHF, fzB, fzObB, fzObH, inL, rowOb, geth, cond_true, cond_false, Bool.or_false, Bool.or_true, Bool.false_or, Bool.true_or, and_self, true_and, and_true, Nat.reduceEqDiff, Nat.reduceBEq, beq_self_eq_true, sub_enR0, Nat.reduceAdd, Nat.zero_add, Nat.le_refl, List.nil_append]
      try (and_intros <;> first | trivial | omega | exact nfc)
    · simp only [List.length_cons, List.length_nil, Nat.zero_mul, Nat.add_zero, fzV, fzL, fzOb, fzObL, fzH, fzHF, fzB, fzObB, fzObH, inL, rowOb, geth, cond_true, cond_false, Bool.or_false, Bool.or_true, Bool.false_or, Bool.true_or, and_self, true_and, and_true, Nat.reduceEqDiff, Nat.reduceBEq, beq_self_eq_true, sub_enR0, Nat.reduceAdd, Nat.zero_add, Nat.le_refl, List.nil_append]
      exact Cv_tup (CvL_cons (by simp [Cv, CvL, getM, gt_some]) (CvL_cons (by simp [Cv, CvL, getM, gt_some]) CvL_nil))
    · simp only [List.length_cons, List.length_nil, Nat.zero_mul, Nat.add_zero, fzV, fzL, fzOb, fzObL, fzH, fzHF, fzB, fzObB, fzObH, inL, rowOb, geth, cond_true, cond_false, Bool.or_false, Bool.or_true, Bool.false_or, Bool.true_or, and_self, true_and, and_true, Nat.reduceEqDiff, Nat.reduceBEq, beq_self_eq_true, sub_enR0, Nat.reduceAdd, Nat.zero_add, Nat.le_refl, List.nil_append, CvH, gt_some, Option.isSome_some, Option.isSome_none]
      exact CvB_none
  · cases hb
/-! hotspot/hotspotref45.Find -/
noncomputable def F18_L1 (p0 : List TRegulateChannel) (p1 : Int) (v1_1 : Int) : Option (Lp (Int) ((Unit) ⊕ (TRegulateChannel × Bool))) :=
  bif (bLt v1_1 (p0.length : Nat)) then (need (inb v1_1 p0.length) <| bif (bEq ((gd p0 v1_1.toNat).Number) p1) then (need (inb v1_1 p0.length) <| some (.done (.inr ((gd p0 v1_1.toNat), true)))) else (some (.next (wr .i64 (v1_1 + 1))))) else (some (.done (.inl ())))
noncomputable def F18 (p0 : List TRegulateChannel) (p1 : Int) : Option (TRegulateChannel × Bool) :=
  lp (loopD (fun s => F18_L1 p0 p1 s) 0) (fun e => some ((TRegulateChannel.mk 0 0 false), false)) some
noncomputable def body18 : List AV → AR
  | [v0, v1] => .pure (lK k_TRegulateChannel 3 v0 ∧ iK .i64 v1 ∧ (F18 (lA g_TRegulateChannel v0) (iA v1)).isSome = true) (.tup [.agg [.int .i64 (((gt (F18 (lA g_TRegulateChannel v0) (iA v1))).1).Number), .int .i64 (((gt (F18 (lA g_TRegulateChannel v0) (iA v1))).1).Max), .bool (((gt (F18 (lA g_TRegulateChannel v0) (iA v1))).1).Radar)], .bool ((gt (F18 (lA g_TRegulateChannel v0) (iA v1))).2)])
  | _ => .fail
set_option maxHeartbeats 4000000 in
set_option maxRecDepth 20000 in
theorem ok18 : FnOk Try.prog 18 (pureC body18) := by
  refine pure_fnM body18 (rs := [.cell 4 45, .tmp 5]) Try.func18 (by kernel_rfl) rfl rfl ?_
  intro l ob v hb hob
  unfold body18 at hb
  split at hb
  · rename_i v0 v1
    injection hb with q1 q2; subst q1 q2
    obtain ⟨hk0_0, hk1_0, hob⟩ := hob
    obtain ⟨r, H⟩ := Option.isSome_iff_exists.1 hob
    rw [H, gt_some]
    have hw0 := lK_wk (fun r h => w_TRegulateChannel h) hk0_0
    have hw1 := iK_wk hk1_0
    generalize lA g_TRegulateChannel v0 = p0 at H hw0
    generalize iA v1 = p1 at H hw1
    refine ⟨[.ro 3 p0.length false (enR c_TRegulateChannel p0), .int .i64 p1], _, (fun E vs F => FR_wk1 hw0.1 F (fun vs F => FR_wk1 hw1.1 F (fun vs F => F))), rfl, rfl, ?_⟩
    rw [Try.ntmps18]
    simp only [List.length_cons, List.length_nil, Nat.reduceAdd, Nat.reduceSub, List.replicate_succ, List.replicate_zero, List.cons_append, List.nil_append]
    unfold F18 at H
    try dsimp only at H
    refine sq ctNo_ok ?_
    simp only [go_sem, Nat.reduceLeDiff, Nat.reduceLT, Nat.reduceAdd, Nat.reduceMul, Nat.reduceSub, Nat.reduceEqDiff, Nat.reduceBEq, Int.reduceToNat, reduceCtorEq]
    refine seqM ?_
    refine sq ctNo_ok ?_
    simp only [go_sem, Nat.reduceLeDiff, Nat.reduceLT, Nat.reduceAdd, Nat.reduceMul, Nat.reduceSub, Nat.reduceEqDiff, Nat.reduceBEq, Int.reduceToNat, reduceCtorEq]
    refine blkM ?_
    refine loop_den (fun s : Int => [.ro 3 p0.length false (enR c_TRegulateChannel p0), .int .i64 p1, .top, .top, .ptr 0 0 0 0, .top, .int .i64 s, .top, .top, .top, .top, .top, .top, .top, .top, .top, .top, .top, .top, .top, .top, .top, .top, .top, .top]) (fun s => [.lit 45 [.int .i64 0, .int .i64 0, .bool false]]) (fun e : Unit => [.top, .top, .top, .top, .ptr 0 0 0 0, .top, .top, .top, .top, .top, .top, .top, .top, .top, .top, .top, .top, .top, .top, .top, .top, .top, .top, .top, .top]) (fun e => [.lit 45 [.int .i64 0, .int .i64 0, .bool false]]) H ?_ (fun v1_1 o H hn1_1 hn2_1 => ?_) (fun e H => ?_)
    · refine SubF_of ⟨[some 0], ?_, ?_, by rfl, by rfl⟩
      · simp [CvL, Cv, getM]
      · exact ⟨(by simp [CvB, CvL, Cv, blkAt, geth, getM]), trivial⟩
    · unfold F18_L1 at H
      try dsimp only at H ⊢
      refine seqM ?_
      refine sq ctNo_ok ?_
      simp only [go_sem, Nat.reduceLeDiff, Nat.reduceLT, Nat.reduceAdd, Nat.reduceMul, Nat.reduceSub, Nat.reduceEqDiff, Nat.reduceBEq, Int.reduceToNat, reduceCtorEq]
      repeat ((with_reducible refine And.intro ?_ ?_); focus (first | (with_reducible trivial) | omega | (and_intros <;> first | (with_reducible trivial) | omega | assumption | exact nfc | first | exact rfl | exact trivial | exact fitI | exact Or.inr rfl | exact Or.inl rfl | exact fun x hx => absurd hx (by omega) | (intro x hx; (repeat (first | (and_intros <;> (first | exact rfl | exact trivial | exact fitI | exact Or.inr rfl | exact Or.inl rfl | exact fun x hx => absurd hx (by omega))) | (exfalso; omega) | (rcases x with _ | x))); done)) | grind))
      refine condM' rfl trivial (fun hc => ?_) (fun hc => ?_)
      · replace H := cond_f hc H
        refine rg ctNo_ok ?_
        simp only [go_sem, Nat.reduceLeDiff, Nat.reduceLT, Nat.reduceAdd, Nat.reduceMul, Nat.reduceSub, Nat.reduceEqDiff, Nat.reduceBEq, Int.reduceToNat, reduceCtorEq]
        refine ⟨_, (Option.some.inj H).symm, ?_⟩
        refine SubF_of ⟨[some 0], ?_, ?_, by rfl, by rfl⟩
        · simp [CvL, Cv, getM]
        · exact ⟨(by simp [CvB, CvL, Cv, blkAt, geth, getM]), trivial⟩
      replace H := cond_t hc H
      refine rg ctNo_ok ?_
      simp only [go_sem, Nat.reduceLeDiff, Nat.reduceLT, Nat.reduceAdd, Nat.reduceMul, Nat.reduceSub, Nat.reduceEqDiff, Nat.reduceBEq, Int.reduceToNat, reduceCtorEq]
      refine seqM ?_
      refine blkM ?_
      refine seqM ?_
      obtain ⟨f1, H⟩ := need_some.1 H
      replace f1 := inb_iff.1 f1
      refine rg ctNo_ok ?_
      simp only [go_sem, Nat.reduceLeDiff, Nat.reduceLT, Nat.reduceAdd, Nat.reduceMul, Nat.reduceSub, Nat.reduceEqDiff, Nat.reduceBEq, Int.reduceToNat, reduceCtorEq, f1]
      repeat ((with_reducible refine And.intro ?_ ?_); focus (first | (with_reducible trivial) | omega | grind))
      refine condM' rfl trivial (fun hc => ?_) (fun hc => ?_)
      · replace H := cond_f hc H
        refine rg ctNo_ok ?_
        simp only [go_sem, Nat.reduceLeDiff, Nat.reduceLT, Nat.reduceAdd, Nat.reduceMul, Nat.reduceSub, Nat.reduceEqDiff, Nat.reduceBEq, Int.reduceToNat, reduceCtorEq]
        refine rg ctNo_ok ?_
        simp only [go_sem, Nat.reduceLeDiff, Nat.reduceLT, Nat.reduceAdd, Nat.reduceMul, Nat.reduceSub, Nat.reduceEqDiff, Nat.reduceBEq, Int.reduceToNat, reduceCtorEq]
        refine ⟨_, (Option.some.inj H).symm, ?_⟩
        refine SubF_of ⟨[some 0], ?_, ?_, by rfl, by rfl⟩
        · simp [CvL, Cv, getM]
        · exact ⟨(by simp [CvB, CvL, Cv, blkAt, geth, getM]), trivial⟩
      replace H := cond_t hc H
      refine seqM ?_
      obtain ⟨f2, H⟩ := need_some.1 H
      replace f2 := inb_iff.1 f2
      refine rg ctNo_ok ?_
      simp only [go_sem, Nat.reduceLeDiff, Nat.reduceLT, Nat.reduceAdd, Nat.reduceMul, Nat.reduceSub, Nat.reduceEqDiff, Nat.reduceBEq, Int.reduceToNat, reduceCtorEq, f2]
      repeat ((with_reducible refine And.intro ?_ ?_); focus (first | (with_reducible trivial) | omega | grind))
      refine rg ctNo_ok ?_
      simp only [go_sem, Nat.reduceLeDiff, Nat.reduceLT, Nat.reduceAdd, Nat.reduceMul, Nat.reduceSub, Nat.reduceEqDiff, Nat.reduceBEq, Int.reduceToNat, reduceCtorEq]
      have H := hn2_1 _ (Option.some.inj H).symm
      obtain rfl := Option.some.inj H
      first | rfl | simp only [Bool.and_false, Bool.false_and, Bool.and_true, Bool.true_and]
    · try dsimp only at H ⊢
      try simp only [m_normal, k_normal, b_normal, kL_normal, r_normal]
      refine sq ctNo_ok ?_
      simp only [go_sem, Nat.reduceLeDiff, Nat.reduceLT, Nat.reduceAdd, Nat.reduceMul, Nat.reduceSub, Nat.reduceEqDiff, Nat.reduceBEq, Int.reduceToNat, reduceCtorEq]
      repeat ((with_reducible refine And.intro ?_ ?_); focus (first | (with_reducible trivial) | omega | grind))
      refine rg ctNo_ok ?_
      simp only [go_sem, Nat.reduceLeDiff, Nat.reduceLT, Nat.reduceAdd, Nat.reduceMul, Nat.reduceSub, Nat.reduceEqDiff, Nat.reduceBEq, Int.reduceToNat, reduceCtorEq]
      obtain rfl := Option.some.inj H
      first | rfl | simp only [Bool.and_false, Bool.false_and, Bool.and_true, Bool.true_and]
  · cases hb
/-! hotspot/hotspotref45.Until -/
noncomputable def F19_L1 (p0 : List TRegulateBlock) (p1 : Int) (v1_1 : Int) : Option (Lp (Int) ((Unit) ⊕ (Int × Bool))) :=
  bif (bLt v1_1 (p0.length : Nat)) then (need (inb v1_1 p0.length) <| bif (bEq ((gd p0 v1_1.toNat).Channel) p1) then (need (inb v1_1 p0.length) <| some (.done (.inr ((gd p0 v1_1.toNat).Until, true)))) else (some (.next (wr .i64 (v1_1 + 1))))) else (some (.done (.inl ())))
noncomputable def F19 (p0 : List TRegulateBlock) (p1 : Int) : Option (Int × Bool) :=
  lp (loopD (fun s => F19_L1 p0 p1 s) 0) (fun e => some (0, false)) some
noncomputable def body19 : List AV → AR
  | [v0, v1] => .pure (lK k_TRegulateBlock 2 v0 ∧ iK .i64 v1 ∧ (F19 (lA g_TRegulateBlock v0) (iA v1)).isSome = true) (.tup [.int .i64 ((gt (F19 (lA g_TRegulateBlock v0) (iA v1))).1), .bool ((gt (F19 (lA g_TRegulateBlock v0) (iA v1))).2)])
  | _ => .fail
set_option maxHeartbeats 4000000 in
set_option maxRecDepth 20000 in
theorem ok19 : FnOk Try.prog 19 (pureC body19) := by
  refine pure_fnM body19 (rs := [.tmp 4, .tmp 5]) Try.func19 (by kernel_rfl) rfl rfl ?_
  intro l ob v hb hob
  unfold body19 at hb
  split at hb
  · rename_i v0 v1
    injection hb with q1 q2; subst q1 q2
    obtain ⟨hk0_0, hk1_0, hob⟩ := hob
    obtain ⟨r, H⟩ := Option.isSome_iff_exists.1 hob
    rw [H, gt_some]
    have hw0 := lK_wk (fun r h => w_TRegulateBlock h) hk0_0
    have hw1 := iK_wk hk1_0
    generalize lA g_TRegulateBlock v0 = p0 at H hw0
    generalize iA v1 = p1 at H hw1
    refine ⟨[.ro 2 p0.length false (enR c_TRegulateBlock p0), .int .i64 p1], _, (fun E vs F => FR_wk1 hw0.1 F (fun vs F => FR_wk1 hw1.1 F (fun vs F => F))), rfl, rfl, ?_⟩
    rw [Try.ntmps19]
    simp only [List.length_cons, List.length_nil, Nat.reduceAdd, Nat.reduceSub, List.replicate_succ, List.replicate_zero, List.cons_append, List.nil_append]
    unfold F19 at H
    try dsimp only at H
    refine sq ctNo_ok ?_
    simp only [go_sem, Nat.reduceLeDiff, Nat.reduceLT, Nat.reduceAdd, Nat.reduceMul, Nat.reduceSub, Nat.reduceEqDiff, Nat.reduceBEq, Int.reduceToNat, reduceCtorEq]
    refine seqM ?_
    refine sq ctNo_ok ?_
    simp only [go_sem, Nat.reduceLeDiff, Nat.reduceLT, Nat.reduceAdd, Nat.reduceMul, Nat.reduceSub, Nat.reduceEqDiff, Nat.reduceBEq, Int.reduceToNat, reduceCtorEq]
    refine blkM ?_
    refine loop_den (fun s : Int => [.ro 2 p0.length false (enR c_TRegulateBlock p0), .int .i64 p1, .top, .top, .top, .top, .int .i64 s, .top, .top, .top, .top, .top, .top, .top, .top, .top, .top, .top, .top, .top, .top, .top, .top, .top, .top]) (fun s => []) (fun e : Unit => [.top, .top, .top, .top, .top, .top, .top, .top, .top, .top, .top, .top, .top, .top, .top, .top, .top, .top, .top, .top, .top, .top, .top, .top, .top]) (fun e => []) H ?_ (fun v1_1 o H hn1_1 hn2_1 => ?_) (fun e H => ?_)
    · refine SubF_of ⟨[], ?_, ?_, by rfl, by rfl⟩
      · simp [CvL, Cv, getM]
      · trivial
    · unfold F19_L1 at H
      try dsimp only at H ⊢
      refine seqM ?_
      refine sq ctNo_ok ?_
      simp only [go_sem, Nat.reduceLeDiff, Nat.reduceLT, Nat.reduceAdd, Nat.reduceMul, Nat.reduceSub, Nat.reduceEqDiff, Nat.reduceBEq, Int.reduceToNat, reduceCtorEq]
      repeat ((with_reducible refine And.intro ?_ ?_); focus (first | (with_reducible trivial) | omega | (and_intros <;> first | (with_reducible trivial) | omega | assumption | exact nfc | first | exact rfl | exact trivial | exact fitI | exact Or.inr rfl | exact Or.inl rfl | exact fun x hx => absurd hx (by omega) | (intro x hx; (repeat (first | (and_intros <;> (first | exact rfl | exact trivial | exact fitI | exact Or.inr rfl | exact Or.inl rfl | exact fun x hx => absurd hx (by omega))) | (exfalso; omega) | (rcases x with _ | x))); done)) | grind))
      refine condM' rfl trivial (fun hc => ?_) (fun hc => ?_)
      · replace H := cond_f hc H
        refine rg ctNo_ok ?_
        simp only [go_sem, Nat.reduceLeDiff, Nat.reduceLT, Nat.reduceAdd, Nat.reduceMul, Nat.reduceSub, Nat.reduceEqDiff, Nat.reduceBEq, Int.reduceToNat, reduceCtorEq]
        refine ⟨_, (Option.some.inj H).symm, ?_⟩
        refine SubF_of ⟨[], ?_, ?_, by rfl, by rfl⟩
        · simp [CvL, Cv, getM]
        · trivial
      replace H := cond_t hc H
      refine rg ctNo_ok ?_
      simp only [go_sem, Nat.reduceLeDiff, Nat.reduceLT, Nat.reduceAdd, Nat.reduceMul, Nat.reduceSub, Nat.reduceEqDiff, Nat.reduceBEq, Int.reduceToNat, reduceCtorEq]
      refine seqM ?_
      refine blkM ?_
      refine seqM ?_
      obtain ⟨f1, H⟩ := need_some.1 H
      replace f1 := inb_iff.1 f1
      refine rg ctNo_ok ?_
      simp only [go_sem, Nat.reduceLeDiff, Nat.reduceLT, Nat.reduceAdd, Nat.reduceMul, Nat.reduceSub, Nat.reduceEqDiff, Nat.reduceBEq, Int.reduceToNat, reduceCtorEq, f1]
      repeat ((with_reducible refine And.intro ?_ ?_); focus (first | (with_reducible trivial) | omega | grind))
      refine condM' rfl trivial (fun hc => ?_) (fun hc => ?_)
      · replace H := cond_f hc H
        refine rg ctNo_ok ?_
        simp only [go_sem, Nat.reduceLeDiff, Nat.reduceLT, Nat.reduceAdd, Nat.reduceMul, Nat.reduceSub, Nat.reduceEqDiff, Nat.reduceBEq, Int.reduceToNat, reduceCtorEq]
        refine rg ctNo_ok ?_
        simp only [go_sem, Nat.reduceLeDiff, Nat.reduceLT, Nat.reduceAdd, Nat.reduceMul, Nat.reduceSub, Nat.reduceEqDiff, Nat.reduceBEq, Int.reduceToNat, reduceCtorEq]
        refine ⟨_, (Option.some.inj H).symm, ?_⟩
        refine SubF_of ⟨[], ?_, ?_, by rfl, by rfl⟩
        · simp [CvL, Cv, getM]
        · trivial
      replace H := cond_t hc H
      refine seqM ?_
      obtain ⟨f2, H⟩ := need_some.1 H
      replace f2 := inb_iff.1 f2
      refine rg ctNo_ok ?_
      simp only [go_sem, Nat.reduceLeDiff, Nat.reduceLT, Nat.reduceAdd, Nat.reduceMul, Nat.reduceSub, Nat.reduceEqDiff, Nat.reduceBEq, Int.reduceToNat, reduceCtorEq, f2]
      repeat ((with_reducible refine And.intro ?_ ?_); focus (first | (with_reducible trivial) | omega | grind))
      refine rg ctNo_ok ?_
      simp only [go_sem, Nat.reduceLeDiff, Nat.reduceLT, Nat.reduceAdd, Nat.reduceMul, Nat.reduceSub, Nat.reduceEqDiff, Nat.reduceBEq, Int.reduceToNat, reduceCtorEq]
      have H := hn2_1 _ (Option.some.inj H).symm
      obtain rfl := Option.some.inj H
      first | rfl | simp only [Bool.and_false, Bool.false_and, Bool.and_true, Bool.true_and]
    · try dsimp only at H ⊢
      try simp only [m_normal, k_normal, b_normal, kL_normal, r_normal]
      refine sq ctNo_ok ?_
      simp only [go_sem, Nat.reduceLeDiff, Nat.reduceLT, Nat.reduceAdd, Nat.reduceMul, Nat.reduceSub, Nat.reduceEqDiff, Nat.reduceBEq, Int.reduceToNat, reduceCtorEq]
      refine rg ctNo_ok ?_
      simp only [go_sem, Nat.reduceLeDiff, Nat.reduceLT, Nat.reduceAdd, Nat.reduceMul, Nat.reduceSub, Nat.reduceEqDiff, Nat.reduceBEq, Int.reduceToNat, reduceCtorEq]
      obtain rfl := Option.some.inj H
      first | rfl | simp only [Bool.and_false, Bool.false_and, Bool.and_true, Bool.true_and]
  · cases hb
/-! hotspot/regulate.Tick$1 -/
noncomputable def F56_0 (p0 : TRegulateBlock) (p1 : Int) : Option (Bool) :=
  some (bLe p0.Until p1)
noncomputable def body56_0 : List AV → AR
  | [v0, v1] => .pure (aK 2 k_TRegulateBlock v0 ∧ rK 1 k_i64 v1 ∧ (F56_0 (g_TRegulateBlock (aL v0)) (g_i64 (rG v1))).isSome = true) (.bool (gt (F56_0 (g_TRegulateBlock (aL v0)) (g_i64 (rG v1)))))
  | _ => .fail
set_option maxHeartbeats 4000000 in
set_option maxRecDepth 20000 in
theorem ok56_0 : FnOk Try.prog 56 (pureC body56_0) := by
  refine pure_fnM body56_0 (rs := [.tmp 3]) Try.func56 (by kernel_rfl) rfl rfl ?_
  intro l ob v hb hob
  unfold body56_0 at hb
  split at hb
  · rename_i v0 v1
    injection hb with q1 q2; subst q1 q2
    obtain ⟨hk0_0, hk1_0, hob⟩ := hob
    obtain ⟨r, H⟩ := Option.isSome_iff_exists.1 hob
    rw [H, gt_some]
    have hw0 := wA_TRegulateBlock hk0_0
    have hw1 := rK_wk (f := c_i64) (g := g_i64) (fun r h => w_i64 h) hk1_0
    generalize g_TRegulateBlock (aL v0) = p0 at H hw0
    generalize g_i64 (rG v1) = p1 at H hw1
    refine ⟨[.agg [.int .i64 p0.Channel, .int .i64 p0.Until], .rptr 1 1 0 0 (enR c_i64 [p1])], _, (fun E vs F => FR_wk1 hw0.1 F (fun vs F => FR_wk1 hw1.1 F (fun vs F => F))), rfl, rfl, ?_⟩
    rw [Try.ntmps56]
    simp only [List.length_cons, List.length_nil, Nat.reduceAdd, Nat.reduceSub, List.replicate_succ, List.replicate_zero, List.cons_append, List.nil_append]
    unfold F56_0 at H
    try dsimp only at H
    refine sq ctNo_ok ?_
    simp only [go_sem, Nat.reduceLeDiff, Nat.reduceLT, Nat.reduceAdd, Nat.reduceMul, Nat.reduceSub, Nat.reduceEqDiff, Nat.reduceBEq, Int.reduceToNat, reduceCtorEq]
    refine sq ctNo_ok ?_
    simp only [go_sem, Nat.reduceLeDiff, Nat.reduceLT, Nat.reduceAdd, Nat.reduceMul, Nat.reduceSub, Nat.reduceEqDiff, Nat.reduceBEq, Int.reduceToNat, reduceCtorEq]
    refine rg ctNo_ok ?_
    simp only [go_sem, Nat.reduceLeDiff, Nat.reduceLT, Nat.reduceAdd, Nat.reduceMul, Nat.reduceSub, Nat.reduceEqDiff, Nat.reduceBEq, Int.reduceToNat, reduceCtorEq]
    obtain rfl := Option.some.inj H
    first | rfl | simp only [Bool.and_false, Bool.false_and, Bool.and_true, Bool.true_and]
  · cases hb
/-! slices.IndexFunc[[]hotspot/api.RegulateBlock,hotspot/api.RegulateBlock] -/
noncomputable def ct93_0t0 : Ct := tab [(56, pureC body56_0)]
theorem ct93_0t0_ok : CtOk Try.prog ct93_0t0 := tab_cons ok56_0 <| tab_nil
theorem ct93_0t0_56 (l : List AV) (h : List ABlk) : ct93_0t0 56 l h = pureC body56_0 l h := rfl
noncomputable def F93_0_L1 (p0 : List TRegulateBlock) (p1 : Int) (v1_1 : Int) : Option (Lp (Int) ((Unit) ⊕ (Int))) :=
  bif (bLt v1_1 (p0.length : Nat)) then (need (inb v1_1 p0.length) <| (F56_0 (gd p0 v1_1.toNat) p1).bind fun r2 => bif r2 then (some (.done (.inr v1_1))) else (some (.next (wr .i64 (v1_1 + 1))))) else (some (.done (.inl ())))
noncomputable def F93_0 (p0 : List TRegulateBlock) (p1 : Int) : Option (Int) :=
  lp (loopD (fun s => F93_0_L1 p0 p1 s) 0) (fun e => some (-1)) some
noncomputable def body93_0 : List AV → AR
  | [v0, .fn 56 [v1]] => .pure (lK k_TRegulateBlock 2 v0 ∧ rK 1 k_i64 v1 ∧ (F93_0 (lA g_TRegulateBlock v0) (g_i64 (rG v1))).isSome = true) (.int .i64 (gt (F93_0 (lA g_TRegulateBlock v0) (g_i64 (rG v1)))))
  | _ => .fail
set_option maxHeartbeats 4000000 in
set_option maxRecDepth 20000 in
theorem ok93_0 : FnOk Try.prog 93 (pureC body93_0) := by
  refine pure_fnM body93_0 (rs := [.tmp 4]) Try.func93 (by kernel_rfl) rfl rfl ?_
  intro l ob v hb hob
  unfold body93_0 at hb
  split at hb
  · rename_i v0 v1
    injection hb with q1 q2; subst q1 q2
    obtain ⟨hk0_0, hk1_0, hob⟩ := hob
    obtain ⟨r, H⟩ := Option.isSome_iff_exists.1 hob
    rw [H, gt_some]
    have hw0 := lK_wk (fun r h => w_TRegulateBlock h) hk0_0
    have hw1 := rK_wk (f := c_i64) (g := g_i64) (fun r h => w_i64 h) hk1_0
    generalize lA g_TRegulateBlock v0 = p0 at H hw0
    generalize g_i64 (rG v1) = p1 at H hw1
    refine ⟨[.ro 2 p0.length false (enR c_TRegulateBlock p0), .fn 56 [.rptr 1 1 0 0 (enR c_i64 [p1])]], _, (fun E vs F => FR_wk1 hw0.1 F (fun vs F => FR_wk1 (fn_wk (LW_cons hw1.1 LW_nil)) F (fun vs F => F))), rfl, rfl, ?_⟩
    rw [Try.ntmps93]
    simp only [List.length_cons, List.length_nil, Nat.reduceAdd, Nat.reduceSub, List.replicate_succ, List.replicate_zero, List.cons_append, List.nil_append]
    unfold F93_0 at H
    try dsimp only at H
    refine sq ctNo_ok ?_
    simp only [go_sem, Nat.reduceLeDiff, Nat.reduceLT, Nat.reduceAdd, Nat.reduceMul, Nat.reduceSub, Nat.reduceEqDiff, Nat.reduceBEq, Int.reduceToNat, reduceCtorEq]
    refine seqM ?_
    refine sq ctNo_ok ?_
    simp only [go_sem, Nat.reduceLeDiff, Nat.reduceLT, Nat.reduceAdd, Nat.reduceMul, Nat.reduceSub, Nat.reduceEqDiff, Nat.reduceBEq, Int.reduceToNat, reduceCtorEq]
    repeat ((with_reducible refine And.intro ?_ ?_); focus (first | (with_reducible trivial) | omega | (and_intros <;> first | (with_reducible trivial) | omega | assumption | exact nfc | first | exact rfl | exact trivial | exact fitI | exact Or.inr rfl | exact Or.inl rfl | exact fun x hx => absurd hx (by omega) | (intro x hx; (repeat (first | (and_intros <;> (first | exact rfl | exact trivial | exact fitI | exact Or.inr rfl | exact Or.inl rfl | exact fun x hx => absurd hx (by omega))) | (exfalso; omega) | (rcases x with _ | x))); done)) | grind))
    refine blkM ?_
    refine loop_den (fun s : Int => [.ro 2 p0.length false (enR c_TRegulateBlock p0), .fn 56 [.rptr 1 1 0 0 (enR c_i64 [p1])], .top, .top, .top, .top, .top, .int .i64 (p0.length : Nat), .int .i64 s, .top, .top, .top, .top, .top, .top, .top, .top, .top, .top]) (fun s => []) (fun e : Unit => [.top, .top, .top, .top, .top, .top, .top, .top, .top, .top, .top, .top, .top, .top, .top, .top, .top, .top, .top]) (fun e => []) H ?_ (fun v1_1 o H hn1_1 hn2_1 => ?_) (fun e H => ?_)
    · refine SubF_of ⟨[], ?_, ?_, by rfl, by rfl⟩
      · simp [CvL, Cv, getM]
      · trivial
    · unfold F93_0_L1 at H
      try dsimp only at H ⊢
      refine sq ctNo_ok ?_
      simp only [go_sem, Nat.reduceLeDiff, Nat.reduceLT, Nat.reduceAdd, Nat.reduceMul, Nat.reduceSub, Nat.reduceEqDiff, Nat.reduceBEq, Int.reduceToNat, reduceCtorEq]
      refine seqM ?_
      refine condM' rfl trivial (fun hc => ?_) (fun hc => ?_)
      · replace H := cond_f hc H
        refine rg ctNo_ok ?_
        simp only [go_sem, Nat.reduceLeDiff, Nat.reduceLT, Nat.reduceAdd, Nat.reduceMul, Nat.reduceSub, Nat.reduceEqDiff, Nat.reduceBEq, Int.reduceToNat, reduceCtorEq]
        refine ⟨_, (Option.some.inj H).symm, ?_⟩
        refine SubF_of ⟨[], ?_, ?_, by rfl, by rfl⟩
        · simp [CvL, Cv, getM]
        · trivial
      replace H := cond_t hc H
      refine rg ctNo_ok ?_
      simp only [go_sem, Nat.reduceLeDiff, Nat.reduceLT, Nat.reduceAdd, Nat.reduceMul, Nat.reduceSub, Nat.reduceEqDiff, Nat.reduceBEq, Int.reduceToNat, reduceCtorEq]
      refine seqM ?_
      refine blkM ?_
      refine sq ctNo_ok ?_
      simp only [go_sem, Nat.reduceLeDiff, Nat.reduceLT, Nat.reduceAdd, Nat.reduceMul, Nat.reduceSub, Nat.reduceEqDiff, Nat.reduceBEq, Int.reduceToNat, reduceCtorEq]
      refine seqM ?_
      obtain ⟨f1, H⟩ := need_some.1 H
      replace f1 := inb_iff.1 f1
      obtain ⟨r2, e3, H⟩ := Option.bind_eq_some_iff.1 H
      refine rg ct93_0t0_ok ?_
      simp only [go_sem, Nat.reduceLeDiff, Nat.reduceLT, Nat.reduceAdd, Nat.reduceMul, Nat.reduceSub, Nat.reduceEqDiff, Nat.reduceBEq, Int.reduceToNat, reduceCtorEq, ct93_0t0_56, body56_0, f1, e3]
      repeat ((with_reducible refine And.intro ?_ ?_); focus (first | (with_reducible trivial) | omega | (and_intros <;> first | (with_reducible trivial) | omega | assumption | exact nfc | first | exact rfl | exact trivial | exact fitI | exact Or.inr rfl | exact Or.inl rfl | exact fun x hx => absurd hx (by omega) | (intro x hx; (repeat (first | (and_intros <;> (first | exact rfl | exact trivial | exact fitI | exact Or.inr rfl | exact Or.inl rfl | exact fun x hx => absurd hx (by omega))) | (exfalso; omega) | (rcases x with _ | x))); done)) | grind))
      refine condM rfl trivial (fun hc => ?_) (fun hc => ?_)
      · replace H := cond_t hc H
        refine sq ctNo_ok ?_
        simp only [go_sem, Nat.reduceLeDiff, Nat.reduceLT, Nat.reduceAdd, Nat.reduceMul, Nat.reduceSub, Nat.reduceEqDiff, Nat.reduceBEq, Int.reduceToNat, reduceCtorEq]
        refine rg ctNo_ok ?_
        simp only [go_sem, Nat.reduceLeDiff, Nat.reduceLT, Nat.reduceAdd, Nat.reduceMul, Nat.reduceSub, Nat.reduceEqDiff, Nat.reduceBEq, Int.reduceToNat, reduceCtorEq]
        have H := hn2_1 _ (Option.some.inj H).symm
        obtain rfl := Option.some.inj H
        first | rfl | simp only [Bool.and_false, Bool.false_and, Bool.and_true, Bool.true_and]
      replace H := cond_f hc H
      refine rg ctNo_ok ?_
      simp only [go_sem, Nat.reduceLeDiff, Nat.reduceLT, Nat.reduceAdd, Nat.reduceMul, Nat.reduceSub, Nat.reduceEqDiff, Nat.reduceBEq, Int.reduceToNat, reduceCtorEq]
      refine rg ctNo_ok ?_
      simp only [go_sem, Nat.reduceLeDiff, Nat.reduceLT, Nat.reduceAdd, Nat.reduceMul, Nat.reduceSub, Nat.reduceEqDiff, Nat.reduceBEq, Int.reduceToNat, reduceCtorEq]
      refine ⟨_, (Option.some.inj H).symm, ?_⟩
      refine SubF_of ⟨[], ?_, ?_, by rfl, by rfl⟩
      · simp [CvL, Cv, getM]
      · trivial
    · try dsimp only at H ⊢
      try simp only [m_normal, k_normal, b_normal, kL_normal, r_normal]
      refine sq ctNo_ok ?_
      simp only [go_sem, Nat.reduceLeDiff, Nat.reduceLT, Nat.reduceAdd, Nat.reduceMul, Nat.reduceSub, Nat.reduceEqDiff, Nat.reduceBEq, Int.reduceToNat, reduceCtorEq]
      refine rg ctNo_ok ?_
      simp only [go_sem, Nat.reduceLeDiff, Nat.reduceLT, Nat.reduceAdd, Nat.reduceMul, Nat.reduceSub, Nat.reduceEqDiff, Nat.reduceBEq, Int.reduceToNat, reduceCtorEq]
      obtain rfl := Option.some.inj H
      first | rfl | simp only [Bool.and_false, Bool.false_and, Bool.and_true, Bool.true_and]
  · cases hb
/-! slices.DeleteFunc[[]hotspot/api.RegulateBlock,hotspot/api.RegulateBlock] -/
noncomputable def ct55_0t0 : Ct := tab [(93, pureC body93_0)]
theorem ct55_0t0_ok : CtOk Try.prog ct55_0t0 := tab_cons ok93_0 <| tab_nil
theorem ct55_0t0_93 (l : List AV) (h : List ABlk) : ct55_0t0 93 l h = pureC body93_0 l h := rfl
noncomputable def ct55_0t1 : Ct := tab [(56, pureC body56_0)]
theorem ct55_0t1_ok : CtOk Try.prog ct55_0t1 := tab_cons ok56_0 <| tab_nil
theorem ct55_0t1_56 (l : List AV) (h : List ABlk) : ct55_0t1 56 l h = pureC body56_0 l h := rfl
noncomputable def F55_0_L1 (p1 : Int) (v1_1 : List TRegulateBlock) (v1_2 : Int) (v1_3 : Int) : Option (Lp ((List TRegulateBlock) × Int × Int) (((List TRegulateBlock) × Int) ⊕ (List TRegulateBlock))) :=
  bif (bLt v1_3 (v1_1.length : Nat)) then (need (inb v1_3 v1_1.length) <| (F56_0 (gd v1_1 v1_3.toNat) p1).bind fun r4 => bif (!r4) then (need (inb v1_2 v1_1.length) <| some (.next ((v1_1.set v1_2.toNat (gd v1_1 v1_3.toNat)), wr .i64 (v1_2 + 1), wr .i64 (v1_3 + 1)))) else (some (.next (v1_1, v1_2, wr .i64 (v1_3 + 1))))) else (some (.done (.inl (v1_1, v1_2))))
noncomputable def F55_0 (p0 : List TRegulateBlock) (p1 : Int) : Option (List TRegulateBlock) :=
  (F93_0 p0 p1).bind fun r1 => bif (bEq r1 (-1)) then (some p0) else (lp (loopD (fun s => F55_0_L1 p1 s.1 s.2.1 s.2.2) (p0, r1, wr .i64 (r1 + 1))) (fun e => need (slb e.2 (e.1.length : Nat) e.1.length) <| need (slb 0 e.2 e.1.length) <| some (List.take e.2.toNat e.1)) some)
noncomputable def body55_0 : List AV → List ABlk → ED
  | [v0, .fn 56 [v1]], h => .ed [slN v0] (oS 79 2 h v0 ∧ lK k_TRegulateBlock 2 (roW h v0) ∧ rK 1 k_i64 (roD (deadL h [slN v0]) v1) ∧ roDOb (deadL h [slN v0]) v1 ∧ (F55_0 (lA g_TRegulateBlock (roW h v0)) (g_i64 (rG (roD (deadL h [slN v0]) v1)))).isSome = true) (.sl 1 2 0 ((gt (F55_0 (lA g_TRegulateBlock (roW h v0)) (g_i64 (rG (roD (deadL h [slN v0]) v1))))).length) false) [.dead, .row 79 2 ((gt (F55_0 (lA g_TRegulateBlock (roW h v0)) (g_i64 (rG (roD (deadL h [slN v0]) v1))))).length) (enR c_TRegulateBlock (gt (F55_0 (lA g_TRegulateBlock (roW h v0)) (g_i64 (rG (roD (deadL h [slN v0]) v1))))))]
  | _, _ => .fail
set_option maxHeartbeats 4000000 in
set_option maxRecDepth 20000 in
theorem ok55_0 : FnOk Try.prog 55 (edC body55_0) := by
  refine edit_fnV body55_0 (rs := [.tmp 4]) Try.func55 (by kernel_rfl) rfl rfl ?_
  intro l h bs ob q0 g0 hb hob
  unfold body55_0 at hb
  split at hb
  · rename_i v0 v1
    injection hb with q1 q2 q3 q4; subst q1 q2 q3 q4
    obtain ⟨hk0_0, hk0_1, hk1_0, hk1_1, hob⟩ := hob
    obtain ⟨r, H⟩ := Option.isSome_iff_exists.1 hob
    rw [H, gt_some]
    obtain ⟨p0, hp0⟩ : ∃ p0, p0 = lA g_TRegulateBlock (roW h v0) := ⟨_, rfl⟩
    rw [← hp0] at H
    obtain ⟨ev0, eb0⟩ := own_row2 (f := c_TRegulateBlock) (g := g_TRegulateBlock) (bs := [slN v0]) (i := 0) (fun hr => w_TRegulateBlock hr) hk0_0 hk0_1 (L := p0) (by rw [hp0]) rfl
    have hw1 := rK_wk (f := c_i64) (g := g_i64) (fun r h => w_i64 h) hk1_0
    obtain ⟨p1, hp_p1⟩ : ∃ p1, p1 = g_i64 (rG (roD (deadL h [slN v0]) v1)) := ⟨_, rfl⟩
    rw [← hp_p1] at H hw1
    refine ⟨[.sl 0 2 0 p0.length false, .fn 56 [.rptr 1 1 0 0 (enR c_i64 [p1])]], [.row 79 2 p0.length (enR c_TRegulateBlock p0)], rfl, ⟨(EW_own ev0 (by simp only [noro])), ⟨(EW_fn ⟨(EW_view hk1_1 hw1), trivial⟩), trivial⟩⟩, ⟨eb0, trivial⟩, ⟨noroB_en, trivial⟩, ⟨trivial, ⟨(nfB_en nr_TRegulateBlock), trivial⟩⟩, ⟨trivial, ⟨noroB_en, trivial⟩⟩, (by first | (simp only [noro, noroL, and_self]; done) | (simp only [noro, noroL]; and_intros <;> first | trivial | exact noro_bif (by simp only [noro]) (by simp only [noro]) | (simp only [noro, noroL, and_self]))), ?_⟩
    rw [Try.ntmps55]
    simp only [List.length_cons, List.length_nil, Nat.reduceAdd, Nat.reduceSub, List.replicate_succ, List.replicate_zero, List.cons_append, List.nil_append]
    unfold F55_0 at H
    try dsimp only at H
    refine sq ctNo_ok ?_
    simp only [go_sem, Nat.reduceLeDiff, Nat.reduceLT, Nat.reduceAdd, Nat.reduceMul, Nat.reduceSub, Nat.reduceEqDiff, Nat.reduceBEq, Int.reduceToNat, reduceCtorEq]
    refine seqM ?_
    obtain ⟨r1, e2, H⟩ := Option.bind_eq_some_iff.1 H
    refine rg ct55_0t0_ok ?_
    simp only [go_sem, Nat.reduceLeDiff, Nat.reduceLT, Nat.reduceAdd, Nat.reduceMul, Nat.reduceSub, Nat.reduceEqDiff, Nat.reduceBEq, Int.reduceToNat, reduceCtorEq, ct55_0t0_93, body93_0, e2]
    repeat ((with_reducible refine And.intro ?_ ?_); focus (first | (with_reducible trivial) | omega | (and_intros <;> first | (with_reducible trivial) | omega | assumption | exact nfc | first | exact rfl | exact trivial | exact fitI | exact Or.inr rfl | exact Or.inl rfl | exact fun x hx => absurd hx (by omega) | (intro x hx; (repeat (first | (and_intros <;> (first | exact rfl | exact trivial | exact fitI | exact Or.inr rfl | exact Or.inl rfl | exact fun x hx => absurd hx (by omega))) | (exfalso; omega) | (rcases x with _ | x))); done)) | grind))
    refine seqM ?_
    refine sq ctNo_ok ?_
    simp only [go_sem, Nat.reduceLeDiff, Nat.reduceLT, Nat.reduceAdd, Nat.reduceMul, Nat.reduceSub, Nat.reduceEqDiff, Nat.reduceBEq, Int.reduceToNat, reduceCtorEq]
    refine condM rfl trivial (fun hc => ?_) (fun hc => ?_)
    · replace H := cond_t hc H
      refine sq ctNo_ok ?_
      simp only [go_sem, Nat.reduceLeDiff, Nat.reduceLT, Nat.reduceAdd, Nat.reduceMul, Nat.reduceSub, Nat.reduceEqDiff, Nat.reduceBEq, Int.reduceToNat, reduceCtorEq]
      refine rg ctNo_ok ?_
      simp only [go_sem, Nat.reduceLeDiff, Nat.reduceLT, Nat.reduceAdd, Nat.reduceMul, Nat.reduceSub, Nat.reduceEqDiff, Nat.reduceBEq, Int.reduceToNat, reduceCtorEq]
      obtain rfl := Option.some.inj H
      refine RetE_mk [] [some 0, some 0] ?_ ?_ ?_ ?_ (by rfl) (by rfl)
      · simp only [List.length_cons, List.length_nil, Nat.zero_mul, Nat.add_zero, fzV, fzL, fzOb, fzObL, fzH, fzHF, fzB, fzObB, fzObH, inL, rowOb, geth, cond_true, cond_false, Bool.or_false, Bool.or_true, Bool.false_or, Bool.true_or, and_self, true_and, and_true, Nat.reduceEqDiff, Nat.reduceBEq, beq_self_eq_true, sub_enR0, Nat.reduceAdd, Nat.zero_add, Nat.le_refl, List.nil_append]
        try (and_intros <;> first | trivial | omega | exact nfc)
      · simp only [List.length_cons, List.length_nil, Nat.zero_mul, Nat.add_zero, fzV, fzL, fzOb, fzObL, fzH, fzHF, fzB, fzObB, fzObH, inL, rowOb, geth, cond_true, cond_false, Bool.or_false, Bool.or_true, Bool.false_or, Bool.true_or, and_self, true_and, and_true, Nat.reduceEqDiff, Nat.reduceBEq, beq_self_eq_true, sub_enR0, Nat.reduceAdd, Nat.zero_add, Nat.le_refl, List.nil_append]
        try (and_intros <;> first | trivial | omega | exact nfc)
      · simp only [List.length_cons, List.length_nil, Nat.zero_mul, Nat.add_zero, fzV, fzL, fzOb, fzObL, fzH, fzHF, fzB, fzObB, fzObH, inL, rowOb, geth, cond_true, cond_false, Bool.or_false, Bool.or_true, Bool.false_or, Bool.true_or, and_self, true_and, and_true, Nat.reduceEqDiff, Nat.reduceBEq, beq_self_eq_true, sub_enR0, Nat.reduceAdd, Nat.zero_add, Nat.le_refl, List.nil_append]
        exact (by simp [Cv, CvL, getM, gt_some])
      · simp only [List.length_cons, List.length_nil, Nat.zero_mul, Nat.add_zero, fzV, fzL, fzOb, fzObL, fzH, fzHF, fzB, fzObB, fzObH, inL, rowOb, geth, cond_true, cond_false, Bool.or_false, Bool.or_true, Bool.false_or, Bool.true_or, and_self, true_and, and_true, Nat.reduceEqDiff, Nat.reduceBEq, beq_self_eq_true, sub_enR0, Nat.reduceAdd, Nat.zero_add, Nat.le_refl, List.nil_append, CvH, gt_some, Option.isSome_some, Option.isSome_none]
        first | exact ⟨CvB_dead, CvB_row nr_TRegulateBlock (by first | rfl | simp) (fun _ _ _ _ => rfl)⟩ | trivial
    replace H := cond_f hc H
    refine rg ctNo_ok ?_
    simp only [go_sem, Nat.reduceLeDiff, Nat.reduceLT, Nat.reduceAdd, Nat.reduceMul, Nat.reduceSub, Nat.reduceEqDiff, Nat.reduceBEq, Int.reduceToNat, reduceCtorEq]
    refine seqM ?_
    refine sq ctNo_ok ?_
    simp only [go_sem, Nat.reduceLeDiff, Nat.reduceLT, Nat.reduceAdd, Nat.reduceMul, Nat.reduceSub, Nat.reduceEqDiff, Nat.reduceBEq, Int.reduceToNat, reduceCtorEq]
    refine blkM ?_
    refine loop_den (fun s : (List TRegulateBlock) × Int × Int => (.sl 1 2 0 s.1.length false :: .fn 56 [.rptr 1 1 0 0 (enR c_i64 [p1])] :: .top :: .top :: .top :: .int .i64 s.2.1 :: .int .i64 s.2.2 :: .top :: .top :: .top :: .top :: .top :: .top :: .top :: .top :: .top :: .top :: .top :: .top :: .top :: .top :: .top :: .top :: .top :: .top :: .top :: .top :: .top :: .top :: .top :: .top :: .top :: .top :: .top :: .top :: .top :: .top :: .top :: .top :: .top :: .top :: .top :: [])) (fun s => [.dead, .row 79 2 s.1.length (enR c_TRegulateBlock s.1)]) (fun e : (List TRegulateBlock) × Int => (.sl 1 2 0 e.1.length false :: .top :: .top :: .top :: .top :: .int .i64 e.2 :: .top :: .top :: .top :: .top :: .top :: .top :: .top :: .top :: .top :: .top :: .top :: .top :: .top :: .top :: .top :: .top :: .top :: .top :: .top :: .top :: .top :: .top :: .top :: .top :: .top :: .top :: .top :: .top :: .top :: .top :: .top :: .top :: .top :: .top :: .top :: .top :: [])) (fun e => [.dead, .row 79 2 e.1.length (enR c_TRegulateBlock e.1)]) H ?_ (fun s o H hn1_1 hn2_1 => ?_) (fun e H => ?_)
    · refine SubF_of ⟨[some 0, some 0], ?_, ?_, by rfl, by rfl⟩
      · simp [CvL, Cv, getM]
      · exact ⟨CvB_dead, CvB_row nr_TRegulateBlock (by first | rfl | simp) (fun _ _ _ _ => rfl), trivial⟩
    · obtain ⟨v1_1, v1_2, v1_3⟩ := s
      unfold F55_0_L1 at H
      try dsimp only at H ⊢
      refine seqM ?_
      refine sq ctNo_ok ?_
      simp only [go_sem, Nat.reduceLeDiff, Nat.reduceLT, Nat.reduceAdd, Nat.reduceMul, Nat.reduceSub, Nat.reduceEqDiff, Nat.reduceBEq, Int.reduceToNat, reduceCtorEq]
      repeat ((with_reducible refine And.intro ?_ ?_); focus (first | (with_reducible trivial) | omega | (and_intros <;> first | (with_reducible trivial) | omega | assumption | exact nfc | first | exact rfl | exact trivial | exact fitI | exact Or.inr rfl | exact Or.inl rfl | exact fun x hx => absurd hx (by omega) | (intro x hx; (repeat (first | (and_intros <;> (first | exact rfl | exact trivial | exact fitI | exact Or.inr rfl | exact Or.inl rfl | exact fun x hx => absurd hx (by omega))) | (exfalso; omega) | (rcases x with _ | x))); done)) | grind))
      refine condM' rfl trivial (fun hc => ?_) (fun hc => ?_)
      · replace H := cond_f hc H
        refine rg ctNo_ok ?_
        simp only [go_sem, Nat.reduceLeDiff, Nat.reduceLT, Nat.reduceAdd, Nat.reduceMul, Nat.reduceSub, Nat.reduceEqDiff, Nat.reduceBEq, Int.reduceToNat, reduceCtorEq]
        refine ⟨_, (Option.some.inj H).symm, ?_⟩
        refine SubF_of ⟨[some 0, some 1], ?_, ?_, by rfl, by rfl⟩
        · simp [CvL, Cv, getM]
        · exact ⟨CvB_dead, CvB_row nr_TRegulateBlock (by first | rfl | simp) (fun _ _ _ _ => rfl), trivial⟩
      replace H := cond_t hc H
      refine rg ctNo_ok ?_
      simp only [go_sem, Nat.reduceLeDiff, Nat.reduceLT, Nat.reduceAdd, Nat.reduceMul, Nat.reduceSub, Nat.reduceEqDiff, Nat.reduceBEq, Int.reduceToNat, reduceCtorEq]
      refine seqM ?_
      refine blkM ?_
      refine seqM ?_
      obtain ⟨f3, H⟩ := need_some.1 H
      replace f3 := inb_iff.1 f3
      refine rg ctNo_ok ?_
      simp only [go_sem, Nat.reduceLeDiff, Nat.reduceLT, Nat.reduceAdd, Nat.reduceMul, Nat.reduceSub, Nat.reduceEqDiff, Nat.reduceBEq, Int.reduceToNat, reduceCtorEq, f3]
      repeat ((with_reducible refine And.intro ?_ ?_); focus (first | (with_reducible trivial) | omega | grind))
      refine seqM ?_
      obtain ⟨r4, e5, H⟩ := Option.bind_eq_some_iff.1 H
      refine rg ct55_0t1_ok ?_
      simp only [go_sem, Nat.reduceLeDiff, Nat.reduceLT, Nat.reduceAdd, Nat.reduceMul, Nat.reduceSub, Nat.reduceEqDiff, Nat.reduceBEq, Int.reduceToNat, reduceCtorEq, ct55_0t1_56, body56_0, e5]
      repeat ((with_reducible refine And.intro ?_ ?_); focus (first | (with_reducible trivial) | omega | (and_intros <;> first | (with_reducible trivial) | omega | assumption | exact nfc | first | exact rfl | exact trivial | exact fitI | exact Or.inr rfl | exact Or.inl rfl | exact fun x hx => absurd hx (by omega) | (intro x hx; (repeat (first | (and_intros <;> (first | exact rfl | exact trivial | exact fitI | exact Or.inr rfl | exact Or.inl rfl | exact fun x hx => absurd hx (by omega))) | (exfalso; omega) | (rcases x with _ | x))); done)) | grind))
      refine condM' rfl trivial (fun hc => ?_) (fun hc => ?_)
      · replace H := cond_f hc H
        refine rg ctNo_ok ?_
        simp only [go_sem, Nat.reduceLeDiff, Nat.reduceLT, Nat.reduceAdd, Nat.reduceMul, Nat.reduceSub, Nat.reduceEqDiff, Nat.reduceBEq, Int.reduceToNat, reduceCtorEq]
        refine rg ctNo_ok ?_
        simp only [go_sem, Nat.reduceLeDiff, Nat.reduceLT, Nat.reduceAdd, Nat.reduceMul, Nat.reduceSub, Nat.reduceEqDiff, Nat.reduceBEq, Int.reduceToNat, reduceCtorEq]
        refine ⟨_, (Option.some.inj H).symm, ?_⟩
        refine SubF_of ⟨[some 0, some 1], ?_, ?_, by rfl, by rfl⟩
        · simp [CvL, Cv, getM]
        · exact ⟨CvB_dead, CvB_row nr_TRegulateBlock (by first | rfl | simp) (fun _ _ _ _ => rfl), trivial⟩
      replace H := cond_t hc H
      refine seqM ?_
      obtain ⟨f6, H⟩ := need_some.1 H
      replace f6 := inb_iff.1 f6
      refine rg ctNo_ok ?_
      simp only [go_sem, Nat.reduceLeDiff, Nat.reduceLT, Nat.reduceAdd, Nat.reduceMul, Nat.reduceSub, Nat.reduceEqDiff, Nat.reduceBEq, Int.reduceToNat, reduceCtorEq, f6]
      repeat ((with_reducible refine And.intro ?_ ?_); focus (first | (with_reducible trivial) | omega | grind))
      refine rg ctNo_ok ?_
      simp only [go_sem, Nat.reduceLeDiff, Nat.reduceLT, Nat.reduceAdd, Nat.reduceMul, Nat.reduceSub, Nat.reduceEqDiff, Nat.reduceBEq, Int.reduceToNat, reduceCtorEq]
      refine rg ctNo_ok ?_
      simp only [go_sem, Nat.reduceLeDiff, Nat.reduceLT, Nat.reduceAdd, Nat.reduceMul, Nat.reduceSub, Nat.reduceEqDiff, Nat.reduceBEq, Int.reduceToNat, reduceCtorEq]
      refine ⟨_, (Option.some.inj H).symm, ?_⟩
      refine SubF_of ⟨[some 0, some 1], ?_, ?_, by rfl, by rfl⟩
      · simp [CvL, Cv, getM]
      · exact ⟨CvB_dead, CvB_row nr_TRegulateBlock (by first | rfl | simp) (upc_row (f := c_TRegulateBlock) v1_1 v1_2.toNat 0 (gd v1_1 v1_3.toNat) (fun _ _ _ _ => rfl) (fun y hy => match y, hy with | 0, _ => rfl | 1, _ => rfl | (y+2), h => absurd h (by omega))), trivial⟩
    · obtain ⟨w1_4, w1_5⟩ := e
      try dsimp only at H ⊢
      try simp only [m_normal, k_normal, b_normal, kL_normal, r_normal]
      refine seqM ?_
      obtain ⟨f7, H⟩ := need_some.1 H
      replace f7 := slb_iff.1 f7
      refine rg ctNo_ok ?_
      simp only [go_sem, Nat.reduceLeDiff, Nat.reduceLT, Nat.reduceAdd, Nat.reduceMul, Nat.reduceSub, Nat.reduceEqDiff, Nat.reduceBEq, Int.reduceToNat, reduceCtorEq, f7]
      repeat ((with_reducible refine And.intro ?_ ?_); focus (first | (with_reducible trivial) | omega | (and_intros <;> first | (with_reducible trivial) | omega | assumption | exact nfc | first | exact rfl | exact trivial | exact fitI | exact Or.inr rfl | exact Or.inl rfl | exact fun x hx => absurd hx (by omega) | (intro x hx; (repeat (first | (and_intros <;> (first | exact rfl | exact trivial | exact fitI | exact Or.inr rfl | exact Or.inl rfl | exact fun x hx => absurd hx (by omega))) | (exfalso; omega) | (rcases x with _ | x))); done)) | grind))
      refine seqM ?_
      obtain ⟨f8, H⟩ := need_some.1 H
      replace f8 := slb_iff.1 f8
      refine rg ctNo_ok ?_
      simp only [go_sem, Nat.reduceLeDiff, Nat.reduceLT, Nat.reduceAdd, Nat.reduceMul, Nat.reduceSub, Nat.reduceEqDiff, Nat.reduceBEq, Int.reduceToNat, reduceCtorEq, f8]
      repeat ((with_reducible refine And.intro ?_ ?_); focus (first | (with_reducible trivial) | omega | grind))
      refine rg ctNo_ok ?_
      simp only [go_sem, Nat.reduceLeDiff, Nat.reduceLT, Nat.reduceAdd, Nat.reduceMul, Nat.reduceSub, Nat.reduceEqDiff, Nat.reduceBEq, Int.reduceToNat, reduceCtorEq]
      obtain rfl := Option.some.inj H
      refine RetE_mk [] [some 0, some 1] ?_ ?_ ?_ ?_ (by rfl) (by rfl)
      · simp only [List.length_cons, List.length_nil, Nat.zero_mul, Nat.add_zero, fzV, fzL, fzOb, fzObL, fzH, fzHF, fzB, fzObB, fzObH, inL, rowOb, geth, cond_true, cond_false, Bool.or_false, Bool.or_true, Bool.false_or, Bool.true_or, and_self, true_and, and_true, Nat.reduceEqDiff, Nat.reduceBEq, beq_self_eq_true, sub_enR0, Nat.reduceAdd, Nat.zero_add, Nat.le_refl, List.nil_append]
        try (and_intros <;> first | trivial | omega | exact nfc)
      · simp only [List.length_cons, List.length_nil, Nat.zero_mul, Nat.add_zero, fzV, fzL, fzOb, fzObL, fzH, fzHF, fzB, fzObB, fzObH, inL, rowOb, geth, cond_true, cond_false, Bool.or_false, Bool.or_true, Bool.false_or, Bool.true_or, and_self, true_and, and_true, Nat.reduceEqDiff, Nat.reduceBEq, beq_self_eq_true, sub_enR0, Nat.reduceAdd, Nat.zero_add, Nat.le_refl, List.nil_append]
        try (and_intros <;> first | trivial | omega | exact nfc)
      · simp only [List.length_cons, List.length_nil, Nat.zero_mul, Nat.add_zero, fzV, fzL, fzOb, fzObL, fzH, fzHF, fzB, fzObB, fzObH, inL, rowOb, geth, cond_true, cond_false, Bool.or_false, Bool.or_true, Bool.false_or, Bool.true_or, and_self, true_and, and_true, Nat.reduceEqDiff, Nat.reduceBEq, beq_self_eq_true, sub_enR0, Nat.reduceAdd, Nat.zero_add, Nat.le_refl, List.nil_append]
        exact (by simp [Cv, CvL, getM, gt_some, (show (List.take w1_5.toNat w1_4).length = w1_5.toNat from take_len (n := w1_4.length) (by first | rfl | simp) (by omega))])
      · simp only [List.length_cons, List.length_nil, Nat.zero_mul, Nat.add_zero, fzV, fzL, fzOb, fzObL, fzH, fzHF, fzB, fzObB, fzObH, inL, rowOb, geth, cond_true, cond_false, Bool.or_false, Bool.or_true, Bool.false_or, Bool.true_or, and_self, true_and, and_true, Nat.reduceEqDiff, Nat.reduceBEq, beq_self_eq_true, sub_enR0, Nat.reduceAdd, Nat.zero_add, Nat.le_refl, List.nil_append, CvH, gt_some, Option.isSome_some, Option.isSome_none]
        first | exact ⟨CvB_dead, (CvB_pre nr_TRegulateBlock (by rw [show (List.take w1_5.toNat w1_4).length = w1_5.toNat from take_len (n := w1_4.length) (by first | rfl | simp) (by omega)]; omega) (clr_row (fun _ _ _ _ => rfl)))⟩ | trivial
  · cases hb
end Go.Proofs.Ytjhkehdbjnhplaa
