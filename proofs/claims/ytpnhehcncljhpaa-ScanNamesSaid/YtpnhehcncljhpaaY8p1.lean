/-
  What ScanNames reaches.
-/
import Derived.Test.YtpnhehcncljhpaaB
namespace Go.Proofs.Ytpnhehcncljhpaa
open Go.Am
set_option linter.unusedVariables false
set_option linter.unusedSimpArgs false
attribute [go_sem] w_skip w_label w_goto w_scope k_goto b_goto l_goto s_normal s_exit s_ret s_goto w_region w_draw w_seq w_cond w_block w_exit w_ret w_loop k_normal k_exit k_ret b_normal b_exit b_ret l_normal l_exit l_ret m_normal m_exit m_ret m_goto kL_normal kL_exit kL_ret kJ_normal kJ_exit kJ_ret kS_normal kS_exit kS_ret kS_goto r_normal r_ret o_nil o_cons q_nil q_cons nxt gval gvd gvl gvw dstOf evO ogOp ogC og ogL ogP ogO rho rhoO strip optOk getL setL setT absC absV absL pO hO evLoad ldB geth seth evStore stRes stB evBox evAlloc evFieldAddr evField evIndexAddr evBin2 binI binB binNR binU nilR_isEmpty nilR_t nilR_0 nilR_s evInt evStr evUn evConv cvO evPick mrg evExtract evNil evCall mapR evBuiltin evLen2 vcells vcOk atom tabF cnd retK resFin resL resA resC resCons evBuild evBuildP placeS placeA fillA fillOk putL getP nxtQ pureC_eq pureR genC_eq genR roV roL roOb roObL roW roWL roWOb roWObL nref nrefL binA binN eqSh eqRes evIndex evIndex2 evIndexS evSlice evSlice2 evSliceS evBound evConv2 cvS evAppend appRes srcOf evMake evBuildSlice repL evFn evMin evMax freshC freshR sub_enR0 evClear evClearR evCopy evCopyR lenS cutS Bool.or_false Bool.false_or Bool.or_true Bool.true_or Bool.and_false Bool.false_and Option.map_some Option.map_none Option.getD_some Option.getD_none Option.bind_some Option.bind_none Option.or_some Option.or_none Option.none_or Option.isSome_none Option.isNone_none Option.isNone_some List.nil_append List.cons_append List.append_nil cond_true cond_false List.length_cons List.length_nil beq_self_eq_true Bool.and_true Bool.true_and Bool.not_true Bool.not_false true_and and_true and_self true_implies implies_true ne_eq not_false_eq_true Bool.false_eq_true Bool.true_eq_false false_implies Nat.lt_irrefl Nat.le_refl Nat.succ_ne_self imp_self Bool.cond_false_right Bool.cond_true_left decide_true decide_false Bool.not_eq_true' Bool.not_eq_false' Bool.not_not Nat.zero_mul Nat.zero_add Nat.add_zero Nat.mul_one Nat.one_mul Bool.cond_self tsz3 tby3 tagg3 tslice3 tarr3 tzero3 tzn3 tplaces3 tint3 tstr3 tnoint3 tbool3 tany3 tintk3 tbytes3 tsz4 tby4 tagg4 tslice4 tarr4 tzero4 tzn4 tplaces4 tint4 tstr4 tnoint4 tbool4 tany4 tintk4 tbytes4 tsz5 tby5 tagg5 tslice5 tarr5 tzero5 tzn5 tplaces5 tint5 tstr5 tnoint5 tbool5 tany5 tintk5 tbytes5 tsz9 tby9 tagg9 tslice9 tarr9 tzero9 tzn9 tplaces9 tint9 tstr9 tnoint9 tbool9 tany9 tintk9 tbytes9 tsz22 tby22 tagg22 tslice22 tarr22 tzero22 tzn22 tplaces22 tint22 tstr22 tnoint22 tbool22 tany22 tintk22 tbytes22 tsz23 tby23 tagg23 tslice23 tarr23 tzero23 tzn23 tplaces23 tint23 tstr23 tnoint23 tbool23 tany23 tintk23 tbytes23 tsz25 tby25 tagg25 tslice25 tarr25 tzero25 tzn25 tplaces25 tint25 tstr25 tnoint25 tbool25 tany25 tintk25 tbytes25 tsz26 tby26 tagg26 tslice26 tarr26 tzero26 tzn26 tplaces26 tint26 tstr26 tnoint26 tbool26 tany26 tintk26 tbytes26 tsz35 tby35 tagg35 tslice35 tarr35 tzero35 tzn35 tplaces35 tint35 tstr35 tnoint35 tbool35 tany35 tintk35 tbytes35 tsz37 tby37 tagg37 tslice37 tarr37 tzero37 tzn37 tplaces37 tint37 tstr37 tnoint37 tbool37 tany37 tintk37 tbytes37 tfld37_0 tfld37_1 tfld37_2 tfld37_3 tsz39 tby39 tagg39 tslice39 tarr39 tzero39 tzn39 tplaces39 tint39 tstr39 tnoint39 tbool39 tany39 tintk39 tbytes39 tsz41 tby41 tagg41 tslice41 tarr41 tzero41 tzn41 tplaces41 tint41 tstr41 tnoint41 tbool41 tany41 tintk41 tbytes41 tfld41_0 tsz43 tby43 tagg43 tslice43 tarr43 tzero43 tzn43 tplaces43 tint43 tstr43 tnoint43 tbool43 tany43 tintk43 tbytes43 tsz44 tby44 tagg44 tslice44 tarr44 tzero44 tzn44 tplaces44 tint44 tstr44 tnoint44 tbool44 tany44 tintk44 tbytes44 tsz45 tby45 tagg45 tslice45 tarr45 tzero45 tzn45 tplaces45 tint45 tstr45 tnoint45 tbool45 tany45 tintk45 tbytes45 tsz47 tby47 tagg47 tslice47 tarr47 tzero47 tzn47 tplaces47 tint47 tstr47 tnoint47 tbool47 tany47 tintk47 tbytes47 tfld47_0 tfld47_1 tfld47_2 tfld47_3 tsz52 tby52 tagg52 tslice52 tarr52 tzero52 tzn52 tplaces52 tint52 tstr52 tnoint52 tbool52 tany52 tintk52 tbytes52 tfld52_0 tfld52_1 tfld52_2 tfld52_3 tfld52_4 tfld52_5 tfld52_6 tfld52_7 tsz59 tby59 tagg59 tslice59 tarr59 tzero59 tzn59 tplaces59 tint59 tstr59 tnoint59 tbool59 tany59 tintk59 tbytes59 tfld59_0 tfld59_1 tfld59_2 tfld59_3 tsz65 tby65 tagg65 tslice65 tarr65 tzero65 tzn65 tplaces65 tint65 tstr65 tnoint65 tbool65 tany65 tintk65 tbytes65 tfld65_0 tfld65_1 tfld65_2 tfld65_3 tsz74 tby74 tagg74 tslice74 tarr74 tzero74 tzn74 tplaces74 tint74 tstr74 tnoint74 tbool74 tany74 tintk74 tbytes74 tsz79 tby79 tagg79 tslice79 tarr79 tzero79 tzn79 tplaces79 tint79 tstr79 tnoint79 tbool79 tany79 tintk79 tbytes79 tsz81 tby81 tagg81 tslice81 tarr81 tzero81 tzn81 tplaces81 tint81 tstr81 tnoint81 tbool81 tany81 tintk81 tbytes81 tsz88 tby88 tagg88 tslice88 tarr88 tzero88 tzn88 tplaces88 tint88 tstr88 tnoint88 tbool88 tany88 tintk88 tbytes88 tsz94 tby94 tagg94 tslice94 tarr94 tzero94 tzn94 tplaces94 tint94 tstr94 tnoint94 tbool94 tany94 tintk94 tbytes94 tsz95 tby95 tagg95 tslice95 tarr95 tzero95 tzn95 tplaces95 tint95 tstr95 tnoint95 tbool95 tany95 tintk95 tbytes95 e_u8_0 fit_u8 de_u8 g_u8 k_u8 e_i64_0 fit_i64 de_i64 g_i64 k_i64 e_b_0 fit_b de_b g_b k_b e_s_0 fit_s de_s g_s k_s e_li64_0 fit_li64 de_li64 g_li64 k_li64 e_lu8_0 fit_lu8 de_lu8 g_lu8 k_lu8 e_U4_0 e_U4_1 e_U4_2 e_U4_3 fit_U4 de_U4 g_U4 k_U4 e_lU4_0 fit_lU4 de_lU4 g_lU4 k_lU4 e_TElement_0 e_TElement_1 e_TElement_2 e_TElement_3 fit_TElement de_TElement g_TElement k_TElement eta_TElement e_lTElement_0 fit_lTElement de_lTElement g_lTElement k_lTElement e_TVisit_0 e_TVisit_1 e_TVisit_2 e_TVisit_3 fit_TVisit de_TVisit g_TVisit k_TVisit eta_TVisit e_lTVisit_0 fit_lTVisit de_lTVisit g_lTVisit k_lTVisit e_A6u8_0 e_A6u8_1 e_A6u8_2 e_A6u8_3 e_A6u8_4 e_A6u8_5 fit_A6u8 de_A6u8 g_A6u8 k_A6u8 eta_A6u8 e_TCandidate_0 e_TCandidate_1 e_TCandidate_2 e_TCandidate_3 e_TCandidate_4 e_TCandidate_5 e_TCandidate_6 e_TCandidate_7 e_TCandidate_8 e_TCandidate_9 e_TCandidate_10 e_TCandidate_11 e_TCandidate_12 fit_TCandidate de_TCandidate g_TCandidate k_TCandidate eta_TCandidate e_lTCandidate_0 fit_lTCandidate de_lTCandidate g_lTCandidate k_lTCandidate e_TCandidates_0 fit_TCandidates de_TCandidates g_TCandidates k_TCandidates eta_TCandidates e_u64_0 fit_u64 de_u64 g_u64 k_u64 e_u16_0 fit_u16 de_u16 g_u16 k_u16 e_TBeacon_0 e_TBeacon_1 e_TBeacon_2 e_TBeacon_3 fit_TBeacon de_TBeacon g_TBeacon k_TBeacon eta_TBeacon e_TWanted_0 e_TWanted_1 e_TWanted_2 e_TWanted_3 fit_TWanted de_TWanted g_TWanted k_TWanted eta_TWanted deR_0 deR_1 deR_2 deR_3 deR_4 deR_5 deR_6 deR_7 deR_8 deR_9 deR_10 deR_11 deR_12 litC_x0 litC_x1 litC_x2 litC_x3 litC_x4 litC_x5 litC_x6 litC_x7 litC_x8 litC_x9 litC_x10 litC_x11 strE_u8 Fit_0 Option.isSome_some gt_some gd_one evCopyL evLookup mapC_nil tabR sub_enR List.drop_zero xrD xoD roEq minL rK rM rG aL aK iK bK sK lK iA bA sA lA or_true true_or Int.toNat_natCast shT_43 shT_52 shT_59 shT_65 Int.toNat_zero Int.cast_ofNat_Int aLs roD roDOb deadL edC edR nodupB rnm rnmL rnmB rnmH rnm_bif rnmB_bif putH dropH rhoN ptB slN litL celL pK isLit oS isRow inL fzV fzL fzOb fzObL fzH fzHF fzB fzObB fzObH rowOb getL_tpg setL_tpg ite_true ite_false fzL_tpg fzObL_tpg renL_tpg refsL_tpg nrL_tpg fzL_t8 fzObL_t8 g8_0 s8_0 g8_1 s8_1 g8_2 s8_2 g8_3 s8_3 g8_4 s8_4 g8_5 s8_5 g8_6 s8_6 g8_7 s8_7 g8_8 s8_8
theorem an0 {A : Prop} (a : A := by first | (and_intros <;> first | (with_reducible trivial) | omega | assumption | exact nfc | first | exact rfl | exact trivial | exact fitI | exact .inr rfl | exact .inl rfl | exact fun x hx => absurd hx (by omega)) | grind) : A := a
theorem an1 {A : Prop} (a : A := by first | (with_reducible trivial) | omega | (intro g; and_intros <;> first | (with_reducible trivial) | assumption | exact nfc | (intro g2; rw [g, g2]; rfl) | (intro g2; assumption) | (simp only [g, Bool.true_and, Bool.and_true, Bool.not_false, Bool.not_true]; assumption) | grind) | (and_intros <;> first | (with_reducible trivial) | omega | assumption | exact nfc | first | exact rfl | exact trivial | exact fitI | exact .inr rfl | exact .inl rfl | exact fun x hx => absurd hx (by omega) | (intro x hx; (repeat (first | (and_intros <;> (first | exact rfl | exact trivial | exact fitI | exact .inr rfl | exact .inl rfl | exact fun x hx => absurd hx (by omega))) | (exfalso; omega) | (rcases x with _ | x))); done)) | grind) : A := a
theorem an2 {A : Prop} (a : A := by first | (and_intros <;> first | (with_reducible trivial) | omega | assumption | exact nfc | first | exact rfl | exact trivial | exact fitI | exact .inr rfl | exact .inl rfl | exact fun x hx => absurd hx (by omega) | (intro x hx; (repeat (first | (and_intros <;> (first | exact rfl | exact trivial | exact fitI | exact .inr rfl | exact .inl rfl | exact fun x hx => absurd hx (by omega))) | (exfalso; omega) | (rcases x with _ | x))); done)) | grind) : A := a
theorem an3 {A : Prop} (a : A := by first | (with_reducible trivial) | omega | grind) : A := a
theorem an4 {A : Prop} (a : A := by first | (and_intros <;> first | (with_reducible trivial) | omega | assumption | exact nfc | first | exact rfl | exact trivial | exact fitI | exact .inr rfl | exact .inl rfl | exact fun x hx => absurd hx (by omega) | (intro x hx; (repeat (first | (and_intros <;> (first | exact rfl | exact trivial | exact fitI | exact .inr rfl | exact .inl rfl | exact fun x hx => absurd hx (by omega))) | (exfalso; omega) | (rcases x with _ | x))); done) | (refine Fit_app ?_ ?_ <;> first | exact fitI | (intro x hx; (repeat (first | (and_intros <;> (first | exact rfl | exact trivial | exact fitI | exact .inr rfl | exact .inl rfl | exact fun x hx => absurd hx (by omega))) | (exfalso; omega) | (rcases x with _ | x))); done) | (refine Fit_app ?_ ?_ <;> first | exact fitI | (intro x hx; (repeat (first | (and_intros <;> (first | exact rfl | exact trivial | exact fitI | exact .inr rfl | exact .inl rfl | exact fun x hx => absurd hx (by omega))) | (exfalso; omega) | (rcases x with _ | x))); done)))) | grind) : A := a
theorem an5 {A : Prop} (a : A := by and_intros <;> first | (with_reducible trivial) | (show anB _ _ _ = true; subst han; kernel_rfl) | (show (anB _ _ _ && _) = true; subst han; kernel_rfl) | omega | assumption | exact nrc | exact nfc | first | exact rfl | exact trivial | exact fitI | exact .inr rfl | exact .inl rfl | exact fun x hx => absurd hx (by omega) | (intro x hx; (repeat (first | (and_intros <;> (first | exact rfl | exact trivial | exact fitI | exact .inr rfl | exact .inl rfl | exact fun x hx => absurd hx (by omega))) | (exfalso; omega) | (rcases x with _ | x))); done) | exact Fit_rep (kc_TCandidate (TCandidate.mk (A6u8.mk 0 0 0 0 0 0) 0 0 0 0 0 (ByteArray.mk #[]) false))) : A := a
theorem an6 {A : Prop} (a : A := by first | (with_reducible trivial) | omega | (intro g; and_intros <;> first | (with_reducible trivial) | assumption | exact nfc | (intro g2; rw [g, g2]; rfl) | (intro g2; assumption) | (simp only [g, Bool.true_and, Bool.and_true, Bool.not_false, Bool.not_true]; assumption) | grind) | (and_intros <;> first | (with_reducible trivial) | omega | assumption | exact nfc | first | exact rfl | exact trivial | exact fitI | exact .inr rfl | exact .inl rfl | exact fun x hx => absurd hx (by omega)) | grind) : A := a
theorem an7 {A : Prop} (a : A := by and_intros <;> first | (with_reducible trivial) | (show anB _ _ _ = true; subst han; kernel_rfl) | (show (anB _ _ _ && _) = true; subst han; kernel_rfl) | omega | assumption | exact nrc | exact nfc | first | exact rfl | exact trivial | exact fitI | exact .inr rfl | exact .inl rfl | exact fun x hx => absurd hx (by omega)) : A := a
theorem at0 {A : Prop} (a : A := by and_intros <;> first | (with_reducible trivial) | omega | exact nfc | trivial) : A := a
theorem cv {A : Prop} (a : A := by simp [CvB, CvL, Cv, blkAt, geth, getM]) : A := a
theorem cl {A : Prop} (a : A := by first | rfl | (simp; done) | (simp; omega)) : A := a
/-! hotspot/scan.in -/
noncomputable def F29 (p0 : Int) (p1 : Int) (p2 : Int) : Option (Bool) :=
  some ((bLe p1 p0) && (bLe p0 p2))
noncomputable def body29 : List AV -> AR
  | [v0, v1, v2] => .pure (iK .i64 v0 /\ iK .i64 v1 /\ iK .i64 v2 /\ (F29 (iA v0) (iA v1) (iA v2)).isSome = true) (.bool (gt (F29 (iA v0) (iA v1) (iA v2))))
  | _ => .fail
set_option maxHeartbeats 4000000 in
set_option maxRecDepth 20000 in
theorem ok29 : FnOk Try.prog 29 (pureC body29) := by
  refine pure_fnM body29 (rs := [.tmp 6]) Try.func29 (by kernel_rfl) rfl rfl ?_
  intro l ob v hb hob
  unfold body29 at hb
  split at hb
  · rename_i v0 v1 v2
    injection hb with q1 q2; subst q1 q2
    obtain ⟨hk0_0, hk1_0, hk2_0, hob⟩ := hob
    obtain ⟨r, H⟩ := Option.isSome_iff_exists.1 hob
    rw [H, gt_some]
    have hw0 := iK_wk hk0_0
    have hw1 := iK_wk hk1_0
    have hw2 := iK_wk hk2_0
    generalize iA v0 = p0 at H hw0
    generalize iA v1 = p1 at H hw1
    generalize iA v2 = p2 at H hw2
    refine ⟨[.int .i64 p0, .int .i64 p1, .int .i64 p2], _, (fun E vs F => FR_wk1 hw0.1 F (fun vs F => FR_wk1 hw1.1 F (fun vs F => FR_wk1 hw2.1 F (fun vs F => F)))), rfl, rfl, ?_⟩
    rw [Try.ntmps29]
    simp only [List.length_cons, List.length_nil, Nat.reduceAdd, Nat.reduceSub, List.replicate_succ, List.replicate_zero, List.cons_append, List.nil_append]
    unfold F29 at H
    try dsimp only at H
    refine sq ctNo_ok ?_
    simp only [go_sem, Nat.reduceLeDiff, Nat.reduceLT, Nat.reduceAdd, Nat.reduceMul, Nat.reduceSub, Nat.reduceEqDiff, Nat.reduceBEq, Int.reduceToNat, reduceCtorEq]
    refine sq ctNo_ok ?_
    simp only [go_sem, Nat.reduceLeDiff, Nat.reduceLT, Nat.reduceAdd, Nat.reduceMul, Nat.reduceSub, Nat.reduceEqDiff, Nat.reduceBEq, Int.reduceToNat, reduceCtorEq]
    repeat ((with_reducible refine And.intro ?_ ?_); focus exact an3)
    refine rg ctNo_ok ?_
    simp only [go_sem, Nat.reduceLeDiff, Nat.reduceLT, Nat.reduceAdd, Nat.reduceMul, Nat.reduceSub, Nat.reduceEqDiff, Nat.reduceBEq, Int.reduceToNat, reduceCtorEq]
    obtain rfl := Option.some.inj H
    first | rfl | simp only [Bool.and_false, Bool.false_and, Bool.and_true, Bool.true_and]
  · cases hb
/-! hotspot/scan.Plan$1 -/
noncomputable def ct28t0 : Ct := tab [(29, pureC body29)]
theorem ct28t0_ok : CtOk Try.prog ct28t0 := tab_cons ok29 <| tab_nil
theorem ct28t0_29 (l : List AV) (h : List ABlk) : ct28t0 29 l h = pureC body29 l h := rfl
noncomputable def F28 (p0 : Int) : Option (Bool) :=
  (F29 p0 1 64).bind fun r1 => some (!r1)
noncomputable def body28 : List AV -> AR
  | [v0] => .pure (iK .i64 v0 /\ (F28 (iA v0)).isSome = true) (.bool (gt (F28 (iA v0))))
  | _ => .fail
set_option maxHeartbeats 4000000 in
set_option maxRecDepth 20000 in
theorem ok28 : FnOk Try.prog 28 (pureC body28) := by
  refine pure_fnM body28 (rs := [.tmp 2]) Try.func28 (by kernel_rfl) rfl rfl ?_
  intro l ob v hb hob
  unfold body28 at hb
  split at hb
  · rename_i v0
    injection hb with q1 q2; subst q1 q2
    obtain ⟨hk0_0, hob⟩ := hob
    obtain ⟨r, H⟩ := Option.isSome_iff_exists.1 hob
    rw [H, gt_some]
    have hw0 := iK_wk hk0_0
    generalize iA v0 = p0 at H hw0
    refine ⟨[.int .i64 p0], _, (fun E vs F => FR_wk1 hw0.1 F (fun vs F => F)), rfl, rfl, ?_⟩
    rw [Try.ntmps28]
    simp only [List.length_cons, List.length_nil, Nat.reduceAdd, Nat.reduceSub, List.replicate_succ, List.replicate_zero, List.cons_append, List.nil_append]
    unfold F28 at H
    try dsimp only at H
    refine sq ctNo_ok ?_
    simp only [go_sem, Nat.reduceLeDiff, Nat.reduceLT, Nat.reduceAdd, Nat.reduceMul, Nat.reduceSub, Nat.reduceEqDiff, Nat.reduceBEq, Int.reduceToNat, reduceCtorEq]
    refine seqM ?_
    obtain ⟨r1, e2, H⟩ := bsi H
    refine rg ct28t0_ok ?_
    simp only [go_sem, Nat.reduceLeDiff, Nat.reduceLT, Nat.reduceAdd, Nat.reduceMul, Nat.reduceSub, Nat.reduceEqDiff, Nat.reduceBEq, Int.reduceToNat, reduceCtorEq, ct28t0_29, body29, e2]
    repeat ((with_reducible refine And.intro ?_ ?_); focus exact an0)
    refine rg ctNo_ok ?_
    simp only [go_sem, Nat.reduceLeDiff, Nat.reduceLT, Nat.reduceAdd, Nat.reduceMul, Nat.reduceSub, Nat.reduceEqDiff, Nat.reduceBEq, Int.reduceToNat, reduceCtorEq]
    obtain rfl := Option.some.inj H
    first | rfl | simp only [Bool.and_false, Bool.false_and, Bool.and_true, Bool.true_and]
  · cases hb
/-! slices.IndexFunc[[]int,int] -/
noncomputable def ct50_0t0 : Ct := tab [(28, pureC body28)]
theorem ct50_0t0_ok : CtOk Try.prog ct50_0t0 := tab_cons ok28 <| tab_nil
theorem ct50_0t0_28 (l : List AV) (h : List ABlk) : ct50_0t0 28 l h = pureC body28 l h := rfl
noncomputable def F50_0_L1 (p0 : List Int) (v1_1 : Int) : Option (Lp (Int) ((Unit) ⊕ (Int))) :=
  bif (bLt v1_1 (p0.length : Nat)) then (need (inb v1_1 p0.length) <| (F28 (gd p0 v1_1.toNat)).bind fun r3 => bif r3 then (some (.done (.inr v1_1))) else (some (.next (wr .i64 (v1_1 + 1))))) else (some (.done (.inl ())))
noncomputable def F50_0 (p0 : List Int) : Option (Int) :=
  lp (loopD (fun s => F50_0_L1 p0 s) 0) (fun _ => some (-1)) some
noncomputable def body50_0 : List AV -> AR
  | [v0, .fn 28 []] => .pure (lK k_i64 1 v0 /\ (F50_0 (lA g_i64 v0)).isSome = true) (.int .i64 (gt (F50_0 (lA g_i64 v0))))
  | _ => .fail
set_option maxHeartbeats 4000000 in
set_option maxRecDepth 20000 in
theorem ok50_0 : FnOk Try.prog 50 (pureC body50_0) := by
  refine pure_fnM body50_0 (rs := [.tmp 4]) Try.func50 (by kernel_rfl) rfl rfl ?_
  intro l ob v hb hob
  unfold body50_0 at hb
  split at hb
  · rename_i v0
    injection hb with q1 q2; subst q1 q2
    obtain ⟨hk0_0, hob⟩ := hob
    obtain ⟨r, H⟩ := Option.isSome_iff_exists.1 hob
    rw [H, gt_some]
    have hw0 := lK_wk (fun r h => w_i64 h) hk0_0
    generalize lA g_i64 v0 = p0 at H hw0
    refine ⟨[.ro 1 p0.length false (enR c_i64 p0), .fn 28 []], _, (fun E vs F => FR_wk1 hw0.1 F (fun vs F => FR_wk1 (fn_wk LW_nil) F (fun vs F => F))), rfl, rfl, ?_⟩
    rw [Try.ntmps50]
    simp only [List.length_cons, List.length_nil, Nat.reduceAdd, Nat.reduceSub, List.replicate_succ, List.replicate_zero, List.cons_append, List.nil_append]
    unfold F50_0 at H
    try dsimp only at H
    refine sq ctNo_ok ?_
    simp only [go_sem, Nat.reduceLeDiff, Nat.reduceLT, Nat.reduceAdd, Nat.reduceMul, Nat.reduceSub, Nat.reduceEqDiff, Nat.reduceBEq, Int.reduceToNat, reduceCtorEq]
    refine seqM ?_
    refine sq ctNo_ok ?_
    simp only [go_sem, Nat.reduceLeDiff, Nat.reduceLT, Nat.reduceAdd, Nat.reduceMul, Nat.reduceSub, Nat.reduceEqDiff, Nat.reduceBEq, Int.reduceToNat, reduceCtorEq]
    repeat ((with_reducible refine And.intro ?_ ?_); focus exact an0)
    refine blkM ?_
    refine loop_den (fun s : Int => (.ro 1 p0.length false (enR c_i64 p0) :: .fn 28 [] :: tp 5 (.int .i64 (p0.length : Nat) :: .int .i64 s :: tp 10 []))) (fun s => []) (fun e : Unit => (tp 19 [])) (fun e => []) H ?_ (fun v1_1 o H hn1_1 hn2_1 => ?_) (fun e H => ?_)
    · refine SubF_of ⟨[], ?_, ?_, by rfl, by rfl⟩
      · simp [CvL, Cv, getM, tp, tp, tpg, t8]
      · trivial
    · unfold F50_0_L1 at H
      try dsimp only at H ⊢
      try simp only [tp]
      refine sq ctNo_ok ?_
      simp only [go_sem, Nat.reduceLeDiff, Nat.reduceLT, Nat.reduceAdd, Nat.reduceMul, Nat.reduceSub, Nat.reduceEqDiff, Nat.reduceBEq, Int.reduceToNat, reduceCtorEq]
      refine seqM ?_
      refine condM' rfl trivial (fun hc => ?_) (fun hc => ?_)
      · have hk1 : (bLt v1_1 (p0.length : Nat)) = false := by simpa using hc
        replace H := cond_f hc H
        refine rg ctNo_ok ?_
        simp only [go_sem, Nat.reduceLeDiff, Nat.reduceLT, Nat.reduceAdd, Nat.reduceMul, Nat.reduceSub, Nat.reduceEqDiff, Nat.reduceBEq, Int.reduceToNat, reduceCtorEq]
        refine ⟨_, (Option.some.inj H).symm, ?_⟩
        refine SubF_of ⟨[], ?_, ?_, by rfl, by rfl⟩
        · simp [CvL, Cv, getM, tp, tp, tpg, t8]
        · trivial
      have hk1 : (bLt v1_1 (p0.length : Nat)) = true := by simpa using hc
      replace H := cond_t hc H
      refine rg ctNo_ok ?_
      simp only [go_sem, Nat.reduceLeDiff, Nat.reduceLT, Nat.reduceAdd, Nat.reduceMul, Nat.reduceSub, Nat.reduceEqDiff, Nat.reduceBEq, Int.reduceToNat, reduceCtorEq]
      refine seqM ?_
      refine blkM ?_
      refine sq ctNo_ok ?_
      simp only [go_sem, Nat.reduceLeDiff, Nat.reduceLT, Nat.reduceAdd, Nat.reduceMul, Nat.reduceSub, Nat.reduceEqDiff, Nat.reduceBEq, Int.reduceToNat, reduceCtorEq]
      refine seqM ?_
      obtain ⟨f2, H⟩ := need_some.1 H
      replace f2 := inb_iff.1 f2
      obtain ⟨r3, e4, H⟩ := bsi H
      refine rg ct50_0t0_ok ?_
      simp only [go_sem, Nat.reduceLeDiff, Nat.reduceLT, Nat.reduceAdd, Nat.reduceMul, Nat.reduceSub, Nat.reduceEqDiff, Nat.reduceBEq, Int.reduceToNat, reduceCtorEq, ct50_0t0_28, body28, f2, e4]
      repeat ((with_reducible refine And.intro ?_ ?_); focus exact an0)
      refine condM rfl trivial (fun hc => ?_) (fun hc => ?_)
      · have hk5 : (r3) = true := by simpa using hc
        replace H := cond_t hc H
        refine sq ctNo_ok ?_
        simp only [go_sem, Nat.reduceLeDiff, Nat.reduceLT, Nat.reduceAdd, Nat.reduceMul, Nat.reduceSub, Nat.reduceEqDiff, Nat.reduceBEq, Int.reduceToNat, reduceCtorEq]
        refine rg ctNo_ok ?_
        simp only [go_sem, Nat.reduceLeDiff, Nat.reduceLT, Nat.reduceAdd, Nat.reduceMul, Nat.reduceSub, Nat.reduceEqDiff, Nat.reduceBEq, Int.reduceToNat, reduceCtorEq]
        have H := hn2_1 _ (Option.some.inj H).symm
        obtain rfl := Option.some.inj H
        first | rfl | simp only [Bool.and_false, Bool.false_and, Bool.and_true, Bool.true_and]
      have hk5 : (r3) = false := by simpa using hc
      replace H := cond_f hc H
      refine rg ctNo_ok ?_
      simp only [go_sem, Nat.reduceLeDiff, Nat.reduceLT, Nat.reduceAdd, Nat.reduceMul, Nat.reduceSub, Nat.reduceEqDiff, Nat.reduceBEq, Int.reduceToNat, reduceCtorEq]
      refine rg ctNo_ok ?_
      simp only [go_sem, Nat.reduceLeDiff, Nat.reduceLT, Nat.reduceAdd, Nat.reduceMul, Nat.reduceSub, Nat.reduceEqDiff, Nat.reduceBEq, Int.reduceToNat, reduceCtorEq]
      refine ⟨_, (Option.some.inj H).symm, ?_⟩
      refine SubF_of ⟨[], ?_, ?_, by rfl, by rfl⟩
      · simp [CvL, Cv, getM, tp, tp, tpg, t8]
      · trivial
    · try dsimp only at H ⊢
      try simp only [tp]
      try simp only [m_normal, k_normal, b_normal, kL_normal, r_normal]
      refine sq ctNo_ok ?_
      simp only [go_sem, Nat.reduceLeDiff, Nat.reduceLT, Nat.reduceAdd, Nat.reduceMul, Nat.reduceSub, Nat.reduceEqDiff, Nat.reduceBEq, Int.reduceToNat, reduceCtorEq]
      refine rg ctNo_ok ?_
      simp only [go_sem, Nat.reduceLeDiff, Nat.reduceLT, Nat.reduceAdd, Nat.reduceMul, Nat.reduceSub, Nat.reduceEqDiff, Nat.reduceBEq, Int.reduceToNat, reduceCtorEq]
      obtain rfl := Option.some.inj H
      first | rfl | simp only [Bool.and_false, Bool.false_and, Bool.and_true, Bool.true_and]
  · cases hb
/-! slices.ContainsFunc[[]int,int] -/
noncomputable def ct30_0t0 : Ct := tab [(50, pureC body50_0)]
theorem ct30_0t0_ok : CtOk Try.prog ct30_0t0 := tab_cons ok50_0 <| tab_nil
theorem ct30_0t0_50 (l : List AV) (h : List ABlk) : ct30_0t0 50 l h = pureC body50_0 l h := rfl
noncomputable def F30_0 (p0 : List Int) : Option (Bool) :=
  (F50_0 p0).bind fun r1 => some (bLe 0 r1)
noncomputable def body30_0 : List AV -> AR
  | [v0, .fn 28 []] => .pure (lK k_i64 1 v0 /\ (F30_0 (lA g_i64 v0)).isSome = true) (.bool (gt (F30_0 (lA g_i64 v0))))
  | _ => .fail
set_option maxHeartbeats 4000000 in
set_option maxRecDepth 20000 in
theorem ok30_0 : FnOk Try.prog 30 (pureC body30_0) := by
  refine pure_fnM body30_0 (rs := [.tmp 4]) Try.func30 (by kernel_rfl) rfl rfl ?_
  intro l ob v hb hob
  unfold body30_0 at hb
  split at hb
  · rename_i v0
    injection hb with q1 q2; subst q1 q2
    obtain ⟨hk0_0, hob⟩ := hob
    obtain ⟨r, H⟩ := Option.isSome_iff_exists.1 hob
    rw [H, gt_some]
    have hw0 := lK_wk (fun r h => w_i64 h) hk0_0
    generalize lA g_i64 v0 = p0 at H hw0
    refine ⟨[.ro 1 p0.length false (enR c_i64 p0), .fn 28 []], _, (fun E vs F => FR_wk1 hw0.1 F (fun vs F => FR_wk1 (fn_wk LW_nil) F (fun vs F => F))), rfl, rfl, ?_⟩
    rw [Try.ntmps30]
    simp only [List.length_cons, List.length_nil, Nat.reduceAdd, Nat.reduceSub, List.replicate_succ, List.replicate_zero, List.cons_append, List.nil_append]
    unfold F30_0 at H
    try dsimp only at H
    refine sq ctNo_ok ?_
    simp only [go_sem, Nat.reduceLeDiff, Nat.reduceLT, Nat.reduceAdd, Nat.reduceMul, Nat.reduceSub, Nat.reduceEqDiff, Nat.reduceBEq, Int.reduceToNat, reduceCtorEq]
    refine seqM ?_
    obtain ⟨r1, e2, H⟩ := bsi H
    refine rg ct30_0t0_ok ?_
    simp only [go_sem, Nat.reduceLeDiff, Nat.reduceLT, Nat.reduceAdd, Nat.reduceMul, Nat.reduceSub, Nat.reduceEqDiff, Nat.reduceBEq, Int.reduceToNat, reduceCtorEq, ct30_0t0_50, body50_0, e2]
    repeat ((with_reducible refine And.intro ?_ ?_); focus exact an0)
    refine rg ctNo_ok ?_
    simp only [go_sem, Nat.reduceLeDiff, Nat.reduceLT, Nat.reduceAdd, Nat.reduceMul, Nat.reduceSub, Nat.reduceEqDiff, Nat.reduceBEq, Int.reduceToNat, reduceCtorEq]
    obtain rfl := Option.some.inj H
    first | rfl | simp only [Bool.and_false, Bool.false_and, Bool.and_true, Bool.true_and]
  · cases hb
/-! hotspot/scan.Plan -/
noncomputable def ct10t0 : Ct := tab [(29, pureC body29), (30, pureC body30_0)]
theorem ct10t0_ok : CtOk Try.prog ct10t0 := tab_cons ok29 <| tab_cons ok30_0 <| tab_nil
theorem ct10t0_29 (l : List AV) (h : List ABlk) : ct10t0 29 l h = pureC body29 l h := rfl
theorem ct10t0_30 (l : List AV) (h : List ABlk) : ct10t0 30 l h = pureC body30_0 l h := rfl
noncomputable def F10_L1 (p0 : List Int) (p2 : Int) (p3 : Bool) (v1_1 : Int) (v1_2 : List TVisit) (v1_3 : Int) : Option (Lp (Int × (List TVisit) × Int) ((List TVisit) ⊕ ((List TVisit) × Int))) :=
  bif (bLt v1_3 (p0.length : Nat)) then (need (inb v1_3 p0.length) <| need (capb 32 (v1_2.length + 1)) <| some (.next (wr .i64 (v1_1 + p2), (v1_2 ++ [(TVisit.mk (gd p0 v1_3.toNat) v1_1 (wr .i64 (v1_1 + p2)) p3)]), wr .i64 (v1_3 + 1)))) else (some (.done (.inl v1_2)))
noncomputable def F10 (p0 : List Int) (p1 : Int) (p2 : Int) (p3 : Bool) : Option ((List TVisit) × Int) :=
  (F30_0 p0).bind fun r1 => need (bif (!r1) then ((F29 p1 0 1099511627776).isSome) else true) <| need (bif (!(r1 || (!(gt (F29 p1 0 1099511627776))))) then ((F29 p2 1 1000000).isSome) else true) <| bif ((r1 || (!(gt (F29 p1 0 1099511627776)))) || (!(gt (F29 p2 1 1000000)))) then (some ([], 2)) else (bif (bLt 64 (p0.length : Nat)) then (some ([], 4)) else (lp (loopD (fun s => F10_L1 p0 p2 p3 s.1 s.2.1 s.2.2) (p1, [], 0)) (fun w1_4 => some (w1_4, 0)) some))
noncomputable def body10 : List AV -> List ABlk -> ED
  | [v0, v1, v2, v3], h => .ed [] (lK k_i64 1 (roD (deadL h []) v0) /\ roDOb (deadL h []) v0 /\ iK .i64 (roD (deadL h []) v1) /\ roDOb (deadL h []) v1 /\ iK .i64 (roD (deadL h []) v2) /\ roDOb (deadL h []) v2 /\ bK (roD (deadL h []) v3) /\ roDOb (deadL h []) v3 /\ (F10 (lA g_i64 (roD (deadL h []) v0)) (iA (roD (deadL h []) v1)) (iA (roD (deadL h []) v2)) (bA (roD (deadL h []) v3))).isSome = true) (.tup [.sl 0 4 0 (((gt (F10 (lA g_i64 (roD (deadL h []) v0)) (iA (roD (deadL h []) v1)) (iA (roD (deadL h []) v2)) (bA (roD (deadL h []) v3)))).1).length) false, .int .i64 ((gt (F10 (lA g_i64 (roD (deadL h []) v0)) (iA (roD (deadL h []) v1)) (iA (roD (deadL h []) v2)) (bA (roD (deadL h []) v3)))).2)]) [.row 65 4 (((gt (F10 (lA g_i64 (roD (deadL h []) v0)) (iA (roD (deadL h []) v1)) (iA (roD (deadL h []) v2)) (bA (roD (deadL h []) v3)))).1).length) (enR c_TVisit ((gt (F10 (lA g_i64 (roD (deadL h []) v0)) (iA (roD (deadL h []) v1)) (iA (roD (deadL h []) v2)) (bA (roD (deadL h []) v3)))).1))]
  | _, _ => .fail
set_option maxHeartbeats 4000000 in
set_option maxRecDepth 20000 in
theorem ok10 : FnOk Try.prog 10 (edC body10) := by
  refine edit_fnV body10 (rs := [.tmp 8, .tmp 9]) Try.func10 (by kernel_rfl) rfl rfl ?_
  intro l h bs ob q0 g0 hb hob
  unfold body10 at hb
  split at hb
  · rename_i v0 v1 v2 v3
    injection hb with q1 q2 q3 q4; subst q1 q2 q3 q4
    obtain ⟨hk0_0, hk0_1, hk1_0, hk1_1, hk2_0, hk2_1, hk3_0, hk3_1, hob⟩ := hob
    obtain ⟨r, H⟩ := Option.isSome_iff_exists.1 hob
    rw [H, gt_some]
    have hw0 := lK_wk (fun r h => w_i64 h) hk0_0
    obtain ⟨p0, hp_p0⟩ : ∃ p0, p0 = lA g_i64 (roD (deadL h []) v0) := ⟨_, rfl⟩
    rw [← hp_p0] at H hw0
    have hw1 := iK_wk hk1_0
    obtain ⟨p1, hp_p1⟩ : ∃ p1, p1 = iA (roD (deadL h []) v1) := ⟨_, rfl⟩
    rw [← hp_p1] at H hw1
    have hw2 := iK_wk hk2_0
    obtain ⟨p2, hp_p2⟩ : ∃ p2, p2 = iA (roD (deadL h []) v2) := ⟨_, rfl⟩
    rw [← hp_p2] at H hw2
    have hw3 := bK_wk hk3_0
    obtain ⟨p3, hp_p3⟩ : ∃ p3, p3 = bA (roD (deadL h []) v3) := ⟨_, rfl⟩
    rw [← hp_p3] at H hw3
    refine ⟨[.ro 1 p0.length false (enR c_i64 p0), .int .i64 p1, .int .i64 p2, .bool p3], [], rfl, ⟨(EW_view hk0_1 hw0), ⟨(EW_view hk1_1 hw1), ⟨(EW_view hk2_1 hw2), ⟨(EW_view hk3_1 hw3), trivial⟩⟩⟩⟩, trivial, trivial, ⟨(nfB_en nr_TVisit), trivial⟩, ⟨noroB_en, trivial⟩, (by first | (simp only [noro, noroL, and_self]; done) | (simp only [noro, noroL]; and_intros <;> first | trivial | exact noro_bif (by simp only [noro]) (by simp only [noro]) | (simp only [noro, noroL, and_self]))), ?_⟩
    rw [Try.ntmps10]
    simp only [List.length_cons, List.length_nil, Nat.reduceAdd, Nat.reduceSub, List.replicate_succ, List.replicate_zero, List.cons_append, List.nil_append]
    unfold F10 at H
    try dsimp only at H
    refine sq ctNo_ok ?_
    simp only [go_sem, Nat.reduceLeDiff, Nat.reduceLT, Nat.reduceAdd, Nat.reduceMul, Nat.reduceSub, Nat.reduceEqDiff, Nat.reduceBEq, Int.reduceToNat, reduceCtorEq]
    refine sq ctNo_ok ?_
    simp only [go_sem, Nat.reduceLeDiff, Nat.reduceLT, Nat.reduceAdd, Nat.reduceMul, Nat.reduceSub, Nat.reduceEqDiff, Nat.reduceBEq, Int.reduceToNat, reduceCtorEq]
    refine seqM ?_
    refine seqM ?_
    obtain ⟨r1, e2, H⟩ := bsi H
    obtain ⟨f3, H⟩ := need_some.1 H
    replace f3 := g_iff.1 f3
    obtain ⟨f4, H⟩ := need_some.1 H
    replace f4 := g_iff.1 f4
    refine rg ct10t0_ok ?_
    simp only [go_sem, Nat.reduceLeDiff, Nat.reduceLT, Nat.reduceAdd, Nat.reduceMul, Nat.reduceSub, Nat.reduceEqDiff, Nat.reduceBEq, Int.reduceToNat, reduceCtorEq, ct10t0_29, body29, ct10t0_30, body30_0, e2]
    repeat ((with_reducible refine And.intro ?_ ?_); focus (first | (with_reducible trivial) | omega | exact f3 | exact f4 | (intro g; have q := f3 (by first | exact g | (rw [g]; rfl) | simpa using g); first | exact q | exact ⟨q.1, q.2.1⟩ | exact q.2.2 | omega | exact ⟨g, q⟩ | exact ⟨trivial, q⟩ | exact ⟨g, q.1, q.2.1⟩ | exact ⟨g, q.2.2⟩) | (intro g; have q := f4 (by first | exact g | (rw [g]; rfl) | simpa using g); first | exact q | exact ⟨q.1, q.2.1⟩ | exact q.2.2 | omega | exact ⟨g, q⟩ | exact ⟨trivial, q⟩ | exact ⟨g, q.1, q.2.1⟩ | exact ⟨g, q.2.2⟩) | (intro g; (try have q0 := f3 (by first | exact g | (rw [g]; rfl) | simpa using g)); (try have q1 := f4 (by first | exact g | (rw [g]; rfl) | simpa using g)); and_intros <;> first | (with_reducible trivial) | assumption | exact nfc | (intro g2; rw [g, g2]; rfl) | (intro g2; assumption) | (simp only [g, Bool.true_and, Bool.and_true, Bool.not_false, Bool.not_true]; assumption) | grind) | (and_intros <;> first | (with_reducible trivial) | omega | assumption | exact nfc | first | exact rfl | exact trivial | exact fitI | exact .inr rfl | exact .inl rfl | exact fun x hx => absurd hx (by omega)) | grind))
    refine condM rfl trivial (fun hc => ?_) (fun hc => ?_)
    · have hk5 : ((r1 || (!(gt (F29 p1 0 1099511627776)))) || (!(gt (F29 p2 1 1000000)))) = true := by simpa using hc
      replace H := cond_t hc H
      refine sq ctNo_ok ?_
      simp only [go_sem, Nat.reduceLeDiff, Nat.reduceLT, Nat.reduceAdd, Nat.reduceMul, Nat.reduceSub, Nat.reduceEqDiff, Nat.reduceBEq, Int.reduceToNat, reduceCtorEq]
      refine rg ctNo_ok ?_
      simp only [go_sem, Nat.reduceLeDiff, Nat.reduceLT, Nat.reduceAdd, Nat.reduceMul, Nat.reduceSub, Nat.reduceEqDiff, Nat.reduceBEq, Int.reduceToNat, reduceCtorEq]
      obtain rfl := Option.some.inj H
      refine RetE_mk [] [none] ?_ ?_ ?_ ?_ (by rfl) (by rfl)
      · simp only [go_sem, Nat.reduceEqDiff, Nat.reduceBEq, Nat.reduceAdd]
        try exact at0
      · simp only [go_sem, Nat.reduceEqDiff, Nat.reduceBEq, Nat.reduceAdd]
        try exact at0
      · simp only [go_sem, Nat.reduceEqDiff, Nat.reduceBEq, Nat.reduceAdd]
        exact Cv_tup (CvL_cons (by first | (simp [Cv, CvL, getM, gt_some]; done) | (simp [Cv, CvL, getM, gt_some]; omega)) (CvL_cons (by simp [Cv, CvL, getM, gt_some]) CvL_nil))
      · simp only [go_sem, Nat.reduceEqDiff, Nat.reduceBEq, Nat.reduceAdd, CvH, gt_some, Option.isSome_some, Option.isSome_none]
        exact CvB_none
    have hk5 : ((r1 || (!(gt (F29 p1 0 1099511627776)))) || (!(gt (F29 p2 1 1000000)))) = false := by simpa using hc
    replace H := cond_f hc H
    refine rg ctNo_ok ?_
    simp only [go_sem, Nat.reduceLeDiff, Nat.reduceLT, Nat.reduceAdd, Nat.reduceMul, Nat.reduceSub, Nat.reduceEqDiff, Nat.reduceBEq, Int.reduceToNat, reduceCtorEq]
    refine seqM ?_
    refine sq ctNo_ok ?_
    simp only [go_sem, Nat.reduceLeDiff, Nat.reduceLT, Nat.reduceAdd, Nat.reduceMul, Nat.reduceSub, Nat.reduceEqDiff, Nat.reduceBEq, Int.reduceToNat, reduceCtorEq]
    repeat ((with_reducible refine And.intro ?_ ?_); focus exact an0)
    refine condM rfl trivial (fun hc => ?_) (fun hc => ?_)
    · have hk6 : (bLt 64 (p0.length : Nat)) = true := by simpa using hc
      replace H := cond_t hc H
      refine sq ctNo_ok ?_
      simp only [go_sem, Nat.reduceLeDiff, Nat.reduceLT, Nat.reduceAdd, Nat.reduceMul, Nat.reduceSub, Nat.reduceEqDiff, Nat.reduceBEq, Int.reduceToNat, reduceCtorEq]
      refine rg ctNo_ok ?_
      simp only [go_sem, Nat.reduceLeDiff, Nat.reduceLT, Nat.reduceAdd, Nat.reduceMul, Nat.reduceSub, Nat.reduceEqDiff, Nat.reduceBEq, Int.reduceToNat, reduceCtorEq]
      obtain rfl := Option.some.inj H
      refine RetE_mk [] [none] ?_ ?_ ?_ ?_ (by rfl) (by rfl)
      · simp only [go_sem, Nat.reduceEqDiff, Nat.reduceBEq, Nat.reduceAdd]
        try exact at0
      · simp only [go_sem, Nat.reduceEqDiff, Nat.reduceBEq, Nat.reduceAdd]
        try exact at0
      · simp only [go_sem, Nat.reduceEqDiff, Nat.reduceBEq, Nat.reduceAdd]
        exact Cv_tup (CvL_cons (by first | (simp [Cv, CvL, getM, gt_some]; done) | (simp [Cv, CvL, getM, gt_some]; omega)) (CvL_cons (by simp [Cv, CvL, getM, gt_some]) CvL_nil))
      · simp only [go_sem, Nat.reduceEqDiff, Nat.reduceBEq, Nat.reduceAdd, CvH, gt_some, Option.isSome_some, Option.isSome_none]
        exact CvB_none
    have hk6 : (bLt 64 (p0.length : Nat)) = false := by simpa using hc
    replace H := cond_f hc H
    refine rg ctNo_ok ?_
    simp only [go_sem, Nat.reduceLeDiff, Nat.reduceLT, Nat.reduceAdd, Nat.reduceMul, Nat.reduceSub, Nat.reduceEqDiff, Nat.reduceBEq, Int.reduceToNat, reduceCtorEq]
    refine seqM ?_
    refine sq ctNo_ok ?_
    simp only [go_sem, Nat.reduceLeDiff, Nat.reduceLT, Nat.reduceAdd, Nat.reduceMul, Nat.reduceSub, Nat.reduceEqDiff, Nat.reduceBEq, Int.reduceToNat, reduceCtorEq]
    repeat ((with_reducible refine And.intro ?_ ?_); focus exact an0)
    refine blkM ?_
    refine loop_den (fun s : Int × (List TVisit) × Int => (.top :: .int .i64 s.1 :: .int .i64 p2 :: .bool p3 :: tp 4 (.sl 0 4 0 s.2.1.length false :: tp 20 (.ro 1 p0.length false (enR c_i64 p0) :: .int .i64 (p0.length : Nat) :: .int .i64 s.2.2 :: tp 18 [])))) (fun s => [.row 65 4 s.2.1.length (enR c_TVisit s.2.1)]) (fun e : List TVisit => (tp 8 (.sl 0 4 0 e.length false :: tp 41 []))) (fun e => [.row 65 4 e.length (enR c_TVisit e)]) H ?_ (fun s o H hn1_1 hn2_1 => ?_) (fun w1_4 H => ?_)
    · refine SubF_of ⟨[none], ?_, ?_, by rfl, by rfl⟩
      · simp [CvL, Cv, getM, tp, tp, tpg, t8]
      · exact ⟨CvB_none, trivial⟩
    · obtain ⟨v1_1, v1_2, v1_3⟩ := s
      unfold F10_L1 at H
      try dsimp only at H ⊢
      try simp only [tp]
      refine sq ctNo_ok ?_
      simp only [go_sem, Nat.reduceLeDiff, Nat.reduceLT, Nat.reduceAdd, Nat.reduceMul, Nat.reduceSub, Nat.reduceEqDiff, Nat.reduceBEq, Int.reduceToNat, reduceCtorEq]
      refine seqM ?_
      refine condM' rfl trivial (fun hc => ?_) (fun hc => ?_)
      · have hk7 : (bLt v1_3 (p0.length : Nat)) = false := by simpa using hc
        replace H := cond_f hc H
        refine rg ctNo_ok ?_
        simp only [go_sem, Nat.reduceLeDiff, Nat.reduceLT, Nat.reduceAdd, Nat.reduceMul, Nat.reduceSub, Nat.reduceEqDiff, Nat.reduceBEq, Int.reduceToNat, reduceCtorEq]
        refine ⟨_, (Option.some.inj H).symm, ?_⟩
        refine SubF_of ⟨[some 0], ?_, ?_, by rfl, by rfl⟩
        · simp [CvL, Cv, getM, tp, tp, tpg, t8]
        · exact ⟨CvB_row nr_TVisit cl (fun _ _ _ _ => rfl), trivial⟩
      have hk7 : (bLt v1_3 (p0.length : Nat)) = true := by simpa using hc
      replace H := cond_t hc H
      refine rg ctNo_ok ?_
      simp only [go_sem, Nat.reduceLeDiff, Nat.reduceLT, Nat.reduceAdd, Nat.reduceMul, Nat.reduceSub, Nat.reduceEqDiff, Nat.reduceBEq, Int.reduceToNat, reduceCtorEq]
      refine seqM ?_
      refine blkM ?_
      refine seqM ?_
      obtain ⟨f8, H⟩ := need_some.1 H
      replace f8 := inb_iff.1 f8
      refine rg ctNo_ok ?_
      simp only [go_sem, Nat.reduceLeDiff, Nat.reduceLT, Nat.reduceAdd, Nat.reduceMul, Nat.reduceSub, Nat.reduceEqDiff, Nat.reduceBEq, Int.reduceToNat, reduceCtorEq, f8]
      repeat ((with_reducible refine And.intro ?_ ?_); focus exact an3)
      refine seqM ?_
      obtain ⟨f9, H⟩ := need_some.1 H
      replace f9 := capb_iff.1 f9
      refine rg ctNo_ok ?_
      simp only [go_sem, Nat.reduceLeDiff, Nat.reduceLT, Nat.reduceAdd, Nat.reduceMul, Nat.reduceSub, Nat.reduceEqDiff, Nat.reduceBEq, Int.reduceToNat, reduceCtorEq, f9]
      repeat ((with_reducible refine And.intro ?_ ?_); focus exact an4)
      refine rg ctNo_ok ?_
      simp only [go_sem, Nat.reduceLeDiff, Nat.reduceLT, Nat.reduceAdd, Nat.reduceMul, Nat.reduceSub, Nat.reduceEqDiff, Nat.reduceBEq, Int.reduceToNat, reduceCtorEq]
      refine rg ctNo_ok ?_
      simp only [go_sem, Nat.reduceLeDiff, Nat.reduceLT, Nat.reduceAdd, Nat.reduceMul, Nat.reduceSub, Nat.reduceEqDiff, Nat.reduceBEq, Int.reduceToNat, reduceCtorEq]
      refine ⟨_, (Option.some.inj H).symm, ?_⟩
      refine SubF_of ⟨[some 2], ?_, ?_, by rfl, by rfl⟩
      · simp [CvL, Cv, getM, tp, tp, tpg, t8]
      · exact ⟨CvB_row nr_TVisit cl (app_row (f := c_TVisit) v1_2 [(TVisit.mk (gd p0 v1_3.toNat) v1_1 (wr .i64 (v1_1 + p2)) p3)] (fun _ _ _ _ => rfl) (lit_row (f := c_TVisit) [(TVisit.mk (gd p0 v1_3.toNat) v1_1 (wr .i64 (v1_1 + p2)) p3)] (fun _ _ => rfl) rfl)), trivial⟩
    · try dsimp only at H ⊢
      try simp only [tp]
      try simp only [m_normal, k_normal, b_normal, kL_normal, r_normal]
      refine sq ctNo_ok ?_
      simp only [go_sem, Nat.reduceLeDiff, Nat.reduceLT, Nat.reduceAdd, Nat.reduceMul, Nat.reduceSub, Nat.reduceEqDiff, Nat.reduceBEq, Int.reduceToNat, reduceCtorEq]
      refine rg ctNo_ok ?_
      simp only [go_sem, Nat.reduceLeDiff, Nat.reduceLT, Nat.reduceAdd, Nat.reduceMul, Nat.reduceSub, Nat.reduceEqDiff, Nat.reduceBEq, Int.reduceToNat, reduceCtorEq]
      obtain rfl := Option.some.inj H
      refine RetE_mk [] [some 0] ?_ ?_ ?_ ?_ (by rfl) (by rfl)
      · simp only [go_sem, Nat.reduceEqDiff, Nat.reduceBEq, Nat.reduceAdd]
        try exact at0
      · simp only [go_sem, Nat.reduceEqDiff, Nat.reduceBEq, Nat.reduceAdd]
        try exact at0
      · simp only [go_sem, Nat.reduceEqDiff, Nat.reduceBEq, Nat.reduceAdd]
        exact Cv_tup (CvL_cons (by first | (simp [Cv, CvL, getM, gt_some]; done) | (simp [Cv, CvL, getM, gt_some]; omega)) (CvL_cons (by simp [Cv, CvL, getM, gt_some]) CvL_nil))
      · simp only [go_sem, Nat.reduceEqDiff, Nat.reduceBEq, Nat.reduceAdd, CvH, gt_some, Option.isSome_some, Option.isSome_none]
        exact CvB_row nr_TVisit cl (fun _ _ _ _ => rfl)
  · cases hb
/-! hotspot/scan.Probe -/
noncomputable def F12 (p0 : ByteArray) : Option ((List TElement) × Int) :=
  bif (bLt 32 (p0.size : Nat)) then (some ([], 2)) else (need (stb p0) <| some ([(TElement.mk 0 0 (bytesL p0) ([] : List Unit))], 0))
noncomputable def body12 : List AV -> Nat -> AR
  | [v0], _ => .pure (sK v0 /\ (F12 (sA v0)).isSome = true) (.tup [.ro 4 (((gt (F12 (sA v0))).1).length) false (enR c_TElement ((gt (F12 (sA v0))).1)), .int .i64 ((gt (F12 (sA v0))).2)])
  | _, _ => .fail
set_option maxHeartbeats 4000000 in
set_option maxRecDepth 20000 in
theorem ok12 : FnOk Try.prog 12 (genC body12) := by
  refine gen_fn body12 (rs := [.tmp 2, .tmp 3]) Try.func12 (by kernel_rfl) rfl rfl ?_
  intro l s ob v ns hb hob
  rcases hb with ⟨hb, rfl⟩ | hb
  · unfold body12 at hb
    split at hb
    · rename_i v0
      injection hb with q1 q2; subst q1 q2
      obtain ⟨hk0_0, hob⟩ := hob
      obtain ⟨r, H⟩ := Option.isSome_iff_exists.1 hob
      rw [H, gt_some]
      have hw0 := sK_wk hk0_0
      generalize sA v0 = p0 at H hw0
      refine ⟨[.str p0], .tup [.ro 4 r.1.length false (enR c_TElement r.1), .int .i64 r.2], [], (fun E vs F => FR_wk1 hw0.1 F (fun vs F => F)), by simp only [ren, renL], trivial, ?_⟩
      rw [Try.ntmps12]
      simp only [List.length_cons, List.length_nil, Nat.reduceAdd, Nat.reduceSub, List.replicate_succ, List.replicate_zero, List.cons_append, List.nil_append]
      unfold F12 at H
      try dsimp only at H
      refine sq ctNo_ok ?_
      simp only [go_sem, Nat.reduceLeDiff, Nat.reduceLT, Nat.reduceAdd, Nat.reduceMul, Nat.reduceSub, Nat.reduceEqDiff, Nat.reduceBEq, Int.reduceToNat, reduceCtorEq]
      refine seqM ?_
      refine sq ctNo_ok ?_
      simp only [go_sem, Nat.reduceLeDiff, Nat.reduceLT, Nat.reduceAdd, Nat.reduceMul, Nat.reduceSub, Nat.reduceEqDiff, Nat.reduceBEq, Int.reduceToNat, reduceCtorEq]
      repeat ((with_reducible refine And.intro ?_ ?_); focus exact an0)
      refine condM rfl trivial (fun hc => ?_) (fun hc => ?_)
      · have hk1 : (bLt 32 (p0.size : Nat)) = true := by simpa using hc
        replace H := cond_t hc H
        refine sq ctNo_ok ?_
        simp only [go_sem, Nat.reduceLeDiff, Nat.reduceLT, Nat.reduceAdd, Nat.reduceMul, Nat.reduceSub, Nat.reduceEqDiff, Nat.reduceBEq, Int.reduceToNat, reduceCtorEq]
        refine rg ctNo_ok ?_
        simp only [go_sem, Nat.reduceLeDiff, Nat.reduceLT, Nat.reduceAdd, Nat.reduceMul, Nat.reduceSub, Nat.reduceEqDiff, Nat.reduceBEq, Int.reduceToNat, reduceCtorEq]
        obtain rfl := Option.some.inj H
        refine ⟨[], ?_, ?_, [], ?_, ?_, rfl⟩
        · simp only [go_sem, Nat.reduceEqDiff, Nat.reduceBEq, Nat.reduceAdd]
          try exact at0
        · simp only [go_sem, Nat.reduceEqDiff, Nat.reduceBEq, Nat.reduceAdd]
          try exact at0
        · simp only [go_sem, Nat.reduceEqDiff, Nat.reduceBEq, Nat.reduceAdd]
          exact Cv_tup (CvL_cons (Cv_ronil (α := TElement)) (CvL_cons Cv_int CvL_nil))
        · simp only [go_sem, Nat.reduceEqDiff, Nat.reduceBEq, Nat.reduceAdd, CvH]
      have hk1 : (bLt 32 (p0.size : Nat)) = false := by simpa using hc
      replace H := cond_f hc H
      refine rg ctNo_ok ?_
      simp only [go_sem, Nat.reduceLeDiff, Nat.reduceLT, Nat.reduceAdd, Nat.reduceMul, Nat.reduceSub, Nat.reduceEqDiff, Nat.reduceBEq, Int.reduceToNat, reduceCtorEq]
      refine seqM ?_
      refine regO ?_
      obtain ⟨f2, H⟩ := need_some.1 H
      replace f2 := stb_iff.1 f2
      refine cutO shT_ok ctNo_ok 3 ?_
      simp only [kO_normal, List.take_succ_cons, List.take_zero, List.drop_succ_cons, List.drop_zero, go_sem, Nat.reduceLeDiff, Nat.reduceLT, Nat.reduceAdd, Nat.reduceMul, Nat.reduceSub, Nat.reduceEqDiff, Nat.reduceBEq, Int.reduceToNat, reduceCtorEq, f2]
      repeat ((with_reducible refine And.intro ?_ ?_); focus exact an3)
      refine subO (t2 := (.str p0 :: .top :: .ro 0 0 true (fun _ _ => .top) :: .int .i64 0 :: .str p0 :: .int .i64 (p0.size : Nat) :: .bool (bLt 32 (p0.size : Nat)) :: .str p0 :: .ro 1 ((bytesL p0).length) false (enR c_u8 (bytesL p0)) :: .agg [.int .u8 0, .int .u8 0, .ro 1 ((bytesL p0).length) false (enR c_u8 (bytesL p0)), .ro 4 (([] : List Unit).length) false (enR c_U4 ([] : List Unit))] :: .top :: [])) (h2 := []) ?_ ?_
      · refine SubF_of ⟨[], ?_, ?_, by rfl, by rfl⟩
        · simp [CvL, Cv, getM, tp, tpg, t8]
        · trivial
      refine cutO shT_ok ctNo_ok 3 ?_
      simp only [kO_normal, List.take_succ_cons, List.take_zero, List.drop_succ_cons, List.drop_zero, go_sem, Nat.reduceLeDiff, Nat.reduceLT, Nat.reduceAdd, Nat.reduceMul, Nat.reduceSub, Nat.reduceEqDiff, Nat.reduceBEq, Int.reduceToNat, reduceCtorEq]
      repeat ((with_reducible refine And.intro ?_ ?_); focus exact an3)
      refine endO ?_
      refine rg ctNo_ok ?_
      simp only [go_sem, Nat.reduceLeDiff, Nat.reduceLT, Nat.reduceAdd, Nat.reduceMul, Nat.reduceSub, Nat.reduceEqDiff, Nat.reduceBEq, Int.reduceToNat, reduceCtorEq]
      obtain rfl := Option.some.inj H
      refine ⟨[0], ?_, ?_, [], ?_, ?_, rfl⟩
      · simp only [go_sem, Nat.reduceEqDiff, Nat.reduceBEq, Nat.reduceAdd]
        try exact at0
      · simp only [go_sem, Nat.reduceEqDiff, Nat.reduceBEq, Nat.reduceAdd]
        try exact at0
      · simp only [go_sem, Nat.reduceEqDiff, Nat.reduceBEq, Nat.reduceAdd]
        exact Cv_tup (CvL_cons (ro_row (by first | rfl | simp) (lit_row (f := c_TElement) ([(TElement.mk 0 0 (bytesL p0) ([] : List Unit))]) (fun _ _ => rfl) rfl)) (CvL_cons Cv_int CvL_nil))
      · simp only [go_sem, Nat.reduceEqDiff, Nat.reduceBEq, Nat.reduceAdd, CvH]
    · cases hb
  · unfold body12 at hb
    split at hb <;> cases hb
/-! hotspot/hotspotlaw28.beacon -/
noncomputable def F27 (p0 : ByteArray) (p1 : Int) (p2 : Bool) : Option (TBeacon) :=
  (some ([120] : List Int)).bind fun w1 => need (stb p0) <| (some [p1]).bind fun w4 => bif p2 then (need (capb 56 4) <| some (TBeacon.mk 0 100 0 ([(TElement.mk 7 0 w1 ([] : List Unit)), (TElement.mk 0 0 (bytesL p0) ([] : List Unit)), (TElement.mk 11 0 w4 ([] : List Unit))] ++ [(TElement.mk 48 0 ([] : List Int) ([] : List Unit))]))) else (some (TBeacon.mk 0 100 0 ([(TElement.mk 7 0 w1 ([] : List Unit)), (TElement.mk 0 0 (bytesL p0) ([] : List Unit)), (TElement.mk 11 0 w4 ([] : List Unit))])))
noncomputable def body27 : List AV -> Nat -> AR
  | [v0, v1, v2], _ => .pure (sK v0 /\ iK .u8 v1 /\ bK v2 /\ (F27 (sA v0) (iA v1) (bA v2)).isSome = true) (.agg [.int .u64 ((gt (F27 (sA v0) (iA v1) (bA v2))).Time), .int .u16 ((gt (F27 (sA v0) (iA v1) (bA v2))).Interval), .int .u16 ((gt (F27 (sA v0) (iA v1) (bA v2))).Caps), .ro 4 (((gt (F27 (sA v0) (iA v1) (bA v2))).Elems).length) false (enR c_TElement ((gt (F27 (sA v0) (iA v1) (bA v2))).Elems))])
  | _, _ => .fail
set_option maxHeartbeats 4000000 in
set_option maxRecDepth 20000 in
theorem ok27 : FnOk Try.prog 27 (genC body27) := by
  refine gen_fn body27 (rs := [.cell 6 47]) Try.func27 (by kernel_rfl) rfl rfl ?_
  intro l s ob v ns hb hob
  rcases hb with ⟨hb, rfl⟩ | hb
  · unfold body27 at hb
    split at hb
    · rename_i v0 v1 v2
      injection hb with q1 q2; subst q1 q2
      obtain ⟨hk0_0, hk1_0, hk2_0, hob⟩ := hob
      obtain ⟨r, H⟩ := Option.isSome_iff_exists.1 hob
      rw [H, gt_some]
      have hw0 := sK_wk hk0_0
      have hw1 := iK_wk hk1_0
      have hw2 := bK_wk hk2_0
      generalize sA v0 = p0 at H hw0
      generalize iA v1 = p1 at H hw1
      generalize bA v2 = p2 at H hw2
      refine ⟨[.str p0, .int .u8 p1, .bool p2], .agg [.int .u64 r.Time, .int .u16 r.Interval, .int .u16 r.Caps, .ro 4 r.Elems.length false (enR c_TElement r.Elems)], [], (fun E vs F => FR_wk1 hw0.1 F (fun vs F => FR_wk1 hw1.1 F (fun vs F => FR_wk1 hw2.1 F (fun vs F => F)))), by simp only [ren, renL], trivial, ?_⟩
      rw [Try.ntmps27]
      simp only [List.length_cons, List.length_nil, Nat.reduceAdd, Nat.reduceSub, List.replicate_succ, List.replicate_zero, List.cons_append, List.nil_append]
      unfold F27 at H
      try dsimp only at H
      refine sq ctNo_ok ?_
      simp only [go_sem, Nat.reduceLeDiff, Nat.reduceLT, Nat.reduceAdd, Nat.reduceMul, Nat.reduceSub, Nat.reduceEqDiff, Nat.reduceBEq, Int.reduceToNat, reduceCtorEq]
      refine seqM ?_
      refine regO ?_
      refine cutO shT_ok ctNo_ok 0 ?_
      simp only [kO_normal, List.take_succ_cons, List.take_zero, List.drop_succ_cons, List.drop_zero, go_sem, Nat.reduceLeDiff, Nat.reduceLT, Nat.reduceAdd, Nat.reduceMul, Nat.reduceSub, Nat.reduceEqDiff, Nat.reduceBEq, Int.reduceToNat, reduceCtorEq]
      repeat ((with_reducible refine And.intro ?_ ?_); focus exact an3)
      obtain ⟨w1, hw2, H⟩ := bsi H
      replace hw2 := Option.some.inj hw2
      refine pairO (e := 5) (n := 1) (d1 := 8) (d2 := 9) (c := litC 1 [.int .u8 120]) (c' := enR c_u8 w1) (n' := w1.length) (ob := True) (v := .sl 1 1 0 1 false) rfl rfl rfl rfl rfl rfl (of_decide_eq_true (by kernel_rfl)) tbytes35 (by simp only [go_sem, Nat.reduceLeDiff, Nat.reduceLT, Nat.reduceAdd, Nat.reduceMul, Nat.reduceSub, Nat.reduceEqDiff, Nat.reduceBEq, Int.reduceToNat, reduceCtorEq]) (by simp only [go_sem, Nat.reduceLeDiff, Nat.reduceLT, Nat.reduceAdd, Nat.reduceMul, Nat.reduceSub, Nat.reduceEqDiff, Nat.reduceBEq, Int.reduceToNat, reduceCtorEq]) (fun x _ => nfR_lit (by simp only [nrefL, nref, and_self])) (by rw [← hw2]; rfl) (fun x y hx hy => by subst hw2; exact lit_row (f := c_u8) [120] (fun _ _ => rfl) rfl x y hx hy) ?_
      simp only [go_sem, Nat.reduceLeDiff, Nat.reduceLT, Nat.reduceAdd, Nat.reduceMul, Nat.reduceSub, Nat.reduceEqDiff, Nat.reduceBEq, Int.reduceToNat, reduceCtorEq]
      obtain ⟨f3, H⟩ := need_some.1 H
      replace f3 := stb_iff.1 f3
      refine cutO shT_ok ctNo_ok 7 ?_
      simp only [kO_normal, List.take_succ_cons, List.take_zero, List.drop_succ_cons, List.drop_zero, go_sem, Nat.reduceLeDiff, Nat.reduceLT, Nat.reduceAdd, Nat.reduceMul, Nat.reduceSub, Nat.reduceEqDiff, Nat.reduceBEq, Int.reduceToNat, reduceCtorEq, f3]
      repeat ((with_reducible refine And.intro ?_ ?_); focus exact an3)
      obtain ⟨w4, hw5, H⟩ := bsi H
      replace hw5 := Option.some.inj hw5
      have lhw5 : w4.length = 1 := by rw [← hw5]; exact cl
      refine subO (t2 := (.top :: .top :: .bool p2 :: .top :: .top :: .top :: .ptr 0 0 0 0 :: .top :: .top :: .top :: .agg [.int .u8 7, .int .u8 0, .ro 1 w1.length false (enR c_u8 w1), .ro 0 0 true (fun _ _ => .top)] :: .top :: .top :: .agg [.int .u8 0, .int .u8 0, .ro 1 ((bytesL p0).length) false (enR c_u8 (bytesL p0)), .ro 0 0 true (fun _ _ => .top)] :: .top :: .top :: .agg [.int .u8 11, .int .u8 0, .sl 1 1 0 w4.length false, .ro 0 0 true (fun _ _ => .top)] :: tp 10 [])) (h2 := [.lit 47 [.int .u64 0, .int .u16 0, .int .u16 0, .ro 0 0 true (fun _ _ => .top)], .row 5 1 w4.length (enR c_u8 w4)]) ?_ ?_
      · refine SubF_of ⟨[some 0, some 1], ?_, ?_, by rfl, by rfl⟩
        · simp [CvL, Cv, getM, tp, tp, tpg, t8, lhw5]
        · exact ⟨(by simp [CvB, CvL, Cv, blkAt, geth, getM, lhw5]), CvB_row nr_u8 lhw5 (hw5 ▸ (lit_row (f := c_u8) [p1] (fun _ _ => rfl) rfl)), trivial⟩
      simp only [tp]
      refine fzO [1] ?_ ?_
      · simp only [go_sem, Nat.reduceEqDiff, Nat.reduceBEq, Nat.reduceAdd]
        try exact at0
      simp only [go_sem, Nat.reduceEqDiff, Nat.reduceBEq, Nat.reduceAdd]
      refine subO (t2 := (.top :: .top :: .bool p2 :: .top :: .top :: .top :: .ptr 0 0 0 0 :: .top :: .top :: .top :: .agg [.int .u8 7, .int .u8 0, .ro 1 w1.length false (enR c_u8 w1), .ro 4 (([] : List Unit).length) false (enR c_U4 ([] : List Unit))] :: .top :: .top :: .agg [.int .u8 0, .int .u8 0, .ro 1 ((bytesL p0).length) false (enR c_u8 (bytesL p0)), .ro 4 (([] : List Unit).length) false (enR c_U4 ([] : List Unit))] :: .top :: .top :: .agg [.int .u8 11, .int .u8 0, .ro 1 w4.length false (enR c_u8 w4), .ro 4 (([] : List Unit).length) false (enR c_U4 ([] : List Unit))] :: tp 10 [])) (h2 := [.lit 47 [.int .u64 0, .int .u16 0, .int .u16 0, .ro 0 0 true (fun _ _ => .top)], .dead]) ?_ ?_
      · refine SubF_of ⟨[some 0, some 1], ?_, ?_, by rfl, by rfl⟩
        · simp [CvL, Cv, getM, tp, tp, tpg, t8]
        · exact ⟨cv, CvB_dead, trivial⟩
      simp only [tp]
      refine cutO shT_ok ctNo_ok 4 ?_
      simp only [kO_normal, List.take_succ_cons, List.take_zero, List.drop_succ_cons, List.drop_zero, go_sem, Nat.reduceLeDiff, Nat.reduceLT, Nat.reduceAdd, Nat.reduceMul, Nat.reduceSub, Nat.reduceEqDiff, Nat.reduceBEq, Int.reduceToNat, reduceCtorEq]
      repeat ((with_reducible refine And.intro ?_ ?_); focus exact an3)
      refine endO ?_
      refine seqM ?_
      refine sq ctNo_ok ?_
      simp only [go_sem, Nat.reduceLeDiff, Nat.reduceLT, Nat.reduceAdd, Nat.reduceMul, Nat.reduceSub, Nat.reduceEqDiff, Nat.reduceBEq, Int.reduceToNat, reduceCtorEq]
      refine condM' rfl trivial (fun hc => ?_) (fun hc => ?_)
      · have hk6 : (p2) = false := by simpa using hc
        replace H := cond_f hc H
        refine rg ctNo_ok ?_
        simp only [go_sem, Nat.reduceLeDiff, Nat.reduceLT, Nat.reduceAdd, Nat.reduceMul, Nat.reduceSub, Nat.reduceEqDiff, Nat.reduceBEq, Int.reduceToNat, reduceCtorEq]
        refine sq ctNo_ok ?_
        simp only [go_sem, Nat.reduceLeDiff, Nat.reduceLT, Nat.reduceAdd, Nat.reduceMul, Nat.reduceSub, Nat.reduceEqDiff, Nat.reduceBEq, Int.reduceToNat, reduceCtorEq]
        repeat ((with_reducible refine And.intro ?_ ?_); focus exact an3)
        refine rg ctNo_ok ?_
        simp only [go_sem, Nat.reduceLeDiff, Nat.reduceLT, Nat.reduceAdd, Nat.reduceMul, Nat.reduceSub, Nat.reduceEqDiff, Nat.reduceBEq, Int.reduceToNat, reduceCtorEq]
        obtain rfl := Option.some.inj H
        refine ⟨[2, 0, 3], ?_, ?_, [], ?_, ?_, rfl⟩
        · simp only [go_sem, Nat.reduceEqDiff, Nat.reduceBEq, Nat.reduceAdd]
          try exact at0
        · simp only [go_sem, Nat.reduceEqDiff, Nat.reduceBEq, Nat.reduceAdd]
          try exact at0
        · simp only [go_sem, Nat.reduceEqDiff, Nat.reduceBEq, Nat.reduceAdd]
          exact (Cv_agg (CvL_cons Cv_int (CvL_cons Cv_int (CvL_cons Cv_int (CvL_cons (ro_row (by first | rfl | simp) (lit_row (f := c_TElement) ([(TElement.mk 7 0 w1 ([] : List Unit)), (TElement.mk 0 0 (bytesL p0) ([] : List Unit)), (TElement.mk 11 0 w4 ([] : List Unit))]) (fun _ _ => rfl) rfl)) CvL_nil)))))
        · simp only [go_sem, Nat.reduceEqDiff, Nat.reduceBEq, Nat.reduceAdd, CvH]
      have hk6 : (p2) = true := by simpa using hc
      replace H := cond_t hc H
      refine regO ?_
      refine cutO shT_ok ctNo_ok 3 ?_
      simp only [kO_normal, List.take_succ_cons, List.take_zero, List.drop_succ_cons, List.drop_zero, go_sem, Nat.reduceLeDiff, Nat.reduceLT, Nat.reduceAdd, Nat.reduceMul, Nat.reduceSub, Nat.reduceEqDiff, Nat.reduceBEq, Int.reduceToNat, reduceCtorEq]
      repeat ((with_reducible refine And.intro ?_ ?_); focus exact an2)
      refine subO (t2 := (.top :: .top :: .bool p2 :: .top :: .top :: .top :: .ptr 0 0 0 0 :: .ptr 3 0 0 0 :: .top :: .top :: .agg [.int .u8 7, .int .u8 0, .ro 1 w1.length false (enR c_u8 w1), .ro 4 (([] : List Unit).length) false (enR c_U4 ([] : List Unit))] :: .top :: .top :: .agg [.int .u8 0, .int .u8 0, .ro 1 ((bytesL p0).length) false (enR c_u8 (bytesL p0)), .ro 4 (([] : List Unit).length) false (enR c_U4 ([] : List Unit))] :: .top :: .top :: .agg [.int .u8 11, .int .u8 0, .ro 1 w4.length false (enR c_u8 w4), .ro 4 (([] : List Unit).length) false (enR c_U4 ([] : List Unit))] :: .sl 2 4 0 3 false :: .agg [.int .u64 0, .int .u16 100, .int .u16 0, .sl 2 4 0 3 false] :: .bool p2 :: .ptr 3 0 0 3 :: .sl 2 4 0 3 false :: .agg [.int .u8 48, .int .u8 0, .ro 1 (([] : List Int).length) false (enR c_u8 ([] : List Int)), .ro 4 (([] : List Unit).length) false (enR c_U4 ([] : List Unit))] :: tp 4 [])) (h2 := [.lit 47 [.int .u64 0, .int .u16 0, .int .u16 0, .ro 0 0 true (fun _ _ => .top)], .dead, .row 37 4 3 (litC 4 [.int .u8 7, .int .u8 0, .ro 1 w1.length false (enR c_u8 w1), .ro 4 (([] : List Unit).length) false (enR c_U4 ([] : List Unit)), .int .u8 0, .int .u8 0, .ro 1 ((bytesL p0).length) false (enR c_u8 (bytesL p0)), .ro 4 (([] : List Unit).length) false (enR c_U4 ([] : List Unit)), .int .u8 11, .int .u8 0, .ro 1 w4.length false (enR c_u8 w4), .ro 4 (([] : List Unit).length) false (enR c_U4 ([] : List Unit))]), .lit 47 [.int .u64 0, .int .u16 100, .int .u16 0, .sl 2 4 0 3 false]]) ?_ ?_
      · refine SubF_of ⟨[some 0, some 1, some 2, some 3], ?_, ?_, by rfl, by rfl⟩
        · simp [CvL, Cv, getM, tp, tp, tpg, t8]
        · (repeat (first | refine And.intro (by first | exact CvB_dead | exact CvB_same nfA | (simp [CvB, CvL, Cv, blkAt, geth, getM]; done)) ?_ | trivial))
      simp only [tp]
      obtain ⟨f7, H⟩ := need_some.1 H
      replace f7 := capb_iff.1 f7
      refine cutO shT_ok ctNo_ok 4 ?_
      simp only [kO_normal, List.take_succ_cons, List.take_zero, List.drop_succ_cons, List.drop_zero, go_sem, Nat.reduceLeDiff, Nat.reduceLT, Nat.reduceAdd, Nat.reduceMul, Nat.reduceSub, Nat.reduceEqDiff, Nat.reduceBEq, Int.reduceToNat, reduceCtorEq, f7]
      repeat ((with_reducible refine And.intro ?_ ?_); focus exact an4)
      refine endO ?_
      refine sq ctNo_ok ?_
      simp only [go_sem, Nat.reduceLeDiff, Nat.reduceLT, Nat.reduceAdd, Nat.reduceMul, Nat.reduceSub, Nat.reduceEqDiff, Nat.reduceBEq, Int.reduceToNat, reduceCtorEq]
      repeat ((with_reducible refine And.intro ?_ ?_); focus exact an3)
      refine rg ctNo_ok ?_
      simp only [go_sem, Nat.reduceLeDiff, Nat.reduceLT, Nat.reduceAdd, Nat.reduceMul, Nat.reduceSub, Nat.reduceEqDiff, Nat.reduceBEq, Int.reduceToNat, reduceCtorEq]
      obtain rfl := Option.some.inj H
      refine ⟨[5, 0, 3], ?_, ?_, [], ?_, ?_, rfl⟩
      · simp only [go_sem, Nat.reduceEqDiff, Nat.reduceBEq, Nat.reduceAdd]
        try exact at0
      · simp only [go_sem, Nat.reduceEqDiff, Nat.reduceBEq, Nat.reduceAdd]
        try exact at0
      · simp only [go_sem, Nat.reduceEqDiff, Nat.reduceBEq, Nat.reduceAdd]
        exact (Cv_agg (CvL_cons Cv_int (CvL_cons Cv_int (CvL_cons Cv_int (CvL_cons (ro_row (by first | rfl | simp) (app_row (f := c_TElement) ([(TElement.mk 7 0 w1 ([] : List Unit)), (TElement.mk 0 0 (bytesL p0) ([] : List Unit)), (TElement.mk 11 0 w4 ([] : List Unit))]) ([(TElement.mk 48 0 ([] : List Int) ([] : List Unit))]) (lit_row (f := c_TElement) ([(TElement.mk 7 0 w1 ([] : List Unit)), (TElement.mk 0 0 (bytesL p0) ([] : List Unit)), (TElement.mk 11 0 w4 ([] : List Unit))]) (fun _ _ => rfl) rfl) (lit_row (f := c_TElement) ([(TElement.mk 48 0 ([] : List Int) ([] : List Unit))]) (fun _ _ => rfl) rfl))) CvL_nil)))))
      · simp only [go_sem, Nat.reduceEqDiff, Nat.reduceBEq, Nat.reduceAdd, CvH]
    · cases hb
  · unfold body27 at hb
    split at hb <;> cases hb
/-! hotspot/scan.valid -/
noncomputable def ct34t0 : Ct := tab [(29, pureC body29)]
theorem ct34t0_ok : CtOk Try.prog ct34t0 := tab_cons ok29 <| tab_nil
theorem ct34t0_29 (l : List AV) (h : List ABlk) : ct34t0 29 l h = pureC body29 l h := rfl
noncomputable def F34 (p0 : TCandidate) : Option (Bool) :=
  (F29 p0.Channel 1 64).bind fun r1 => need (bif r1 then ((F29 p0.Level (-2000) 2000).isSome) else true) <| need (bif (r1 && (gt (F29 p0.Level (-2000) 2000))) then ((F29 p0.Load 0 255).isSome) else true) <| need (bif ((r1 && (gt (F29 p0.Level (-2000) 2000))) && (gt (F29 p0.Load 0 255))) then ((F29 p0.Heard 0 1099511627776).isSome) else true) <| need (bif (((r1 && (gt (F29 p0.Level (-2000) 2000))) && (gt (F29 p0.Load 0 255))) && (gt (F29 p0.Heard 0 1099511627776))) then ((F29 p0.Interval 1 65535).isSome) else true) <| some (((((r1 && (gt (F29 p0.Level (-2000) 2000))) && (gt (F29 p0.Load 0 255))) && (gt (F29 p0.Heard 0 1099511627776))) && (gt (F29 p0.Interval 1 65535))) && (bLe (p0.Name.size : Nat) 32))
noncomputable def body34 : List AV -> AR
  | [v0] => .pure (aK 13 k_TCandidate v0 /\ (F34 (g_TCandidate (aL v0))).isSome = true) (.bool (gt (F34 (g_TCandidate (aL v0)))))
  | _ => .fail
set_option maxHeartbeats 4000000 in
set_option maxRecDepth 20000 in
theorem ok34 : FnOk Try.prog 34 (pureC body34) := by
  refine pure_fnM body34 (rs := [.tmp 2]) Try.func34 (by kernel_rfl) rfl rfl ?_
  intro l ob v hb hob
  unfold body34 at hb
  split at hb
  · rename_i v0
    injection hb with q1 q2; subst q1 q2
    obtain ⟨hk0_0, hob⟩ := hob
    obtain ⟨r, H⟩ := Option.isSome_iff_exists.1 hob
    rw [H, gt_some]
    have hw0 := wA_TCandidate hk0_0
    generalize g_TCandidate (aL v0) = p0 at H hw0
    refine ⟨[.agg [.int .u8 p0.Addr.x0, .int .u8 p0.Addr.x1, .int .u8 p0.Addr.x2, .int .u8 p0.Addr.x3, .int .u8 p0.Addr.x4, .int .u8 p0.Addr.x5, .int .i64 p0.Channel, .int .i64 p0.Level, .int .i64 p0.Load, .int .i64 p0.Heard, .int .i64 p0.Interval, .str p0.Name, .bool p0.Secure]], _, (fun E vs F => FR_wk1 hw0.1 F (fun vs F => F)), rfl, rfl, ?_⟩
    rw [Try.ntmps34]
    simp only [List.length_cons, List.length_nil, Nat.reduceAdd, Nat.reduceSub, List.replicate_succ, List.replicate_zero, List.cons_append, List.nil_append]
    unfold F34 at H
    try dsimp only at H
    refine sq ctNo_ok ?_
    simp only [go_sem, Nat.reduceLeDiff, Nat.reduceLT, Nat.reduceAdd, Nat.reduceMul, Nat.reduceSub, Nat.reduceEqDiff, Nat.reduceBEq, Int.reduceToNat, reduceCtorEq]
    refine seqM ?_
    obtain ⟨r1, e2, H⟩ := bsi H
    obtain ⟨f3, H⟩ := need_some.1 H
    replace f3 := g_iff.1 f3
    obtain ⟨f4, H⟩ := need_some.1 H
    replace f4 := g_iff.1 f4
    obtain ⟨f5, H⟩ := need_some.1 H
    replace f5 := g_iff.1 f5
    obtain ⟨f6, H⟩ := need_some.1 H
    replace f6 := g_iff.1 f6
    refine rg ct34t0_ok ?_
    simp only [go_sem, Nat.reduceLeDiff, Nat.reduceLT, Nat.reduceAdd, Nat.reduceMul, Nat.reduceSub, Nat.reduceEqDiff, Nat.reduceBEq, Int.reduceToNat, reduceCtorEq, ct34t0_29, body29, e2]
    repeat ((with_reducible refine And.intro ?_ ?_); focus (first | (with_reducible trivial) | omega | exact f3 | exact f4 | exact f5 | exact f6 | (intro g; have q := f3 (by first | exact g | (rw [g]; rfl) | simpa using g); first | exact q | exact ⟨q.1, q.2.1⟩ | exact q.2.2 | omega | exact ⟨g, q⟩ | exact ⟨trivial, q⟩ | exact ⟨g, q.1, q.2.1⟩ | exact ⟨g, q.2.2⟩) | (intro g; have q := f4 (by first | exact g | (rw [g]; rfl) | simpa using g); first | exact q | exact ⟨q.1, q.2.1⟩ | exact q.2.2 | omega | exact ⟨g, q⟩ | exact ⟨trivial, q⟩ | exact ⟨g, q.1, q.2.1⟩ | exact ⟨g, q.2.2⟩) | (intro g; have q := f5 (by first | exact g | (rw [g]; rfl) | simpa using g); first | exact q | exact ⟨q.1, q.2.1⟩ | exact q.2.2 | omega | exact ⟨g, q⟩ | exact ⟨trivial, q⟩ | exact ⟨g, q.1, q.2.1⟩ | exact ⟨g, q.2.2⟩) | (intro g; have q := f6 (by first | exact g | (rw [g]; rfl) | simpa using g); first | exact q | exact ⟨q.1, q.2.1⟩ | exact q.2.2 | omega | exact ⟨g, q⟩ | exact ⟨trivial, q⟩ | exact ⟨g, q.1, q.2.1⟩ | exact ⟨g, q.2.2⟩) | (intro g; (try have q0 := f3 (by first | exact g | (rw [g]; rfl) | simpa using g)); (try have q1 := f4 (by first | exact g | (rw [g]; rfl) | simpa using g)); (try have q2 := f5 (by first | exact g | (rw [g]; rfl) | simpa using g)); (try have q3 := f6 (by first | exact g | (rw [g]; rfl) | simpa using g)); and_intros <;> first | (with_reducible trivial) | assumption | exact nfc | (intro g2; rw [g, g2]; rfl) | (intro g2; assumption) | (simp only [g, Bool.true_and, Bool.and_true, Bool.not_false, Bool.not_true]; assumption) | grind) | (and_intros <;> first | (with_reducible trivial) | omega | assumption | exact nfc | first | exact rfl | exact trivial | exact fitI | exact .inr rfl | exact .inl rfl | exact fun x hx => absurd hx (by omega)) | grind))
    refine rg ctNo_ok ?_
    simp only [go_sem, Nat.reduceLeDiff, Nat.reduceLT, Nat.reduceAdd, Nat.reduceMul, Nat.reduceSub, Nat.reduceEqDiff, Nat.reduceBEq, Int.reduceToNat, reduceCtorEq]
    obtain rfl := Option.some.inj H
    first | rfl | simp only [Bool.and_false, Bool.false_and, Bool.and_true, Bool.true_and]
  · cases hb
/-! bytes.Compare -/
noncomputable def F53 (p0 : List Int) (p1 : List Int) : Option Int :=
  need (u8A p0) <| need (u8A p1) <| some (cmpL p0 p1)
noncomputable def body53 : List AV -> AR
  | [v0, v1] => .pure (lK k_u8 1 v0 /\ lK k_u8 1 v1 /\ (F53 (lA g_u8 v0) (lA g_u8 v1)).isSome = true) (.int .i64 (gt (F53 (lA g_u8 v0) (lA g_u8 v1))))
  | _ => .fail
theorem walk53 (u v : Value) (r : Int) (w : World) (hd : (callFunc 58 #[u, v]).run Try.prog w = .ok (.value (.int .i64 r)) w) : Calls Try.prog 53 #[u, v] w fun e w' => e = .returned (.int .i64 r) /\ w' = w := by
  go_enter Try.func53, Try.ntmps53
  go_wp2
  go_ret
  exact ⟨rfl, rfl⟩
theorem ok53 : FnOk Try.prog 53 (pureC body53) := by
  refine pure_ext ⟨_, Try.func53, by kernel_rfl, by kernel_rfl⟩ body53 ?_
  intro E l vs ob x hb hob F
  unfold body53 at hb
  split at hb
  · rename_i v0 v1
    injection hb with q1 q2; subst q1 q2
    obtain ⟨h0, h1, hob⟩ := hob
    obtain ⟨r, H⟩ := Option.isSome_iff_exists.1 hob
    rw [H, gt_some]
    have w0 := lK_wk (fun r h => w_u8 h) h0
    have w1 := lK_wk (fun r h => w_u8 h) h1
    generalize lA g_u8 v0 = p0 at H w0
    generalize lA g_u8 v1 = p1 at H w1
    unfold F53 at H
    obtain ⟨f0, H⟩ := need_some.1 H
    obtain ⟨f1, H⟩ := need_some.1 H
    obtain rfl := Option.some.inj H
    obtain ⟨vs⟩ := vs
    match vs, F.1 with
    | [u, v], _ =>
      have hx := w0.1 E u (F.2 0 _ u rfl rfl)
      have hy := w1.1 E v (F.2 1 _ v rfl rfl)
      refine ⟨_, rfl, walk53 u v _ E.w ?_⟩
      rw [run_callFunc_extern Try.func58 (by kernel_rfl) (by kernel_rfl) (by kernel_rfl) (e := Extern.BytealgCompare.compare) (by kernel_rfl), run_compareBytes hx hy (u8b_iff.1 ((u8b_enR (f := c_u8) (fun _ => rfl) p0).trans f0)) (u8b_iff.1 ((u8b_enR (f := c_u8) (fun _ => rfl) p1).trans f1)), bytesC_enR (f := c_u8) (fun _ => rfl), bytesC_enR (f := c_u8) (fun _ => rfl)]
      simp only [strL]
      rw [cmpL_eq p0 p1 (u8A_iff.1 f0) (u8A_iff.1 f1)]
      rfl
  · cases hb
/-! hotspot/scan.compare -/
noncomputable def ct39t0 : Ct := tab [(53, pureC body53)]
theorem ct39t0_ok : CtOk Try.prog ct39t0 := tab_cons ok53 <| tab_nil
theorem ct39t0_53 (l : List AV) (h : List ABlk) : ct39t0 53 l h = pureC body53 l h := rfl
noncomputable def F39 (p0 : A6u8) (p1 : A6u8) : Option (Int) :=
  (F53 [p0.x0, p0.x1, p0.x2, p0.x3, p0.x4, p0.x5] [p1.x0, p1.x1, p1.x2, p1.x3, p1.x4, p1.x5]).bind fun r1 => some r1
noncomputable def body39 : List AV -> AR
  | [v0, v1] => .pure (aK 6 k_A6u8 v0 /\ aK 6 k_A6u8 v1 /\ (F39 (g_A6u8 (aL v0)) (g_A6u8 (aL v1))).isSome = true) (.int .i64 (gt (F39 (g_A6u8 (aL v0)) (g_A6u8 (aL v1)))))
  | _ => .fail
set_option maxHeartbeats 4000000 in
set_option maxRecDepth 20000 in
theorem ok39 : FnOk Try.prog 39 (pureC body39) := by
  refine pure_fnM body39 (rs := [.tmp 4]) Try.func39 (by kernel_rfl) rfl rfl ?_
  intro l ob v hb hob
  unfold body39 at hb
  split at hb
  · rename_i v0 v1
    injection hb with q1 q2; subst q1 q2
    obtain ⟨hk0_0, hk1_0, hob⟩ := hob
    obtain ⟨r, H⟩ := Option.isSome_iff_exists.1 hob
    rw [H, gt_some]
    have hw0 := wA_A6u8 hk0_0
    have hw1 := wA_A6u8 hk1_0
    generalize g_A6u8 (aL v0) = p0 at H hw0
    generalize g_A6u8 (aL v1) = p1 at H hw1
    refine ⟨[.agg [.int .u8 p0.x0, .int .u8 p0.x1, .int .u8 p0.x2, .int .u8 p0.x3, .int .u8 p0.x4, .int .u8 p0.x5], .agg [.int .u8 p1.x0, .int .u8 p1.x1, .int .u8 p1.x2, .int .u8 p1.x3, .int .u8 p1.x4, .int .u8 p1.x5]], _, (fun E vs F => FR_wk1 hw0.1 F (fun vs F => FR_wk1 hw1.1 F (fun vs F => F))), rfl, rfl, ?_⟩
    rw [Try.ntmps39]
    simp only [List.length_cons, List.length_nil, Nat.reduceAdd, Nat.reduceSub, List.replicate_succ, List.replicate_zero, List.cons_append, List.nil_append]
    unfold F39 at H
    try dsimp only at H
    refine sq ctNo_ok ?_
    simp only [go_sem, Nat.reduceLeDiff, Nat.reduceLT, Nat.reduceAdd, Nat.reduceMul, Nat.reduceSub, Nat.reduceEqDiff, Nat.reduceBEq, Int.reduceToNat, reduceCtorEq]
    refine seqM ?_
    obtain ⟨r1, e2, H⟩ := bsi H
    refine draw_quiet shT_ok ct39t0_ok (by kernel_rfl) (by kernel_rfl) ?_
    simp only [go_sem, Nat.reduceLeDiff, Nat.reduceLT, Nat.reduceAdd, Nat.reduceMul, Nat.reduceSub, Nat.reduceEqDiff, Nat.reduceBEq, Int.reduceToNat, reduceCtorEq, ct39t0_53, body53, e2]
    repeat ((with_reducible refine And.intro ?_ ?_); focus exact an2)
    refine rg ctNo_ok ?_
    simp only [go_sem, Nat.reduceLeDiff, Nat.reduceLT, Nat.reduceAdd, Nat.reduceMul, Nat.reduceSub, Nat.reduceEqDiff, Nat.reduceBEq, Int.reduceToNat, reduceCtorEq]
    obtain rfl := Option.some.inj H
    first | rfl | simp only [Bool.and_false, Bool.false_and, Bool.and_true, Bool.true_and]
  · cases hb
/-! hotspot/scan.Check -/
noncomputable def ct19t0 : Ct := tab [(34, pureC body34), (39, pureC body39)]
theorem ct19t0_ok : CtOk Try.prog ct19t0 := tab_cons ok34 <| tab_cons ok39 <| tab_nil
theorem ct19t0_34 (l : List AV) (h : List ABlk) : ct19t0 34 l h = pureC body34 l h := rfl
theorem ct19t0_39 (l : List AV) (h : List ABlk) : ct19t0 39 l h = pureC body39 l h := rfl
noncomputable def F19_L1 (p0 : TCandidates) (v1_1 : Int) : Option (Lp (Int) ((Unit) ⊕ (Int))) :=
  bif (bLt v1_1 (p0.List.length : Nat)) then (need (inb v1_1 p0.List.length) <| (F34 (TCandidate.mk (A6u8.mk (((gd p0.List v1_1.toNat).Addr).x0) (((gd p0.List v1_1.toNat).Addr).x1) (((gd p0.List v1_1.toNat).Addr).x2) (((gd p0.List v1_1.toNat).Addr).x3) (((gd p0.List v1_1.toNat).Addr).x4) (((gd p0.List v1_1.toNat).Addr).x5)) ((gd p0.List v1_1.toNat).Channel) ((gd p0.List v1_1.toNat).Level) ((gd p0.List v1_1.toNat).Load) ((gd p0.List v1_1.toNat).Heard) ((gd p0.List v1_1.toNat).Interval) ((gd p0.List v1_1.toNat).Name) ((gd p0.List v1_1.toNat).Secure))).bind fun r4 => need (bif ((!(!r4)) && (bLt 0 v1_1)) then inb (wr .i64 (v1_1 - 1)) p0.List.length else true) <| need (bif ((!(!r4)) && (bLt 0 v1_1)) then ((F39 ((gd p0.List ((wr .i64 (v1_1 - 1)).toNat)).Addr) ((gd p0.List v1_1.toNat).Addr)).isSome) else true) <| bif ((!r4) || ((bLt 0 v1_1) && (bLe 0 (gt (F39 ((gd p0.List ((wr .i64 (v1_1 - 1)).toNat)).Addr) ((gd p0.List v1_1.toNat).Addr)))))) then (some (.done (.inr 8))) else (some (.next (wr .i64 (v1_1 + 1))))) else (some (.done (.inl ())))
noncomputable def F19 (p0 : TCandidates) : Option (Int) :=
  bif (bLt 64 (p0.List.length : Nat)) then (some 8) else (lp (loopD (fun s => F19_L1 p0 s) 0) (fun _ => some 0) some)
noncomputable def body19 : List AV -> AR
  | [v0] => .pure (aK 1 k_TCandidates v0 /\ (F19 (g_TCandidates (aL v0))).isSome = true) (.int .i64 (gt (F19 (g_TCandidates (aL v0)))))
  | _ => .fail
set_option maxHeartbeats 4000000 in
set_option maxRecDepth 20000 in
theorem ok19 : FnOk Try.prog 19 (pureC body19) := by
  refine pure_fnM body19 (rs := [.tmp 2]) Try.func19 (by kernel_rfl) rfl rfl ?_
  intro l ob v hb hob
  unfold body19 at hb
  split at hb
  · rename_i v0
    injection hb with q1 q2; subst q1 q2
    obtain ⟨hk0_0, hob⟩ := hob
    obtain ⟨r, H⟩ := Option.isSome_iff_exists.1 hob
    rw [H, gt_some]
    have hw0 := wA_TCandidates hk0_0
    generalize g_TCandidates (aL v0) = p0 at H hw0
    refine ⟨[.agg [.ro 13 p0.List.length false (enR c_TCandidate p0.List)]], _, (fun E vs F => FR_wk1 hw0.1 F (fun vs F => F)), rfl, rfl, ?_⟩
    rw [Try.ntmps19]
    simp only [List.length_cons, List.length_nil, Nat.reduceAdd, Nat.reduceSub, List.replicate_succ, List.replicate_zero, List.cons_append, List.nil_append]
    unfold F19 at H
    try dsimp only at H
    refine sq ctNo_ok ?_
    simp only [go_sem, Nat.reduceLeDiff, Nat.reduceLT, Nat.reduceAdd, Nat.reduceMul, Nat.reduceSub, Nat.reduceEqDiff, Nat.reduceBEq, Int.reduceToNat, reduceCtorEq]
    refine seqM ?_
    refine sq ctNo_ok ?_
    simp only [go_sem, Nat.reduceLeDiff, Nat.reduceLT, Nat.reduceAdd, Nat.reduceMul, Nat.reduceSub, Nat.reduceEqDiff, Nat.reduceBEq, Int.reduceToNat, reduceCtorEq]
    repeat ((with_reducible refine And.intro ?_ ?_); focus exact an0)
    refine condM rfl trivial (fun hc => ?_) (fun hc => ?_)
    · have hk1 : (bLt 64 (p0.List.length : Nat)) = true := by simpa using hc
      replace H := cond_t hc H
      refine sq ctNo_ok ?_
      simp only [go_sem, Nat.reduceLeDiff, Nat.reduceLT, Nat.reduceAdd, Nat.reduceMul, Nat.reduceSub, Nat.reduceEqDiff, Nat.reduceBEq, Int.reduceToNat, reduceCtorEq]
      refine rg ctNo_ok ?_
      simp only [go_sem, Nat.reduceLeDiff, Nat.reduceLT, Nat.reduceAdd, Nat.reduceMul, Nat.reduceSub, Nat.reduceEqDiff, Nat.reduceBEq, Int.reduceToNat, reduceCtorEq]
      obtain rfl := Option.some.inj H
      first | rfl | simp only [Bool.and_false, Bool.false_and, Bool.and_true, Bool.true_and]
    have hk1 : (bLt 64 (p0.List.length : Nat)) = false := by simpa using hc
    replace H := cond_f hc H
    refine rg ctNo_ok ?_
    simp only [go_sem, Nat.reduceLeDiff, Nat.reduceLT, Nat.reduceAdd, Nat.reduceMul, Nat.reduceSub, Nat.reduceEqDiff, Nat.reduceBEq, Int.reduceToNat, reduceCtorEq]
    refine seqM ?_
    refine sq ctNo_ok ?_
    simp only [go_sem, Nat.reduceLeDiff, Nat.reduceLT, Nat.reduceAdd, Nat.reduceMul, Nat.reduceSub, Nat.reduceEqDiff, Nat.reduceBEq, Int.reduceToNat, reduceCtorEq]
    repeat ((with_reducible refine And.intro ?_ ?_); focus exact an0)
    refine blkM ?_
    refine loop_den (fun s : Int => (.top :: .ptr 0 0 0 0 :: tp 8 (.ro 13 p0.List.length false (enR c_TCandidate p0.List) :: .int .i64 (p0.List.length : Nat) :: .int .i64 s :: tp 25 []))) (fun s => [.lit 41 [.ro 13 p0.List.length false (enR c_TCandidate p0.List)]]) (fun e : Unit => (tp 38 [])) (fun e => [.dead]) H ?_ (fun v1_1 o H hn1_1 hn2_1 => ?_) (fun e H => ?_)
    · refine SubF_of ⟨[some 0], ?_, ?_, by rfl, by rfl⟩
      · simp [CvL, Cv, getM, tp, tp, tpg, t8]
      · exact ⟨cv, trivial⟩
    · unfold F19_L1 at H
      try dsimp only at H ⊢
      try simp only [tp]
      refine sq ctNo_ok ?_
      simp only [go_sem, Nat.reduceLeDiff, Nat.reduceLT, Nat.reduceAdd, Nat.reduceMul, Nat.reduceSub, Nat.reduceEqDiff, Nat.reduceBEq, Int.reduceToNat, reduceCtorEq]
      refine seqM ?_
      refine condM' rfl trivial (fun hc => ?_) (fun hc => ?_)
      · have hk2 : (bLt v1_1 (p0.List.length : Nat)) = false := by simpa using hc
        replace H := cond_f hc H
        refine rg ctNo_ok ?_
        simp only [go_sem, Nat.reduceLeDiff, Nat.reduceLT, Nat.reduceAdd, Nat.reduceMul, Nat.reduceSub, Nat.reduceEqDiff, Nat.reduceBEq, Int.reduceToNat, reduceCtorEq]
        refine ⟨_, (Option.some.inj H).symm, ?_⟩
        refine SubF_of ⟨[some 0], ?_, ?_, by rfl, by rfl⟩
        · simp [CvL, Cv, getM, tp, tp, tpg, t8]
        · exact ⟨CvB_dead, trivial⟩
      have hk2 : (bLt v1_1 (p0.List.length : Nat)) = true := by simpa using hc
      replace H := cond_t hc H
      refine rg ctNo_ok ?_
      simp only [go_sem, Nat.reduceLeDiff, Nat.reduceLT, Nat.reduceAdd, Nat.reduceMul, Nat.reduceSub, Nat.reduceEqDiff, Nat.reduceBEq, Int.reduceToNat, reduceCtorEq]
      refine seqM ?_
      refine blkM ?_
      refine seqM ?_
      obtain ⟨f3, H⟩ := need_some.1 H
      replace f3 := inb_iff.1 f3
      refine rg ctNo_ok ?_
      simp only [go_sem, Nat.reduceLeDiff, Nat.reduceLT, Nat.reduceAdd, Nat.reduceMul, Nat.reduceSub, Nat.reduceEqDiff, Nat.reduceBEq, Int.reduceToNat, reduceCtorEq, f3]
      repeat ((with_reducible refine And.intro ?_ ?_); focus exact an3)
      refine seqM ?_
      obtain ⟨r4, e5, H⟩ := bsi H
      obtain ⟨f6, H⟩ := need_some.1 H
      replace f6 := g_iff.1 f6
      replace f6 := fun g => inb_iff.1 (f6 g)
      obtain ⟨f7, H⟩ := need_some.1 H
      replace f7 := g_iff.1 f7
      refine draw_quiet shT_ok ct19t0_ok (by kernel_rfl) (by kernel_rfl) ?_
      simp only [go_sem, Nat.reduceLeDiff, Nat.reduceLT, Nat.reduceAdd, Nat.reduceMul, Nat.reduceSub, Nat.reduceEqDiff, Nat.reduceBEq, Int.reduceToNat, reduceCtorEq, ct19t0_34, body34, ct19t0_39, body39, e5]
      repeat ((with_reducible refine And.intro ?_ ?_); focus (first | (with_reducible trivial) | omega | exact f6 | exact f7 | (intro g; have q := f6 (by first | exact g | (rw [g]; rfl) | simpa using g); first | exact q | exact ⟨q.1, q.2.1⟩ | exact q.2.2 | omega | exact ⟨g, q⟩ | exact ⟨trivial, q⟩ | exact ⟨g, q.1, q.2.1⟩ | exact ⟨g, q.2.2⟩) | (intro g; have q := f7 (by first | exact g | (rw [g]; rfl) | simpa using g); first | exact q | exact ⟨q.1, q.2.1⟩ | exact q.2.2 | omega | exact ⟨g, q⟩ | exact ⟨trivial, q⟩ | exact ⟨g, q.1, q.2.1⟩ | exact ⟨g, q.2.2⟩) | (intro g; (try have q0 := f6 (by first | exact g | (rw [g]; rfl) | simpa using g)); (try have q1 := f7 (by first | exact g | (rw [g]; rfl) | simpa using g)); and_intros <;> first | (with_reducible trivial) | assumption | exact nfc | (intro g2; rw [g, g2]; rfl) | (intro g2; assumption) | (simp only [g, Bool.true_and, Bool.and_true, Bool.not_false, Bool.not_true]; assumption) | grind) | (and_intros <;> first | (with_reducible trivial) | omega | assumption | exact nfc | first | exact rfl | exact trivial | exact fitI | exact .inr rfl | exact .inl rfl | exact fun x hx => absurd hx (by omega)) | grind))
      refine condM rfl trivial (fun hc => ?_) (fun hc => ?_)
      · have hk8 : ((!r4) || ((bLt 0 v1_1) && (bLe 0 (gt (F39 ((gd p0.List ((wr .i64 (v1_1 - 1)).toNat)).Addr) ((gd p0.List v1_1.toNat).Addr)))))) = true := by first | simpa using hc | simpa only [Bool.not_eq_true', Bool.not_eq_false'] using hc
        replace H := cond_t hc H
        refine sq ctNo_ok ?_
        simp only [go_sem, Nat.reduceLeDiff, Nat.reduceLT, Nat.reduceAdd, Nat.reduceMul, Nat.reduceSub, Nat.reduceEqDiff, Nat.reduceBEq, Int.reduceToNat, reduceCtorEq]
        refine rg ctNo_ok ?_
        simp only [go_sem, Nat.reduceLeDiff, Nat.reduceLT, Nat.reduceAdd, Nat.reduceMul, Nat.reduceSub, Nat.reduceEqDiff, Nat.reduceBEq, Int.reduceToNat, reduceCtorEq]
        have H := hn2_1 _ (Option.some.inj H).symm
        obtain rfl := Option.some.inj H
        first | rfl | simp only [Bool.and_false, Bool.false_and, Bool.and_true, Bool.true_and]
      have hk8 : ((!r4) || ((bLt 0 v1_1) && (bLe 0 (gt (F39 ((gd p0.List ((wr .i64 (v1_1 - 1)).toNat)).Addr) ((gd p0.List v1_1.toNat).Addr)))))) = false := by first | simpa using hc | simpa only [Bool.not_eq_true', Bool.not_eq_false'] using hc
      replace H := cond_f hc H
      refine rg ctNo_ok ?_
      simp only [go_sem, Nat.reduceLeDiff, Nat.reduceLT, Nat.reduceAdd, Nat.reduceMul, Nat.reduceSub, Nat.reduceEqDiff, Nat.reduceBEq, Int.reduceToNat, reduceCtorEq]
      refine rg ctNo_ok ?_
      simp only [go_sem, Nat.reduceLeDiff, Nat.reduceLT, Nat.reduceAdd, Nat.reduceMul, Nat.reduceSub, Nat.reduceEqDiff, Nat.reduceBEq, Int.reduceToNat, reduceCtorEq]
      refine ⟨_, (Option.some.inj H).symm, ?_⟩
      refine SubF_of ⟨[some 0], ?_, ?_, by rfl, by rfl⟩
      · simp [CvL, Cv, getM, tp, tp, tpg, t8]
      · exact ⟨cv, trivial⟩
    · try dsimp only at H ⊢
      try simp only [tp]
      try simp only [m_normal, k_normal, b_normal, kL_normal, r_normal]
      refine sq ctNo_ok ?_
      simp only [go_sem, Nat.reduceLeDiff, Nat.reduceLT, Nat.reduceAdd, Nat.reduceMul, Nat.reduceSub, Nat.reduceEqDiff, Nat.reduceBEq, Int.reduceToNat, reduceCtorEq]
      refine rg ctNo_ok ?_
      simp only [go_sem, Nat.reduceLeDiff, Nat.reduceLT, Nat.reduceAdd, Nat.reduceMul, Nat.reduceSub, Nat.reduceEqDiff, Nat.reduceBEq, Int.reduceToNat, reduceCtorEq]
      obtain rfl := Option.some.inj H
      first | rfl | simp only [Bool.and_false, Bool.false_and, Bool.and_true, Bool.true_and]
  · cases hb
/-! hotspot/scan.find$1 -/
noncomputable def F52_0 (p0 : TElement) (p1 : Int) : Option (Bool) :=
  some (bEq p0.Id p1)
noncomputable def body52_0 : List AV -> AR
  | [v0, v1] => .pure (aK 4 k_TElement v0 /\ rK 1 k_u8 v1 /\ (F52_0 (g_TElement (aL v0)) (g_u8 (rG v1))).isSome = true) (.bool (gt (F52_0 (g_TElement (aL v0)) (g_u8 (rG v1)))))
  | _ => .fail
set_option maxHeartbeats 4000000 in
set_option maxRecDepth 20000 in
theorem ok52_0 : FnOk Try.prog 52 (pureC body52_0) := by
  refine pure_fnM body52_0 (rs := [.tmp 3]) Try.func52 (by kernel_rfl) rfl rfl ?_
  intro l ob v hb hob
  unfold body52_0 at hb
  split at hb
  · rename_i v0 v1
    injection hb with q1 q2; subst q1 q2
    obtain ⟨hk0_0, hk1_0, hob⟩ := hob
    obtain ⟨r, H⟩ := Option.isSome_iff_exists.1 hob
    rw [H, gt_some]
    have hw0 := wA_TElement hk0_0
    have hw1 := rK_wk (f := c_u8) (g := g_u8) (fun r h => w_u8 h) hk1_0
    generalize g_TElement (aL v0) = p0 at H hw0
    generalize g_u8 (rG v1) = p1 at H hw1
    refine ⟨[.agg [.int .u8 p0.Id, .int .u8 p0.Ext, .ro 1 p0.Data.length false (enR c_u8 p0.Data), .ro 4 p0.Subs.length false (enR c_U4 p0.Subs)], .rptr 1 1 0 0 (enR c_u8 [p1])], _, (fun E vs F => FR_wk1 hw0.1 F (fun vs F => FR_wk1 hw1.1 F (fun vs F => F))), rfl, rfl, ?_⟩
    rw [Try.ntmps52]
    simp only [List.length_cons, List.length_nil, Nat.reduceAdd, Nat.reduceSub, List.replicate_succ, List.replicate_zero, List.cons_append, List.nil_append]
    unfold F52_0 at H
    try dsimp only at H
    refine sq ctNo_ok ?_
    simp only [go_sem, Nat.reduceLeDiff, Nat.reduceLT, Nat.reduceAdd, Nat.reduceMul, Nat.reduceSub, Nat.reduceEqDiff, Nat.reduceBEq, Int.reduceToNat, reduceCtorEq]
    refine sq ctNo_ok ?_
    simp only [go_sem, Nat.reduceLeDiff, Nat.reduceLT, Nat.reduceAdd, Nat.reduceMul, Nat.reduceSub, Nat.reduceEqDiff, Nat.reduceBEq, Int.reduceToNat, reduceCtorEq]
    refine rg ctNo_ok ?_
    simp only [go_sem, Nat.reduceLeDiff, Nat.reduceLT, Nat.reduceAdd, Nat.reduceMul, Nat.reduceSub, Nat.reduceEqDiff, Nat.reduceBEq, Int.reduceToNat, reduceCtorEq]
    obtain rfl := Option.some.inj H
    first | rfl | simp only [Bool.and_false, Bool.false_and, Bool.and_true, Bool.true_and]
  · cases hb
/-! slices.IndexFunc[[]hotspot/api.Element,hotspot/api.Element] -/
noncomputable def ct51_0t0 : Ct := tab [(52, pureC body52_0)]
theorem ct51_0t0_ok : CtOk Try.prog ct51_0t0 := tab_cons ok52_0 <| tab_nil
theorem ct51_0t0_52 (l : List AV) (h : List ABlk) : ct51_0t0 52 l h = pureC body52_0 l h := rfl
noncomputable def F51_0_L1 (p0 : List TElement) (p1 : Int) (v1_1 : Int) : Option (Lp (Int) ((Unit) ⊕ (Int))) :=
  bif (bLt v1_1 (p0.length : Nat)) then (need (inb v1_1 p0.length) <| (F52_0 (gd p0 v1_1.toNat) p1).bind fun r3 => bif r3 then (some (.done (.inr v1_1))) else (some (.next (wr .i64 (v1_1 + 1))))) else (some (.done (.inl ())))
noncomputable def F51_0 (p0 : List TElement) (p1 : Int) : Option (Int) :=
  lp (loopD (fun s => F51_0_L1 p0 p1 s) 0) (fun _ => some (-1)) some
noncomputable def body51_0 : List AV -> AR
  | [v0, .fn 52 [v1]] => .pure (lK k_TElement 4 v0 /\ rK 1 k_u8 v1 /\ (F51_0 (lA g_TElement v0) (g_u8 (rG v1))).isSome = true) (.int .i64 (gt (F51_0 (lA g_TElement v0) (g_u8 (rG v1)))))
  | _ => .fail
set_option maxHeartbeats 4000000 in
set_option maxRecDepth 20000 in
theorem ok51_0 : FnOk Try.prog 51 (pureC body51_0) := by
  refine pure_fnM body51_0 (rs := [.tmp 4]) Try.func51 (by kernel_rfl) rfl rfl ?_
  intro l ob v hb hob
  unfold body51_0 at hb
  split at hb
  · rename_i v0 v1
    injection hb with q1 q2; subst q1 q2
    obtain ⟨hk0_0, hk1_0, hob⟩ := hob
    obtain ⟨r, H⟩ := Option.isSome_iff_exists.1 hob
    rw [H, gt_some]
    have hw0 := lK_wk (fun r h => w_TElement h) hk0_0
    have hw1 := rK_wk (f := c_u8) (g := g_u8) (fun r h => w_u8 h) hk1_0
    generalize lA g_TElement v0 = p0 at H hw0
    generalize g_u8 (rG v1) = p1 at H hw1
    refine ⟨[.ro 4 p0.length false (enR c_TElement p0), .fn 52 [.rptr 1 1 0 0 (enR c_u8 [p1])]], _, (fun E vs F => FR_wk1 hw0.1 F (fun vs F => FR_wk1 (fn_wk (LW_cons hw1.1 LW_nil)) F (fun vs F => F))), rfl, rfl, ?_⟩
    rw [Try.ntmps51]
    simp only [List.length_cons, List.length_nil, Nat.reduceAdd, Nat.reduceSub, List.replicate_succ, List.replicate_zero, List.cons_append, List.nil_append]
    unfold F51_0 at H
    try dsimp only at H
    refine sq ctNo_ok ?_
    simp only [go_sem, Nat.reduceLeDiff, Nat.reduceLT, Nat.reduceAdd, Nat.reduceMul, Nat.reduceSub, Nat.reduceEqDiff, Nat.reduceBEq, Int.reduceToNat, reduceCtorEq]
    refine seqM ?_
    refine sq ctNo_ok ?_
    simp only [go_sem, Nat.reduceLeDiff, Nat.reduceLT, Nat.reduceAdd, Nat.reduceMul, Nat.reduceSub, Nat.reduceEqDiff, Nat.reduceBEq, Int.reduceToNat, reduceCtorEq]
    repeat ((with_reducible refine And.intro ?_ ?_); focus exact an0)
    refine blkM ?_
    refine loop_den (fun s : Int => (.ro 4 p0.length false (enR c_TElement p0) :: .fn 52 [.rptr 1 1 0 0 (enR c_u8 [p1])] :: tp 5 (.int .i64 (p0.length : Nat) :: .int .i64 s :: tp 10 []))) (fun s => []) (fun e : Unit => (tp 19 [])) (fun e => []) H ?_ (fun v1_1 o H hn1_1 hn2_1 => ?_) (fun e H => ?_)
    · refine SubF_of ⟨[], ?_, ?_, by rfl, by rfl⟩
      · simp [CvL, Cv, getM, tp, tp, tpg, t8]
      · trivial
    · unfold F51_0_L1 at H
      try dsimp only at H ⊢
      try simp only [tp]
      refine sq ctNo_ok ?_
      simp only [go_sem, Nat.reduceLeDiff, Nat.reduceLT, Nat.reduceAdd, Nat.reduceMul, Nat.reduceSub, Nat.reduceEqDiff, Nat.reduceBEq, Int.reduceToNat, reduceCtorEq]
      refine seqM ?_
      refine condM' rfl trivial (fun hc => ?_) (fun hc => ?_)
      · have hk1 : (bLt v1_1 (p0.length : Nat)) = false := by simpa using hc
        replace H := cond_f hc H
        refine rg ctNo_ok ?_
        simp only [go_sem, Nat.reduceLeDiff, Nat.reduceLT, Nat.reduceAdd, Nat.reduceMul, Nat.reduceSub, Nat.reduceEqDiff, Nat.reduceBEq, Int.reduceToNat, reduceCtorEq]
        refine ⟨_, (Option.some.inj H).symm, ?_⟩
        refine SubF_of ⟨[], ?_, ?_, by rfl, by rfl⟩
        · simp [CvL, Cv, getM, tp, tp, tpg, t8]
        · trivial
      have hk1 : (bLt v1_1 (p0.length : Nat)) = true := by simpa using hc
      replace H := cond_t hc H
      refine rg ctNo_ok ?_
      simp only [go_sem, Nat.reduceLeDiff, Nat.reduceLT, Nat.reduceAdd, Nat.reduceMul, Nat.reduceSub, Nat.reduceEqDiff, Nat.reduceBEq, Int.reduceToNat, reduceCtorEq]
      refine seqM ?_
      refine blkM ?_
      refine sq ctNo_ok ?_
      simp only [go_sem, Nat.reduceLeDiff, Nat.reduceLT, Nat.reduceAdd, Nat.reduceMul, Nat.reduceSub, Nat.reduceEqDiff, Nat.reduceBEq, Int.reduceToNat, reduceCtorEq]
      refine seqM ?_
      obtain ⟨f2, H⟩ := need_some.1 H
      replace f2 := inb_iff.1 f2
      obtain ⟨r3, e4, H⟩ := bsi H
      refine rg ct51_0t0_ok ?_
      simp only [go_sem, Nat.reduceLeDiff, Nat.reduceLT, Nat.reduceAdd, Nat.reduceMul, Nat.reduceSub, Nat.reduceEqDiff, Nat.reduceBEq, Int.reduceToNat, reduceCtorEq, ct51_0t0_52, body52_0, f2, e4]
      repeat ((with_reducible refine And.intro ?_ ?_); focus exact an0)
      refine condM rfl trivial (fun hc => ?_) (fun hc => ?_)
      · have hk5 : (r3) = true := by simpa using hc
        replace H := cond_t hc H
        refine sq ctNo_ok ?_
        simp only [go_sem, Nat.reduceLeDiff, Nat.reduceLT, Nat.reduceAdd, Nat.reduceMul, Nat.reduceSub, Nat.reduceEqDiff, Nat.reduceBEq, Int.reduceToNat, reduceCtorEq]
        refine rg ctNo_ok ?_
        simp only [go_sem, Nat.reduceLeDiff, Nat.reduceLT, Nat.reduceAdd, Nat.reduceMul, Nat.reduceSub, Nat.reduceEqDiff, Nat.reduceBEq, Int.reduceToNat, reduceCtorEq]
        have H := hn2_1 _ (Option.some.inj H).symm
        obtain rfl := Option.some.inj H
        first | rfl | simp only [Bool.and_false, Bool.false_and, Bool.and_true, Bool.true_and]
      have hk5 : (r3) = false := by simpa using hc
      replace H := cond_f hc H
      refine rg ctNo_ok ?_
      simp only [go_sem, Nat.reduceLeDiff, Nat.reduceLT, Nat.reduceAdd, Nat.reduceMul, Nat.reduceSub, Nat.reduceEqDiff, Nat.reduceBEq, Int.reduceToNat, reduceCtorEq]
      refine rg ctNo_ok ?_
      simp only [go_sem, Nat.reduceLeDiff, Nat.reduceLT, Nat.reduceAdd, Nat.reduceMul, Nat.reduceSub, Nat.reduceEqDiff, Nat.reduceBEq, Int.reduceToNat, reduceCtorEq]
      refine ⟨_, (Option.some.inj H).symm, ?_⟩
      refine SubF_of ⟨[], ?_, ?_, by rfl, by rfl⟩
      · simp [CvL, Cv, getM, tp, tp, tpg, t8]
      · trivial
    · try dsimp only at H ⊢
      try simp only [tp]
      try simp only [m_normal, k_normal, b_normal, kL_normal, r_normal]
      refine sq ctNo_ok ?_
      simp only [go_sem, Nat.reduceLeDiff, Nat.reduceLT, Nat.reduceAdd, Nat.reduceMul, Nat.reduceSub, Nat.reduceEqDiff, Nat.reduceBEq, Int.reduceToNat, reduceCtorEq]
      refine rg ctNo_ok ?_
      simp only [go_sem, Nat.reduceLeDiff, Nat.reduceLT, Nat.reduceAdd, Nat.reduceMul, Nat.reduceSub, Nat.reduceEqDiff, Nat.reduceBEq, Int.reduceToNat, reduceCtorEq]
      obtain rfl := Option.some.inj H
      first | rfl | simp only [Bool.and_false, Bool.false_and, Bool.and_true, Bool.true_and]
  · cases hb
/-! hotspot/scan.find -/
noncomputable def ct32t0 : Ct := tab [(51, pureC body51_0)]
theorem ct32t0_ok : CtOk Try.prog ct32t0 := tab_cons ok51_0 <| tab_nil
theorem ct32t0_51 (l : List AV) (h : List ABlk) : ct32t0 51 l h = pureC body51_0 l h := rfl
noncomputable def F32 (p0 : List TElement) (p1 : Int) : Option ((List Int) × Bool) :=
  (F51_0 p0 p1).bind fun r1 => bif (bLt r1 0) then (some ([], false)) else (need (inb r1 p0.length) <| some ((gd p0 r1.toNat).Data, true))
noncomputable def body32 : List AV -> Nat -> AR
  | [v0, v1], _ => .pure (lK k_TElement 4 v0 /\ iK .u8 v1 /\ (F32 (lA g_TElement v0) (iA v1)).isSome = true) (.tup [.ro 1 (((gt (F32 (lA g_TElement v0) (iA v1))).1).length) false (enR c_u8 ((gt (F32 (lA g_TElement v0) (iA v1))).1)), .bool ((gt (F32 (lA g_TElement v0) (iA v1))).2)])
  | _, _ => .fail
set_option maxHeartbeats 4000000 in
set_option maxRecDepth 20000 in
theorem ok32 : FnOk Try.prog 32 (genC body32) := by
  refine gen_fn body32 (rs := [.tmp 4, .tmp 5]) Try.func32 (by kernel_rfl) rfl rfl ?_
  intro l s ob v ns hb hob
  rcases hb with ⟨hb, rfl⟩ | hb
  · unfold body32 at hb
    split at hb
    · rename_i v0 v1
      injection hb with q1 q2; subst q1 q2
      obtain ⟨hk0_0, hk1_0, hob⟩ := hob
      obtain ⟨r, H⟩ := Option.isSome_iff_exists.1 hob
      rw [H, gt_some]
      have hw0 := lK_wk (fun r h => w_TElement h) hk0_0
      have hw1 := iK_wk hk1_0
      generalize lA g_TElement v0 = p0 at H hw0
      generalize iA v1 = p1 at H hw1
      refine ⟨[.ro 4 p0.length false (enR c_TElement p0), .int .u8 p1], .tup [.ro 1 r.1.length false (enR c_u8 r.1), .bool r.2], [], (fun E vs F => FR_wk1 hw0.1 F (fun vs F => FR_wk1 hw1.1 F (fun vs F => F))), by simp only [ren, renL], trivial, ?_⟩
      rw [Try.ntmps32]
      simp only [List.length_cons, List.length_nil, Nat.reduceAdd, Nat.reduceSub, List.replicate_succ, List.replicate_zero, List.cons_append, List.nil_append]
      unfold F32 at H
      try dsimp only at H
      refine sq ctNo_ok ?_
      simp only [go_sem, Nat.reduceLeDiff, Nat.reduceLT, Nat.reduceAdd, Nat.reduceMul, Nat.reduceSub, Nat.reduceEqDiff, Nat.reduceBEq, Int.reduceToNat, reduceCtorEq]
      refine seqM ?_
      obtain ⟨r1, e2, H⟩ := bsi H
      refine rg ct32t0_ok ?_
      simp only [go_sem, Nat.reduceLeDiff, Nat.reduceLT, Nat.reduceAdd, Nat.reduceMul, Nat.reduceSub, Nat.reduceEqDiff, Nat.reduceBEq, Int.reduceToNat, reduceCtorEq, ct32t0_51, body51_0, e2]
      repeat ((with_reducible refine And.intro ?_ ?_); focus exact an0)
      refine seqM ?_
      refine sq ctNo_ok ?_
      simp only [go_sem, Nat.reduceLeDiff, Nat.reduceLT, Nat.reduceAdd, Nat.reduceMul, Nat.reduceSub, Nat.reduceEqDiff, Nat.reduceBEq, Int.reduceToNat, reduceCtorEq]
      refine condM rfl trivial (fun hc => ?_) (fun hc => ?_)
      · have hk3 : (bLt r1 0) = true := by simpa using hc
        replace H := cond_t hc H
        refine sq ctNo_ok ?_
        simp only [go_sem, Nat.reduceLeDiff, Nat.reduceLT, Nat.reduceAdd, Nat.reduceMul, Nat.reduceSub, Nat.reduceEqDiff, Nat.reduceBEq, Int.reduceToNat, reduceCtorEq]
        refine rg ctNo_ok ?_
        simp only [go_sem, Nat.reduceLeDiff, Nat.reduceLT, Nat.reduceAdd, Nat.reduceMul, Nat.reduceSub, Nat.reduceEqDiff, Nat.reduceBEq, Int.reduceToNat, reduceCtorEq]
        obtain rfl := Option.some.inj H
        refine ⟨[0], ?_, ?_, [], ?_, ?_, rfl⟩
        · simp only [go_sem, Nat.reduceEqDiff, Nat.reduceBEq, Nat.reduceAdd]
          try exact at0
        · simp only [go_sem, Nat.reduceEqDiff, Nat.reduceBEq, Nat.reduceAdd]
          try exact at0
        · simp only [go_sem, Nat.reduceEqDiff, Nat.reduceBEq, Nat.reduceAdd]
          exact Cv_tup (CvL_cons (Cv_ronil (α := Int)) (CvL_cons Cv_bool CvL_nil))
        · simp only [go_sem, Nat.reduceEqDiff, Nat.reduceBEq, Nat.reduceAdd, CvH]
      have hk3 : (bLt r1 0) = false := by simpa using hc
      replace H := cond_f hc H
      refine rg ctNo_ok ?_
      simp only [go_sem, Nat.reduceLeDiff, Nat.reduceLT, Nat.reduceAdd, Nat.reduceMul, Nat.reduceSub, Nat.reduceEqDiff, Nat.reduceBEq, Int.reduceToNat, reduceCtorEq]
      refine seqM ?_
      obtain ⟨f4, H⟩ := need_some.1 H
      replace f4 := inb_iff.1 f4
      refine rg ctNo_ok ?_
      simp only [go_sem, Nat.reduceLeDiff, Nat.reduceLT, Nat.reduceAdd, Nat.reduceMul, Nat.reduceSub, Nat.reduceEqDiff, Nat.reduceBEq, Int.reduceToNat, reduceCtorEq, f4]
      repeat ((with_reducible refine And.intro ?_ ?_); focus exact an3)
      refine rg ctNo_ok ?_
      simp only [go_sem, Nat.reduceLeDiff, Nat.reduceLT, Nat.reduceAdd, Nat.reduceMul, Nat.reduceSub, Nat.reduceEqDiff, Nat.reduceBEq, Int.reduceToNat, reduceCtorEq]
      obtain rfl := Option.some.inj H
      refine ⟨[0], ?_, ?_, [], ?_, ?_, rfl⟩
      · simp only [go_sem, Nat.reduceEqDiff, Nat.reduceBEq, Nat.reduceAdd]
        try exact at0
      · simp only [go_sem, Nat.reduceEqDiff, Nat.reduceBEq, Nat.reduceAdd]
        try exact at0
      · simp only [go_sem, Nat.reduceEqDiff, Nat.reduceBEq, Nat.reduceAdd]
        exact Cv_tup (CvL_cons (Cv_nf (by simp only [nref])) (CvL_cons Cv_bool CvL_nil))
      · simp only [go_sem, Nat.reduceEqDiff, Nat.reduceBEq, Nat.reduceAdd, CvH]
    · cases hb
  · unfold body32 at hb
    split at hb <;> cases hb
/-! hotspot/scan.read -/
noncomputable def ct35_0t0 : Ct := tab [(32, genC body32)]
theorem ct35_0t0_ok : CtOk Try.prog ct35_0t0 := tab_cons ok32 <| tab_nil
theorem ct35_0t0_32 (l : List AV) (h : List ABlk) : ct35_0t0 32 l h = genC body32 l h := rfl
noncomputable def F35_0 (p0 : TCandidate) (p1 : TBeacon) : Option (Bool × TCandidate) :=
  (F32 p1.Elems 0).bind fun r1 => (F32 p1.Elems 11).bind fun r3 => bif (((bEq p1.Interval 0) || (bLt 32 (r1.1.length : Nat))) || (r3.2 && (!bEq (r3.1.length : Nat) 1))) then (some (false, p0)) else (need (u8b r1.1.length (enR c_u8 r1.1)) <| bif r3.2 then (need (inb 0 r3.1.length) <| (F32 p1.Elems 48).bind fun r9 => some (true, (TCandidate.mk (A6u8.mk p0.Addr.x0 p0.Addr.x1 p0.Addr.x2 p0.Addr.x3 p0.Addr.x4 p0.Addr.x5) p0.Channel p0.Level (wr .i64 (gd r3.1 0)) p0.Heard (wr .i64 p1.Interval) (bytesC r1.1.length (enR c_u8 r1.1)) r9.2))) else ((F32 p1.Elems 48).bind fun r11 => some (true, (TCandidate.mk (A6u8.mk p0.Addr.x0 p0.Addr.x1 p0.Addr.x2 p0.Addr.x3 p0.Addr.x4 p0.Addr.x5) p0.Channel p0.Level p0.Load p0.Heard (wr .i64 p1.Interval) (bytesC r1.1.length (enR c_u8 r1.1)) r11.2))))
noncomputable def body35_0 : List AV -> List ABlk -> ED
  | [v0, v1], h => .ed [ptB v0] (pK 52 13 h v0 /\ k_TCandidate (getL (roWL h (celL h v0))) /\ nref (getL (celL h v0) 0) /\ nref (getL (celL h v0) 1) /\ nref (getL (celL h v0) 2) /\ nref (getL (celL h v0) 3) /\ nref (getL (celL h v0) 4) /\ nref (getL (celL h v0) 5) /\ nref (getL (celL h v0) 6) /\ nref (getL (celL h v0) 7) /\ nref (getL (celL h v0) 8) /\ nref (getL (celL h v0) 9) /\ nref (getL (celL h v0) 10) /\ nref (getL (celL h v0) 11) /\ nref (getL (celL h v0) 12) /\ aK 4 k_TBeacon (roD (deadL h [ptB v0]) v1) /\ roDOb (deadL h [ptB v0]) v1 /\ (F35_0 (g_TCandidate (getL (roWL h (celL h v0)))) (g_TBeacon (aL (roD (deadL h [ptB v0]) v1)))).isSome = true) (.bool ((gt (F35_0 (g_TCandidate (getL (roWL h (celL h v0)))) (g_TBeacon (aL (roD (deadL h [ptB v0]) v1))))).1)) [.lit 52 [.int .u8 ((((gt (F35_0 (g_TCandidate (getL (roWL h (celL h v0)))) (g_TBeacon (aL (roD (deadL h [ptB v0]) v1))))).2).Addr).x0), .int .u8 ((((gt (F35_0 (g_TCandidate (getL (roWL h (celL h v0)))) (g_TBeacon (aL (roD (deadL h [ptB v0]) v1))))).2).Addr).x1), .int .u8 ((((gt (F35_0 (g_TCandidate (getL (roWL h (celL h v0)))) (g_TBeacon (aL (roD (deadL h [ptB v0]) v1))))).2).Addr).x2), .int .u8 ((((gt (F35_0 (g_TCandidate (getL (roWL h (celL h v0)))) (g_TBeacon (aL (roD (deadL h [ptB v0]) v1))))).2).Addr).x3), .int .u8 ((((gt (F35_0 (g_TCandidate (getL (roWL h (celL h v0)))) (g_TBeacon (aL (roD (deadL h [ptB v0]) v1))))).2).Addr).x4), .int .u8 ((((gt (F35_0 (g_TCandidate (getL (roWL h (celL h v0)))) (g_TBeacon (aL (roD (deadL h [ptB v0]) v1))))).2).Addr).x5), .int .i64 (((gt (F35_0 (g_TCandidate (getL (roWL h (celL h v0)))) (g_TBeacon (aL (roD (deadL h [ptB v0]) v1))))).2).Channel), .int .i64 (((gt (F35_0 (g_TCandidate (getL (roWL h (celL h v0)))) (g_TBeacon (aL (roD (deadL h [ptB v0]) v1))))).2).Level), .int .i64 (((gt (F35_0 (g_TCandidate (getL (roWL h (celL h v0)))) (g_TBeacon (aL (roD (deadL h [ptB v0]) v1))))).2).Load), .int .i64 (((gt (F35_0 (g_TCandidate (getL (roWL h (celL h v0)))) (g_TBeacon (aL (roD (deadL h [ptB v0]) v1))))).2).Heard), .int .i64 (((gt (F35_0 (g_TCandidate (getL (roWL h (celL h v0)))) (g_TBeacon (aL (roD (deadL h [ptB v0]) v1))))).2).Interval), .str (((gt (F35_0 (g_TCandidate (getL (roWL h (celL h v0)))) (g_TBeacon (aL (roD (deadL h [ptB v0]) v1))))).2).Name), .bool (((gt (F35_0 (g_TCandidate (getL (roWL h (celL h v0)))) (g_TBeacon (aL (roD (deadL h [ptB v0]) v1))))).2).Secure)]]
  | _, _ => .fail
set_option maxHeartbeats 4000000 in
set_option maxRecDepth 20000 in
theorem ok35_0 : FnOk Try.prog 35 (edC body35_0) := by
  refine edit_fnV body35_0 (rs := [.tmp 4]) Try.func35 (by kernel_rfl) rfl rfl ?_
  intro l h bs ob q0 g0 hb hob
  unfold body35_0 at hb
  split at hb
  · rename_i v0 v1
    injection hb with q1 q2 q3 q4; subst q1 q2 q3 q4
    obtain ⟨hk0_0, hk0_1, hk0_2, hk0_3, hk0_4, hk0_5, hk0_6, hk0_7, hk0_8, hk0_9, hk0_10, hk0_11, hk0_12, hk0_13, hk0_14, hk1_0, hk1_1, hob⟩ := hob
    obtain ⟨r, H⟩ := Option.isSome_iff_exists.1 hob
    rw [H, gt_some]
    obtain ⟨p0, hp0⟩ : ∃ p0, p0 = g_TCandidate (getL (roWL h (celL h v0))) := ⟨_, rfl⟩
    rw [← hp0] at H
    have hw0 : ∀ y, y < 13 -> WkV (getL (c_TCandidate p0) y) (roW h (getL (celL h v0) y)) /\ nref (getL (c_TCandidate p0) y) := fun y hy => by rw [hp0, ← getL_roWL]; exact w_TCandidate hk0_1 y hy
    have hk0_K := hk0_1
    unfold k_TCandidate at hk0_K
    obtain ⟨kk0_0, kk0_1, kk0_2, kk0_3, kk0_4, kk0_5, kk0_6, kk0_7, kk0_8, kk0_9, kk0_10, kk0_11, kk0_12⟩ := hk0_K
    have hw1 := wA_TBeacon hk1_0
    obtain ⟨p1, hp_p1⟩ : ∃ p1, p1 = g_TBeacon (aL (roD (deadL h [ptB v0]) v1)) := ⟨_, rfl⟩
    rw [← hp_p1] at H hw1
    refine ⟨[.ptr 0 0 0 0, .agg [.int .u64 p1.Time, .int .u16 p1.Interval, .int .u16 p1.Caps, .ro 4 p1.Elems.length false (enR c_TElement p1.Elems)]], [.lit 52 [.int .u8 p0.Addr.x0, .int .u8 p0.Addr.x1, .int .u8 p0.Addr.x2, .int .u8 p0.Addr.x3, .int .u8 p0.Addr.x4, .int .u8 p0.Addr.x5, .int .i64 p0.Channel, .int .i64 p0.Level, .int .i64 p0.Load, .int .i64 p0.Heard, .int .i64 p0.Interval, .str p0.Name, .bool p0.Secure]], rfl, ⟨(EW_own (EV_pK hk0_0 rfl) (by simp only [noro, noroL, and_self])), ⟨(EW_view hk1_1 hw1), trivial⟩⟩, ⟨(EB_pK hk0_0 rfl rfl (fun y hy => by
          match y, hy with
          | 0, _ => exact EV_t hk0_2 (hw0 0 (by decide))
          | 1, _ => exact EV_t hk0_3 (hw0 1 (by decide))
          | 2, _ => exact EV_t hk0_4 (hw0 2 (by decide))
          | 3, _ => exact EV_t hk0_5 (hw0 3 (by decide))
          | 4, _ => exact EV_t hk0_6 (hw0 4 (by decide))
          | 5, _ => exact EV_t hk0_7 (hw0 5 (by decide))
          | 6, _ => exact EV_t hk0_8 (hw0 6 (by decide))
          | 7, _ => exact EV_t hk0_9 (hw0 7 (by decide))
          | 8, _ => exact EV_t hk0_10 (hw0 8 (by decide))
          | 9, _ => exact EV_t hk0_11 (hw0 9 (by decide))
          | 10, _ => exact EV_t hk0_12 (hw0 10 (by decide))
          | 11, _ => exact EV_t hk0_13 (hw0 11 (by decide))
          | 12, _ => exact EV_t hk0_14 (hw0 12 (by decide))
          | y + 13, hy => omega)), trivial⟩, ⟨(by simp only [noroB, noroL, noro, and_self]), trivial⟩, ⟨trivial, trivial⟩, ⟨(by simp only [noroB, noroL, noro, and_self]), trivial⟩, (by first | (simp only [noro, noroL, and_self]; done) | (simp only [noro, noroL]; and_intros <;> first | trivial | exact noro_bif (by simp only [noro]) (by simp only [noro]) | (simp only [noro, noroL, and_self]))), ?_⟩
    rw [Try.ntmps35]
    simp only [List.length_cons, List.length_nil, Nat.reduceAdd, Nat.reduceSub, List.replicate_succ, List.replicate_zero, List.cons_append, List.nil_append]
    unfold F35_0 at H
    try dsimp only at H
    refine sq ctNo_ok ?_
    simp only [go_sem, Nat.reduceLeDiff, Nat.reduceLT, Nat.reduceAdd, Nat.reduceMul, Nat.reduceSub, Nat.reduceEqDiff, Nat.reduceBEq, Int.reduceToNat, reduceCtorEq]
    refine seqM ?_
    obtain ⟨r1, e2, H⟩ := bsi H
    refine rg ct35_0t0_ok ?_
    simp only [go_sem, Nat.reduceLeDiff, Nat.reduceLT, Nat.reduceAdd, Nat.reduceMul, Nat.reduceSub, Nat.reduceEqDiff, Nat.reduceBEq, Int.reduceToNat, reduceCtorEq, ct35_0t0_32, body32, e2]
    repeat ((with_reducible refine And.intro ?_ ?_); focus exact an0)
    refine seqM ?_
    obtain ⟨r3, e4, H⟩ := bsi H
    refine rg ct35_0t0_ok ?_
    simp only [go_sem, Nat.reduceLeDiff, Nat.reduceLT, Nat.reduceAdd, Nat.reduceMul, Nat.reduceSub, Nat.reduceEqDiff, Nat.reduceBEq, Int.reduceToNat, reduceCtorEq, ct35_0t0_32, body32, e4]
    repeat ((with_reducible refine And.intro ?_ ?_); focus exact an0)
    refine seqM ?_
    refine sq ctNo_ok ?_
    simp only [go_sem, Nat.reduceLeDiff, Nat.reduceLT, Nat.reduceAdd, Nat.reduceMul, Nat.reduceSub, Nat.reduceEqDiff, Nat.reduceBEq, Int.reduceToNat, reduceCtorEq]
    repeat ((with_reducible refine And.intro ?_ ?_); focus exact an6)
    refine condM rfl trivial (fun hc => ?_) (fun hc => ?_)
    · have hk5 : (((bEq p1.Interval 0) || (bLt 32 (r1.1.length : Nat))) || (r3.2 && (!bEq (r3.1.length : Nat) 1))) = true := by first | simpa using hc | simpa only [Bool.not_eq_true', Bool.not_eq_false'] using hc
      replace H := cond_t hc H
      refine sq ctNo_ok ?_
      simp only [go_sem, Nat.reduceLeDiff, Nat.reduceLT, Nat.reduceAdd, Nat.reduceMul, Nat.reduceSub, Nat.reduceEqDiff, Nat.reduceBEq, Int.reduceToNat, reduceCtorEq]
      refine rg ctNo_ok ?_
      simp only [go_sem, Nat.reduceLeDiff, Nat.reduceLT, Nat.reduceAdd, Nat.reduceMul, Nat.reduceSub, Nat.reduceEqDiff, Nat.reduceBEq, Int.reduceToNat, reduceCtorEq]
      obtain rfl := Option.some.inj H
      refine RetE_mk [] [some 0] ?_ ?_ ?_ ?_ (by rfl) (by rfl)
      · simp only [go_sem, Nat.reduceEqDiff, Nat.reduceBEq, Nat.reduceAdd]
        try exact at0
      · simp only [go_sem, Nat.reduceEqDiff, Nat.reduceBEq, Nat.reduceAdd]
        try exact at0
      · simp only [go_sem, Nat.reduceEqDiff, Nat.reduceBEq, Nat.reduceAdd]
        exact Cv_bool
      · simp only [go_sem, Nat.reduceEqDiff, Nat.reduceBEq, Nat.reduceAdd, CvH, gt_some, Option.isSome_some, Option.isSome_none]
        exact (by simp [CvB, CvL, Cv, blkAt, geth, getM, gt_some, cond_true, cond_false])
    have hk5 : (((bEq p1.Interval 0) || (bLt 32 (r1.1.length : Nat))) || (r3.2 && (!bEq (r3.1.length : Nat) 1))) = false := by first | simpa using hc | simpa only [Bool.not_eq_true', Bool.not_eq_false'] using hc
    replace H := cond_f hc H
    refine rg ctNo_ok ?_
    simp only [go_sem, Nat.reduceLeDiff, Nat.reduceLT, Nat.reduceAdd, Nat.reduceMul, Nat.reduceSub, Nat.reduceEqDiff, Nat.reduceBEq, Int.reduceToNat, reduceCtorEq]
    refine seqM ?_
    obtain ⟨f6, H⟩ := need_some.1 H
    replace f6 := u8b_iff.1 f6
    refine rg ctNo_ok ?_
    simp only [go_sem, Nat.reduceLeDiff, Nat.reduceLT, Nat.reduceAdd, Nat.reduceMul, Nat.reduceSub, Nat.reduceEqDiff, Nat.reduceBEq, Int.reduceToNat, reduceCtorEq, f6]
    repeat ((with_reducible refine And.intro ?_ ?_); focus (first | (with_reducible trivial) | omega | exact f6 | exact ⟨trivial, f6⟩ | grind))
    refine seqM ?_
    refine sq ctNo_ok ?_
    simp only [go_sem, Nat.reduceLeDiff, Nat.reduceLT, Nat.reduceAdd, Nat.reduceMul, Nat.reduceSub, Nat.reduceEqDiff, Nat.reduceBEq, Int.reduceToNat, reduceCtorEq]
    refine condM' rfl trivial (fun hc => ?_) (fun hc => ?_)
    · have hk7 : (r3.2) = false := by simpa using hc
      replace H := cond_f hc H
      refine rg ctNo_ok ?_
      simp only [go_sem, Nat.reduceLeDiff, Nat.reduceLT, Nat.reduceAdd, Nat.reduceMul, Nat.reduceSub, Nat.reduceEqDiff, Nat.reduceBEq, Int.reduceToNat, reduceCtorEq]
      refine seqM ?_
      obtain ⟨r11, e12, H⟩ := bsi H
      refine rg ct35_0t0_ok ?_
      simp only [go_sem, Nat.reduceLeDiff, Nat.reduceLT, Nat.reduceAdd, Nat.reduceMul, Nat.reduceSub, Nat.reduceEqDiff, Nat.reduceBEq, Int.reduceToNat, reduceCtorEq, ct35_0t0_32, body32, e12]
      repeat ((with_reducible refine And.intro ?_ ?_); focus exact an2)
      refine sq ctNo_ok ?_
      simp only [go_sem, Nat.reduceLeDiff, Nat.reduceLT, Nat.reduceAdd, Nat.reduceMul, Nat.reduceSub, Nat.reduceEqDiff, Nat.reduceBEq, Int.reduceToNat, reduceCtorEq]
      refine rg ctNo_ok ?_
      simp only [go_sem, Nat.reduceLeDiff, Nat.reduceLT, Nat.reduceAdd, Nat.reduceMul, Nat.reduceSub, Nat.reduceEqDiff, Nat.reduceBEq, Int.reduceToNat, reduceCtorEq]
      obtain rfl := Option.some.inj H
      refine RetE_mk [] [some 0] ?_ ?_ ?_ ?_ (by rfl) (by rfl)
      · simp only [go_sem, Nat.reduceEqDiff, Nat.reduceBEq, Nat.reduceAdd]
        try exact at0
      · simp only [go_sem, Nat.reduceEqDiff, Nat.reduceBEq, Nat.reduceAdd]
        try exact at0
      · simp only [go_sem, Nat.reduceEqDiff, Nat.reduceBEq, Nat.reduceAdd]
        exact Cv_bool
      · simp only [go_sem, Nat.reduceEqDiff, Nat.reduceBEq, Nat.reduceAdd, CvH, gt_some, Option.isSome_some, Option.isSome_none]
        exact (by simp [CvB, CvL, Cv, blkAt, geth, getM, gt_some, cond_true, cond_false])
    have hk7 : (r3.2) = true := by simpa using hc
    replace H := cond_t hc H
    obtain ⟨f8, H⟩ := need_some.1 H
    replace f8 := inb_iff.1 f8
    refine rg ctNo_ok ?_
    simp only [go_sem, Nat.reduceLeDiff, Nat.reduceLT, Nat.reduceAdd, Nat.reduceMul, Nat.reduceSub, Nat.reduceEqDiff, Nat.reduceBEq, Int.reduceToNat, reduceCtorEq, f8]
    repeat ((with_reducible refine And.intro ?_ ?_); focus exact an3)
    refine seqM ?_
    obtain ⟨r9, e10, H⟩ := bsi H
    refine rg ct35_0t0_ok ?_
    simp only [go_sem, Nat.reduceLeDiff, Nat.reduceLT, Nat.reduceAdd, Nat.reduceMul, Nat.reduceSub, Nat.reduceEqDiff, Nat.reduceBEq, Int.reduceToNat, reduceCtorEq, ct35_0t0_32, body32, e10]
    repeat ((with_reducible refine And.intro ?_ ?_); focus exact an2)
    refine sq ctNo_ok ?_
    simp only [go_sem, Nat.reduceLeDiff, Nat.reduceLT, Nat.reduceAdd, Nat.reduceMul, Nat.reduceSub, Nat.reduceEqDiff, Nat.reduceBEq, Int.reduceToNat, reduceCtorEq]
    refine rg ctNo_ok ?_
    simp only [go_sem, Nat.reduceLeDiff, Nat.reduceLT, Nat.reduceAdd, Nat.reduceMul, Nat.reduceSub, Nat.reduceEqDiff, Nat.reduceBEq, Int.reduceToNat, reduceCtorEq]
    obtain rfl := Option.some.inj H
    refine RetE_mk [] [some 0] ?_ ?_ ?_ ?_ (by rfl) (by rfl)
    · simp only [go_sem, Nat.reduceEqDiff, Nat.reduceBEq, Nat.reduceAdd]
      try exact at0
    · simp only [go_sem, Nat.reduceEqDiff, Nat.reduceBEq, Nat.reduceAdd]
      try exact at0
    · simp only [go_sem, Nat.reduceEqDiff, Nat.reduceBEq, Nat.reduceAdd]
      exact Cv_bool
    · simp only [go_sem, Nat.reduceEqDiff, Nat.reduceBEq, Nat.reduceAdd, CvH, gt_some, Option.isSome_some, Option.isSome_none]
      exact (by simp [CvB, CvL, Cv, blkAt, geth, getM, gt_some, cond_true, cond_false])
  · cases hb
/-! slices.Clone[[]hotspot/api.Candidate,hotspot/api.Candidate] -/
noncomputable def F36 (p0 : List TCandidate) : Option (List TCandidate) :=
  need (capb 72 p0.length) <| some p0
noncomputable def body36 : List AV -> List ABlk -> ED
  | [v0], h => .ed [] (lK k_TCandidate 13 (roD (deadL h []) v0) /\ roDOb (deadL h []) v0 /\ (F36 (lA g_TCandidate (roD (deadL h []) v0))).isSome = true) (.sl 0 13 0 (gt (F36 (lA g_TCandidate (roD (deadL h []) v0)))).length false) [.row 52 13 (gt (F36 (lA g_TCandidate (roD (deadL h []) v0)))).length (enR c_TCandidate (gt (F36 (lA g_TCandidate (roD (deadL h []) v0)))))]
  | _, _ => .fail
set_option maxHeartbeats 4000000 in
set_option maxRecDepth 20000 in
theorem ok36 : FnOk Try.prog 36 (edC body36) := by
  refine edit_fnV body36 (rs := [.tmp 2]) Try.func36 (by kernel_rfl) rfl rfl ?_
  intro l h bs ob q0 g0 hb hob
  unfold body36 at hb
  split at hb
  · rename_i v0
    injection hb with q1 q2 q3 q4; subst q1 q2 q3 q4
    obtain ⟨hk0, hk1, hob⟩ := hob
    obtain ⟨r, H⟩ := Option.isSome_iff_exists.1 hob
    rw [H, gt_some]
    have hw0 := lK_wk (fun r h => w_TCandidate h) hk0
    generalize lA g_TCandidate (roD (deadL h []) v0) = p0 at H hw0
    unfold F36 at H
    obtain ⟨f1, H⟩ := need_some.1 H
    replace f1 := capb_iff.1 f1
    obtain rfl := Option.some.inj H
    refine ⟨[.ro 13 p0.length false (enR c_TCandidate p0)], [], rfl, ⟨EW_view hk1 hw0, trivial⟩, trivial, trivial, ⟨nfB_en nr_TCandidate, trivial⟩, ⟨noroB_en, trivial⟩, (by simp only [noro]), ?_⟩
    rw [Try.ntmps36]
    simp only [List.length_cons, List.length_nil, Nat.reduceAdd, Nat.reduceSub, List.replicate_succ, List.replicate_zero, List.cons_append, List.nil_append]
    refine rg ctNo_ok ?_
    have nfs : ∀ x y, nref (enR c_TCandidate p0 x y) := fun x y => nfR_en nr_TCandidate
    generalize hc : enR c_TCandidate p0 = c at nfs hw0
    cases hn : p0.length with
    | zero =>
      simp only [go_sem, Nat.reduceLeDiff, Nat.reduceLT, Nat.reduceAdd, Nat.reduceMul, Nat.reduceSub, Nat.reduceEqDiff, Nat.reduceBEq, Int.reduceToNat, reduceCtorEq]
      have hp : p0 = [] := List.eq_nil_of_length_eq_zero hn
      subst hp; subst hc
      refine ⟨?_, ?_⟩
      · refine RetE_mk [] [none] ?_ ?_ ?_ ?_ (by rfl) (by rfl)
        · simp only [List.length_cons, List.length_nil, Nat.zero_mul, Nat.add_zero, fzV, fzL, fzOb, fzObL, fzH, fzHF, fzB, fzObB, fzObH, inL, rowOb, geth, cond_true, cond_false, Bool.or_false, Bool.or_true, Bool.false_or, Bool.true_or, and_self, true_and, and_true, Nat.reduceEqDiff, Nat.reduceBEq, beq_self_eq_true, sub_enR0, Nat.reduceAdd, Nat.zero_add, Nat.le_refl, List.nil_append]
        · simp only [List.length_cons, List.length_nil, Nat.zero_mul, Nat.add_zero, fzV, fzL, fzOb, fzObL, fzH, fzHF, fzB, fzObB, fzObH, inL, rowOb, geth, cond_true, cond_false, Bool.or_false, Bool.or_true, Bool.false_or, Bool.true_or, and_self, true_and, and_true, Nat.reduceEqDiff, Nat.reduceBEq, beq_self_eq_true, sub_enR0, Nat.reduceAdd, Nat.zero_add, Nat.le_refl, List.nil_append]
        · simp [fzV, Cv, CvL, getM]
        · simp only [List.length_cons, List.length_nil, Nat.zero_mul, Nat.add_zero, fzV, fzL, fzOb, fzObL, fzH, fzHF, fzB, fzObB, fzObH, inL, rowOb, geth, cond_true, cond_false, Bool.or_false, Bool.or_true, Bool.false_or, Bool.true_or, and_self, true_and, and_true, Nat.reduceEqDiff, Nat.reduceBEq, beq_self_eq_true, sub_enR0, Nat.reduceAdd, Nat.zero_add, Nat.le_refl, List.nil_append, CvH, and_true]; exact CvB_none
      · refine ⟨by omega, RetE_mk [] [some 1] ?_ ?_ ?_ ?_ (by rfl) (by rfl)⟩
        · simp only [List.length_cons, List.length_nil, Nat.zero_mul, Nat.add_zero, fzV, fzL, fzOb, fzObL, fzH, fzHF, fzB, fzObB, fzObH, inL, rowOb, geth, cond_true, cond_false, Bool.or_false, Bool.or_true, Bool.false_or, Bool.true_or, and_self, true_and, and_true, Nat.reduceEqDiff, Nat.reduceBEq, beq_self_eq_true, sub_enR0, Nat.reduceAdd, Nat.zero_add, Nat.le_refl, List.nil_append]
        · simp only [List.length_cons, List.length_nil, Nat.zero_mul, Nat.add_zero, fzV, fzL, fzOb, fzObL, fzH, fzHF, fzB, fzObB, fzObH, inL, rowOb, geth, cond_true, cond_false, Bool.or_false, Bool.or_true, Bool.false_or, Bool.true_or, and_self, true_and, and_true, Nat.reduceEqDiff, Nat.reduceBEq, beq_self_eq_true, sub_enR0, Nat.reduceAdd, Nat.zero_add, Nat.le_refl, List.nil_append]
        · simp [fzV, inL, Cv, CvL, getM]
        · simp only [List.length_cons, List.length_nil, Nat.zero_mul, Nat.add_zero, fzV, fzL, fzOb, fzObL, fzH, fzHF, fzB, fzObB, fzObH, inL, rowOb, geth, cond_true, cond_false, Bool.or_false, Bool.or_true, Bool.false_or, Bool.true_or, and_self, true_and, and_true, Nat.reduceEqDiff, Nat.reduceBEq, beq_self_eq_true, sub_enR0, Nat.reduceAdd, Nat.zero_add, Nat.le_refl, List.nil_append, CvH, and_true]; exact CvB_row0 nr_TCandidate
    | succ m =>
      simp only [go_sem, Nat.reduceLeDiff, Nat.reduceLT, Nat.reduceAdd, Nat.reduceMul, Nat.reduceSub, Nat.reduceEqDiff, Nat.reduceBEq, Int.reduceToNat, reduceCtorEq]
      refine ⟨by omega, RetE_mk [] [some 1] ?_ ?_ ?_ ?_ (by rfl) (by rfl)⟩
      · simp only [List.length_cons, List.length_nil, Nat.zero_mul, Nat.add_zero, fzV, fzL, fzOb, fzObL, fzH, fzHF, fzB, fzObB, fzObH, inL, rowOb, geth, cond_true, cond_false, Bool.or_false, Bool.or_true, Bool.false_or, Bool.true_or, and_self, true_and, and_true, Nat.reduceEqDiff, Nat.reduceBEq, beq_self_eq_true, sub_enR0, Nat.reduceAdd, Nat.zero_add, Nat.le_refl, List.nil_append]
      · simp only [List.length_cons, List.length_nil, Nat.zero_mul, Nat.add_zero, fzV, fzL, fzOb, fzObL, fzH, fzHF, fzB, fzObB, fzObH, inL, rowOb, geth, cond_true, cond_false, Bool.or_false, Bool.or_true, Bool.false_or, Bool.true_or, and_self, true_and, and_true, Nat.reduceEqDiff, Nat.reduceBEq, beq_self_eq_true, sub_enR0, Nat.reduceAdd, Nat.zero_add, Nat.le_refl, List.nil_append]
      · simp [fzV, inL, Cv, CvL, getM]
      · simp only [List.length_cons, List.length_nil, Nat.zero_mul, Nat.add_zero, fzV, fzL, fzOb, fzObL, fzH, fzHF, fzB, fzObB, fzObH, inL, rowOb, geth, cond_true, cond_false, Bool.or_false, Bool.or_true, Bool.false_or, Bool.true_or, and_self, true_and, and_true, Nat.reduceEqDiff, Nat.reduceBEq, beq_self_eq_true, sub_enR0, Nat.reduceAdd, Nat.zero_add, Nat.le_refl, List.nil_append, CvH, and_true]; rw [← hn, ← hc]; exact CvB_row nr_TCandidate rfl (fun x y hx hy => by simp only [appC, Nat.not_lt_zero, if_false, Nat.sub_zero])
  · cases hb
/-! hotspot/scan.Learn$1 -/
noncomputable def ct38_0t0 : Ct := tab [(39, pureC body39)]
theorem ct38_0t0_ok : CtOk Try.prog ct38_0t0 := tab_cons ok39 <| tab_nil
theorem ct38_0t0_39 (l : List AV) (h : List ABlk) : ct38_0t0 39 l h = pureC body39 l h := rfl
noncomputable def F38_0 (p0 : Int) (p1 : List TCandidate) (p2 : A6u8) : Option (Bool) :=
  need (inb p0 p1.length) <| (F39 ((gd p1 p0.toNat).Addr) p2).bind fun r2 => some (bLe 0 r2)
noncomputable def body38_0 : List AV -> AR
  | [v0, v1, v2] => .pure (iK .i64 v0 /\ rK 1 k_lTCandidate v1 /\ rK 6 k_A6u8 v2 /\ (F38_0 (iA v0) (g_lTCandidate (rG v1)) (g_A6u8 (rG v2))).isSome = true) (.bool (gt (F38_0 (iA v0) (g_lTCandidate (rG v1)) (g_A6u8 (rG v2)))))
  | _ => .fail
set_option maxHeartbeats 4000000 in
set_option maxRecDepth 20000 in
theorem ok38_0 : FnOk Try.prog 38 (pureC body38_0) := by
  refine pure_fnM body38_0 (rs := [.tmp 4]) Try.func38 (by kernel_rfl) rfl rfl ?_
  intro l ob v hb hob
  unfold body38_0 at hb
  split at hb
  · rename_i v0 v1 v2
    injection hb with q1 q2; subst q1 q2
    obtain ⟨hk0_0, hk1_0, hk2_0, hob⟩ := hob
    obtain ⟨r, H⟩ := Option.isSome_iff_exists.1 hob
    rw [H, gt_some]
    have hw0 := iK_wk hk0_0
    have hw1 := rK_wk (f := c_lTCandidate) (g := g_lTCandidate) (fun r h => w_lTCandidate h) hk1_0
    have hw2 := rK_wk (f := c_A6u8) (g := g_A6u8) (fun r h => w_A6u8 h) hk2_0
    generalize iA v0 = p0 at H hw0
    generalize g_lTCandidate (rG v1) = p1 at H hw1
    generalize g_A6u8 (rG v2) = p2 at H hw2
    refine ⟨[.int .i64 p0, .rptr 1 1 0 0 (enR c_lTCandidate [p1]), .rptr 6 1 0 0 (enR c_A6u8 [p2])], _, (fun E vs F => FR_wk1 hw0.1 F (fun vs F => FR_wk1 hw1.1 F (fun vs F => FR_wk1 hw2.1 F (fun vs F => F)))), rfl, rfl, ?_⟩
    rw [Try.ntmps38]
    simp only [List.length_cons, List.length_nil, Nat.reduceAdd, Nat.reduceSub, List.replicate_succ, List.replicate_zero, List.cons_append, List.nil_append]
    unfold F38_0 at H
    try dsimp only at H
    refine sq ctNo_ok ?_
    simp only [go_sem, Nat.reduceLeDiff, Nat.reduceLT, Nat.reduceAdd, Nat.reduceMul, Nat.reduceSub, Nat.reduceEqDiff, Nat.reduceBEq, Int.reduceToNat, reduceCtorEq]
    refine seqM ?_
    obtain ⟨f1, H⟩ := need_some.1 H
    replace f1 := inb_iff.1 f1
    obtain ⟨r2, e3, H⟩ := bsi H
    refine draw_quiet shT_ok ct38_0t0_ok (by kernel_rfl) (by kernel_rfl) ?_
    simp only [go_sem, Nat.reduceLeDiff, Nat.reduceLT, Nat.reduceAdd, Nat.reduceMul, Nat.reduceSub, Nat.reduceEqDiff, Nat.reduceBEq, Int.reduceToNat, reduceCtorEq, ct38_0t0_39, body39, f1, e3]
    repeat ((with_reducible refine And.intro ?_ ?_); focus exact an0)
    refine rg ctNo_ok ?_
    simp only [go_sem, Nat.reduceLeDiff, Nat.reduceLT, Nat.reduceAdd, Nat.reduceMul, Nat.reduceSub, Nat.reduceEqDiff, Nat.reduceBEq, Int.reduceToNat, reduceCtorEq]
    obtain rfl := Option.some.inj H
    first | rfl | simp only [Bool.and_false, Bool.false_and, Bool.and_true, Bool.true_and]
  · cases hb
/-! sort.Search -/
noncomputable def ct37_0t0 : Ct := tab [(38, pureC body38_0)]
theorem ct37_0t0_ok : CtOk Try.prog ct37_0t0 := tab_cons ok38_0 <| tab_nil
theorem ct37_0t0_38 (l : List AV) (h : List ABlk) : ct37_0t0 38 l h = pureC body38_0 l h := rfl
noncomputable def F37_0_L1 (p1 : List TCandidate) (p2 : A6u8) (v1_1 : Int) (v1_2 : Int) : Option (Lp (Int × Int) ((Int) ⊕ (Int))) :=
  bif (bLt v1_1 v1_2) then ((F38_0 (wr .i64 (shrI .u64 (wr .u64 (wr .i64 (v1_1 + v1_2))) 1)) p1 p2).bind fun r2 => bif (!r2) then (some (.next (wr .i64 ((wr .i64 (shrI .u64 (wr .u64 (wr .i64 (v1_1 + v1_2))) 1)) + 1), v1_2))) else (some (.next (v1_1, wr .i64 (shrI .u64 (wr .u64 (wr .i64 (v1_1 + v1_2))) 1))))) else (some (.done (.inl v1_1)))
noncomputable def F37_0 (p0 : Int) (p1 : List TCandidate) (p2 : A6u8) : Option (Int) :=
  lp (loopD (fun s => F37_0_L1 p1 p2 s.1 s.2) (0, p0)) (fun w1_3 => some w1_3) some
noncomputable def body37_0 : List AV -> AR
  | [v0, .fn 38 [v1, v2]] => .pure (iK .i64 v0 /\ rK 1 k_lTCandidate v1 /\ rK 6 k_A6u8 v2 /\ (F37_0 (iA v0) (g_lTCandidate (rG v1)) (g_A6u8 (rG v2))).isSome = true) (.int .i64 (gt (F37_0 (iA v0) (g_lTCandidate (rG v1)) (g_A6u8 (rG v2)))))
  | _ => .fail
set_option maxHeartbeats 4000000 in
set_option maxRecDepth 20000 in
theorem ok37_0 : FnOk Try.prog 37 (pureC body37_0) := by
  refine pure_fnM body37_0 (rs := [.tmp 4]) Try.func37 (by kernel_rfl) rfl rfl ?_
  intro l ob v hb hob
  unfold body37_0 at hb
  split at hb
  · rename_i v0 v1 v2
    injection hb with q1 q2; subst q1 q2
    obtain ⟨hk0_0, hk1_0, hk2_0, hob⟩ := hob
    obtain ⟨r, H⟩ := Option.isSome_iff_exists.1 hob
    rw [H, gt_some]
    have hw0 := iK_wk hk0_0
    have hw1 := rK_wk (f := c_lTCandidate) (g := g_lTCandidate) (fun r h => w_lTCandidate h) hk1_0
    have hw2 := rK_wk (f := c_A6u8) (g := g_A6u8) (fun r h => w_A6u8 h) hk2_0
    generalize iA v0 = p0 at H hw0
    generalize g_lTCandidate (rG v1) = p1 at H hw1
    generalize g_A6u8 (rG v2) = p2 at H hw2
    refine ⟨[.int .i64 p0, .fn 38 [.rptr 1 1 0 0 (enR c_lTCandidate [p1]), .rptr 6 1 0 0 (enR c_A6u8 [p2])]], _, (fun E vs F => FR_wk1 hw0.1 F (fun vs F => FR_wk1 (fn_wk (LW_cons hw1.1 (LW_cons hw2.1 LW_nil))) F (fun vs F => F))), rfl, rfl, ?_⟩
    rw [Try.ntmps37]
    simp only [List.length_cons, List.length_nil, Nat.reduceAdd, Nat.reduceSub, List.replicate_succ, List.replicate_zero, List.cons_append, List.nil_append]
    unfold F37_0 at H
    try dsimp only at H
    refine sq ctNo_ok ?_
    simp only [go_sem, Nat.reduceLeDiff, Nat.reduceLT, Nat.reduceAdd, Nat.reduceMul, Nat.reduceSub, Nat.reduceEqDiff, Nat.reduceBEq, Int.reduceToNat, reduceCtorEq]
    refine sq ctNo_ok ?_
    simp only [go_sem, Nat.reduceLeDiff, Nat.reduceLT, Nat.reduceAdd, Nat.reduceMul, Nat.reduceSub, Nat.reduceEqDiff, Nat.reduceBEq, Int.reduceToNat, reduceCtorEq]
    refine seqM ?_
    refine blkM ?_
    refine loop_den (fun s : Int × Int => (.top :: .fn 38 [.rptr 1 1 0 0 (enR c_lTCandidate [p1]), .rptr 6 1 0 0 (enR c_A6u8 [p2])] :: .top :: .top :: .top :: .int .i64 s.1 :: .int .i64 s.2 :: tp 19 [])) (fun s => []) (fun e : Int => (tp 5 (.int .i64 e :: tp 20 []))) (fun e => []) H ?_ (fun s o H hn1_1 hn2_1 => ?_) (fun w1_3 H => ?_)
    · refine SubF_of ⟨[], ?_, ?_, by rfl, by rfl⟩
      · simp [CvL, Cv, getM, tp, tp, tpg, t8]
      · trivial
    · obtain ⟨v1_1, v1_2⟩ := s
      unfold F37_0_L1 at H
      try dsimp only at H ⊢
      try simp only [tp]
      refine seqM ?_
      refine sq ctNo_ok ?_
      simp only [go_sem, Nat.reduceLeDiff, Nat.reduceLT, Nat.reduceAdd, Nat.reduceMul, Nat.reduceSub, Nat.reduceEqDiff, Nat.reduceBEq, Int.reduceToNat, reduceCtorEq]
      refine condM' rfl trivial (fun hc => ?_) (fun hc => ?_)
      · have hk1 : (bLt v1_1 v1_2) = false := by simpa using hc
        replace H := cond_f hc H
        refine rg ctNo_ok ?_
        simp only [go_sem, Nat.reduceLeDiff, Nat.reduceLT, Nat.reduceAdd, Nat.reduceMul, Nat.reduceSub, Nat.reduceEqDiff, Nat.reduceBEq, Int.reduceToNat, reduceCtorEq]
        refine ⟨_, (Option.some.inj H).symm, ?_⟩
        refine SubF_of ⟨[], ?_, ?_, by rfl, by rfl⟩
        · simp [CvL, Cv, getM, tp, tp, tpg, t8]
        · trivial
      have hk1 : (bLt v1_1 v1_2) = true := by simpa using hc
      replace H := cond_t hc H
      refine rg ctNo_ok ?_
      simp only [go_sem, Nat.reduceLeDiff, Nat.reduceLT, Nat.reduceAdd, Nat.reduceMul, Nat.reduceSub, Nat.reduceEqDiff, Nat.reduceBEq, Int.reduceToNat, reduceCtorEq]
      refine blkM ?_
      refine sq ctNo_ok ?_
      simp only [go_sem, Nat.reduceLeDiff, Nat.reduceLT, Nat.reduceAdd, Nat.reduceMul, Nat.reduceSub, Nat.reduceEqDiff, Nat.reduceBEq, Int.reduceToNat, reduceCtorEq]
      repeat ((with_reducible refine And.intro ?_ ?_); focus exact an3)
      refine seqM ?_
      obtain ⟨r2, e3, H⟩ := bsi H
      refine rg ct37_0t0_ok ?_
      simp only [go_sem, Nat.reduceLeDiff, Nat.reduceLT, Nat.reduceAdd, Nat.reduceMul, Nat.reduceSub, Nat.reduceEqDiff, Nat.reduceBEq, Int.reduceToNat, reduceCtorEq, ct37_0t0_38, body38_0, e3]
      repeat ((with_reducible refine And.intro ?_ ?_); focus exact an0)
      refine condM rfl trivial (fun hc => ?_) (fun hc => ?_)
      · have hk4 : (r2) = false := by simpa using hc
        replace H := cond_t hc H
        refine rg ctNo_ok ?_
        simp only [go_sem, Nat.reduceLeDiff, Nat.reduceLT, Nat.reduceAdd, Nat.reduceMul, Nat.reduceSub, Nat.reduceEqDiff, Nat.reduceBEq, Int.reduceToNat, reduceCtorEq]
        refine ⟨_, (Option.some.inj H).symm, ?_⟩
        refine SubF_of ⟨[], ?_, ?_, by rfl, by rfl⟩
        · simp [CvL, Cv, getM, tp, tp, tpg, t8]
        · trivial
      have hk4 : (r2) = true := by simpa using hc
      replace H := cond_f hc H
      refine rg ctNo_ok ?_
      simp only [go_sem, Nat.reduceLeDiff, Nat.reduceLT, Nat.reduceAdd, Nat.reduceMul, Nat.reduceSub, Nat.reduceEqDiff, Nat.reduceBEq, Int.reduceToNat, reduceCtorEq]
      refine ⟨_, (Option.some.inj H).symm, ?_⟩
      refine SubF_of ⟨[], ?_, ?_, by rfl, by rfl⟩
      · simp [CvL, Cv, getM, tp, tp, tpg, t8]
      · trivial
    · try dsimp only at H ⊢
      try simp only [tp]
      try simp only [m_normal, k_normal, b_normal, kL_normal, r_normal]
      refine sq ctNo_ok ?_
      simp only [go_sem, Nat.reduceLeDiff, Nat.reduceLT, Nat.reduceAdd, Nat.reduceMul, Nat.reduceSub, Nat.reduceEqDiff, Nat.reduceBEq, Int.reduceToNat, reduceCtorEq]
      refine rg ctNo_ok ?_
      simp only [go_sem, Nat.reduceLeDiff, Nat.reduceLT, Nat.reduceAdd, Nat.reduceMul, Nat.reduceSub, Nat.reduceEqDiff, Nat.reduceBEq, Int.reduceToNat, reduceCtorEq]
      obtain rfl := Option.some.inj H
      first | rfl | simp only [Bool.and_false, Bool.false_and, Bool.and_true, Bool.true_and]
  · cases hb
/-! slices.Insert[[]hotspot/api.Candidate,hotspot/api.Candidate] -/
theorem ext40 : ExtOk Try.prog 54 ovC2 := ov_ext2 (t := 39) (tr := 4) (e := 52) (z := 13) Try.func54 (by kernel_rfl) (by kernel_rfl) (by kernel_rfl) (by kernel_rfl) (by kernel_rfl) (by kernel_rfl)
def ctI40 : Ct := tab [(54, ovC2)]
theorem ctI40_ok : CtOk Try.prog ctI40 := tab_ext ext40 tab_nil
theorem ctI40_eq (l : List AV) (h : List ABlk) : ctI40 54 l h = ovC2 l h := rfl
theorem tik40_0 : tintk Try.prog 2 = true := by kernel_rfl
theorem tik40_1 : tintk Try.prog 39 = false := by kernel_rfl
set_option maxHeartbeats 8000000 in
set_option maxRecDepth 20000 in
theorem okF40 : FnOk Try.prog 40 (insF 52 13) := by
  refine edit1_fn (sh := fun _ => none) (fun _ _ h => by cases h) ctI40_ok (insF 52 13) (rs := [.tmp 6]) Try.func40 (by kernel_rfl) rfl rfl insF_np ?_
  intro E h l vs ob v h' H F hc hob
  unfold insF at hc
  split at hc
  · rename_i b es' i n nl p b2 es3 i2 m nl2
    split at hc
    · rename_i e' es2 NN c hb
      split at hc
      · rename_i e4 es4 N2 d hb2
        injection hc with q1 q2 q3
        subst q1 q2 q3
        obtain ⟨rfl, rfl, rfl, rfl, rfl, hbb, hN, hN2, hpn, hmm, hbig, hfl, hfl2⟩ := hob
        obtain ⟨vs⟩ := vs
        match vs, F.1 with
        | [u1, u2, u3], _ =>
          have hne : geth h b ≠ .dead := by rw [hb]; exact fun e => by cases e
          obtain ⟨cap, hcap, hV⟩ := csl_of_sl (only_sl (F.2 0 _ u1 rfl rfl))
          have g2 := F.2 1 _ u2 rfl rfl
          have g3 := only_ro (b := b) H (F.2 2 _ u3 rfl rfl) hb2 hne hbb hN2 fun x y hx hy => (hfl2 x y hx hy).1
          obtain rfl := VR_int g2
          refine ⟨b, 52, 13, NN, c, n + m, insA i p m c (subC i2 d), [.csl 0 13 i n cap, .int .i64 p, .ro 13 m nl2 (subC i2 d)], hb, fun x y hx hy => (hfl x y hx hy).1, fun x y hx hy => ?_, rfl, rfl, ?_, ?_⟩
          · unfold insA subC
            split
            · exact hfl _ _ (by omega) hy
            · split
              · exact hfl2 _ _ (by omega) hy
              · exact hfl _ _ (by omega) hy
          · refine ⟨rfl, fun j a w ha hw => ?_⟩
            match j with
            | 0 => simp at ha hw; subst ha hw; exact hV
            | 1 => simp at ha hw; subst ha hw; exact .int _ _
            | 2 => simp at ha hw; subst ha hw; exact g3
            | j + 3 => simp at ha
          · rw [Try.ntmps40]
            show wpC _ _ _ _ _ (.csl 0 13 i n cap :: .int .i64 p :: .ro 13 m nl2 (subC i2 d) :: .top :: .top :: .top :: .top :: .top :: .top :: .top :: .top :: .top :: .top :: .top :: .top :: .top :: .top :: .top :: .top :: .top :: .top :: .top :: .top :: .top :: .top :: .top :: .top :: .top :: .top :: .top :: .top :: .top :: .top :: .top :: .top :: .top :: .top :: .top :: .top :: .top :: .top :: .top :: .top :: .top :: .top :: .top :: .top :: .top :: .top :: .top :: .top :: .top :: .top :: .top :: .top :: .top :: .top :: .top :: .top :: .top :: .top :: .top :: .top :: .top :: .top :: .top :: .top :: .top :: .top :: .top :: .top :: .top :: .top :: .top :: .top :: .top :: .top :: .top :: .top :: .top :: .top :: .top :: .top :: .top :: .top :: .top :: .top :: .top :: .top :: .top :: .top :: .top :: .top :: .top :: .top :: []) _
            have hm0 : 0 < m := by omega
            have hm1 : ((m : Int) == 0) = false := by simp; omega
            rcases Nat.lt_or_ge p n with hp | hp
            · have hpq : ((p : Int) == (n : Int)) = false := by simp; omega
              have w1 : wr .i64 ((n : Int) + (m : Int)) = ((n + m : Nat) : Int) := by unfold wr; rw [IntWalk.i64_in _ (by omega)]; omega
              have w2 : wr .i64 (((n + m : Nat) : Int) - (p : Int)) = ((n + m - p : Nat) : Int) := by unfold wr; rw [IntWalk.i64_in _ (by omega)]; omega
              have w3 : wr .i64 ((p : Int) + (m : Int)) = ((p + m : Nat) : Int) := by unfold wr; rw [IntWalk.i64_in _ (by omega)]; omega
              have hpm : p + (n + m - p) = n + m := by omega
              have mn1 : min m (n + m - p) = m := by omega
              have mn2 : min (n - p) (n + m - (p + m)) = n - p := by omega
              have mn3 : min (n + m - p) (n + m - (p + m)) = n - p := by omega
              have fin : ∀ x y, x < n + m -> insA i p m c (subC i2 d) x y = insA i p m c (subC i2 d) x y := fun _ _ _ => rfl
              by_cases hroom : n + m <= cap
              · have hg : decide ((cap : Int) < ((n + m : Nat) : Int)) = false := by simp; omega
                simp only [go_sem, Nat.reduceLeDiff, Nat.reduceLT, Nat.reduceAdd, Nat.reduceMul, Nat.reduceSub, Nat.reduceEqDiff, Nat.reduceBEq, Int.reduceToNat, reduceCtorEq, evCopy, evCopyR, lenS, cutS, evClear, evClearR, evCap, evAppZ, tik40_0, tik40_1, bEq, Option.isSome_some, Option.isNone_some, Option.isSome_none, Option.isNone_none, Int.ofNat_eq_natCast, Int.toNat_natCast, hm1, hpq, hg, Nat.sub_zero, bLt, bLe, w1, w2, w3, hpm, mn1, mn2, mn3, ctI40_eq, ovC2, slB, Nat.add_zero, Nat.zero_add]
                refine ⟨by omega, by omega, by omega, by omega, ?_⟩
                refine draw_rule (sh := fun _ => none) (fun _ _ h => by cases h) ctI40_ok 0 (by kernel_rfl) (by kernel_rfl) ?_
                intro an han
                simp only [go_sem, Nat.reduceLeDiff, Nat.reduceLT, Nat.reduceAdd, Nat.reduceMul, Nat.reduceSub, Nat.reduceEqDiff, Nat.reduceBEq, Int.reduceToNat, reduceCtorEq, evCopy, evCopyR, lenS, cutS, evClear, evClearR, evCap, evAppZ, tik40_0, tik40_1, bEq, Option.isSome_some, Option.isNone_some, Option.isSome_none, Option.isNone_none, Int.ofNat_eq_natCast, Int.toNat_natCast, hm1, hpq, hg, Nat.sub_zero, bLt, bLe, w1, w2, w3, hpm, mn1, mn2, mn3, ctI40_eq, ovC2, slB, Nat.add_zero, Nat.zero_add, d_nil, d_cons, nxtD, refsOp, refs, refsL, mask, maskF, place, placeF, okLog, pairOk, hit, inL, slotsF, ren, renL, rnN, nrH, nrB, nrL, nr, dead0, deadS, List.replicate_zero, List.replicate_succ, Bool.or_false, Bool.false_or, Bool.or_true, Bool.true_or, Bool.and_false, Bool.false_and, Nat.sub_self, Nat.add_zero, Nat.zero_add, Nat.reduceSub, Nat.not_lt_zero, Nat.zero_le, Nat.lt_add_one]
                refine ⟨by omega, by omega, by omega, by omega, by omega, ?_⟩
                refine conv_move (b := 0) rfl (by omega) (by omega) fun x y hx hy => ?_
                unfold ovwC insA subC
                by_cases hxp : x < p
                · rw [if_neg (by omega), if_neg (by omega), if_pos hxp]
                · rw [if_neg hxp]
                  by_cases hxm : x < p + m
                  · rw [if_pos (by omega), if_pos hxm]
                    congr 1
                    omega
                  · rw [if_neg (by omega), if_pos (by omega), if_neg hxm]
                    congr 1
                    omega
              · have hg : decide ((cap : Int) < ((n + m : Nat) : Int)) = true := by simp; omega
                have hd : decide (cap < n + m) = true := by simp; omega
                simp only [go_sem, Nat.reduceLeDiff, Nat.reduceLT, Nat.reduceAdd, Nat.reduceMul, Nat.reduceSub, Nat.reduceEqDiff, Nat.reduceBEq, Int.reduceToNat, reduceCtorEq, evCopy, evCopyR, lenS, cutS, evClear, evClearR, evCap, evAppZ, tik40_0, tik40_1, bEq, Option.isSome_some, Option.isNone_some, Option.isSome_none, Option.isNone_none, Int.ofNat_eq_natCast, Int.toNat_natCast, hm1, hpq, hg, hd, Nat.sub_zero, bLt, bLe, w1, w2, w3, hpm, mn1, mn2, mn3, ctI40_eq, ovC2, slB, Nat.add_zero, Nat.zero_add]
                refine ⟨by omega, by omega, by omega, by omega, by omega, ?_⟩
                refine draw_rule (sh := fun _ => none) (fun _ _ h => by cases h) ctI40_ok 0 (by kernel_rfl) (by kernel_rfl) ?_
                intro an han
                simp only [go_sem, Nat.reduceLeDiff, Nat.reduceLT, Nat.reduceAdd, Nat.reduceMul, Nat.reduceSub, Nat.reduceEqDiff, Nat.reduceBEq, Int.reduceToNat, reduceCtorEq, evCopy, evCopyR, lenS, cutS, evClear, evClearR, evCap, evAppZ, tik40_0, tik40_1, bEq, Option.isSome_some, Option.isNone_some, Option.isSome_none, Option.isNone_none, Int.ofNat_eq_natCast, Int.toNat_natCast, hm1, hpq, hg, hd, Nat.sub_zero, bLt, bLe, w1, w2, w3, hpm, mn1, mn2, mn3, ctI40_eq, ovC2, slB, Nat.add_zero, Nat.zero_add, d_nil, d_cons, nxtD, refsOp, refs, refsL, mask, maskF, place, placeF, okLog, pairOk, hit, inL, slotsF, ren, renL, rnN, nrH, nrB, nrL, nr, dead0, deadS, List.replicate_zero, List.replicate_succ, Bool.or_false, Bool.false_or, Bool.or_true, Bool.true_or, Bool.and_false, Bool.false_and, Nat.sub_self, Nat.add_zero, Nat.zero_add, Nat.reduceSub, Nat.not_lt_zero, Nat.zero_le, Nat.lt_add_one]
                refine ⟨by omega, by omega, by omega, ?_⟩
                refine conv_two (by omega) fun x y hx hy => ?_
                unfold ovwC appC insA subC
                by_cases hxp : x < p
                · rw [if_neg (by omega), if_neg (by omega), if_pos hxp, if_pos hxp]
                · by_cases hxm : x < p + m
                  · rw [if_neg (by omega), if_pos (by omega), if_neg hxp, if_pos hxm]
                  · rw [if_pos (by omega), if_neg hxp, if_neg hxm]
                    congr 1
                    omega
            · obtain rfl : p = n := by omega
              have hpq : ((p : Int) == (p : Int)) = true := by simp
              by_cases hroom : p + m <= cap
              · have hd1 : decide (p + m <= cap) = true := by simpa using hroom
                simp only [go_sem, Nat.reduceLeDiff, Nat.reduceLT, Nat.reduceAdd, Nat.reduceMul, Nat.reduceSub, Nat.reduceEqDiff, Nat.reduceBEq, Int.reduceToNat, reduceCtorEq, evCopy, evCopyR, lenS, cutS, evClear, evClearR, evCap, evAppZ, tik40_0, tik40_1, bEq, Option.isSome_some, Option.isNone_some, Option.isSome_none, Option.isNone_none, Int.ofNat_eq_natCast, Int.toNat_natCast, hm1, hpq, hd1, Nat.sub_zero]
                refine ⟨by omega, by omega, ?_⟩
                refine conv_move (b := 0) rfl (by omega) (by omega) fun x y hx hy => ?_
                unfold ovwC insA
                by_cases hxp : x < p
                · rw [if_neg (by omega), if_pos hxp]
                · rw [if_pos (by omega), if_neg hxp, if_pos (by omega)]
                  congr 1
                  omega
              · have hd1 : decide (p + m <= cap) = false := by simpa using hroom
                simp only [go_sem, Nat.reduceLeDiff, Nat.reduceLT, Nat.reduceAdd, Nat.reduceMul, Nat.reduceSub, Nat.reduceEqDiff, Nat.reduceBEq, Int.reduceToNat, reduceCtorEq, evCopy, evCopyR, lenS, cutS, evClear, evClearR, evCap, evAppZ, tik40_0, tik40_1, bEq, Option.isSome_some, Option.isNone_some, Option.isSome_none, Option.isNone_none, Int.ofNat_eq_natCast, Int.toNat_natCast, hm1, hpq, hd1, Nat.sub_zero]
                refine ⟨by omega, by omega, ?_⟩
                refine conv_two (Nat.le_refl _) fun x y hx hy => ?_
                unfold appC insA subC
                by_cases hxp : x < p
                · rw [if_pos hxp, if_pos hxp]
                · rw [if_neg hxp, if_neg hxp, if_pos (by omega)]
      · cases hc
    · cases hc
  · cases hc
theorem ok40 : FnOk Try.prog 40 (insN 52 13) := insN_ok okF40
/-! cmp.isNaN[int] -/
noncomputable def F56 (p0 : Int) : Option (Bool) :=
  some (!bEq p0 p0)
noncomputable def body56 : List AV -> AR
  | [v0] => .pure (iK .i64 v0 /\ (F56 (iA v0)).isSome = true) (.bool (gt (F56 (iA v0))))
  | _ => .fail
set_option maxHeartbeats 4000000 in
set_option maxRecDepth 20000 in
theorem ok56 : FnOk Try.prog 56 (pureC body56) := by
  refine pure_fnM body56 (rs := [.tmp 2]) Try.func56 (by kernel_rfl) rfl rfl ?_
  intro l ob v hb hob
  unfold body56 at hb
  split at hb
  · rename_i v0
    injection hb with q1 q2; subst q1 q2
    obtain ⟨hk0_0, hob⟩ := hob
    obtain ⟨r, H⟩ := Option.isSome_iff_exists.1 hob
    rw [H, gt_some]
    have hw0 := iK_wk hk0_0
    generalize iA v0 = p0 at H hw0
    refine ⟨[.int .i64 p0], _, (fun E vs F => FR_wk1 hw0.1 F (fun vs F => F)), rfl, rfl, ?_⟩
    rw [Try.ntmps56]
    simp only [List.length_cons, List.length_nil, Nat.reduceAdd, Nat.reduceSub, List.replicate_succ, List.replicate_zero, List.cons_append, List.nil_append]
    unfold F56 at H
    try dsimp only at H
    refine sq ctNo_ok ?_
    simp only [go_sem, Nat.reduceLeDiff, Nat.reduceLT, Nat.reduceAdd, Nat.reduceMul, Nat.reduceSub, Nat.reduceEqDiff, Nat.reduceBEq, Int.reduceToNat, reduceCtorEq]
    refine sq ctNo_ok ?_
    simp only [go_sem, Nat.reduceLeDiff, Nat.reduceLT, Nat.reduceAdd, Nat.reduceMul, Nat.reduceSub, Nat.reduceEqDiff, Nat.reduceBEq, Int.reduceToNat, reduceCtorEq]
    refine rg ctNo_ok ?_
    simp only [go_sem, Nat.reduceLeDiff, Nat.reduceLT, Nat.reduceAdd, Nat.reduceMul, Nat.reduceSub, Nat.reduceEqDiff, Nat.reduceBEq, Int.reduceToNat, reduceCtorEq]
    obtain rfl := Option.some.inj H
    first | rfl | simp only [Bool.and_false, Bool.false_and, Bool.and_true, Bool.true_and]
  · cases hb
/-! cmp.Compare[int] -/
noncomputable def ct43t0 : Ct := tab [(56, pureC body56)]
theorem ct43t0_ok : CtOk Try.prog ct43t0 := tab_cons ok56 <| tab_nil
theorem ct43t0_56 (l : List AV) (h : List ABlk) : ct43t0 56 l h = pureC body56 l h := rfl
noncomputable def F43 (p0 : Int) (p1 : Int) : Option (Int) :=
  (F56 p0).bind fun r1 => (F56 p1).bind fun r3 => bif r1 then (bif r3 then (some 0) else (some (-1))) else (bif r3 then (some 1) else (bif (bLt p0 p1) then (some (-1)) else (bif (bLt p1 p0) then (some 1) else (some 0))))
noncomputable def body43 : List AV -> AR
  | [v0, v1] => .pure (iK .i64 v0 /\ iK .i64 v1 /\ (F43 (iA v0) (iA v1)).isSome = true) (.int .i64 (gt (F43 (iA v0) (iA v1))))
  | _ => .fail
set_option maxHeartbeats 4000000 in
set_option maxRecDepth 20000 in
theorem ok43 : FnOk Try.prog 43 (pureC body43) := by
  refine pure_fnM body43 (rs := [.tmp 4]) Try.func43 (by kernel_rfl) rfl rfl ?_
  intro l ob v hb hob
  unfold body43 at hb
  split at hb
  · rename_i v0 v1
    injection hb with q1 q2; subst q1 q2
    obtain ⟨hk0_0, hk1_0, hob⟩ := hob
    obtain ⟨r, H⟩ := Option.isSome_iff_exists.1 hob
    rw [H, gt_some]
    have hw0 := iK_wk hk0_0
    have hw1 := iK_wk hk1_0
    generalize iA v0 = p0 at H hw0
    generalize iA v1 = p1 at H hw1
    refine ⟨[.int .i64 p0, .int .i64 p1], _, (fun E vs F => FR_wk1 hw0.1 F (fun vs F => FR_wk1 hw1.1 F (fun vs F => F))), rfl, rfl, ?_⟩
    rw [Try.ntmps43]
    simp only [List.length_cons, List.length_nil, Nat.reduceAdd, Nat.reduceSub, List.replicate_succ, List.replicate_zero, List.cons_append, List.nil_append]
    unfold F43 at H
    try dsimp only at H
    refine sq ctNo_ok ?_
    simp only [go_sem, Nat.reduceLeDiff, Nat.reduceLT, Nat.reduceAdd, Nat.reduceMul, Nat.reduceSub, Nat.reduceEqDiff, Nat.reduceBEq, Int.reduceToNat, reduceCtorEq]
    refine seqM ?_
    obtain ⟨r1, e2, H⟩ := bsi H
    refine rg ct43t0_ok ?_
    simp only [go_sem, Nat.reduceLeDiff, Nat.reduceLT, Nat.reduceAdd, Nat.reduceMul, Nat.reduceSub, Nat.reduceEqDiff, Nat.reduceBEq, Int.reduceToNat, reduceCtorEq, ct43t0_56, body56, e2]
    repeat ((with_reducible refine And.intro ?_ ?_); focus exact an0)
    refine seqM ?_
    obtain ⟨r3, e4, H⟩ := bsi H
    refine rg ct43t0_ok ?_
    simp only [go_sem, Nat.reduceLeDiff, Nat.reduceLT, Nat.reduceAdd, Nat.reduceMul, Nat.reduceSub, Nat.reduceEqDiff, Nat.reduceBEq, Int.reduceToNat, reduceCtorEq, ct43t0_56, body56, e4]
    repeat ((with_reducible refine And.intro ?_ ?_); focus exact an0)
    refine seqM ?_
    refine sq ctNo_ok ?_
    simp only [go_sem, Nat.reduceLeDiff, Nat.reduceLT, Nat.reduceAdd, Nat.reduceMul, Nat.reduceSub, Nat.reduceEqDiff, Nat.reduceBEq, Int.reduceToNat, reduceCtorEq]
    refine condM rfl trivial (fun hc => ?_) (fun hc => ?_)
    · have hk5 : (r1) = true := by simpa using hc
      replace H := cond_t hc H
      refine seqM ?_
      refine sq ctNo_ok ?_
      simp only [go_sem, Nat.reduceLeDiff, Nat.reduceLT, Nat.reduceAdd, Nat.reduceMul, Nat.reduceSub, Nat.reduceEqDiff, Nat.reduceBEq, Int.reduceToNat, reduceCtorEq]
      refine condM rfl trivial (fun hc => ?_) (fun hc => ?_)
      · have hk6 : (r3) = true := by simpa using hc
        replace H := cond_t hc H
        refine sq ctNo_ok ?_
        simp only [go_sem, Nat.reduceLeDiff, Nat.reduceLT, Nat.reduceAdd, Nat.reduceMul, Nat.reduceSub, Nat.reduceEqDiff, Nat.reduceBEq, Int.reduceToNat, reduceCtorEq]
        refine rg ctNo_ok ?_
        simp only [go_sem, Nat.reduceLeDiff, Nat.reduceLT, Nat.reduceAdd, Nat.reduceMul, Nat.reduceSub, Nat.reduceEqDiff, Nat.reduceBEq, Int.reduceToNat, reduceCtorEq]
        obtain rfl := Option.some.inj H
        first | rfl | simp only [Bool.and_false, Bool.false_and, Bool.and_true, Bool.true_and]
      have hk6 : (r3) = false := by simpa using hc
      replace H := cond_f hc H
      refine rg ctNo_ok ?_
      simp only [go_sem, Nat.reduceLeDiff, Nat.reduceLT, Nat.reduceAdd, Nat.reduceMul, Nat.reduceSub, Nat.reduceEqDiff, Nat.reduceBEq, Int.reduceToNat, reduceCtorEq]
      refine sq ctNo_ok ?_
      simp only [go_sem, Nat.reduceLeDiff, Nat.reduceLT, Nat.reduceAdd, Nat.reduceMul, Nat.reduceSub, Nat.reduceEqDiff, Nat.reduceBEq, Int.reduceToNat, reduceCtorEq]
      refine rg ctNo_ok ?_
      simp only [go_sem, Nat.reduceLeDiff, Nat.reduceLT, Nat.reduceAdd, Nat.reduceMul, Nat.reduceSub, Nat.reduceEqDiff, Nat.reduceBEq, Int.reduceToNat, reduceCtorEq]
      obtain rfl := Option.some.inj H
      first | rfl | simp only [Bool.and_false, Bool.false_and, Bool.and_true, Bool.true_and]
    have hk5 : (r1) = false := by simpa using hc
    replace H := cond_f hc H
    refine rg ctNo_ok ?_
    simp only [go_sem, Nat.reduceLeDiff, Nat.reduceLT, Nat.reduceAdd, Nat.reduceMul, Nat.reduceSub, Nat.reduceEqDiff, Nat.reduceBEq, Int.reduceToNat, reduceCtorEq]
    refine seqM ?_
    refine sq ctNo_ok ?_
    simp only [go_sem, Nat.reduceLeDiff, Nat.reduceLT, Nat.reduceAdd, Nat.reduceMul, Nat.reduceSub, Nat.reduceEqDiff, Nat.reduceBEq, Int.reduceToNat, reduceCtorEq]
    refine condM rfl trivial (fun hc => ?_) (fun hc => ?_)
    · have hk7 : (r3) = true := by simpa using hc
      replace H := cond_t hc H
      refine sq ctNo_ok ?_
      simp only [go_sem, Nat.reduceLeDiff, Nat.reduceLT, Nat.reduceAdd, Nat.reduceMul, Nat.reduceSub, Nat.reduceEqDiff, Nat.reduceBEq, Int.reduceToNat, reduceCtorEq]
      refine rg ctNo_ok ?_
      simp only [go_sem, Nat.reduceLeDiff, Nat.reduceLT, Nat.reduceAdd, Nat.reduceMul, Nat.reduceSub, Nat.reduceEqDiff, Nat.reduceBEq, Int.reduceToNat, reduceCtorEq]
      obtain rfl := Option.some.inj H
      first | rfl | simp only [Bool.and_false, Bool.false_and, Bool.and_true, Bool.true_and]
    have hk7 : (r3) = false := by simpa using hc
    replace H := cond_f hc H
    refine rg ctNo_ok ?_
    simp only [go_sem, Nat.reduceLeDiff, Nat.reduceLT, Nat.reduceAdd, Nat.reduceMul, Nat.reduceSub, Nat.reduceEqDiff, Nat.reduceBEq, Int.reduceToNat, reduceCtorEq]
    refine seqM ?_
    refine sq ctNo_ok ?_
    simp only [go_sem, Nat.reduceLeDiff, Nat.reduceLT, Nat.reduceAdd, Nat.reduceMul, Nat.reduceSub, Nat.reduceEqDiff, Nat.reduceBEq, Int.reduceToNat, reduceCtorEq]
    refine condM rfl trivial (fun hc => ?_) (fun hc => ?_)
    · have hk8 : (bLt p0 p1) = true := by simpa using hc
      replace H := cond_t hc H
      refine sq ctNo_ok ?_
      simp only [go_sem, Nat.reduceLeDiff, Nat.reduceLT, Nat.reduceAdd, Nat.reduceMul, Nat.reduceSub, Nat.reduceEqDiff, Nat.reduceBEq, Int.reduceToNat, reduceCtorEq]
      refine rg ctNo_ok ?_
      simp only [go_sem, Nat.reduceLeDiff, Nat.reduceLT, Nat.reduceAdd, Nat.reduceMul, Nat.reduceSub, Nat.reduceEqDiff, Nat.reduceBEq, Int.reduceToNat, reduceCtorEq]
      obtain rfl := Option.some.inj H
      first | rfl | simp only [Bool.and_false, Bool.false_and, Bool.and_true, Bool.true_and]
    have hk8 : (bLt p0 p1) = false := by simpa using hc
    replace H := cond_f hc H
    refine rg ctNo_ok ?_
    simp only [go_sem, Nat.reduceLeDiff, Nat.reduceLT, Nat.reduceAdd, Nat.reduceMul, Nat.reduceSub, Nat.reduceEqDiff, Nat.reduceBEq, Int.reduceToNat, reduceCtorEq]
    refine seqM ?_
    refine sq ctNo_ok ?_
    simp only [go_sem, Nat.reduceLeDiff, Nat.reduceLT, Nat.reduceAdd, Nat.reduceMul, Nat.reduceSub, Nat.reduceEqDiff, Nat.reduceBEq, Int.reduceToNat, reduceCtorEq]
    refine condM rfl trivial (fun hc => ?_) (fun hc => ?_)
    · have hk9 : (bLt p1 p0) = true := by simpa using hc
      replace H := cond_t hc H
      refine sq ctNo_ok ?_
      simp only [go_sem, Nat.reduceLeDiff, Nat.reduceLT, Nat.reduceAdd, Nat.reduceMul, Nat.reduceSub, Nat.reduceEqDiff, Nat.reduceBEq, Int.reduceToNat, reduceCtorEq]
      refine rg ctNo_ok ?_
      simp only [go_sem, Nat.reduceLeDiff, Nat.reduceLT, Nat.reduceAdd, Nat.reduceMul, Nat.reduceSub, Nat.reduceEqDiff, Nat.reduceBEq, Int.reduceToNat, reduceCtorEq]
      obtain rfl := Option.some.inj H
      first | rfl | simp only [Bool.and_false, Bool.false_and, Bool.and_true, Bool.true_and]
    have hk9 : (bLt p1 p0) = false := by simpa using hc
    replace H := cond_f hc H
    refine rg ctNo_ok ?_
    simp only [go_sem, Nat.reduceLeDiff, Nat.reduceLT, Nat.reduceAdd, Nat.reduceMul, Nat.reduceSub, Nat.reduceEqDiff, Nat.reduceBEq, Int.reduceToNat, reduceCtorEq]
    refine sq ctNo_ok ?_
    simp only [go_sem, Nat.reduceLeDiff, Nat.reduceLT, Nat.reduceAdd, Nat.reduceMul, Nat.reduceSub, Nat.reduceEqDiff, Nat.reduceBEq, Int.reduceToNat, reduceCtorEq]
    refine rg ctNo_ok ?_
    simp only [go_sem, Nat.reduceLeDiff, Nat.reduceLT, Nat.reduceAdd, Nat.reduceMul, Nat.reduceSub, Nat.reduceEqDiff, Nat.reduceBEq, Int.reduceToNat, reduceCtorEq]
    obtain rfl := Option.some.inj H
    first | rfl | simp only [Bool.and_false, Bool.false_and, Bool.and_true, Bool.true_and]
  · cases hb
/-! hotspot/scan.Learn$2 -/
noncomputable def ct42t0 : Ct := tab [(43, pureC body43)]
theorem ct42t0_ok : CtOk Try.prog ct42t0 := tab_cons ok43 <| tab_nil
theorem ct42t0_43 (l : List AV) (h : List ABlk) : ct42t0 43 l h = pureC body43 l h := rfl
noncomputable def F42 (p0 : TCandidate) (p1 : TCandidate) : Option (Int) :=
  (F43 p0.Heard p1.Heard).bind fun r1 => some r1
noncomputable def body42 : List AV -> AR
  | [v0, v1] => .pure (aK 13 k_TCandidate v0 /\ aK 13 k_TCandidate v1 /\ (F42 (g_TCandidate (aL v0)) (g_TCandidate (aL v1))).isSome = true) (.int .i64 (gt (F42 (g_TCandidate (aL v0)) (g_TCandidate (aL v1)))))
  | _ => .fail
set_option maxHeartbeats 4000000 in
set_option maxRecDepth 20000 in
theorem ok42 : FnOk Try.prog 42 (pureC body42) := by
  refine pure_fnM body42 (rs := [.tmp 4]) Try.func42 (by kernel_rfl) rfl rfl ?_
  intro l ob v hb hob
  unfold body42 at hb
  split at hb
  · rename_i v0 v1
    injection hb with q1 q2; subst q1 q2
    obtain ⟨hk0_0, hk1_0, hob⟩ := hob
    obtain ⟨r, H⟩ := Option.isSome_iff_exists.1 hob
    rw [H, gt_some]
    have hw0 := wA_TCandidate hk0_0
    have hw1 := wA_TCandidate hk1_0
    generalize g_TCandidate (aL v0) = p0 at H hw0
    generalize g_TCandidate (aL v1) = p1 at H hw1
    refine ⟨[.agg [.int .u8 p0.Addr.x0, .int .u8 p0.Addr.x1, .int .u8 p0.Addr.x2, .int .u8 p0.Addr.x3, .int .u8 p0.Addr.x4, .int .u8 p0.Addr.x5, .int .i64 p0.Channel, .int .i64 p0.Level, .int .i64 p0.Load, .int .i64 p0.Heard, .int .i64 p0.Interval, .str p0.Name, .bool p0.Secure], .agg [.int .u8 p1.Addr.x0, .int .u8 p1.Addr.x1, .int .u8 p1.Addr.x2, .int .u8 p1.Addr.x3, .int .u8 p1.Addr.x4, .int .u8 p1.Addr.x5, .int .i64 p1.Channel, .int .i64 p1.Level, .int .i64 p1.Load, .int .i64 p1.Heard, .int .i64 p1.Interval, .str p1.Name, .bool p1.Secure]], _, (fun E vs F => FR_wk1 hw0.1 F (fun vs F => FR_wk1 hw1.1 F (fun vs F => F))), rfl, rfl, ?_⟩
    rw [Try.ntmps42]
    simp only [List.length_cons, List.length_nil, Nat.reduceAdd, Nat.reduceSub, List.replicate_succ, List.replicate_zero, List.cons_append, List.nil_append]
    unfold F42 at H
    try dsimp only at H
    refine sq ctNo_ok ?_
    simp only [go_sem, Nat.reduceLeDiff, Nat.reduceLT, Nat.reduceAdd, Nat.reduceMul, Nat.reduceSub, Nat.reduceEqDiff, Nat.reduceBEq, Int.reduceToNat, reduceCtorEq]
    refine seqM ?_
    obtain ⟨r1, e2, H⟩ := bsi H
    refine rg ct42t0_ok ?_
    simp only [go_sem, Nat.reduceLeDiff, Nat.reduceLT, Nat.reduceAdd, Nat.reduceMul, Nat.reduceSub, Nat.reduceEqDiff, Nat.reduceBEq, Int.reduceToNat, reduceCtorEq, ct42t0_43, body43, e2]
    repeat ((with_reducible refine And.intro ?_ ?_); focus exact an0)
    refine rg ctNo_ok ?_
    simp only [go_sem, Nat.reduceLeDiff, Nat.reduceLT, Nat.reduceAdd, Nat.reduceMul, Nat.reduceSub, Nat.reduceEqDiff, Nat.reduceBEq, Int.reduceToNat, reduceCtorEq]
    obtain rfl := Option.some.inj H
    first | rfl | simp only [Bool.and_false, Bool.false_and, Bool.and_true, Bool.true_and]
  · cases hb
/-! slices.MinFunc[[]hotspot/api.Candidate,hotspot/api.Candidate] -/
noncomputable def ct41_0t0 : Ct := tab [(42, pureC body42)]
theorem ct41_0t0_ok : CtOk Try.prog ct41_0t0 := tab_cons ok42 <| tab_nil
theorem ct41_0t0_42 (l : List AV) (h : List ABlk) : ct41_0t0 42 l h = pureC body42 l h := rfl
noncomputable def F41_0_L1 (p0 : List TCandidate) (v1_1 : Int) (v1_2 : TCandidate) : Option (Lp (Int × TCandidate) ((TCandidate) ⊕ (TCandidate))) :=
  bif (bLt v1_1 (p0.length : Nat)) then (need (inb v1_1 p0.length) <| (F42 (TCandidate.mk (A6u8.mk (((gd p0 v1_1.toNat).Addr).x0) (((gd p0 v1_1.toNat).Addr).x1) (((gd p0 v1_1.toNat).Addr).x2) (((gd p0 v1_1.toNat).Addr).x3) (((gd p0 v1_1.toNat).Addr).x4) (((gd p0 v1_1.toNat).Addr).x5)) ((gd p0 v1_1.toNat).Channel) ((gd p0 v1_1.toNat).Level) ((gd p0 v1_1.toNat).Load) ((gd p0 v1_1.toNat).Heard) ((gd p0 v1_1.toNat).Interval) ((gd p0 v1_1.toNat).Name) ((gd p0 v1_1.toNat).Secure)) v1_2).bind fun r5 => bif (bLt r5 0) then (need (inb v1_1 p0.length) <| some (.next (wr .i64 (v1_1 + 1), (TCandidate.mk (A6u8.mk (((gd p0 v1_1.toNat).Addr).x0) (((gd p0 v1_1.toNat).Addr).x1) (((gd p0 v1_1.toNat).Addr).x2) (((gd p0 v1_1.toNat).Addr).x3) (((gd p0 v1_1.toNat).Addr).x4) (((gd p0 v1_1.toNat).Addr).x5)) ((gd p0 v1_1.toNat).Channel) ((gd p0 v1_1.toNat).Level) ((gd p0 v1_1.toNat).Load) ((gd p0 v1_1.toNat).Heard) ((gd p0 v1_1.toNat).Interval) ((gd p0 v1_1.toNat).Name) ((gd p0 v1_1.toNat).Secure))))) else (some (.next (wr .i64 (v1_1 + 1), v1_2)))) else (some (.done (.inl v1_2)))
noncomputable def F41_0 (p0 : List TCandidate) : Option (TCandidate) :=
  bif (bLt (p0.length : Nat) 1) then (none) else (need (inb 0 p0.length) <| lp (loopD (fun s => F41_0_L1 p0 s.1 s.2) (1, (TCandidate.mk (A6u8.mk (((gd p0 0).Addr).x0) (((gd p0 0).Addr).x1) (((gd p0 0).Addr).x2) (((gd p0 0).Addr).x3) (((gd p0 0).Addr).x4) (((gd p0 0).Addr).x5)) ((gd p0 0).Channel) ((gd p0 0).Level) ((gd p0 0).Load) ((gd p0 0).Heard) ((gd p0 0).Interval) ((gd p0 0).Name) ((gd p0 0).Secure)))) (fun w1_3 => some w1_3) some)
noncomputable def body41_0 : List AV -> AR
  | [v0, .fn 42 []] => .pure (lK k_TCandidate 13 v0 /\ (F41_0 (lA g_TCandidate v0)).isSome = true) (.agg [.int .u8 (((gt (F41_0 (lA g_TCandidate v0))).Addr).x0), .int .u8 (((gt (F41_0 (lA g_TCandidate v0))).Addr).x1), .int .u8 (((gt (F41_0 (lA g_TCandidate v0))).Addr).x2), .int .u8 (((gt (F41_0 (lA g_TCandidate v0))).Addr).x3), .int .u8 (((gt (F41_0 (lA g_TCandidate v0))).Addr).x4), .int .u8 (((gt (F41_0 (lA g_TCandidate v0))).Addr).x5), .int .i64 ((gt (F41_0 (lA g_TCandidate v0))).Channel), .int .i64 ((gt (F41_0 (lA g_TCandidate v0))).Level), .int .i64 ((gt (F41_0 (lA g_TCandidate v0))).Load), .int .i64 ((gt (F41_0 (lA g_TCandidate v0))).Heard), .int .i64 ((gt (F41_0 (lA g_TCandidate v0))).Interval), .str ((gt (F41_0 (lA g_TCandidate v0))).Name), .bool ((gt (F41_0 (lA g_TCandidate v0))).Secure)])
  | _ => .fail
set_option maxHeartbeats 4000000 in
set_option maxRecDepth 20000 in
theorem ok41_0 : FnOk Try.prog 41 (pureC body41_0) := by
  refine pure_fnM body41_0 (rs := [.cell 4 52]) Try.func41 (by kernel_rfl) rfl rfl ?_
  intro l ob v hb hob
  unfold body41_0 at hb
  split at hb
  · rename_i v0
    injection hb with q1 q2; subst q1 q2
    obtain ⟨hk0_0, hob⟩ := hob
    obtain ⟨r, H⟩ := Option.isSome_iff_exists.1 hob
    rw [H, gt_some]
    have hw0 := lK_wk (fun r h => w_TCandidate h) hk0_0
    generalize lA g_TCandidate v0 = p0 at H hw0
    refine ⟨[.ro 13 p0.length false (enR c_TCandidate p0), .fn 42 []], _, (fun E vs F => FR_wk1 hw0.1 F (fun vs F => FR_wk1 (fn_wk LW_nil) F (fun vs F => F))), rfl, rfl, ?_⟩
    rw [Try.ntmps41]
    simp only [List.length_cons, List.length_nil, Nat.reduceAdd, Nat.reduceSub, List.replicate_succ, List.replicate_zero, List.cons_append, List.nil_append]
    unfold F41_0 at H
    try dsimp only at H
    refine sq ctNo_ok ?_
    simp only [go_sem, Nat.reduceLeDiff, Nat.reduceLT, Nat.reduceAdd, Nat.reduceMul, Nat.reduceSub, Nat.reduceEqDiff, Nat.reduceBEq, Int.reduceToNat, reduceCtorEq]
    refine seqM ?_
    refine sq ctNo_ok ?_
    simp only [go_sem, Nat.reduceLeDiff, Nat.reduceLT, Nat.reduceAdd, Nat.reduceMul, Nat.reduceSub, Nat.reduceEqDiff, Nat.reduceBEq, Int.reduceToNat, reduceCtorEq]
    repeat ((with_reducible refine And.intro ?_ ?_); focus exact an0)
    refine condM rfl trivial (fun hc => ?_) (fun hc => ?_)
    · have hk1 : (bLt (p0.length : Nat) 1) = true := by simpa using hc
      replace H := cond_t hc H
      cases H
    have hk1 : (bLt (p0.length : Nat) 1) = false := by simpa using hc
    replace H := cond_f hc H
    refine rg ctNo_ok ?_
    simp only [go_sem, Nat.reduceLeDiff, Nat.reduceLT, Nat.reduceAdd, Nat.reduceMul, Nat.reduceSub, Nat.reduceEqDiff, Nat.reduceBEq, Int.reduceToNat, reduceCtorEq]
    refine seqM ?_
    obtain ⟨f2, H⟩ := need_some.1 H
    replace f2 := inb_iff.1 f2
    refine rg ctNo_ok ?_
    simp only [go_sem, Nat.reduceLeDiff, Nat.reduceLT, Nat.reduceAdd, Nat.reduceMul, Nat.reduceSub, Nat.reduceEqDiff, Nat.reduceBEq, Int.reduceToNat, reduceCtorEq, f2]
    repeat ((with_reducible refine And.intro ?_ ?_); focus exact an3)
    refine seqM ?_
    refine sq ctNo_ok ?_
    simp only [go_sem, Nat.reduceLeDiff, Nat.reduceLT, Nat.reduceAdd, Nat.reduceMul, Nat.reduceSub, Nat.reduceEqDiff, Nat.reduceBEq, Int.reduceToNat, reduceCtorEq]
    refine blkM ?_
    refine loop_den (fun s : Int × TCandidate => (.ro 13 p0.length false (enR c_TCandidate p0) :: .fn 42 [] :: .top :: .top :: .ptr 0 0 0 0 :: .ptr 1 0 0 0 :: .int .i64 s.1 :: tp 26 [])) (fun s => [.lit 52 [.int .u8 0, .int .u8 0, .int .u8 0, .int .u8 0, .int .u8 0, .int .u8 0, .int .i64 0, .int .i64 0, .int .i64 0, .int .i64 0, .int .i64 0, .str (ByteArray.mk #[]), .bool false], .lit 52 [.int .u8 s.2.Addr.x0, .int .u8 s.2.Addr.x1, .int .u8 s.2.Addr.x2, .int .u8 s.2.Addr.x3, .int .u8 s.2.Addr.x4, .int .u8 s.2.Addr.x5, .int .i64 s.2.Channel, .int .i64 s.2.Level, .int .i64 s.2.Load, .int .i64 s.2.Heard, .int .i64 s.2.Interval, .str s.2.Name, .bool s.2.Secure]]) (fun e : TCandidate => (tp 4 (.ptr 0 0 0 0 :: .ptr 1 0 0 0 :: tp 27 []))) (fun e => [.lit 52 [.int .u8 0, .int .u8 0, .int .u8 0, .int .u8 0, .int .u8 0, .int .u8 0, .int .i64 0, .int .i64 0, .int .i64 0, .int .i64 0, .int .i64 0, .str (ByteArray.mk #[]), .bool false], .lit 52 [.int .u8 e.Addr.x0, .int .u8 e.Addr.x1, .int .u8 e.Addr.x2, .int .u8 e.Addr.x3, .int .u8 e.Addr.x4, .int .u8 e.Addr.x5, .int .i64 e.Channel, .int .i64 e.Level, .int .i64 e.Load, .int .i64 e.Heard, .int .i64 e.Interval, .str e.Name, .bool e.Secure]]) H ?_ (fun s o H hn1_1 hn2_1 => ?_) (fun w1_3 H => ?_)
    · refine SubF_of ⟨[some 0, some 1], ?_, ?_, by rfl, by rfl⟩
      · simp [CvL, Cv, getM, tp, tp, tpg, t8]
      · exact ⟨cv, cv, trivial⟩
    · obtain ⟨v1_1, v1_2⟩ := s
      unfold F41_0_L1 at H
      try dsimp only at H ⊢
      try simp only [tp]
      refine seqM ?_
      refine sq ctNo_ok ?_
      simp only [go_sem, Nat.reduceLeDiff, Nat.reduceLT, Nat.reduceAdd, Nat.reduceMul, Nat.reduceSub, Nat.reduceEqDiff, Nat.reduceBEq, Int.reduceToNat, reduceCtorEq]
      repeat ((with_reducible refine And.intro ?_ ?_); focus exact an0)
      refine condM' rfl trivial (fun hc => ?_) (fun hc => ?_)
      · have hk3 : (bLt v1_1 (p0.length : Nat)) = false := by simpa using hc
        replace H := cond_f hc H
        refine rg ctNo_ok ?_
        simp only [go_sem, Nat.reduceLeDiff, Nat.reduceLT, Nat.reduceAdd, Nat.reduceMul, Nat.reduceSub, Nat.reduceEqDiff, Nat.reduceBEq, Int.reduceToNat, reduceCtorEq]
        refine ⟨_, (Option.some.inj H).symm, ?_⟩
        refine SubF_of ⟨[some 0, some 1], ?_, ?_, by rfl, by rfl⟩
        · simp [CvL, Cv, getM, tp, tp, tpg, t8]
        · exact ⟨cv, cv, trivial⟩
      have hk3 : (bLt v1_1 (p0.length : Nat)) = true := by simpa using hc
      replace H := cond_t hc H
      refine rg ctNo_ok ?_
      simp only [go_sem, Nat.reduceLeDiff, Nat.reduceLT, Nat.reduceAdd, Nat.reduceMul, Nat.reduceSub, Nat.reduceEqDiff, Nat.reduceBEq, Int.reduceToNat, reduceCtorEq]
      refine seqM ?_
      refine blkM ?_
      refine seqM ?_
      obtain ⟨f4, H⟩ := need_some.1 H
      replace f4 := inb_iff.1 f4
      obtain ⟨r5, e6, H⟩ := bsi H
      refine draw_quiet shT_ok ct41_0t0_ok (by kernel_rfl) (by kernel_rfl) ?_
      simp only [go_sem, Nat.reduceLeDiff, Nat.reduceLT, Nat.reduceAdd, Nat.reduceMul, Nat.reduceSub, Nat.reduceEqDiff, Nat.reduceBEq, Int.reduceToNat, reduceCtorEq, ct41_0t0_42, body42, f4, e6]
      repeat ((with_reducible refine And.intro ?_ ?_); focus exact an0)
      refine condM' rfl trivial (fun hc => ?_) (fun hc => ?_)
      · have hk7 : (bLt r5 0) = false := by simpa using hc
        replace H := cond_f hc H
        refine rg ctNo_ok ?_
        simp only [go_sem, Nat.reduceLeDiff, Nat.reduceLT, Nat.reduceAdd, Nat.reduceMul, Nat.reduceSub, Nat.reduceEqDiff, Nat.reduceBEq, Int.reduceToNat, reduceCtorEq]
        refine rg ctNo_ok ?_
        simp only [go_sem, Nat.reduceLeDiff, Nat.reduceLT, Nat.reduceAdd, Nat.reduceMul, Nat.reduceSub, Nat.reduceEqDiff, Nat.reduceBEq, Int.reduceToNat, reduceCtorEq]
        refine ⟨_, (Option.some.inj H).symm, ?_⟩
        refine SubF_of ⟨[some 0, some 1], ?_, ?_, by rfl, by rfl⟩
        · simp [CvL, Cv, getM, tp, tp, tpg, t8]
        · exact ⟨cv, cv, trivial⟩
      have hk7 : (bLt r5 0) = true := by simpa using hc
      replace H := cond_t hc H
      obtain ⟨f8, H⟩ := need_some.1 H
      replace f8 := inb_iff.1 f8
      refine rg ctNo_ok ?_
      simp only [go_sem, Nat.reduceLeDiff, Nat.reduceLT, Nat.reduceAdd, Nat.reduceMul, Nat.reduceSub, Nat.reduceEqDiff, Nat.reduceBEq, Int.reduceToNat, reduceCtorEq, f8]
      repeat ((with_reducible refine And.intro ?_ ?_); focus exact an3)
      refine rg ctNo_ok ?_
      simp only [go_sem, Nat.reduceLeDiff, Nat.reduceLT, Nat.reduceAdd, Nat.reduceMul, Nat.reduceSub, Nat.reduceEqDiff, Nat.reduceBEq, Int.reduceToNat, reduceCtorEq]
      refine ⟨_, (Option.some.inj H).symm, ?_⟩
      refine SubF_of ⟨[some 0, some 1], ?_, ?_, by rfl, by rfl⟩
      · simp [CvL, Cv, getM, tp, tp, tpg, t8]
      · exact ⟨cv, cv, trivial⟩
    · try dsimp only at H ⊢
      try simp only [tp]
      try simp only [m_normal, k_normal, b_normal, kL_normal, r_normal]
      refine sq ctNo_ok ?_
      simp only [go_sem, Nat.reduceLeDiff, Nat.reduceLT, Nat.reduceAdd, Nat.reduceMul, Nat.reduceSub, Nat.reduceEqDiff, Nat.reduceBEq, Int.reduceToNat, reduceCtorEq]
      repeat ((with_reducible refine And.intro ?_ ?_); focus exact an3)
      refine rg ctNo_ok ?_
      simp only [go_sem, Nat.reduceLeDiff, Nat.reduceLT, Nat.reduceAdd, Nat.reduceMul, Nat.reduceSub, Nat.reduceEqDiff, Nat.reduceBEq, Int.reduceToNat, reduceCtorEq]
      obtain rfl := Option.some.inj H
      first | rfl | simp only [Bool.and_false, Bool.false_and, Bool.and_true, Bool.true_and]
  · cases hb
/-! hotspot/scan.Learn$3 -/
noncomputable def F45_0 (p0 : TCandidate) (p1_0 : Int) (p1_1 : Int) (p1_2 : Int) (p1_3 : Int) (p1_4 : Int) (p1_5 : Int) : Option (Bool) :=
  some (bEq p0.Addr.x0 p1_0 && (bEq p0.Addr.x1 p1_1 && (bEq p0.Addr.x2 p1_2 && (bEq p0.Addr.x3 p1_3 && (bEq p0.Addr.x4 p1_4 && (bEq p0.Addr.x5 p1_5))))))
noncomputable def body45_0 : List AV -> AR
  | [v0, v1] => .pure (aK 13 k_TCandidate v0 /\ rM 13 v1 /\ iK .u8 (rG v1 0) /\ iK .u8 (rG v1 1) /\ iK .u8 (rG v1 2) /\ iK .u8 (rG v1 3) /\ iK .u8 (rG v1 4) /\ iK .u8 (rG v1 5) /\ (F45_0 (g_TCandidate (aL v0)) (iA (rG v1 0)) (iA (rG v1 1)) (iA (rG v1 2)) (iA (rG v1 3)) (iA (rG v1 4)) (iA (rG v1 5))).isSome = true) (.bool (gt (F45_0 (g_TCandidate (aL v0)) (iA (rG v1 0)) (iA (rG v1 1)) (iA (rG v1 2)) (iA (rG v1 3)) (iA (rG v1 4)) (iA (rG v1 5)))))
  | _ => .fail
set_option maxHeartbeats 4000000 in
set_option maxRecDepth 20000 in
theorem ok45_0 : FnOk Try.prog 45 (pureC body45_0) := by
  refine pure_fnM body45_0 (rs := [.tmp 3]) Try.func45 (by kernel_rfl) rfl rfl ?_
  intro l ob v hb hob
  unfold body45_0 at hb
  split at hb
  · rename_i v0 v1
    injection hb with q1 q2; subst q1 q2
    obtain ⟨hk0_0, hk1_0, hk1_1, hk1_2, hk1_3, hk1_4, hk1_5, hk1_6, hob⟩ := hob
    obtain ⟨r, H⟩ := Option.isSome_iff_exists.1 hob
    rw [H, gt_some]
    have hw0 := wA_TCandidate hk0_0
    have hw1 := (rM_wk (cells := [AV.int .u8 (iA (rG v1 0)), AV.int .u8 (iA (rG v1 1)), AV.int .u8 (iA (rG v1 2)), AV.int .u8 (iA (rG v1 3)), AV.int .u8 (iA (rG v1 4)), AV.int .u8 (iA (rG v1 5)), AV.top, AV.top, AV.top, AV.top, AV.top, AV.top, AV.top]) hk1_0 (fun y hy => match y, hy with | 0, _ => iK_wk hk1_1 | 1, _ => iK_wk hk1_2 | 2, _ => iK_wk hk1_3 | 3, _ => iK_wk hk1_4 | 4, _ => iK_wk hk1_5 | 5, _ => iK_wk hk1_6 | 6, _ => top_wk | 7, _ => top_wk | 8, _ => top_wk | 9, _ => top_wk | 10, _ => top_wk | 11, _ => top_wk | 12, _ => top_wk | y + 13, hy => absurd hy (by omega)))
    generalize g_TCandidate (aL v0) = p0 at H hw0
    generalize iA (rG v1 0) = p1_0 at H hw1
    generalize iA (rG v1 1) = p1_1 at H hw1
    generalize iA (rG v1 2) = p1_2 at H hw1
    generalize iA (rG v1 3) = p1_3 at H hw1
    generalize iA (rG v1 4) = p1_4 at H hw1
    generalize iA (rG v1 5) = p1_5 at H hw1
    refine ⟨[.agg [.int .u8 p0.Addr.x0, .int .u8 p0.Addr.x1, .int .u8 p0.Addr.x2, .int .u8 p0.Addr.x3, .int .u8 p0.Addr.x4, .int .u8 p0.Addr.x5, .int .i64 p0.Channel, .int .i64 p0.Level, .int .i64 p0.Load, .int .i64 p0.Heard, .int .i64 p0.Interval, .str p0.Name, .bool p0.Secure], .rptr 13 1 0 0 (fun _ y => getL [.int .u8 p1_0, .int .u8 p1_1, .int .u8 p1_2, .int .u8 p1_3, .int .u8 p1_4, .int .u8 p1_5, .top, .top, .top, .top, .top, .top, .top] y)], _, (fun E vs F => FR_wk1 hw0.1 F (fun vs F => FR_wk1 hw1.1 F (fun vs F => F))), rfl, rfl, ?_⟩
    rw [Try.ntmps45]
    simp only [List.length_cons, List.length_nil, Nat.reduceAdd, Nat.reduceSub, List.replicate_succ, List.replicate_zero, List.cons_append, List.nil_append]
    unfold F45_0 at H
    try dsimp only at H
    refine sq ctNo_ok ?_
    simp only [go_sem, Nat.reduceLeDiff, Nat.reduceLT, Nat.reduceAdd, Nat.reduceMul, Nat.reduceSub, Nat.reduceEqDiff, Nat.reduceBEq, Int.reduceToNat, reduceCtorEq]
    refine sq ctNo_ok ?_
    simp only [go_sem, Nat.reduceLeDiff, Nat.reduceLT, Nat.reduceAdd, Nat.reduceMul, Nat.reduceSub, Nat.reduceEqDiff, Nat.reduceBEq, Int.reduceToNat, reduceCtorEq]
    refine rg ctNo_ok ?_
    simp only [go_sem, Nat.reduceLeDiff, Nat.reduceLT, Nat.reduceAdd, Nat.reduceMul, Nat.reduceSub, Nat.reduceEqDiff, Nat.reduceBEq, Int.reduceToNat, reduceCtorEq]
    obtain rfl := Option.some.inj H
    first | rfl | simp only [Bool.and_false, Bool.false_and, Bool.and_true, Bool.true_and]
  · cases hb
/-! slices.IndexFunc[[]hotspot/api.Candidate,hotspot/api.Candidate] -/
noncomputable def ct57_0t0 : Ct := tab [(45, pureC body45_0)]
theorem ct57_0t0_ok : CtOk Try.prog ct57_0t0 := tab_cons ok45_0 <| tab_nil
theorem ct57_0t0_45 (l : List AV) (h : List ABlk) : ct57_0t0 45 l h = pureC body45_0 l h := rfl
noncomputable def F57_0_L1 (p0 : List TCandidate) (p1_0 : Int) (p1_1 : Int) (p1_2 : Int) (p1_3 : Int) (p1_4 : Int) (p1_5 : Int) (v1_1 : Int) : Option (Lp (Int) ((Unit) ⊕ (Int))) :=
  bif (bLt v1_1 (p0.length : Nat)) then (need (inb v1_1 p0.length) <| (F45_0 (TCandidate.mk (A6u8.mk (((gd p0 v1_1.toNat).Addr).x0) (((gd p0 v1_1.toNat).Addr).x1) (((gd p0 v1_1.toNat).Addr).x2) (((gd p0 v1_1.toNat).Addr).x3) (((gd p0 v1_1.toNat).Addr).x4) (((gd p0 v1_1.toNat).Addr).x5)) ((gd p0 v1_1.toNat).Channel) ((gd p0 v1_1.toNat).Level) ((gd p0 v1_1.toNat).Load) ((gd p0 v1_1.toNat).Heard) ((gd p0 v1_1.toNat).Interval) ((gd p0 v1_1.toNat).Name) ((gd p0 v1_1.toNat).Secure)) p1_0 p1_1 p1_2 p1_3 p1_4 p1_5).bind fun r3 => bif r3 then (some (.done (.inr v1_1))) else (some (.next (wr .i64 (v1_1 + 1))))) else (some (.done (.inl ())))
noncomputable def F57_0 (p0 : List TCandidate) (p1_0 : Int) (p1_1 : Int) (p1_2 : Int) (p1_3 : Int) (p1_4 : Int) (p1_5 : Int) : Option (Int) :=
  lp (loopD (fun s => F57_0_L1 p0 p1_0 p1_1 p1_2 p1_3 p1_4 p1_5 s) 0) (fun _ => some (-1)) some
noncomputable def body57_0 : List AV -> AR
  | [v0, .fn 45 [v1]] => .pure (lK k_TCandidate 13 v0 /\ rM 13 v1 /\ iK .u8 (rG v1 0) /\ iK .u8 (rG v1 1) /\ iK .u8 (rG v1 2) /\ iK .u8 (rG v1 3) /\ iK .u8 (rG v1 4) /\ iK .u8 (rG v1 5) /\ (F57_0 (lA g_TCandidate v0) (iA (rG v1 0)) (iA (rG v1 1)) (iA (rG v1 2)) (iA (rG v1 3)) (iA (rG v1 4)) (iA (rG v1 5))).isSome = true) (.int .i64 (gt (F57_0 (lA g_TCandidate v0) (iA (rG v1 0)) (iA (rG v1 1)) (iA (rG v1 2)) (iA (rG v1 3)) (iA (rG v1 4)) (iA (rG v1 5)))))
  | _ => .fail
set_option maxHeartbeats 4000000 in
set_option maxRecDepth 20000 in
theorem ok57_0 : FnOk Try.prog 57 (pureC body57_0) := by
  refine pure_fnM body57_0 (rs := [.tmp 4]) Try.func57 (by kernel_rfl) rfl rfl ?_
  intro l ob v hb hob
  unfold body57_0 at hb
  split at hb
  · rename_i v0 v1
    injection hb with q1 q2; subst q1 q2
    obtain ⟨hk0_0, hk1_0, hk1_1, hk1_2, hk1_3, hk1_4, hk1_5, hk1_6, hob⟩ := hob
    obtain ⟨r, H⟩ := Option.isSome_iff_exists.1 hob
    rw [H, gt_some]
    have hw0 := lK_wk (fun r h => w_TCandidate h) hk0_0
    have hw1 := (rM_wk (cells := [AV.int .u8 (iA (rG v1 0)), AV.int .u8 (iA (rG v1 1)), AV.int .u8 (iA (rG v1 2)), AV.int .u8 (iA (rG v1 3)), AV.int .u8 (iA (rG v1 4)), AV.int .u8 (iA (rG v1 5)), AV.top, AV.top, AV.top, AV.top, AV.top, AV.top, AV.top]) hk1_0 (fun y hy => match y, hy with | 0, _ => iK_wk hk1_1 | 1, _ => iK_wk hk1_2 | 2, _ => iK_wk hk1_3 | 3, _ => iK_wk hk1_4 | 4, _ => iK_wk hk1_5 | 5, _ => iK_wk hk1_6 | 6, _ => top_wk | 7, _ => top_wk | 8, _ => top_wk | 9, _ => top_wk | 10, _ => top_wk | 11, _ => top_wk | 12, _ => top_wk | y + 13, hy => absurd hy (by omega)))
    generalize lA g_TCandidate v0 = p0 at H hw0
    generalize iA (rG v1 0) = p1_0 at H hw1
    generalize iA (rG v1 1) = p1_1 at H hw1
    generalize iA (rG v1 2) = p1_2 at H hw1
    generalize iA (rG v1 3) = p1_3 at H hw1
    generalize iA (rG v1 4) = p1_4 at H hw1
    generalize iA (rG v1 5) = p1_5 at H hw1
    refine ⟨[.ro 13 p0.length false (enR c_TCandidate p0), .fn 45 [.rptr 13 1 0 0 (fun _ y => getL [.int .u8 p1_0, .int .u8 p1_1, .int .u8 p1_2, .int .u8 p1_3, .int .u8 p1_4, .int .u8 p1_5, .top, .top, .top, .top, .top, .top, .top] y)]], _, (fun E vs F => FR_wk1 hw0.1 F (fun vs F => FR_wk1 (fn_wk (LW_cons hw1.1 LW_nil)) F (fun vs F => F))), rfl, rfl, ?_⟩
    rw [Try.ntmps57]
    simp only [List.length_cons, List.length_nil, Nat.reduceAdd, Nat.reduceSub, List.replicate_succ, List.replicate_zero, List.cons_append, List.nil_append]
    unfold F57_0 at H
    try dsimp only at H
    refine sq ctNo_ok ?_
    simp only [go_sem, Nat.reduceLeDiff, Nat.reduceLT, Nat.reduceAdd, Nat.reduceMul, Nat.reduceSub, Nat.reduceEqDiff, Nat.reduceBEq, Int.reduceToNat, reduceCtorEq]
    refine seqM ?_
    refine sq ctNo_ok ?_
    simp only [go_sem, Nat.reduceLeDiff, Nat.reduceLT, Nat.reduceAdd, Nat.reduceMul, Nat.reduceSub, Nat.reduceEqDiff, Nat.reduceBEq, Int.reduceToNat, reduceCtorEq]
    repeat ((with_reducible refine And.intro ?_ ?_); focus exact an2)
    refine blkM ?_
    refine loop_den (fun s : Int => (.ro 13 p0.length false (enR c_TCandidate p0) :: .fn 45 [.rptr 13 1 0 0 (fun _ y => getL [.int .u8 p1_0, .int .u8 p1_1, .int .u8 p1_2, .int .u8 p1_3, .int .u8 p1_4, .int .u8 p1_5, .top, .top, .top, .top, .top, .top, .top] y)] :: tp 5 (.int .i64 (p0.length : Nat) :: .int .i64 s :: tp 10 []))) (fun s => []) (fun e : Unit => (tp 19 [])) (fun e => []) H ?_ (fun v1_1 o H hn1_1 hn2_1 => ?_) (fun e H => ?_)
    · refine SubF_of ⟨[], ?_, ?_, by rfl, by rfl⟩
      · simp [CvL, Cv, getM, tp, tp, tpg, t8]
      · trivial
    · unfold F57_0_L1 at H
      try dsimp only at H ⊢
      try simp only [tp]
      refine sq ctNo_ok ?_
      simp only [go_sem, Nat.reduceLeDiff, Nat.reduceLT, Nat.reduceAdd, Nat.reduceMul, Nat.reduceSub, Nat.reduceEqDiff, Nat.reduceBEq, Int.reduceToNat, reduceCtorEq]
      refine seqM ?_
      refine condM' rfl trivial (fun hc => ?_) (fun hc => ?_)
      · have hk1 : (bLt v1_1 (p0.length : Nat)) = false := by simpa using hc
        replace H := cond_f hc H
        refine rg ctNo_ok ?_
        simp only [go_sem, Nat.reduceLeDiff, Nat.reduceLT, Nat.reduceAdd, Nat.reduceMul, Nat.reduceSub, Nat.reduceEqDiff, Nat.reduceBEq, Int.reduceToNat, reduceCtorEq]
        refine ⟨_, (Option.some.inj H).symm, ?_⟩
        refine SubF_of ⟨[], ?_, ?_, by rfl, by rfl⟩
        · simp [CvL, Cv, getM, tp, tp, tpg, t8]
        · trivial
      have hk1 : (bLt v1_1 (p0.length : Nat)) = true := by simpa using hc
      replace H := cond_t hc H
      refine rg ctNo_ok ?_
      simp only [go_sem, Nat.reduceLeDiff, Nat.reduceLT, Nat.reduceAdd, Nat.reduceMul, Nat.reduceSub, Nat.reduceEqDiff, Nat.reduceBEq, Int.reduceToNat, reduceCtorEq]
      refine seqM ?_
      refine blkM ?_
      refine sq ctNo_ok ?_
      simp only [go_sem, Nat.reduceLeDiff, Nat.reduceLT, Nat.reduceAdd, Nat.reduceMul, Nat.reduceSub, Nat.reduceEqDiff, Nat.reduceBEq, Int.reduceToNat, reduceCtorEq]
      refine seqM ?_
      obtain ⟨f2, H⟩ := need_some.1 H
      replace f2 := inb_iff.1 f2
      obtain ⟨r3, e4, H⟩ := bsi H
      refine rg ct57_0t0_ok ?_
      simp only [go_sem, Nat.reduceLeDiff, Nat.reduceLT, Nat.reduceAdd, Nat.reduceMul, Nat.reduceSub, Nat.reduceEqDiff, Nat.reduceBEq, Int.reduceToNat, reduceCtorEq, ct57_0t0_45, body45_0, f2, e4]
      repeat ((with_reducible refine And.intro ?_ ?_); focus exact an2)
      refine condM rfl trivial (fun hc => ?_) (fun hc => ?_)
      · have hk5 : (r3) = true := by simpa using hc
        replace H := cond_t hc H
        refine sq ctNo_ok ?_
        simp only [go_sem, Nat.reduceLeDiff, Nat.reduceLT, Nat.reduceAdd, Nat.reduceMul, Nat.reduceSub, Nat.reduceEqDiff, Nat.reduceBEq, Int.reduceToNat, reduceCtorEq]
        refine rg ctNo_ok ?_
        simp only [go_sem, Nat.reduceLeDiff, Nat.reduceLT, Nat.reduceAdd, Nat.reduceMul, Nat.reduceSub, Nat.reduceEqDiff, Nat.reduceBEq, Int.reduceToNat, reduceCtorEq]
        have H := hn2_1 _ (Option.some.inj H).symm
        obtain rfl := Option.some.inj H
        first | rfl | simp only [Bool.and_false, Bool.false_and, Bool.and_true, Bool.true_and]
      have hk5 : (r3) = false := by simpa using hc
      replace H := cond_f hc H
      refine rg ctNo_ok ?_
      simp only [go_sem, Nat.reduceLeDiff, Nat.reduceLT, Nat.reduceAdd, Nat.reduceMul, Nat.reduceSub, Nat.reduceEqDiff, Nat.reduceBEq, Int.reduceToNat, reduceCtorEq]
      refine rg ctNo_ok ?_
      simp only [go_sem, Nat.reduceLeDiff, Nat.reduceLT, Nat.reduceAdd, Nat.reduceMul, Nat.reduceSub, Nat.reduceEqDiff, Nat.reduceBEq, Int.reduceToNat, reduceCtorEq]
      refine ⟨_, (Option.some.inj H).symm, ?_⟩
      refine SubF_of ⟨[], ?_, ?_, by rfl, by rfl⟩
      · simp [CvL, Cv, getM, tp, tp, tpg, t8]
      · trivial
    · try dsimp only at H ⊢
      try simp only [tp]
      try simp only [m_normal, k_normal, b_normal, kL_normal, r_normal]
      refine sq ctNo_ok ?_
      simp only [go_sem, Nat.reduceLeDiff, Nat.reduceLT, Nat.reduceAdd, Nat.reduceMul, Nat.reduceSub, Nat.reduceEqDiff, Nat.reduceBEq, Int.reduceToNat, reduceCtorEq]
      refine rg ctNo_ok ?_
      simp only [go_sem, Nat.reduceLeDiff, Nat.reduceLT, Nat.reduceAdd, Nat.reduceMul, Nat.reduceSub, Nat.reduceEqDiff, Nat.reduceBEq, Int.reduceToNat, reduceCtorEq]
      obtain rfl := Option.some.inj H
      first | rfl | simp only [Bool.and_false, Bool.false_and, Bool.and_true, Bool.true_and]
  · cases hb
/-! slices.DeleteFunc[[]hotspot/api.Candidate,hotspot/api.Candidate] -/
noncomputable def ct44_0t0 : Ct := tab [(57, pureC body57_0)]
theorem ct44_0t0_ok : CtOk Try.prog ct44_0t0 := tab_cons ok57_0 <| tab_nil
theorem ct44_0t0_57 (l : List AV) (h : List ABlk) : ct44_0t0 57 l h = pureC body57_0 l h := rfl
noncomputable def ct44_0t1 : Ct := tab [(45, pureC body45_0)]
theorem ct44_0t1_ok : CtOk Try.prog ct44_0t1 := tab_cons ok45_0 <| tab_nil
theorem ct44_0t1_45 (l : List AV) (h : List ABlk) : ct44_0t1 45 l h = pureC body45_0 l h := rfl
noncomputable def F44_0_L1 (p1_0 : Int) (p1_1 : Int) (p1_2 : Int) (p1_3 : Int) (p1_4 : Int) (p1_5 : Int) (v1_1 : List TCandidate) (v1_2 : Int) (v1_3 : Int) : Option (Lp ((List TCandidate) × Int × Int) (((List TCandidate) × Int) ⊕ (List TCandidate))) :=
  bif (bLt v1_3 (v1_1.length : Nat)) then (need (inb v1_3 v1_1.length) <| (F45_0 (TCandidate.mk (A6u8.mk (((gd v1_1 v1_3.toNat).Addr).x0) (((gd v1_1 v1_3.toNat).Addr).x1) (((gd v1_1 v1_3.toNat).Addr).x2) (((gd v1_1 v1_3.toNat).Addr).x3) (((gd v1_1 v1_3.toNat).Addr).x4) (((gd v1_1 v1_3.toNat).Addr).x5)) ((gd v1_1 v1_3.toNat).Channel) ((gd v1_1 v1_3.toNat).Level) ((gd v1_1 v1_3.toNat).Load) ((gd v1_1 v1_3.toNat).Heard) ((gd v1_1 v1_3.toNat).Interval) ((gd v1_1 v1_3.toNat).Name) ((gd v1_1 v1_3.toNat).Secure)) p1_0 p1_1 p1_2 p1_3 p1_4 p1_5).bind fun r6 => bif (!r6) then (need (inb v1_2 v1_1.length) <| some (.next ((v1_1.set v1_2.toNat (TCandidate.mk (A6u8.mk (((gd v1_1 v1_3.toNat).Addr).x0) (((gd v1_1 v1_3.toNat).Addr).x1) (((gd v1_1 v1_3.toNat).Addr).x2) (((gd v1_1 v1_3.toNat).Addr).x3) (((gd v1_1 v1_3.toNat).Addr).x4) (((gd v1_1 v1_3.toNat).Addr).x5)) ((gd v1_1 v1_3.toNat).Channel) ((gd v1_1 v1_3.toNat).Level) ((gd v1_1 v1_3.toNat).Load) ((gd v1_1 v1_3.toNat).Heard) ((gd v1_1 v1_3.toNat).Interval) ((gd v1_1 v1_3.toNat).Name) ((gd v1_1 v1_3.toNat).Secure))), wr .i64 (v1_2 + 1), wr .i64 (v1_3 + 1)))) else (some (.next (v1_1, v1_2, wr .i64 (v1_3 + 1))))) else (some (.done (.inl (v1_1, v1_2))))
noncomputable def F44_0 (p0 : List TCandidate) (p1_0 : Int) (p1_1 : Int) (p1_2 : Int) (p1_3 : Int) (p1_4 : Int) (p1_5 : Int) : Option (List TCandidate) :=
  (F57_0 p0 p1_0 p1_1 p1_2 p1_3 p1_4 p1_5).bind fun r1 => bif (bEq r1 (-1)) then (some p0) else (lp (loopD (fun s => F44_0_L1 p1_0 p1_1 p1_2 p1_3 p1_4 p1_5 s.1 s.2.1 s.2.2) (p0, r1, wr .i64 (r1 + 1))) (fun e1 => need (slb e1.2 (e1.1.length : Nat) e1.1.length) <| need (slb 0 e1.2 e1.1.length) <| some (List.take e1.2.toNat e1.1)) some)
noncomputable def body44_0 : List AV -> List ABlk -> ED
  | [v0, .fn 45 [v1]], h => .ed [slN v0] (oS 52 13 h v0 /\ lK k_TCandidate 13 (roW h v0) /\ rM 13 (roD (deadL h [slN v0]) v1) /\ iK .u8 (rG (roD (deadL h [slN v0]) v1) 0) /\ iK .u8 (rG (roD (deadL h [slN v0]) v1) 1) /\ iK .u8 (rG (roD (deadL h [slN v0]) v1) 2) /\ iK .u8 (rG (roD (deadL h [slN v0]) v1) 3) /\ iK .u8 (rG (roD (deadL h [slN v0]) v1) 4) /\ iK .u8 (rG (roD (deadL h [slN v0]) v1) 5) /\ roDOb (deadL h [slN v0]) v1 /\ (F44_0 (lA g_TCandidate (roW h v0)) (iA (rG (roD (deadL h [slN v0]) v1) 0)) (iA (rG (roD (deadL h [slN v0]) v1) 1)) (iA (rG (roD (deadL h [slN v0]) v1) 2)) (iA (rG (roD (deadL h [slN v0]) v1) 3)) (iA (rG (roD (deadL h [slN v0]) v1) 4)) (iA (rG (roD (deadL h [slN v0]) v1) 5))).isSome = true) (.sl 1 13 0 ((gt (F44_0 (lA g_TCandidate (roW h v0)) (iA (rG (roD (deadL h [slN v0]) v1) 0)) (iA (rG (roD (deadL h [slN v0]) v1) 1)) (iA (rG (roD (deadL h [slN v0]) v1) 2)) (iA (rG (roD (deadL h [slN v0]) v1) 3)) (iA (rG (roD (deadL h [slN v0]) v1) 4)) (iA (rG (roD (deadL h [slN v0]) v1) 5)))).length) false) [.dead, .row 52 13 ((gt (F44_0 (lA g_TCandidate (roW h v0)) (iA (rG (roD (deadL h [slN v0]) v1) 0)) (iA (rG (roD (deadL h [slN v0]) v1) 1)) (iA (rG (roD (deadL h [slN v0]) v1) 2)) (iA (rG (roD (deadL h [slN v0]) v1) 3)) (iA (rG (roD (deadL h [slN v0]) v1) 4)) (iA (rG (roD (deadL h [slN v0]) v1) 5)))).length) (enR c_TCandidate (gt (F44_0 (lA g_TCandidate (roW h v0)) (iA (rG (roD (deadL h [slN v0]) v1) 0)) (iA (rG (roD (deadL h [slN v0]) v1) 1)) (iA (rG (roD (deadL h [slN v0]) v1) 2)) (iA (rG (roD (deadL h [slN v0]) v1) 3)) (iA (rG (roD (deadL h [slN v0]) v1) 4)) (iA (rG (roD (deadL h [slN v0]) v1) 5)))))]
  | _, _ => .fail
set_option maxHeartbeats 4000000 in
set_option maxRecDepth 20000 in
theorem ok44_0 : FnOk Try.prog 44 (edC body44_0) := by
  refine edit_fnV body44_0 (rs := [.tmp 4]) Try.func44 (by kernel_rfl) rfl rfl ?_
  intro l h bs ob q0 g0 hb hob
  unfold body44_0 at hb
  split at hb
  · rename_i v0 v1
    injection hb with q1 q2 q3 q4; subst q1 q2 q3 q4
    obtain ⟨hk0_0, hk0_1, hk1_0, hk1_1, hk1_2, hk1_3, hk1_4, hk1_5, hk1_6, hk1_7, hob⟩ := hob
    obtain ⟨r, H⟩ := Option.isSome_iff_exists.1 hob
    rw [H, gt_some]
    obtain ⟨p0, hp0⟩ : ∃ p0, p0 = lA g_TCandidate (roW h v0) := ⟨_, rfl⟩
    rw [← hp0] at H
    obtain ⟨ev0, eb0⟩ := own_row2 (f := c_TCandidate) (g := g_TCandidate) (bs := [slN v0]) (i := 0) (fun hr => w_TCandidate hr) hk0_0 hk0_1 (L := p0) (by rw [hp0]) rfl
    have hw1 := (rM_wk (cells := [AV.int .u8 (iA (rG (roD (deadL h [slN v0]) v1) 0)), AV.int .u8 (iA (rG (roD (deadL h [slN v0]) v1) 1)), AV.int .u8 (iA (rG (roD (deadL h [slN v0]) v1) 2)), AV.int .u8 (iA (rG (roD (deadL h [slN v0]) v1) 3)), AV.int .u8 (iA (rG (roD (deadL h [slN v0]) v1) 4)), AV.int .u8 (iA (rG (roD (deadL h [slN v0]) v1) 5)), AV.top, AV.top, AV.top, AV.top, AV.top, AV.top, AV.top]) hk1_0 (fun y hy => match y, hy with | 0, _ => iK_wk hk1_1 | 1, _ => iK_wk hk1_2 | 2, _ => iK_wk hk1_3 | 3, _ => iK_wk hk1_4 | 4, _ => iK_wk hk1_5 | 5, _ => iK_wk hk1_6 | 6, _ => top_wk | 7, _ => top_wk | 8, _ => top_wk | 9, _ => top_wk | 10, _ => top_wk | 11, _ => top_wk | 12, _ => top_wk | y + 13, hy => absurd hy (by omega)))
    obtain ⟨p1_0, hp_p1_0⟩ : ∃ p1_0, p1_0 = iA (rG (roD (deadL h [slN v0]) v1) 0) := ⟨_, rfl⟩
    rw [← hp_p1_0] at H hw1
    obtain ⟨p1_1, hp_p1_1⟩ : ∃ p1_1, p1_1 = iA (rG (roD (deadL h [slN v0]) v1) 1) := ⟨_, rfl⟩
    rw [← hp_p1_1] at H hw1
    obtain ⟨p1_2, hp_p1_2⟩ : ∃ p1_2, p1_2 = iA (rG (roD (deadL h [slN v0]) v1) 2) := ⟨_, rfl⟩
    rw [← hp_p1_2] at H hw1
    obtain ⟨p1_3, hp_p1_3⟩ : ∃ p1_3, p1_3 = iA (rG (roD (deadL h [slN v0]) v1) 3) := ⟨_, rfl⟩
    rw [← hp_p1_3] at H hw1
    obtain ⟨p1_4, hp_p1_4⟩ : ∃ p1_4, p1_4 = iA (rG (roD (deadL h [slN v0]) v1) 4) := ⟨_, rfl⟩
    rw [← hp_p1_4] at H hw1
    obtain ⟨p1_5, hp_p1_5⟩ : ∃ p1_5, p1_5 = iA (rG (roD (deadL h [slN v0]) v1) 5) := ⟨_, rfl⟩
    rw [← hp_p1_5] at H hw1
    refine ⟨[.sl 0 13 0 p0.length false, .fn 45 [.rptr 13 1 0 0 (fun _ y => getL [.int .u8 p1_0, .int .u8 p1_1, .int .u8 p1_2, .int .u8 p1_3, .int .u8 p1_4, .int .u8 p1_5, .top, .top, .top, .top, .top, .top, .top] y)]], [.row 52 13 p0.length (enR c_TCandidate p0)], rfl, ⟨(EW_own ev0 (by simp only [noro])), ⟨(EW_fn ⟨(EW_view hk1_7 hw1), trivial⟩), trivial⟩⟩, ⟨eb0, trivial⟩, ⟨noroB_en, trivial⟩, ⟨trivial, ⟨(nfB_en nr_TCandidate), trivial⟩⟩, ⟨trivial, ⟨noroB_en, trivial⟩⟩, (by first | (simp only [noro, noroL, and_self]; done) | (simp only [noro, noroL]; and_intros <;> first | trivial | exact noro_bif (by simp only [noro]) (by simp only [noro]) | (simp only [noro, noroL, and_self]))), ?_⟩
    rw [Try.ntmps44]
    simp only [List.length_cons, List.length_nil, Nat.reduceAdd, Nat.reduceSub, List.replicate_succ, List.replicate_zero, List.cons_append, List.nil_append]
    unfold F44_0 at H
    try dsimp only at H
    refine sq ctNo_ok ?_
    simp only [go_sem, Nat.reduceLeDiff, Nat.reduceLT, Nat.reduceAdd, Nat.reduceMul, Nat.reduceSub, Nat.reduceEqDiff, Nat.reduceBEq, Int.reduceToNat, reduceCtorEq]
    refine seqM ?_
    obtain ⟨r1, e2, H⟩ := bsi H
    refine rg ct44_0t0_ok ?_
    simp only [go_sem, Nat.reduceLeDiff, Nat.reduceLT, Nat.reduceAdd, Nat.reduceMul, Nat.reduceSub, Nat.reduceEqDiff, Nat.reduceBEq, Int.reduceToNat, reduceCtorEq, ct44_0t0_57, body57_0, e2]
    repeat ((with_reducible refine And.intro ?_ ?_); focus exact an2)
    refine seqM ?_
    refine sq ctNo_ok ?_
    simp only [go_sem, Nat.reduceLeDiff, Nat.reduceLT, Nat.reduceAdd, Nat.reduceMul, Nat.reduceSub, Nat.reduceEqDiff, Nat.reduceBEq, Int.reduceToNat, reduceCtorEq]
    refine condM rfl trivial (fun hc => ?_) (fun hc => ?_)
    · have hk3 : (bEq r1 (-1)) = true := by simpa using hc
      replace H := cond_t hc H
      refine sq ctNo_ok ?_
      simp only [go_sem, Nat.reduceLeDiff, Nat.reduceLT, Nat.reduceAdd, Nat.reduceMul, Nat.reduceSub, Nat.reduceEqDiff, Nat.reduceBEq, Int.reduceToNat, reduceCtorEq]
      refine rg ctNo_ok ?_
      simp only [go_sem, Nat.reduceLeDiff, Nat.reduceLT, Nat.reduceAdd, Nat.reduceMul, Nat.reduceSub, Nat.reduceEqDiff, Nat.reduceBEq, Int.reduceToNat, reduceCtorEq]
      obtain rfl := Option.some.inj H
      refine RetE_mk [] [some 0, some 0] ?_ ?_ ?_ ?_ (by rfl) (by rfl)
      · simp only [go_sem, Nat.reduceEqDiff, Nat.reduceBEq, Nat.reduceAdd]
        try exact at0
      · simp only [go_sem, Nat.reduceEqDiff, Nat.reduceBEq, Nat.reduceAdd]
        try exact at0
      · simp only [go_sem, Nat.reduceEqDiff, Nat.reduceBEq, Nat.reduceAdd]
        exact (by first | (simp [Cv, CvL, getM, gt_some]; done) | (simp [Cv, CvL, getM, gt_some]; omega))
      · simp only [go_sem, Nat.reduceEqDiff, Nat.reduceBEq, Nat.reduceAdd, CvH, gt_some, Option.isSome_some, Option.isSome_none]
        first | exact ⟨CvB_dead, CvB_row nr_TCandidate cl (fun _ _ _ _ => rfl)⟩ | trivial
    have hk3 : (bEq r1 (-1)) = false := by simpa using hc
    replace H := cond_f hc H
    refine rg ctNo_ok ?_
    simp only [go_sem, Nat.reduceLeDiff, Nat.reduceLT, Nat.reduceAdd, Nat.reduceMul, Nat.reduceSub, Nat.reduceEqDiff, Nat.reduceBEq, Int.reduceToNat, reduceCtorEq]
    refine seqM ?_
    refine sq ctNo_ok ?_
    simp only [go_sem, Nat.reduceLeDiff, Nat.reduceLT, Nat.reduceAdd, Nat.reduceMul, Nat.reduceSub, Nat.reduceEqDiff, Nat.reduceBEq, Int.reduceToNat, reduceCtorEq]
    refine blkM ?_
    refine loop_den (fun s : (List TCandidate) × Int × Int => (.sl 1 13 0 s.1.length false :: .fn 45 [.rptr 13 1 0 0 (fun _ y => getL [.int .u8 p1_0, .int .u8 p1_1, .int .u8 p1_2, .int .u8 p1_3, .int .u8 p1_4, .int .u8 p1_5, .top, .top, .top, .top, .top, .top, .top] y)] :: .top :: .top :: .top :: .int .i64 s.2.1 :: .int .i64 s.2.2 :: tp 35 [])) (fun s => [.dead, .row 52 13 s.1.length (enR c_TCandidate s.1)]) (fun e : (List TCandidate) × Int => (.sl 1 13 0 e.1.length false :: tp 4 (.int .i64 e.2 :: tp 36 []))) (fun e => [.dead, .row 52 13 e.1.length (enR c_TCandidate e.1)]) H ?_ (fun s o H hn1_1 hn2_1 => ?_) (fun e H => ?_)
    · refine SubF_of ⟨[some 0, some 0], ?_, ?_, by rfl, by rfl⟩
      · simp [CvL, Cv, getM, tp, tp, tpg, t8]
      · exact ⟨CvB_dead, CvB_row nr_TCandidate cl (fun _ _ _ _ => rfl), trivial⟩
    · obtain ⟨v1_1, v1_2, v1_3⟩ := s
      unfold F44_0_L1 at H
      try dsimp only at H ⊢
      try simp only [tp]
      refine seqM ?_
      refine sq ctNo_ok ?_
      simp only [go_sem, Nat.reduceLeDiff, Nat.reduceLT, Nat.reduceAdd, Nat.reduceMul, Nat.reduceSub, Nat.reduceEqDiff, Nat.reduceBEq, Int.reduceToNat, reduceCtorEq]
      repeat ((with_reducible refine And.intro ?_ ?_); focus exact an2)
      refine condM' rfl trivial (fun hc => ?_) (fun hc => ?_)
      · have hk4 : (bLt v1_3 (v1_1.length : Nat)) = false := by simpa using hc
        replace H := cond_f hc H
        refine rg ctNo_ok ?_
        simp only [go_sem, Nat.reduceLeDiff, Nat.reduceLT, Nat.reduceAdd, Nat.reduceMul, Nat.reduceSub, Nat.reduceEqDiff, Nat.reduceBEq, Int.reduceToNat, reduceCtorEq]
        refine ⟨_, (Option.some.inj H).symm, ?_⟩
        refine SubF_of ⟨[some 0, some 1], ?_, ?_, by rfl, by rfl⟩
        · simp [CvL, Cv, getM, tp, tp, tpg, t8]
        · exact ⟨CvB_dead, CvB_row nr_TCandidate cl (fun _ _ _ _ => rfl), trivial⟩
      have hk4 : (bLt v1_3 (v1_1.length : Nat)) = true := by simpa using hc
      replace H := cond_t hc H
      refine rg ctNo_ok ?_
      simp only [go_sem, Nat.reduceLeDiff, Nat.reduceLT, Nat.reduceAdd, Nat.reduceMul, Nat.reduceSub, Nat.reduceEqDiff, Nat.reduceBEq, Int.reduceToNat, reduceCtorEq]
      refine seqM ?_
      refine blkM ?_
      refine seqM ?_
      obtain ⟨f5, H⟩ := need_some.1 H
      replace f5 := inb_iff.1 f5
      refine rg ctNo_ok ?_
      simp only [go_sem, Nat.reduceLeDiff, Nat.reduceLT, Nat.reduceAdd, Nat.reduceMul, Nat.reduceSub, Nat.reduceEqDiff, Nat.reduceBEq, Int.reduceToNat, reduceCtorEq, f5]
      repeat ((with_reducible refine And.intro ?_ ?_); focus exact an3)
      refine seqM ?_
      obtain ⟨r6, e7, H⟩ := bsi H
      refine rg ct44_0t1_ok ?_
      simp only [go_sem, Nat.reduceLeDiff, Nat.reduceLT, Nat.reduceAdd, Nat.reduceMul, Nat.reduceSub, Nat.reduceEqDiff, Nat.reduceBEq, Int.reduceToNat, reduceCtorEq, ct44_0t1_45, body45_0, e7]
      repeat ((with_reducible refine And.intro ?_ ?_); focus exact an2)
      refine condM' rfl trivial (fun hc => ?_) (fun hc => ?_)
      · have hk8 : (r6) = true := by simpa using hc
        replace H := cond_f hc H
        refine rg ctNo_ok ?_
        simp only [go_sem, Nat.reduceLeDiff, Nat.reduceLT, Nat.reduceAdd, Nat.reduceMul, Nat.reduceSub, Nat.reduceEqDiff, Nat.reduceBEq, Int.reduceToNat, reduceCtorEq]
        refine rg ctNo_ok ?_
        simp only [go_sem, Nat.reduceLeDiff, Nat.reduceLT, Nat.reduceAdd, Nat.reduceMul, Nat.reduceSub, Nat.reduceEqDiff, Nat.reduceBEq, Int.reduceToNat, reduceCtorEq]
        refine ⟨_, (Option.some.inj H).symm, ?_⟩
        refine SubF_of ⟨[some 0, some 1], ?_, ?_, by rfl, by rfl⟩
        · simp [CvL, Cv, getM, tp, tp, tpg, t8]
        · exact ⟨CvB_dead, CvB_row nr_TCandidate cl (fun _ _ _ _ => rfl), trivial⟩
      have hk8 : (r6) = false := by simpa using hc
      replace H := cond_t hc H
      refine seqM ?_
      obtain ⟨f9, H⟩ := need_some.1 H
      replace f9 := inb_iff.1 f9
      refine rg ctNo_ok ?_
      simp only [go_sem, Nat.reduceLeDiff, Nat.reduceLT, Nat.reduceAdd, Nat.reduceMul, Nat.reduceSub, Nat.reduceEqDiff, Nat.reduceBEq, Int.reduceToNat, reduceCtorEq, f9]
      repeat ((with_reducible refine And.intro ?_ ?_); focus exact an3)
      refine rg ctNo_ok ?_
      simp only [go_sem, Nat.reduceLeDiff, Nat.reduceLT, Nat.reduceAdd, Nat.reduceMul, Nat.reduceSub, Nat.reduceEqDiff, Nat.reduceBEq, Int.reduceToNat, reduceCtorEq]
      refine rg ctNo_ok ?_
      simp only [go_sem, Nat.reduceLeDiff, Nat.reduceLT, Nat.reduceAdd, Nat.reduceMul, Nat.reduceSub, Nat.reduceEqDiff, Nat.reduceBEq, Int.reduceToNat, reduceCtorEq]
      refine ⟨_, (Option.some.inj H).symm, ?_⟩
      refine SubF_of ⟨[some 0, some 1], ?_, ?_, by rfl, by rfl⟩
      · simp [CvL, Cv, getM, tp, tp, tpg, t8]
      · exact ⟨CvB_dead, CvB_row nr_TCandidate cl (upc_row (f := c_TCandidate) v1_1 v1_2.toNat 0 (TCandidate.mk (A6u8.mk (((gd v1_1 v1_3.toNat).Addr).x0) (((gd v1_1 v1_3.toNat).Addr).x1) (((gd v1_1 v1_3.toNat).Addr).x2) (((gd v1_1 v1_3.toNat).Addr).x3) (((gd v1_1 v1_3.toNat).Addr).x4) (((gd v1_1 v1_3.toNat).Addr).x5)) ((gd v1_1 v1_3.toNat).Channel) ((gd v1_1 v1_3.toNat).Level) ((gd v1_1 v1_3.toNat).Load) ((gd v1_1 v1_3.toNat).Heard) ((gd v1_1 v1_3.toNat).Interval) ((gd v1_1 v1_3.toNat).Name) ((gd v1_1 v1_3.toNat).Secure)) (fun _ _ _ _ => rfl) (fun y hy => match y, hy with | 0, _ => rfl | 1, _ => rfl | 2, _ => rfl | 3, _ => rfl | 4, _ => rfl | 5, _ => rfl | 6, _ => rfl | 7, _ => rfl | 8, _ => rfl | 9, _ => rfl | 10, _ => rfl | 11, _ => rfl | 12, _ => rfl | (y+13), h => absurd h nlt)), trivial⟩
    · obtain ⟨w1_4, w1_5⟩ := e
      try dsimp only at H ⊢
      try simp only [tp]
      try simp only [m_normal, k_normal, b_normal, kL_normal, r_normal]
      refine seqM ?_
      obtain ⟨f10, H⟩ := need_some.1 H
      replace f10 := slb_iff.1 f10
      refine rg ctNo_ok ?_
      simp only [go_sem, Nat.reduceLeDiff, Nat.reduceLT, Nat.reduceAdd, Nat.reduceMul, Nat.reduceSub, Nat.reduceEqDiff, Nat.reduceBEq, Int.reduceToNat, reduceCtorEq, f10]
      repeat ((with_reducible refine And.intro ?_ ?_); focus exact an2)
      refine seqM ?_
      obtain ⟨f11, H⟩ := need_some.1 H
      replace f11 := slb_iff.1 f11
      refine rg ctNo_ok ?_
      simp only [go_sem, Nat.reduceLeDiff, Nat.reduceLT, Nat.reduceAdd, Nat.reduceMul, Nat.reduceSub, Nat.reduceEqDiff, Nat.reduceBEq, Int.reduceToNat, reduceCtorEq, f11]
      repeat ((with_reducible refine And.intro ?_ ?_); focus exact an3)
      refine rg ctNo_ok ?_
      simp only [go_sem, Nat.reduceLeDiff, Nat.reduceLT, Nat.reduceAdd, Nat.reduceMul, Nat.reduceSub, Nat.reduceEqDiff, Nat.reduceBEq, Int.reduceToNat, reduceCtorEq]
      obtain rfl := Option.some.inj H
      refine RetE_mk [] [some 0, some 1] ?_ ?_ ?_ ?_ (by rfl) (by rfl)
      · simp only [go_sem, Nat.reduceEqDiff, Nat.reduceBEq, Nat.reduceAdd]
        try exact at0
      · simp only [go_sem, Nat.reduceEqDiff, Nat.reduceBEq, Nat.reduceAdd]
        try exact at0
      · simp only [go_sem, Nat.reduceEqDiff, Nat.reduceBEq, Nat.reduceAdd]
        exact (by first | (simp [Cv, CvL, getM, gt_some, (show (List.take w1_5.toNat w1_4).length = w1_5.toNat from take_len (n := w1_4.length) cl (by omega))]; done) | (simp [Cv, CvL, getM, gt_some, (show (List.take w1_5.toNat w1_4).length = w1_5.toNat from take_len (n := w1_4.length) cl (by omega))]; omega))
      · simp only [go_sem, Nat.reduceEqDiff, Nat.reduceBEq, Nat.reduceAdd, CvH, gt_some, Option.isSome_some, Option.isSome_none]
        first | exact ⟨CvB_dead, (CvB_pre nr_TCandidate (by rw [show (List.take w1_5.toNat w1_4).length = w1_5.toNat from take_len (n := w1_4.length) cl (by omega)]; omega) (clr_row (fun _ _ _ _ => rfl)))⟩ | trivial
  · cases hb
/-! hotspot/scan.Learn -/
noncomputable def ct17t0 : Ct := tab [(19, pureC body19)]
theorem ct17t0_ok : CtOk Try.prog ct17t0 := tab_cons ok19 <| tab_nil
theorem ct17t0_19 (l : List AV) (h : List ABlk) : ct17t0 19 l h = pureC body19 l h := rfl
noncomputable def ct17t1 : Ct := tab [(34, pureC body34)]
theorem ct17t1_ok : CtOk Try.prog ct17t1 := tab_cons ok34 <| tab_nil
theorem ct17t1_34 (l : List AV) (h : List ABlk) : ct17t1 34 l h = pureC body34 l h := rfl
noncomputable def ct17t2 : Ct := tab [(35, edC body35_0)]
theorem ct17t2_ok : CtOk Try.prog ct17t2 := tab_cons ok35_0 <| tab_nil
theorem ct17t2_35 (l : List AV) (h : List ABlk) : ct17t2 35 l h = edC body35_0 l h := rfl
noncomputable def ct17t3 : Ct := tab [(36, edC body36)]
theorem ct17t3_ok : CtOk Try.prog ct17t3 := tab_cons ok36 <| tab_nil
theorem ct17t3_36 (l : List AV) (h : List ABlk) : ct17t3 36 l h = edC body36 l h := rfl
noncomputable def ct17t4 : Ct := tab [(37, pureC body37_0)]
theorem ct17t4_ok : CtOk Try.prog ct17t4 := tab_cons ok37_0 <| tab_nil
theorem ct17t4_37 (l : List AV) (h : List ABlk) : ct17t4 37 l h = pureC body37_0 l h := rfl
noncomputable def ct17t5 : Ct := tab [(40, insN 52 13)]
theorem ct17t5_ok : CtOk Try.prog ct17t5 := tab_cons ok40 <| tab_nil
theorem ct17t5_40 (l : List AV) (h : List ABlk) : ct17t5 40 l h = insN 52 13 l h := rfl
noncomputable def ct17t6 : Ct := tab [(41, pureC body41_0)]
theorem ct17t6_ok : CtOk Try.prog ct17t6 := tab_cons ok41_0 <| tab_nil
theorem ct17t6_41 (l : List AV) (h : List ABlk) : ct17t6 41 l h = pureC body41_0 l h := rfl
noncomputable def ct17t7 : Ct := tab [(44, edC body44_0)]
theorem ct17t7_ok : CtOk Try.prog ct17t7 := tab_cons ok44_0 <| tab_nil
theorem ct17t7_44 (l : List AV) (h : List ABlk) : ct17t7 44 l h = edC body44_0 l h := rfl
noncomputable def F17 (p0 : TCandidates) (p1 : A6u8) (p2 : TBeacon) (p3 : Int) (p4 : Int) (p5 : Int) : Option (TCandidates × Int) :=
  (F19 p0).bind fun r1 => bif (!bEq r1 0) then (some ((TCandidates.mk []), r1)) else (need (bif (!(bEq (andI .u8 p1.x0 1) 1)) then ((F34 (TCandidate.mk (A6u8.mk p1.x0 p1.x1 p1.x2 p1.x3 p1.x4 p1.x5) p3 p4 0 p5 1 (ByteArray.mk #[]) false)).isSome) else true) <| bif ((bEq (andI .u8 p1.x0 1) 1) || (!(gt (F34 (TCandidate.mk (A6u8.mk p1.x0 p1.x1 p1.x2 p1.x3 p1.x4 p1.x5) p3 p4 0 p5 1 (ByteArray.mk #[]) false))))) then (some ((TCandidates.mk []), 2)) else ((F35_0 (TCandidate.mk (A6u8.mk p1.x0 p1.x1 p1.x2 p1.x3 p1.x4 p1.x5) p3 p4 0 p5 1 (ByteArray.mk #[]) false) p2).bind fun r6 => bif (!r6.1) then (some ((TCandidates.mk []), 12)) else ((F36 p0.List).bind fun r9 => (F37_0 (r9.length : Nat) r9 p1).bind fun r11 => need (bif (bLt r11 (r9.length : Nat)) then inb r11 r9.length else true) <| bif ((bLt r11 (r9.length : Nat)) && (bEq (((gd r9 r11.toNat).Addr).x0) p1.x0 && (bEq (((gd r9 r11.toNat).Addr).x1) p1.x1 && (bEq (((gd r9 r11.toNat).Addr).x2) p1.x2 && (bEq (((gd r9 r11.toNat).Addr).x3) p1.x3 && (bEq (((gd r9 r11.toNat).Addr).x4) p1.x4 && (bEq (((gd r9 r11.toNat).Addr).x5) p1.x5))))))) then (need (inb r11 r9.length) <| some ((TCandidates.mk (r9.set r11.toNat r6.2)), 0)) else (need (insb r11 r9.length) <| (some [r6.2]).bind fun w17 => (some (insL r9 r11 [r6.2])).bind fun w19 => bif (bLt 64 (w19.length : Nat)) then ((F41_0 w19).bind fun r22 => (F44_0 w19 r22.Addr.x0 r22.Addr.x1 r22.Addr.x2 r22.Addr.x3 r22.Addr.x4 r22.Addr.x5).bind fun r24 => some ((TCandidates.mk r24), 0)) else (some ((TCandidates.mk w19), 0))))))
noncomputable def body17 : List AV -> List ABlk -> ED
  | [v0, v1, v2, v3, v4, v5], h => .ed [] (aK 1 k_TCandidates (roD (deadL h []) v0) /\ roDOb (deadL h []) v0 /\ aK 6 k_A6u8 (roD (deadL h []) v1) /\ roDOb (deadL h []) v1 /\ aK 4 k_TBeacon (roD (deadL h []) v2) /\ roDOb (deadL h []) v2 /\ iK .i64 (roD (deadL h []) v3) /\ roDOb (deadL h []) v3 /\ iK .i64 (roD (deadL h []) v4) /\ roDOb (deadL h []) v4 /\ iK .i64 (roD (deadL h []) v5) /\ roDOb (deadL h []) v5 /\ (F17 (g_TCandidates (aL (roD (deadL h []) v0))) (g_A6u8 (aL (roD (deadL h []) v1))) (g_TBeacon (aL (roD (deadL h []) v2))) (iA (roD (deadL h []) v3)) (iA (roD (deadL h []) v4)) (iA (roD (deadL h []) v5))).isSome = true) (.tup [.agg [.sl 0 13 0 ((((gt (F17 (g_TCandidates (aL (roD (deadL h []) v0))) (g_A6u8 (aL (roD (deadL h []) v1))) (g_TBeacon (aL (roD (deadL h []) v2))) (iA (roD (deadL h []) v3)) (iA (roD (deadL h []) v4)) (iA (roD (deadL h []) v5)))).1).List).length) false], .int .i64 ((gt (F17 (g_TCandidates (aL (roD (deadL h []) v0))) (g_A6u8 (aL (roD (deadL h []) v1))) (g_TBeacon (aL (roD (deadL h []) v2))) (iA (roD (deadL h []) v3)) (iA (roD (deadL h []) v4)) (iA (roD (deadL h []) v5)))).2)]) [.row 52 13 ((((gt (F17 (g_TCandidates (aL (roD (deadL h []) v0))) (g_A6u8 (aL (roD (deadL h []) v1))) (g_TBeacon (aL (roD (deadL h []) v2))) (iA (roD (deadL h []) v3)) (iA (roD (deadL h []) v4)) (iA (roD (deadL h []) v5)))).1).List).length) (enR c_TCandidate (((gt (F17 (g_TCandidates (aL (roD (deadL h []) v0))) (g_A6u8 (aL (roD (deadL h []) v1))) (g_TBeacon (aL (roD (deadL h []) v2))) (iA (roD (deadL h []) v3)) (iA (roD (deadL h []) v4)) (iA (roD (deadL h []) v5)))).1).List))]
  | _, _ => .fail
set_option maxHeartbeats 4000000 in
set_option maxRecDepth 20000 in
theorem ok17 : FnOk Try.prog 17 (edC body17) := by
  refine edit_fnV body17 (rs := [.cell 12 41, .tmp 13]) Try.func17 (by kernel_rfl) rfl rfl ?_
  intro l h bs ob q0 g0 hb hob
  unfold body17 at hb
  split at hb
  · rename_i v0 v1 v2 v3 v4 v5
    injection hb with q1 q2 q3 q4; subst q1 q2 q3 q4
    obtain ⟨hk0_0, hk0_1, hk1_0, hk1_1, hk2_0, hk2_1, hk3_0, hk3_1, hk4_0, hk4_1, hk5_0, hk5_1, hob⟩ := hob
    obtain ⟨r, H⟩ := Option.isSome_iff_exists.1 hob
    rw [H, gt_some]
    have hw0 := wA_TCandidates hk0_0
    obtain ⟨p0, hp_p0⟩ : ∃ p0, p0 = g_TCandidates (aL (roD (deadL h []) v0)) := ⟨_, rfl⟩
    rw [← hp_p0] at H hw0
    have hw1 := wA_A6u8 hk1_0
    obtain ⟨p1, hp_p1⟩ : ∃ p1, p1 = g_A6u8 (aL (roD (deadL h []) v1)) := ⟨_, rfl⟩
    rw [← hp_p1] at H hw1
    have hw2 := wA_TBeacon hk2_0
    obtain ⟨p2, hp_p2⟩ : ∃ p2, p2 = g_TBeacon (aL (roD (deadL h []) v2)) := ⟨_, rfl⟩
    rw [← hp_p2] at H hw2
    have hw3 := iK_wk hk3_0
    obtain ⟨p3, hp_p3⟩ : ∃ p3, p3 = iA (roD (deadL h []) v3) := ⟨_, rfl⟩
    rw [← hp_p3] at H hw3
    have hw4 := iK_wk hk4_0
    obtain ⟨p4, hp_p4⟩ : ∃ p4, p4 = iA (roD (deadL h []) v4) := ⟨_, rfl⟩
    rw [← hp_p4] at H hw4
    have hw5 := iK_wk hk5_0
    obtain ⟨p5, hp_p5⟩ : ∃ p5, p5 = iA (roD (deadL h []) v5) := ⟨_, rfl⟩
    rw [← hp_p5] at H hw5
    refine ⟨[.agg [.ro 13 p0.List.length false (enR c_TCandidate p0.List)], .agg [.int .u8 p1.x0, .int .u8 p1.x1, .int .u8 p1.x2, .int .u8 p1.x3, .int .u8 p1.x4, .int .u8 p1.x5], .agg [.int .u64 p2.Time, .int .u16 p2.Interval, .int .u16 p2.Caps, .ro 4 p2.Elems.length false (enR c_TElement p2.Elems)], .int .i64 p3, .int .i64 p4, .int .i64 p5], [], rfl, ⟨(EW_view hk0_1 hw0), ⟨(EW_view hk1_1 hw1), ⟨(EW_view hk2_1 hw2), ⟨(EW_view hk3_1 hw3), ⟨(EW_view hk4_1 hw4), ⟨(EW_view hk5_1 hw5), trivial⟩⟩⟩⟩⟩⟩, trivial, trivial, ⟨(nfB_en nr_TCandidate), trivial⟩, ⟨noroB_en, trivial⟩, (by first | (simp only [noro, noroL, and_self]; done) | (simp only [noro, noroL]; and_intros <;> first | trivial | exact noro_bif (by simp only [noro]) (by simp only [noro]) | (simp only [noro, noroL, and_self]))), ?_⟩
    rw [Try.ntmps17]
    simp only [List.length_cons, List.length_nil, Nat.reduceAdd, Nat.reduceSub, List.replicate_succ, List.replicate_zero, List.cons_append, List.nil_append]
    unfold F17 at H
    try dsimp only at H
    refine sq ctNo_ok ?_
    simp only [go_sem, Nat.reduceLeDiff, Nat.reduceLT, Nat.reduceAdd, Nat.reduceMul, Nat.reduceSub, Nat.reduceEqDiff, Nat.reduceBEq, Int.reduceToNat, reduceCtorEq]
    refine seqM ?_
    refine seqM ?_
    obtain ⟨r1, e2, H⟩ := bsi H
    refine rg ct17t0_ok ?_
    simp only [go_sem, Nat.reduceLeDiff, Nat.reduceLT, Nat.reduceAdd, Nat.reduceMul, Nat.reduceSub, Nat.reduceEqDiff, Nat.reduceBEq, Int.reduceToNat, reduceCtorEq, ct17t0_19, body19, e2]
    repeat ((with_reducible refine And.intro ?_ ?_); focus exact an0)
    refine sq ctNo_ok ?_
    simp only [go_sem, Nat.reduceLeDiff, Nat.reduceLT, Nat.reduceAdd, Nat.reduceMul, Nat.reduceSub, Nat.reduceEqDiff, Nat.reduceBEq, Int.reduceToNat, reduceCtorEq]
    refine condM rfl trivial (fun hc => ?_) (fun hc => ?_)
    · have hk3 : (bEq r1 0) = false := by simpa using hc
      replace H := cond_t hc H
      refine sq ctNo_ok ?_
      simp only [go_sem, Nat.reduceLeDiff, Nat.reduceLT, Nat.reduceAdd, Nat.reduceMul, Nat.reduceSub, Nat.reduceEqDiff, Nat.reduceBEq, Int.reduceToNat, reduceCtorEq]
      repeat ((with_reducible refine And.intro ?_ ?_); focus exact an3)
      refine rg ctNo_ok ?_
      simp only [go_sem, Nat.reduceLeDiff, Nat.reduceLT, Nat.reduceAdd, Nat.reduceMul, Nat.reduceSub, Nat.reduceEqDiff, Nat.reduceBEq, Int.reduceToNat, reduceCtorEq]
      obtain rfl := Option.some.inj H
      refine RetE_mk [] [none] ?_ ?_ ?_ ?_ (by rfl) (by rfl)
      · simp only [go_sem, Nat.reduceEqDiff, Nat.reduceBEq, Nat.reduceAdd]
        try exact at0
      · simp only [go_sem, Nat.reduceEqDiff, Nat.reduceBEq, Nat.reduceAdd]
        try exact at0
      · simp only [go_sem, Nat.reduceEqDiff, Nat.reduceBEq, Nat.reduceAdd]
        exact Cv_tup (CvL_cons (by first | (simp [Cv, CvL, getM, gt_some]; done) | (simp [Cv, CvL, getM, gt_some]; omega)) (CvL_cons (by simp [Cv, CvL, getM, gt_some]) CvL_nil))
      · simp only [go_sem, Nat.reduceEqDiff, Nat.reduceBEq, Nat.reduceAdd, CvH, gt_some, Option.isSome_some, Option.isSome_none]
        exact CvB_none
    have hk3 : (bEq r1 0) = true := by simpa using hc
    replace H := cond_f hc H
    refine rg ctNo_ok ?_
    simp only [go_sem, Nat.reduceLeDiff, Nat.reduceLT, Nat.reduceAdd, Nat.reduceMul, Nat.reduceSub, Nat.reduceEqDiff, Nat.reduceBEq, Int.reduceToNat, reduceCtorEq]
    refine sq ctNo_ok ?_
    simp only [go_sem, Nat.reduceLeDiff, Nat.reduceLT, Nat.reduceAdd, Nat.reduceMul, Nat.reduceSub, Nat.reduceEqDiff, Nat.reduceBEq, Int.reduceToNat, reduceCtorEq]
    repeat ((with_reducible refine And.intro ?_ ?_); focus exact an3)
    refine seqM ?_
    refine seqM ?_
    obtain ⟨f4, H⟩ := need_some.1 H
    replace f4 := g_iff.1 f4
    refine rg ct17t1_ok ?_
    simp only [go_sem, Nat.reduceLeDiff, Nat.reduceLT, Nat.reduceAdd, Nat.reduceMul, Nat.reduceSub, Nat.reduceEqDiff, Nat.reduceBEq, Int.reduceToNat, reduceCtorEq, ct17t1_34, body34]
    repeat ((with_reducible refine And.intro ?_ ?_); focus (first | (with_reducible trivial) | omega | exact f4 | (intro g; have q := f4 (by first | exact g | (rw [g]; rfl) | simpa using g); first | exact q | exact ⟨q.1, q.2.1⟩ | exact q.2.2 | omega | exact ⟨g, q⟩ | exact ⟨trivial, q⟩ | exact ⟨g, q.1, q.2.1⟩ | exact ⟨g, q.2.2⟩) | (intro g; (try have q0 := f4 (by first | exact g | (rw [g]; rfl) | simpa using g)); and_intros <;> first | (with_reducible trivial) | assumption | exact nfc | (intro g2; rw [g, g2]; rfl) | (intro g2; assumption) | (simp only [g, Bool.true_and, Bool.and_true, Bool.not_false, Bool.not_true]; assumption) | grind) | (and_intros <;> first | (with_reducible trivial) | omega | assumption | exact nfc | first | exact rfl | exact trivial | exact fitI | exact .inr rfl | exact .inl rfl | exact fun x hx => absurd hx (by omega)) | grind))
    refine condM rfl trivial (fun hc => ?_) (fun hc => ?_)
    · have hk5 : ((bEq (andI .u8 p1.x0 1) 1) || (!(gt (F34 (TCandidate.mk (A6u8.mk p1.x0 p1.x1 p1.x2 p1.x3 p1.x4 p1.x5) p3 p4 0 p5 1 (ByteArray.mk #[]) false))))) = true := by simpa using hc
      replace H := cond_t hc H
      refine sq ctNo_ok ?_
      simp only [go_sem, Nat.reduceLeDiff, Nat.reduceLT, Nat.reduceAdd, Nat.reduceMul, Nat.reduceSub, Nat.reduceEqDiff, Nat.reduceBEq, Int.reduceToNat, reduceCtorEq]
      repeat ((with_reducible refine And.intro ?_ ?_); focus exact an3)
      refine rg ctNo_ok ?_
      simp only [go_sem, Nat.reduceLeDiff, Nat.reduceLT, Nat.reduceAdd, Nat.reduceMul, Nat.reduceSub, Nat.reduceEqDiff, Nat.reduceBEq, Int.reduceToNat, reduceCtorEq]
      obtain rfl := Option.some.inj H
      refine RetE_mk [] [none] ?_ ?_ ?_ ?_ (by rfl) (by rfl)
      · simp only [go_sem, Nat.reduceEqDiff, Nat.reduceBEq, Nat.reduceAdd]
        try exact at0
      · simp only [go_sem, Nat.reduceEqDiff, Nat.reduceBEq, Nat.reduceAdd]
        try exact at0
      · simp only [go_sem, Nat.reduceEqDiff, Nat.reduceBEq, Nat.reduceAdd]
        exact Cv_tup (CvL_cons (by first | (simp [Cv, CvL, getM, gt_some]; done) | (simp [Cv, CvL, getM, gt_some]; omega)) (CvL_cons (by simp [Cv, CvL, getM, gt_some]) CvL_nil))
      · simp only [go_sem, Nat.reduceEqDiff, Nat.reduceBEq, Nat.reduceAdd, CvH, gt_some, Option.isSome_some, Option.isSome_none]
        exact CvB_none
    have hk5 : ((bEq (andI .u8 p1.x0 1) 1) || (!(gt (F34 (TCandidate.mk (A6u8.mk p1.x0 p1.x1 p1.x2 p1.x3 p1.x4 p1.x5) p3 p4 0 p5 1 (ByteArray.mk #[]) false))))) = false := by simpa using hc
    replace H := cond_f hc H
    refine rg ctNo_ok ?_
    simp only [go_sem, Nat.reduceLeDiff, Nat.reduceLT, Nat.reduceAdd, Nat.reduceMul, Nat.reduceSub, Nat.reduceEqDiff, Nat.reduceBEq, Int.reduceToNat, reduceCtorEq]
    refine seqM ?_
    refine seqM ?_
    obtain ⟨r6, e7, H⟩ := bsi H
    refine rg ct17t2_ok ?_
    simp only [go_sem, Nat.reduceLeDiff, Nat.reduceLT, Nat.reduceAdd, Nat.reduceMul, Nat.reduceSub, Nat.reduceEqDiff, Nat.reduceBEq, Int.reduceToNat, reduceCtorEq, ct17t2_35, body35_0, e7]
    repeat ((with_reducible refine And.intro ?_ ?_); focus exact an0)
    refine condM rfl trivial (fun hc => ?_) (fun hc => ?_)
    · have hk8 : (r6.1) = false := by simpa using hc
      replace H := cond_t hc H
      refine sq ctNo_ok ?_
      simp only [go_sem, Nat.reduceLeDiff, Nat.reduceLT, Nat.reduceAdd, Nat.reduceMul, Nat.reduceSub, Nat.reduceEqDiff, Nat.reduceBEq, Int.reduceToNat, reduceCtorEq]
      repeat ((with_reducible refine And.intro ?_ ?_); focus exact an3)
      refine rg ctNo_ok ?_
      simp only [go_sem, Nat.reduceLeDiff, Nat.reduceLT, Nat.reduceAdd, Nat.reduceMul, Nat.reduceSub, Nat.reduceEqDiff, Nat.reduceBEq, Int.reduceToNat, reduceCtorEq]
      obtain rfl := Option.some.inj H
      refine RetE_mk [] [none] ?_ ?_ ?_ ?_ (by rfl) (by rfl)
      · simp only [go_sem, Nat.reduceEqDiff, Nat.reduceBEq, Nat.reduceAdd]
        try exact at0
      · simp only [go_sem, Nat.reduceEqDiff, Nat.reduceBEq, Nat.reduceAdd]
        try exact at0
      · simp only [go_sem, Nat.reduceEqDiff, Nat.reduceBEq, Nat.reduceAdd]
        exact Cv_tup (CvL_cons (by first | (simp [Cv, CvL, getM, gt_some]; done) | (simp [Cv, CvL, getM, gt_some]; omega)) (CvL_cons (by simp [Cv, CvL, getM, gt_some]) CvL_nil))
      · simp only [go_sem, Nat.reduceEqDiff, Nat.reduceBEq, Nat.reduceAdd, CvH, gt_some, Option.isSome_some, Option.isSome_none]
        exact CvB_none
    have hk8 : (r6.1) = true := by simpa using hc
    replace H := cond_f hc H
    refine rg ctNo_ok ?_
    simp only [go_sem, Nat.reduceLeDiff, Nat.reduceLT, Nat.reduceAdd, Nat.reduceMul, Nat.reduceSub, Nat.reduceEqDiff, Nat.reduceBEq, Int.reduceToNat, reduceCtorEq]
    refine seqM ?_
    obtain ⟨r9, e10, H⟩ := bsi H
    refine rg ct17t3_ok ?_
    simp only [go_sem, Nat.reduceLeDiff, Nat.reduceLT, Nat.reduceAdd, Nat.reduceMul, Nat.reduceSub, Nat.reduceEqDiff, Nat.reduceBEq, Int.reduceToNat, reduceCtorEq, ct17t3_36, body36, e10]
    repeat ((with_reducible refine And.intro ?_ ?_); focus exact an0)
    refine seqM ?_
    obtain ⟨r11, e12, H⟩ := bsi H
    refine rg ct17t4_ok ?_
    simp only [go_sem, Nat.reduceLeDiff, Nat.reduceLT, Nat.reduceAdd, Nat.reduceMul, Nat.reduceSub, Nat.reduceEqDiff, Nat.reduceBEq, Int.reduceToNat, reduceCtorEq, ct17t4_37, body37_0, e12]
    repeat ((with_reducible refine And.intro ?_ ?_); focus exact an0)
    refine seqM ?_
    refine seqM ?_
    obtain ⟨f13, H⟩ := need_some.1 H
    replace f13 := g_iff.1 f13
    replace f13 := fun g => inb_iff.1 (f13 g)
    refine draw_quiet shT_ok ctNo_ok (by kernel_rfl) (by kernel_rfl) ?_
    simp only [go_sem, Nat.reduceLeDiff, Nat.reduceLT, Nat.reduceAdd, Nat.reduceMul, Nat.reduceSub, Nat.reduceEqDiff, Nat.reduceBEq, Int.reduceToNat, reduceCtorEq]
    repeat ((with_reducible refine And.intro ?_ ?_); focus (first | (with_reducible trivial) | omega | exact f13 | (intro g; have q := f13 (by first | exact g | (rw [g]; rfl) | simpa using g); first | exact q | exact ⟨q.1, q.2.1⟩ | exact q.2.2 | omega | exact ⟨g, q⟩ | exact ⟨trivial, q⟩ | exact ⟨g, q.1, q.2.1⟩ | exact ⟨g, q.2.2⟩) | (intro g; (try have q0 := f13 (by first | exact g | (rw [g]; rfl) | simpa using g)); and_intros <;> first | (with_reducible trivial) | assumption | exact nfc | (intro g2; rw [g, g2]; rfl) | (intro g2; assumption) | (simp only [g, Bool.true_and, Bool.and_true, Bool.not_false, Bool.not_true]; assumption) | grind) | (and_intros <;> first | (with_reducible trivial) | omega | assumption | exact nfc | first | exact rfl | exact trivial | exact fitI | exact .inr rfl | exact .inl rfl | exact fun x hx => absurd hx (by omega)) | grind))
    refine condM rfl trivial (fun hc => ?_) (fun hc => ?_)
    · have hk14 : ((bLt r11 (r9.length : Nat)) && (bEq (((gd r9 r11.toNat).Addr).x0) p1.x0 && (bEq (((gd r9 r11.toNat).Addr).x1) p1.x1 && (bEq (((gd r9 r11.toNat).Addr).x2) p1.x2 && (bEq (((gd r9 r11.toNat).Addr).x3) p1.x3 && (bEq (((gd r9 r11.toNat).Addr).x4) p1.x4 && (bEq (((gd r9 r11.toNat).Addr).x5) p1.x5))))))) = true := by first | simpa using hc | simpa only [Bool.not_eq_true', Bool.not_eq_false'] using hc
      replace H := cond_t hc H
      refine seqM ?_
      obtain ⟨f15, H⟩ := need_some.1 H
      replace f15 := inb_iff.1 f15
      refine rg ctNo_ok ?_
      simp only [go_sem, Nat.reduceLeDiff, Nat.reduceLT, Nat.reduceAdd, Nat.reduceMul, Nat.reduceSub, Nat.reduceEqDiff, Nat.reduceBEq, Int.reduceToNat, reduceCtorEq, f15]
      repeat ((with_reducible refine And.intro ?_ ?_); focus exact an3)
      refine sq ctNo_ok ?_
      simp only [go_sem, Nat.reduceLeDiff, Nat.reduceLT, Nat.reduceAdd, Nat.reduceMul, Nat.reduceSub, Nat.reduceEqDiff, Nat.reduceBEq, Int.reduceToNat, reduceCtorEq]
      repeat ((with_reducible refine And.intro ?_ ?_); focus exact an3)
      refine rg ctNo_ok ?_
      simp only [go_sem, Nat.reduceLeDiff, Nat.reduceLT, Nat.reduceAdd, Nat.reduceMul, Nat.reduceSub, Nat.reduceEqDiff, Nat.reduceBEq, Int.reduceToNat, reduceCtorEq]
      obtain rfl := Option.some.inj H
      refine RetE_mk [] [some 5] ?_ ?_ ?_ ?_ (by rfl) (by rfl)
      · simp only [go_sem, Nat.reduceEqDiff, Nat.reduceBEq, Nat.reduceAdd]
        try exact at0
      · simp only [go_sem, Nat.reduceEqDiff, Nat.reduceBEq, Nat.reduceAdd]
        try exact at0
      · simp only [go_sem, Nat.reduceEqDiff, Nat.reduceBEq, Nat.reduceAdd]
        exact Cv_tup (CvL_cons (by first | (simp [Cv, CvL, getM, gt_some]; done) | (simp [Cv, CvL, getM, gt_some]; omega)) (CvL_cons (by simp [Cv, CvL, getM, gt_some]) CvL_nil))
      · simp only [go_sem, Nat.reduceEqDiff, Nat.reduceBEq, Nat.reduceAdd, CvH, gt_some, Option.isSome_some, Option.isSome_none]
        exact CvB_row nr_TCandidate cl (upc_row (f := c_TCandidate) r9 r11.toNat 0 r6.2 (fun _ _ _ _ => rfl) (fun y hy => match y, hy with | 0, _ => rfl | 1, _ => rfl | 2, _ => rfl | 3, _ => rfl | 4, _ => rfl | 5, _ => rfl | 6, _ => rfl | 7, _ => rfl | 8, _ => rfl | 9, _ => rfl | 10, _ => rfl | 11, _ => rfl | 12, _ => rfl | (y+13), h => absurd h nlt))
    have hk14 : ((bLt r11 (r9.length : Nat)) && (bEq (((gd r9 r11.toNat).Addr).x0) p1.x0 && (bEq (((gd r9 r11.toNat).Addr).x1) p1.x1 && (bEq (((gd r9 r11.toNat).Addr).x2) p1.x2 && (bEq (((gd r9 r11.toNat).Addr).x3) p1.x3 && (bEq (((gd r9 r11.toNat).Addr).x4) p1.x4 && (bEq (((gd r9 r11.toNat).Addr).x5) p1.x5))))))) = false := by first | simpa using hc | simpa only [Bool.not_eq_true', Bool.not_eq_false'] using hc
    replace H := cond_f hc H
    refine rg ctNo_ok ?_
    simp only [go_sem, Nat.reduceLeDiff, Nat.reduceLT, Nat.reduceAdd, Nat.reduceMul, Nat.reduceSub, Nat.reduceEqDiff, Nat.reduceBEq, Int.reduceToNat, reduceCtorEq]
    refine seqM ?_
    obtain ⟨f16, H⟩ := need_some.1 H
    replace f16 := insb_iff.1 f16
    refine rg ct17t5_ok ?_
    simp only [go_sem, Nat.reduceLeDiff, Nat.reduceLT, Nat.reduceAdd, Nat.reduceMul, Nat.reduceSub, Nat.reduceEqDiff, Nat.reduceBEq, Int.reduceToNat, reduceCtorEq, ct17t5_40, insN, f16]
    repeat ((with_reducible refine And.intro ?_ ?_); focus exact an2)
    refine seqM ?_
    refine seqM ?_
    obtain ⟨w17, hw18, H⟩ := bsi H
    replace hw18 := Option.some.inj hw18
    have lhw18 : w17.length = 1 := by rw [← hw18]; exact cl
    obtain ⟨w19, hw20, H⟩ := bsi H
    replace hw20 := Option.some.inj hw20
    have lhw20 : w19.length = r9.length + 1 := by rw [← hw20]; exact (ins_len f16 cl)
    refine subF_mean (t2 := (tp 12 (.ptr 3 0 0 0 :: .top :: .top :: .top :: .ptr 6 0 0 0 :: tp 68 []))) (h2 := [.lit 41 [.ro 13 p0.List.length false (enR c_TCandidate p0.List)], .lit 43 [.int .u8 p1.x0, .int .u8 p1.x1, .int .u8 p1.x2, .int .u8 p1.x3, .int .u8 p1.x4, .int .u8 p1.x5], .lit 47 [.int .u64 p2.Time, .int .u16 p2.Interval, .int .u16 p2.Caps, .ro 4 p2.Elems.length false (enR c_TElement p2.Elems)], .lit 41 [.ro 0 0 true (fun _ _ => .top)], .lit 52 [.int .u8 r6.2.Addr.x0, .int .u8 r6.2.Addr.x1, .int .u8 r6.2.Addr.x2, .int .u8 r6.2.Addr.x3, .int .u8 r6.2.Addr.x4, .int .u8 r6.2.Addr.x5, .int .i64 r6.2.Channel, .int .i64 r6.2.Level, .int .i64 r6.2.Load, .int .i64 r6.2.Heard, .int .i64 r6.2.Interval, .str r6.2.Name, .bool r6.2.Secure], .dead, .lit 39 [.sl 8 13 0 w19.length false], .row 52 13 w17.length (enR c_TCandidate w17), .row 52 13 w19.length (enR c_TCandidate w19)]) ?_ ?_
    · refine SubF_of ⟨[some 0, some 1, some 2, some 3, some 4, some 5, some 6, some 7, some 8], ?_, ?_, by rfl, by rfl⟩
      · simp [CvL, Cv, getM, tp, tp, tpg, t8, lhw18, lhw20]
      · exact ⟨(by simp [CvB, CvL, Cv, blkAt, geth, getM, lhw18, lhw20]), (by simp [CvB, CvL, Cv, blkAt, geth, getM, lhw18, lhw20]), (by simp [CvB, CvL, Cv, blkAt, geth, getM, lhw18, lhw20]), (by simp [CvB, CvL, Cv, blkAt, geth, getM, lhw18, lhw20]), (by simp [CvB, CvL, Cv, blkAt, geth, getM, lhw18, lhw20]), CvB_dead, (by simp [CvB, CvL, Cv, blkAt, geth, getM, lhw18, lhw20]), CvB_row nr_TCandidate lhw18 (hw18 ▸ (lit_row (f := c_TCandidate) [r6.2] (fun _ _ => rfl) rfl)), CvB_row nr_TCandidate lhw20 (hw20 ▸ (ins_row f16 cl (fun _ _ _ _ => rfl) (lit_row (f := c_TCandidate) [r6.2] (fun _ _ => rfl) rfl))), trivial⟩
    simp only [tp]
    refine rg ctNo_ok ?_
    simp only [go_sem, Nat.reduceLeDiff, Nat.reduceLT, Nat.reduceAdd, Nat.reduceMul, Nat.reduceSub, Nat.reduceEqDiff, Nat.reduceBEq, Int.reduceToNat, reduceCtorEq]
    repeat ((with_reducible refine And.intro ?_ ?_); focus exact an0)
    refine condM' rfl trivial (fun hc => ?_) (fun hc => ?_)
    · have hk21 : (bLt 64 (w19.length : Nat)) = false := by simpa using hc
      replace H := cond_f hc H
      refine rg ctNo_ok ?_
      simp only [go_sem, Nat.reduceLeDiff, Nat.reduceLT, Nat.reduceAdd, Nat.reduceMul, Nat.reduceSub, Nat.reduceEqDiff, Nat.reduceBEq, Int.reduceToNat, reduceCtorEq]
      refine sq ctNo_ok ?_
      simp only [go_sem, Nat.reduceLeDiff, Nat.reduceLT, Nat.reduceAdd, Nat.reduceMul, Nat.reduceSub, Nat.reduceEqDiff, Nat.reduceBEq, Int.reduceToNat, reduceCtorEq]
      repeat ((with_reducible refine And.intro ?_ ?_); focus exact an3)
      refine rg ctNo_ok ?_
      simp only [go_sem, Nat.reduceLeDiff, Nat.reduceLT, Nat.reduceAdd, Nat.reduceMul, Nat.reduceSub, Nat.reduceEqDiff, Nat.reduceBEq, Int.reduceToNat, reduceCtorEq]
      obtain rfl := Option.some.inj H
      refine RetE_mk [] [some 8] ?_ ?_ ?_ ?_ (by rfl) (by rfl)
      · simp only [go_sem, Nat.reduceEqDiff, Nat.reduceBEq, Nat.reduceAdd]
        try exact at0
      · simp only [go_sem, Nat.reduceEqDiff, Nat.reduceBEq, Nat.reduceAdd]
        try exact at0
      · simp only [go_sem, Nat.reduceEqDiff, Nat.reduceBEq, Nat.reduceAdd]
        exact Cv_tup (CvL_cons (by first | (simp [Cv, CvL, getM, gt_some]; done) | (simp [Cv, CvL, getM, gt_some]; omega)) (CvL_cons (by simp [Cv, CvL, getM, gt_some]) CvL_nil))
      · simp only [go_sem, Nat.reduceEqDiff, Nat.reduceBEq, Nat.reduceAdd, CvH, gt_some, Option.isSome_some, Option.isSome_none]
        exact CvB_row nr_TCandidate cl (fun _ _ _ _ => rfl)
    have hk21 : (bLt 64 (w19.length : Nat)) = true := by simpa using hc
    replace H := cond_t hc H
    refine seqM ?_
    obtain ⟨r22, e23, H⟩ := bsi H
    refine rg ct17t6_ok ?_
    simp only [go_sem, Nat.reduceLeDiff, Nat.reduceLT, Nat.reduceAdd, Nat.reduceMul, Nat.reduceSub, Nat.reduceEqDiff, Nat.reduceBEq, Int.reduceToNat, reduceCtorEq, ct17t6_41, body41_0, e23]
    repeat ((with_reducible refine And.intro ?_ ?_); focus exact an0)
    obtain ⟨r24, e25, H⟩ := bsi H
    refine rg ct17t7_ok ?_
    simp only [go_sem, Nat.reduceLeDiff, Nat.reduceLT, Nat.reduceAdd, Nat.reduceMul, Nat.reduceSub, Nat.reduceEqDiff, Nat.reduceBEq, Int.reduceToNat, reduceCtorEq, ct17t7_44, body44_0, e25]
    repeat ((with_reducible refine And.intro ?_ ?_); focus exact an0)
    refine sq ctNo_ok ?_
    simp only [go_sem, Nat.reduceLeDiff, Nat.reduceLT, Nat.reduceAdd, Nat.reduceMul, Nat.reduceSub, Nat.reduceEqDiff, Nat.reduceBEq, Int.reduceToNat, reduceCtorEq]
    repeat ((with_reducible refine And.intro ?_ ?_); focus exact an3)
    refine rg ctNo_ok ?_
    simp only [go_sem, Nat.reduceLeDiff, Nat.reduceLT, Nat.reduceAdd, Nat.reduceMul, Nat.reduceSub, Nat.reduceEqDiff, Nat.reduceBEq, Int.reduceToNat, reduceCtorEq]
    obtain rfl := Option.some.inj H
    refine RetE_mk [] [some 10] ?_ ?_ ?_ ?_ (by rfl) (by rfl)
    · simp only [go_sem, Nat.reduceEqDiff, Nat.reduceBEq, Nat.reduceAdd]
      try exact at0
    · simp only [go_sem, Nat.reduceEqDiff, Nat.reduceBEq, Nat.reduceAdd]
      try exact at0
    · simp only [go_sem, Nat.reduceEqDiff, Nat.reduceBEq, Nat.reduceAdd]
      exact Cv_tup (CvL_cons (by first | (simp [Cv, CvL, getM, gt_some]; done) | (simp [Cv, CvL, getM, gt_some]; omega)) (CvL_cons (by simp [Cv, CvL, getM, gt_some]) CvL_nil))
    · simp only [go_sem, Nat.reduceEqDiff, Nat.reduceBEq, Nat.reduceAdd, CvH, gt_some, Option.isSome_some, Option.isSome_none]
      exact CvB_row nr_TCandidate cl (fun _ _ _ _ => rfl)
  · cases hb
end Go.Proofs.Ytpnhehcncljhpaa
