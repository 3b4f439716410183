/-
  What AddressSets reaches.
-/
import Derived.Test.YtohkhcljklndpaaB
namespace Go.Proofs.Ytohkhcljklndpaa
open Go.Am
set_option linter.unusedVariables false
set_option linter.unusedSimpArgs false
attribute [local go_sem] w_skip w_label w_goto w_scope k_goto b_goto l_goto s_normal s_exit s_ret s_goto w_region w_draw w_seq w_cond w_block w_exit w_ret w_loop k_normal k_exit k_ret b_normal b_exit b_ret l_normal l_exit l_ret m_normal m_exit m_ret m_goto kL_normal kL_exit kL_ret kS_normal kS_exit kS_ret kS_goto r_normal r_ret o_nil o_cons q_nil q_cons nxt gval gvd gvl gvw dstOf evO ogOp ogC og ogL ogP ogO rho rhoO strip optOk getL setL setT absC absV absL pO hO evLoad ldB geth seth evStore stRes stB evBox evAlloc evFieldAddr evField evIndexAddr evBin2 binI binB binNR binU nilR_isEmpty nilR_t nilR_0 nilR_s evInt evStr evUn evConv cvO evPick mrg evExtract evNil evCall mapR evBuiltin evLen2 vcells vcOk atom tabF cnd retK resFin resL resA resC resCons evBuild evBuildP placeS placeA fillA fillOk putL getP nxtQ pureC_eq pureR genC_eq genR roV roL roOb roObL roW roWL roWOb roWObL nref nrefL binA binN eqSh eqRes evIndex evIndex2 evIndexS evSlice evSlice2 evSliceS evBound evConv2 cvS evAppend appRes srcOf evMake evBuildSlice repL evFn evMin evMax freshC freshR sub_enR0 evClear evClearR evCopy evCopyR lenS cutS Bool.or_false Bool.false_or Bool.or_true Bool.true_or Bool.and_false Bool.false_and Option.map_some Option.map_none Option.getD_some Option.getD_none Option.bind_some Option.bind_none Option.or_some Option.or_none Option.none_or Option.isSome_none Option.isNone_none Option.isNone_some List.nil_append List.cons_append List.append_nil cond_true cond_false List.length_cons List.length_nil beq_self_eq_true Bool.and_true Bool.true_and Bool.not_true Bool.not_false true_and and_true and_self true_implies implies_true ne_eq not_false_eq_true Bool.false_eq_true Bool.true_eq_false false_implies Nat.lt_irrefl Nat.le_refl Nat.succ_ne_self imp_self Bool.cond_false_right Bool.cond_true_left decide_true decide_false Bool.not_eq_true' Bool.not_eq_false' Bool.not_not Nat.zero_mul Nat.zero_add Nat.add_zero Nat.mul_one Nat.one_mul Bool.cond_self tsz3 tby3 tagg3 tslice3 tarr3 tzero3 tzn3 tplaces3 tint3 tstr3 tnoint3 tbool3 tany3 tintk3 tbytes3 tsz4 tby4 tagg4 tslice4 tarr4 tzero4 tzn4 tplaces4 tint4 tstr4 tnoint4 tbool4 tany4 tintk4 tbytes4 tsz5 tby5 tagg5 tslice5 tarr5 tzero5 tzn5 tplaces5 tint5 tstr5 tnoint5 tbool5 tany5 tintk5 tbytes5 tsz22 tby22 tagg22 tslice22 tarr22 tzero22 tzn22 tplaces22 tint22 tstr22 tnoint22 tbool22 tany22 tintk22 tbytes22 tsz24 tby24 tagg24 tslice24 tarr24 tzero24 tzn24 tplaces24 tint24 tstr24 tnoint24 tbool24 tany24 tintk24 tbytes24 tsz25 tby25 tagg25 tslice25 tarr25 tzero25 tzn25 tplaces25 tint25 tstr25 tnoint25 tbool25 tany25 tintk25 tbytes25 tsz43 tby43 tagg43 tslice43 tarr43 tzero43 tzn43 tplaces43 tint43 tstr43 tnoint43 tbool43 tany43 tintk43 tbytes43 tsz46 tby46 tagg46 tslice46 tarr46 tzero46 tzn46 tplaces46 tint46 tstr46 tnoint46 tbool46 tany46 tintk46 tbytes46 tsz48 tby48 tagg48 tslice48 tarr48 tzero48 tzn48 tplaces48 tint48 tstr48 tnoint48 tbool48 tany48 tintk48 tbytes48 tsz49 tby49 tagg49 tslice49 tarr49 tzero49 tzn49 tplaces49 tint49 tstr49 tnoint49 tbool49 tany49 tintk49 tbytes49 e_u8_0 fit_u8 de_u8 g_u8 k_u8 e_i64_0 fit_i64 de_i64 g_i64 k_i64 e_b_0 fit_b de_b g_b k_b e_A6u8_0 e_A6u8_1 e_A6u8_2 e_A6u8_3 e_A6u8_4 e_A6u8_5 fit_A6u8 de_A6u8 g_A6u8 k_A6u8 eta_A6u8 e_lA6u8_0 fit_lA6u8 de_lA6u8 g_lA6u8 k_lA6u8 e_llA6u8_0 fit_llA6u8 de_llA6u8 g_llA6u8 k_llA6u8 e_lu8_0 fit_lu8 de_lu8 g_lu8 k_lu8 e_u64_0 fit_u64 de_u64 g_u64 k_u64 deR_0 deR_1 deR_2 deR_3 deR_4 deR_5 deR_6 deR_7 deR_8 deR_9 deR_10 deR_11 deR_12 litC_x0 litC_x1 litC_x2 litC_x3 litC_x4 litC_x5 litC_x6 litC_x7 litC_x8 litC_x9 litC_x10 litC_x11 strE_u8 Fit_0 Option.isSome_some gt_some gd_one evCopyL tabR sub_enR List.drop_zero xrD xoD roEq minL rK rM rG aL aK iK bK sK lK iA bA sA lA or_true true_or Int.toNat_natCast shT_24 Int.toNat_zero Int.cast_ofNat_Int
/-! bytes.Compare -/
noncomputable def F26 (p0 : List Int) (p1 : List Int) : Option Int :=
  need (u8A p0) <| need (u8A p1) <| some (cmpL p0 p1)
noncomputable def body26 : List AV → AR
  | [v0, v1] => .pure (lK k_u8 1 v0 ∧ lK k_u8 1 v1 ∧ (F26 (lA g_u8 v0) (lA g_u8 v1)).isSome = true) (.int .i64 (gt (F26 (lA g_u8 v0) (lA g_u8 v1))))
  | _ => .fail
theorem walk26 (u v : Value) (r : Int) (w : World) (hd : (callFunc 28 #[u, v]).run Try.prog w = .ok (.value (.int .i64 r)) w) : Calls Try.prog 26 #[u, v] w fun e w' => e = .returned (.int .i64 r) ∧ w' = w := by
  go_enter Try.func26, Try.ntmps26
  go_wp2
  go_ret
  exact ⟨rfl, rfl⟩
theorem ok26 : FnOk Try.prog 26 (pureC body26) := by
  refine pure_ext ⟨_, Try.func26, by kernel_rfl, by kernel_rfl⟩ body26 ?_
  intro E l vs ob x hb hob F
  unfold body26 at hb
  split at hb
  · rename_i v0 v1
    injection hb with q1 q2; subst q1 q2
    obtain ⟨h0, h1, hob⟩ := hob
    obtain ⟨r, H⟩ := Option.isSome_iff_exists.1 hob
    rw [H, gt_some]
    have w0 := lK_wk (fun r h => w_u8 h) h0
    have w1 := lK_wk (fun r h => w_u8 h) h1
    generalize lA g_u8 v0 = p0 at H w0
    generalize lA g_u8 v1 = p1 at H w1
    unfold F26 at H
    obtain ⟨f0, H⟩ := need_some.1 H
    obtain ⟨f1, H⟩ := need_some.1 H
    obtain rfl := Option.some.inj H
    obtain ⟨vs⟩ := vs
    match vs, F.1 with
    | [u, v], _ =>
      have hx := w0.1 E u (F.2 0 _ u rfl rfl)
      have hy := w1.1 E v (F.2 1 _ v rfl rfl)
      refine ⟨_, rfl, walk26 u v _ E.w ?_⟩
      rw [run_callFunc_extern Try.func28 (by kernel_rfl) (by kernel_rfl) (by kernel_rfl) (e := Extern.BytealgCompare.compare) (by kernel_rfl), run_compareBytes hx hy (u8b_iff.1 ((u8b_enR (f := c_u8) (fun _ => rfl) p0).trans f0)) (u8b_iff.1 ((u8b_enR (f := c_u8) (fun _ => rfl) p1).trans f1)), bytesC_enR (f := c_u8) (fun _ => rfl), bytesC_enR (f := c_u8) (fun _ => rfl)]
      simp only [strL]
      rw [cmpL_eq p0 p1 (u8A_iff.1 f0) (u8A_iff.1 f1)]
      rfl
  · cases hb
/-! hotspot/address.Compare -/
noncomputable def ct24t0 : Ct := tab [(26, pureC body26)]
theorem ct24t0_ok : CtOk Try.prog ct24t0 := tab_cons ok26 <| tab_nil
theorem ct24t0_26 (l : List AV) (h : List ABlk) : ct24t0 26 l h = pureC body26 l h := rfl
noncomputable def F24 (p0 : A6u8) (p1 : A6u8) : Option (Int) :=
  (F26 [p0.x0, p0.x1, p0.x2, p0.x3, p0.x4, p0.x5] [p1.x0, p1.x1, p1.x2, p1.x3, p1.x4, p1.x5]).bind fun r1 => some r1
noncomputable def body24 : List AV → AR
  | [v0, v1] => .pure (aK 6 k_A6u8 v0 ∧ aK 6 k_A6u8 v1 ∧ (F24 (g_A6u8 (aL v0)) (g_A6u8 (aL v1))).isSome = true) (.int .i64 (gt (F24 (g_A6u8 (aL v0)) (g_A6u8 (aL v1)))))
  | _ => .fail
set_option maxHeartbeats 4000000 in
set_option maxRecDepth 20000 in
theorem ok24 : FnOk Try.prog 24 (pureC body24) := by
  refine pure_fnM body24 (rs := [.tmp 4]) Try.func24 (by kernel_rfl) rfl rfl ?_
  intro l ob v hb hob
  unfold body24 at hb
  split at hb
  · rename_i v0 v1
    injection hb with q1 q2; subst q1 q2
    obtain ⟨hk0_0, hk1_0, hob⟩ := hob
    obtain ⟨r, H⟩ := Option.isSome_iff_exists.1 hob
    rw [H, gt_some]
    have hw0 := wA_A6u8 hk0_0
    have hw1 := wA_A6u8 hk1_0
    generalize g_A6u8 (aL v0) = p0 at H hw0
    generalize g_A6u8 (aL v1) = p1 at H hw1
    refine ⟨[.agg [.int .u8 p0.x0, .int .u8 p0.x1, .int .u8 p0.x2, .int .u8 p0.x3, .int .u8 p0.x4, .int .u8 p0.x5], .agg [.int .u8 p1.x0, .int .u8 p1.x1, .int .u8 p1.x2, .int .u8 p1.x3, .int .u8 p1.x4, .int .u8 p1.x5]], _, (fun E vs F => FR_wk1 hw0.1 F (fun vs F => FR_wk1 hw1.1 F (fun vs F => F))), rfl, rfl, ?_⟩
    rw [Try.ntmps24]
    simp only [List.length_cons, List.length_nil, Nat.reduceAdd, Nat.reduceSub, List.replicate_succ, List.replicate_zero, List.cons_append, List.nil_append]
    unfold F24 at H
    try dsimp only at H
    refine sq ctNo_ok ?_
    simp only [go_sem, Nat.reduceLeDiff, Nat.reduceLT, Nat.reduceAdd, Nat.reduceMul, Nat.reduceSub, Nat.reduceEqDiff, Nat.reduceBEq, Int.reduceToNat, reduceCtorEq]
    refine seqM ?_
    obtain ⟨r1, e2, H⟩ := Option.bind_eq_some_iff.1 H
    refine draw_quiet shT_ok ct24t0_ok (by kernel_rfl) (by kernel_rfl) ?_
    simp only [go_sem, Nat.reduceLeDiff, Nat.reduceLT, Nat.reduceAdd, Nat.reduceMul, Nat.reduceSub, Nat.reduceEqDiff, Nat.reduceBEq, Int.reduceToNat, reduceCtorEq, ct24t0_26, body26, e2]
    repeat ((with_reducible refine And.intro ?_ ?_); focus (first | (with_reducible trivial) | omega | (and_intros <;> first | (with_reducible trivial) | omega | assumption | exact nfc | first | exact rfl | exact trivial | exact fitI | exact Or.inr rfl | exact Or.inl rfl | exact fun x hx => absurd hx (by omega) | (intro x hx; (repeat (first | (and_intros <;> (first | exact rfl | exact trivial | exact fitI | exact Or.inr rfl | exact Or.inl rfl | exact fun x hx => absurd hx (by omega))) | (exfalso; omega) | (rcases x with _ | x))); done)) | grind))
    refine rg ctNo_ok ?_
    simp only [go_sem, Nat.reduceLeDiff, Nat.reduceLT, Nat.reduceAdd, Nat.reduceMul, Nat.reduceSub, Nat.reduceEqDiff, Nat.reduceBEq, Int.reduceToNat, reduceCtorEq]
    obtain rfl := Option.some.inj H
    first | rfl | simp only [Bool.and_false, Bool.false_and, Bool.and_true, Bool.true_and]
  · cases hb
/-! hotspot/address.CheckSet -/
noncomputable def ct15t0 : Ct := tab [(24, pureC body24)]
theorem ct15t0_ok : CtOk Try.prog ct15t0 := tab_cons ok24 <| tab_nil
theorem ct15t0_24 (l : List AV) (h : List ABlk) : ct15t0 24 l h = pureC body24 l h := rfl
noncomputable def F15_L1 (p0 : List A6u8) (v1_1 : Int) : Option (Lp (Int) ((Unit) ⊕ (Int))) :=
  bif (bLt v1_1 (p0.length : Nat)) then (need (inb (wr .i64 (v1_1 - 1)) p0.length) <| need (inb v1_1 p0.length) <| (F24 (gd p0 ((wr .i64 (v1_1 - 1)).toNat)) (gd p0 v1_1.toNat)).bind fun r3 => bif (bLe 0 r3) then (some (.done (.inr 8))) else (some (.next (wr .i64 (v1_1 + 1))))) else (some (.done (.inl ())))
noncomputable def F15 (p0 : List A6u8) : Option (Int) :=
  lp (loopD (fun s => F15_L1 p0 s) 1) (fun e => bif (bLt 256 (p0.length : Nat)) then (some 8) else (some 0)) some
noncomputable def body15 : List AV → AR
  | [v0] => .pure (lK k_A6u8 6 v0 ∧ (F15 (lA g_A6u8 v0)).isSome = true) (.int .i64 (gt (F15 (lA g_A6u8 v0))))
  | _ => .fail
set_option maxHeartbeats 4000000 in
set_option maxRecDepth 20000 in
theorem ok15 : FnOk Try.prog 15 (pureC body15) := by
  refine pure_fnM body15 (rs := [.tmp 2]) Try.func15 (by kernel_rfl) rfl rfl ?_
  intro l ob v hb hob
  unfold body15 at hb
  split at hb
  · rename_i v0
    injection hb with q1 q2; subst q1 q2
    obtain ⟨hk0_0, hob⟩ := hob
    obtain ⟨r, H⟩ := Option.isSome_iff_exists.1 hob
    rw [H, gt_some]
    have hw0 := lK_wk (fun r h => w_A6u8 h) hk0_0
    generalize lA g_A6u8 v0 = p0 at H hw0
    refine ⟨[.ro 6 p0.length false (enR c_A6u8 p0)], _, (fun E vs F => FR_wk1 hw0.1 F (fun vs F => F)), rfl, rfl, ?_⟩
    rw [Try.ntmps15]
    simp only [List.length_cons, List.length_nil, Nat.reduceAdd, Nat.reduceSub, List.replicate_succ, List.replicate_zero, List.cons_append, List.nil_append]
    unfold F15 at H
    try dsimp only at H
    refine sq ctNo_ok ?_
    simp only [go_sem, Nat.reduceLeDiff, Nat.reduceLT, Nat.reduceAdd, Nat.reduceMul, Nat.reduceSub, Nat.reduceEqDiff, Nat.reduceBEq, Int.reduceToNat, reduceCtorEq]
    refine seqM ?_
    refine sq ctNo_ok ?_
    simp only [go_sem, Nat.reduceLeDiff, Nat.reduceLT, Nat.reduceAdd, Nat.reduceMul, Nat.reduceSub, Nat.reduceEqDiff, Nat.reduceBEq, Int.reduceToNat, reduceCtorEq]
    refine blkM ?_
    refine loop_den (fun s : Int => [.ro 6 p0.length false (enR c_A6u8 p0), .top, .top, .int .i64 s, .top, .top, .top, .top, .top, .top, .top, .top, .top, .top, .top, .top, .top, .top, .top, .top, .top, .top, .top, .top]) (fun s => []) (fun e : Unit => [.ro 6 p0.length false (enR c_A6u8 p0), .top, .top, .top, .top, .top, .top, .top, .top, .top, .top, .top, .top, .top, .top, .top, .top, .top, .top, .top, .top, .top, .top, .top]) (fun e => []) H ?_ (fun v1_1 o H hn1_1 hn2_1 => ?_) (fun e H => ?_)
    · refine SubF_of ⟨[], ?_, ?_, by rfl, by rfl⟩
      · simp [CvL, Cv, getM]
      · trivial
    · unfold F15_L1 at H
      try dsimp only at H ⊢
      refine seqM ?_
      refine sq ctNo_ok ?_
      simp only [go_sem, Nat.reduceLeDiff, Nat.reduceLT, Nat.reduceAdd, Nat.reduceMul, Nat.reduceSub, Nat.reduceEqDiff, Nat.reduceBEq, Int.reduceToNat, reduceCtorEq]
      repeat ((with_reducible refine And.intro ?_ ?_); focus (first | (with_reducible trivial) | omega | (and_intros <;> first | (with_reducible trivial) | omega | assumption | exact nfc | first | exact rfl | exact trivial | exact fitI | exact Or.inr rfl | exact Or.inl rfl | exact fun x hx => absurd hx (by omega) | (intro x hx; (repeat (first | (and_intros <;> (first | exact rfl | exact trivial | exact fitI | exact Or.inr rfl | exact Or.inl rfl | exact fun x hx => absurd hx (by omega))) | (exfalso; omega) | (rcases x with _ | x))); done)) | grind))
      refine condM' rfl trivial (fun hc => ?_) (fun hc => ?_)
      · replace H := cond_f hc H
        refine rg ctNo_ok ?_
        simp only [go_sem, Nat.reduceLeDiff, Nat.reduceLT, Nat.reduceAdd, Nat.reduceMul, Nat.reduceSub, Nat.reduceEqDiff, Nat.reduceBEq, Int.reduceToNat, reduceCtorEq]
        refine ⟨_, (Option.some.inj H).symm, ?_⟩
        refine SubF_of ⟨[], ?_, ?_, by rfl, by rfl⟩
        · simp [CvL, Cv, getM]
        · trivial
      replace H := cond_t hc H
      refine rg ctNo_ok ?_
      simp only [go_sem, Nat.reduceLeDiff, Nat.reduceLT, Nat.reduceAdd, Nat.reduceMul, Nat.reduceSub, Nat.reduceEqDiff, Nat.reduceBEq, Int.reduceToNat, reduceCtorEq]
      refine seqM ?_
      refine blkM ?_
      refine seqM ?_
      obtain ⟨f1, H⟩ := need_some.1 H
      replace f1 := inb_iff.1 f1
      obtain ⟨f2, H⟩ := need_some.1 H
      replace f2 := inb_iff.1 f2
      obtain ⟨r3, e4, H⟩ := Option.bind_eq_some_iff.1 H
      refine draw_quiet shT_ok ct15t0_ok (by kernel_rfl) (by kernel_rfl) ?_
      simp only [go_sem, Nat.reduceLeDiff, Nat.reduceLT, Nat.reduceAdd, Nat.reduceMul, Nat.reduceSub, Nat.reduceEqDiff, Nat.reduceBEq, Int.reduceToNat, reduceCtorEq, ct15t0_24, body24, f1, f2, e4]
      repeat ((with_reducible refine And.intro ?_ ?_); focus (first | (with_reducible trivial) | omega | (and_intros <;> first | (with_reducible trivial) | omega | assumption | exact nfc | first | exact rfl | exact trivial | exact fitI | exact Or.inr rfl | exact Or.inl rfl | exact fun x hx => absurd hx (by omega) | (intro x hx; (repeat (first | (and_intros <;> (first | exact rfl | exact trivial | exact fitI | exact Or.inr rfl | exact Or.inl rfl | exact fun x hx => absurd hx (by omega))) | (exfalso; omega) | (rcases x with _ | x))); done)) | grind))
      refine condM rfl trivial (fun hc => ?_) (fun hc => ?_)
      · replace H := cond_t hc H
        refine sq ctNo_ok ?_
        simp only [go_sem, Nat.reduceLeDiff, Nat.reduceLT, Nat.reduceAdd, Nat.reduceMul, Nat.reduceSub, Nat.reduceEqDiff, Nat.reduceBEq, Int.reduceToNat, reduceCtorEq]
        refine rg ctNo_ok ?_
        simp only [go_sem, Nat.reduceLeDiff, Nat.reduceLT, Nat.reduceAdd, Nat.reduceMul, Nat.reduceSub, Nat.reduceEqDiff, Nat.reduceBEq, Int.reduceToNat, reduceCtorEq]
        have H := hn2_1 _ (Option.some.inj H).symm
        obtain rfl := Option.some.inj H
        first | rfl | simp only [Bool.and_false, Bool.false_and, Bool.and_true, Bool.true_and]
      replace H := cond_f hc H
      refine rg ctNo_ok ?_
      simp only [go_sem, Nat.reduceLeDiff, Nat.reduceLT, Nat.reduceAdd, Nat.reduceMul, Nat.reduceSub, Nat.reduceEqDiff, Nat.reduceBEq, Int.reduceToNat, reduceCtorEq]
      refine rg ctNo_ok ?_
      simp only [go_sem, Nat.reduceLeDiff, Nat.reduceLT, Nat.reduceAdd, Nat.reduceMul, Nat.reduceSub, Nat.reduceEqDiff, Nat.reduceBEq, Int.reduceToNat, reduceCtorEq]
      refine ⟨_, (Option.some.inj H).symm, ?_⟩
      refine SubF_of ⟨[], ?_, ?_, by rfl, by rfl⟩
      · simp [CvL, Cv, getM]
      · trivial
    · try dsimp only at H ⊢
      try simp only [m_normal, k_normal, b_normal, kL_normal, r_normal]
      refine seqM ?_
      refine sq ctNo_ok ?_
      simp only [go_sem, Nat.reduceLeDiff, Nat.reduceLT, Nat.reduceAdd, Nat.reduceMul, Nat.reduceSub, Nat.reduceEqDiff, Nat.reduceBEq, Int.reduceToNat, reduceCtorEq]
      repeat ((with_reducible refine And.intro ?_ ?_); focus (first | (with_reducible trivial) | omega | (and_intros <;> first | (with_reducible trivial) | omega | assumption | exact nfc | first | exact rfl | exact trivial | exact fitI | exact Or.inr rfl | exact Or.inl rfl | exact fun x hx => absurd hx (by omega) | (intro x hx; (repeat (first | (and_intros <;> (first | exact rfl | exact trivial | exact fitI | exact Or.inr rfl | exact Or.inl rfl | exact fun x hx => absurd hx (by omega))) | (exfalso; omega) | (rcases x with _ | x))); done)) | grind))
      refine condM rfl trivial (fun hc => ?_) (fun hc => ?_)
      · replace H := cond_t hc H
        refine sq ctNo_ok ?_
        simp only [go_sem, Nat.reduceLeDiff, Nat.reduceLT, Nat.reduceAdd, Nat.reduceMul, Nat.reduceSub, Nat.reduceEqDiff, Nat.reduceBEq, Int.reduceToNat, reduceCtorEq]
        refine rg ctNo_ok ?_
        simp only [go_sem, Nat.reduceLeDiff, Nat.reduceLT, Nat.reduceAdd, Nat.reduceMul, Nat.reduceSub, Nat.reduceEqDiff, Nat.reduceBEq, Int.reduceToNat, reduceCtorEq]
        obtain rfl := Option.some.inj H
        first | rfl | simp only [Bool.and_false, Bool.false_and, Bool.and_true, Bool.true_and]
      replace H := cond_f hc H
      refine rg ctNo_ok ?_
      simp only [go_sem, Nat.reduceLeDiff, Nat.reduceLT, Nat.reduceAdd, Nat.reduceMul, Nat.reduceSub, Nat.reduceEqDiff, Nat.reduceBEq, Int.reduceToNat, reduceCtorEq]
      refine sq ctNo_ok ?_
      simp only [go_sem, Nat.reduceLeDiff, Nat.reduceLT, Nat.reduceAdd, Nat.reduceMul, Nat.reduceSub, Nat.reduceEqDiff, Nat.reduceBEq, Int.reduceToNat, reduceCtorEq]
      refine rg ctNo_ok ?_
      simp only [go_sem, Nat.reduceLeDiff, Nat.reduceLT, Nat.reduceAdd, Nat.reduceMul, Nat.reduceSub, Nat.reduceEqDiff, Nat.reduceBEq, Int.reduceToNat, reduceCtorEq]
      obtain rfl := Option.some.inj H
      first | rfl | simp only [Bool.and_false, Bool.false_and, Bool.and_true, Bool.true_and]
  · cases hb
/-! hotspot/address.Union$1 -/
noncomputable def F22 (p0 : Bool) (p1 : Bool) : Option (Bool) :=
  some true
noncomputable def body22 : List AV → AR
  | [v0, v1] => .pure (bK v0 ∧ bK v1 ∧ (F22 (bA v0) (bA v1)).isSome = true) (.bool (gt (F22 (bA v0) (bA v1))))
  | _ => .fail
set_option maxHeartbeats 4000000 in
set_option maxRecDepth 20000 in
theorem ok22 : FnOk Try.prog 22 (pureC body22) := by
  refine pure_fnM body22 (rs := [.tmp 4]) Try.func22 (by kernel_rfl) rfl rfl ?_
  intro l ob v hb hob
  unfold body22 at hb
  split at hb
  · rename_i v0 v1
    injection hb with q1 q2; subst q1 q2
    obtain ⟨hk0_0, hk1_0, hob⟩ := hob
    obtain ⟨r, H⟩ := Option.isSome_iff_exists.1 hob
    rw [H, gt_some]
    have hw0 := bK_wk hk0_0
    have hw1 := bK_wk hk1_0
    generalize bA v0 = p0 at H hw0
    generalize bA v1 = p1 at H hw1
    refine ⟨[.bool p0, .bool p1], _, (fun E vs F => FR_wk1 hw0.1 F (fun vs F => FR_wk1 hw1.1 F (fun vs F => F))), rfl, rfl, ?_⟩
    rw [Try.ntmps22]
    simp only [List.length_cons, List.length_nil, Nat.reduceAdd, Nat.reduceSub, List.replicate_succ, List.replicate_zero, List.cons_append, List.nil_append]
    unfold F22 at H
    try dsimp only at H
    refine sq ctNo_ok ?_
    simp only [go_sem, Nat.reduceLeDiff, Nat.reduceLT, Nat.reduceAdd, Nat.reduceMul, Nat.reduceSub, Nat.reduceEqDiff, Nat.reduceBEq, Int.reduceToNat, reduceCtorEq]
    refine sq ctNo_ok ?_
    simp only [go_sem, Nat.reduceLeDiff, Nat.reduceLT, Nat.reduceAdd, Nat.reduceMul, Nat.reduceSub, Nat.reduceEqDiff, Nat.reduceBEq, Int.reduceToNat, reduceCtorEq]
    refine rg ctNo_ok ?_
    simp only [go_sem, Nat.reduceLeDiff, Nat.reduceLT, Nat.reduceAdd, Nat.reduceMul, Nat.reduceSub, Nat.reduceEqDiff, Nat.reduceBEq, Int.reduceToNat, reduceCtorEq]
    obtain rfl := Option.some.inj H
    first | rfl | simp only [Bool.and_false, Bool.false_and, Bool.and_true, Bool.true_and]
  · cases hb
/-! hotspot/address.merge -/
noncomputable def ct19_0t0 : Ct := tab [(15, pureC body15)]
theorem ct19_0t0_ok : CtOk Try.prog ct19_0t0 := tab_cons ok15 <| tab_nil
theorem ct19_0t0_15 (l : List AV) (h : List ABlk) : ct19_0t0 15 l h = pureC body15 l h := rfl
noncomputable def ct19_0t1 : Ct := tab [(22, pureC body22)]
theorem ct19_0t1_ok : CtOk Try.prog ct19_0t1 := tab_cons ok22 <| tab_nil
theorem ct19_0t1_22 (l : List AV) (h : List ABlk) : ct19_0t1 22 l h = pureC body22 l h := rfl
noncomputable def ct19_0t2 : Ct := tab [(24, pureC body24)]
theorem ct19_0t2_ok : CtOk Try.prog ct19_0t2 := tab_cons ok24 <| tab_nil
theorem ct19_0t2_24 (l : List AV) (h : List ABlk) : ct19_0t2 24 l h = pureC body24 l h := rfl
noncomputable def F19_0_L1 (v1_1 : List A6u8) (v1_2 : List A6u8) (v1_3 : List A6u8) : Option (Lp ((List A6u8) × (List A6u8) × (List A6u8)) ((List A6u8) ⊕ ((List A6u8) × Int))) :=
  bif ((bLt 0 (v1_3.length : Nat)) || (bLt 0 (v1_1.length : Nat))) then (bif (bEq (v1_3.length : Nat) 0) then (need (inb 0 v1_1.length) <| need (slb 1 (v1_1.length : Nat) v1_1.length) <| (F22 false true).bind fun r13 => bif r13 then (need (capb 6 (v1_2.length + 1)) <| some (.next ((v1_1.drop 1), (v1_2 ++ [(gd v1_1 0)]), v1_3))) else (some (.next ((v1_1.drop 1), v1_2, v1_3)))) else (bif (bEq (v1_1.length : Nat) 0) then (need (inb 0 v1_3.length) <| need (slb 1 (v1_3.length : Nat) v1_3.length) <| (F22 true false).bind fun r18 => bif r18 then (need (capb 6 (v1_2.length + 1)) <| some (.next (v1_1, (v1_2 ++ [(gd v1_3 0)]), (v1_3.drop 1)))) else (some (.next (v1_1, v1_2, (v1_3.drop 1))))) else (need (inb 0 v1_3.length) <| need (inb 0 v1_1.length) <| (F24 (gd v1_3 0) (gd v1_1 0)).bind fun r23 => bif (bLe r23 0) then (need (inb 0 v1_3.length) <| need (slb 1 (v1_3.length : Nat) v1_3.length) <| bif (bLe 0 r23) then (need (inb 0 v1_1.length) <| need (slb 1 (v1_1.length : Nat) v1_1.length) <| (F22 (bLe r23 0) (bLe 0 r23)).bind fun r29 => bif r29 then (need (capb 6 (v1_2.length + 1)) <| some (.next ((v1_1.drop 1), (v1_2 ++ [(gd v1_1 0)]), (v1_3.drop 1)))) else (some (.next ((v1_1.drop 1), v1_2, (v1_3.drop 1))))) else ((F22 (bLe r23 0) (bLe 0 r23)).bind fun r32 => bif r32 then (need (capb 6 (v1_2.length + 1)) <| some (.next (v1_1, (v1_2 ++ [(gd v1_3 0)]), (v1_3.drop 1)))) else (some (.next (v1_1, v1_2, (v1_3.drop 1)))))) else (bif (bLe 0 r23) then (need (inb 0 v1_1.length) <| need (slb 1 (v1_1.length : Nat) v1_1.length) <| (F22 (bLe r23 0) (bLe 0 r23)).bind fun r37 => bif r37 then (need (capb 6 (v1_2.length + 1)) <| some (.next ((v1_1.drop 1), (v1_2 ++ [(gd v1_1 0)]), v1_3))) else (some (.next ((v1_1.drop 1), v1_2, v1_3)))) else ((F22 (bLe r23 0) (bLe 0 r23)).bind fun r40 => bif r40 then (need (capb 6 (v1_2.length + 1)) <| some (.next (v1_1, (v1_2 ++ [(A6u8.mk 0 0 0 0 0 0)]), v1_3))) else (some (.next (v1_1, v1_2, v1_3)))))))) else (some (.done (.inl v1_2)))
noncomputable def F19_0 (p0 : List A6u8) (p1 : List A6u8) : Option ((List A6u8) × Int) :=
  (some [p0, p1]).bind fun w3 => need (inb 0 w3.length) <| (F15 (gd w3 0)).bind fun r6 => bif (!bEq r6 0) then (some ([], r6)) else (need (inb 1 w3.length) <| (F15 (gd w3 1)).bind fun r9 => bif (!bEq r9 0) then (some ([], r9)) else (lp (loopD (fun s => F19_0_L1 s.1 s.2.1 s.2.2) (p1, [], p0)) (fun w1_4 => bif (bLt 256 (w1_4.length : Nat)) then (some ([], 22)) else (some (w1_4, 0))) some))
noncomputable def body19_0 : List AV → List ABlk → ED
  | [v0, v1, .fn 22 []], h => .ed [] (lK k_A6u8 6 (roD (deadL h []) v0) ∧ roDOb (deadL h []) v0 ∧ lK k_A6u8 6 (roD (deadL h []) v1) ∧ roDOb (deadL h []) v1 ∧ (F19_0 (lA g_A6u8 (roD (deadL h []) v0)) (lA g_A6u8 (roD (deadL h []) v1))).isSome = true) (.tup [.sl 0 6 0 (((gt (F19_0 (lA g_A6u8 (roD (deadL h []) v0)) (lA g_A6u8 (roD (deadL h []) v1)))).1).length) false, .int .i64 ((gt (F19_0 (lA g_A6u8 (roD (deadL h []) v0)) (lA g_A6u8 (roD (deadL h []) v1)))).2)]) [.row 24 6 (((gt (F19_0 (lA g_A6u8 (roD (deadL h []) v0)) (lA g_A6u8 (roD (deadL h []) v1)))).1).length) (enR c_A6u8 ((gt (F19_0 (lA g_A6u8 (roD (deadL h []) v0)) (lA g_A6u8 (roD (deadL h []) v1)))).1))]
  | _, _ => .fail
set_option maxHeartbeats 4000000 in
set_option maxRecDepth 20000 in
theorem ok19_0 : FnOk Try.prog 19 (edC body19_0) := by
  refine edit_fnV body19_0 (rs := [.tmp 6, .tmp 7]) Try.func19 (by kernel_rfl) rfl rfl ?_
  intro l h bs ob q0 g0 hb hob
  unfold body19_0 at hb
  split at hb
  · rename_i v0 v1
    injection hb with q1 q2 q3 q4; subst q1 q2 q3 q4
    obtain ⟨hk0_0, hk0_1, hk1_0, hk1_1, hob⟩ := hob
    obtain ⟨r, H⟩ := Option.isSome_iff_exists.1 hob
    rw [H, gt_some]
    have hw0 := lK_wk (fun r h => w_A6u8 h) hk0_0
    obtain ⟨p0, hp_p0⟩ : ∃ p0, p0 = lA g_A6u8 (roD (deadL h []) v0) := ⟨_, rfl⟩
    rw [← hp_p0] at H hw0
    have hw1 := lK_wk (fun r h => w_A6u8 h) hk1_0
    obtain ⟨p1, hp_p1⟩ : ∃ p1, p1 = lA g_A6u8 (roD (deadL h []) v1) := ⟨_, rfl⟩
    rw [← hp_p1] at H hw1
    refine ⟨[.ro 6 p0.length false (enR c_A6u8 p0), .ro 6 p1.length false (enR c_A6u8 p1), .fn 22 []], [], rfl, ⟨(EW_view hk0_1 hw0), ⟨(EW_view hk1_1 hw1), ⟨(EW_fn trivial), trivial⟩⟩⟩, trivial, trivial, ⟨(nfB_en nr_A6u8), trivial⟩, ⟨noroB_en, trivial⟩, (by first | (simp only [noro, noroL, and_self]; done) | (simp only [noro, noroL]; and_intros <;> first | trivial | exact noro_bif (by simp only [noro]) (by simp only [noro]) | (simp only [noro, noroL, and_self]))), ?_⟩
    rw [Try.ntmps19]
    simp only [List.length_cons, List.length_nil, Nat.reduceAdd, Nat.reduceSub, List.replicate_succ, List.replicate_zero, List.cons_append, List.nil_append]
    unfold F19_0 at H
    try dsimp only at H
    refine sq ctNo_ok ?_
    simp only [go_sem, Nat.reduceLeDiff, Nat.reduceLT, Nat.reduceAdd, Nat.reduceMul, Nat.reduceSub, Nat.reduceEqDiff, Nat.reduceBEq, Int.reduceToNat, reduceCtorEq]
    refine seqM ?_
    refine sq ctNo_ok ?_
    simp only [go_sem, Nat.reduceLeDiff, Nat.reduceLT, Nat.reduceAdd, Nat.reduceMul, Nat.reduceSub, Nat.reduceEqDiff, Nat.reduceBEq, Int.reduceToNat, reduceCtorEq]
    repeat ((with_reducible refine And.intro ?_ ?_); focus (first | (with_reducible trivial) | omega | (and_intros <;> first | (with_reducible trivial) | omega | assumption | exact nfc | first | exact rfl | exact trivial | exact fitI | exact Or.inr rfl | exact Or.inl rfl | exact fun x hx => absurd hx (by omega) | (intro x hx; (repeat (first | (and_intros <;> (first | exact rfl | exact trivial | exact fitI | exact Or.inr rfl | exact Or.inl rfl | exact fun x hx => absurd hx (by omega))) | (exfalso; omega) | (rcases x with _ | x))); done)) | grind))
    refine blkM ?_
    refine loop_roundsM 3 ?_
    refine rndM ?_
    refine sq ctNo_ok ?_
    simp only [go_sem, Nat.reduceLeDiff, Nat.reduceLT, Nat.reduceAdd, Nat.reduceMul, Nat.reduceSub, Nat.reduceEqDiff, Nat.reduceBEq, Int.reduceToNat, reduceCtorEq, (by decide : bLt (0) (2) = true)]
    refine seqM ?_
    refine condM rfl trivial (fun hc => ?_) (fun hc => ?_)
    rotate_left
    · cases hc
    refine rg ctNo_ok ?_
    simp only [go_sem, Nat.reduceLeDiff, Nat.reduceLT, Nat.reduceAdd, Nat.reduceMul, Nat.reduceSub, Nat.reduceEqDiff, Nat.reduceBEq, Int.reduceToNat, reduceCtorEq]
    refine seqM ?_
    refine blkM ?_
    refine seqM ?_
    obtain ⟨w3, hw4, H⟩ := Option.bind_eq_some_iff.1 H
    replace hw4 := Option.some.inj hw4
    have lhw4 : w3.length = 2 := by rw [← hw4]; exact (by first | rfl | (simp; done) | (simp; omega))
    refine subF_mean (t2 := (.ro 6 p0.length false (enR c_A6u8 p0) :: .ro 6 p1.length false (enR c_A6u8 p1) :: .fn 22 [] :: .top :: .top :: .top :: .ro 0 0 true (fun _ _ => .top) :: .int .i64 0 :: .top :: .top :: .top :: .top :: .top :: .top :: .ro 6 p0.length false (enR c_A6u8 p0) :: .ro 6 p1.length false (enR c_A6u8 p1) :: .sl 0 1 0 w3.length false :: .int .i64 2 :: .int .i64 0 :: .bool true :: .top :: .top :: .top :: .top :: .top :: .top :: .top :: .top :: .top :: .top :: .top :: .top :: .top :: .top :: .top :: .top :: .top :: .top :: .top :: .top :: .top :: .top :: .top :: .top :: .top :: .top :: .top :: .top :: .top :: .top :: .top :: .top :: .top :: .top :: .top :: .top :: .top :: .top :: .top :: .top :: .top :: .top :: .top :: .top :: .top :: .top :: .top :: .top :: .top :: .top :: .top :: .top :: .top :: .top :: .top :: .top :: .top :: .top :: .top :: [])) (h2 := [.row 22 1 w3.length (enR c_lA6u8 w3)]) ?_ ?_
    · refine SubF_of ⟨[some 0], ?_, ?_, by rfl, by rfl⟩
      · simp [CvL, Cv, getM, lhw4]
      · exact ⟨CvB_row nr_lA6u8 lhw4 (hw4 ▸ (lit_row (f := c_lA6u8) [p0, p1] (fun _ _ => rfl) rfl)), trivial⟩
    obtain ⟨f5, H⟩ := need_some.1 H
    replace f5 := inb_iff.1 f5
    refine rg ctNo_ok ?_
    simp only [go_sem, Nat.reduceLeDiff, Nat.reduceLT, Nat.reduceAdd, Nat.reduceMul, Nat.reduceSub, Nat.reduceEqDiff, Nat.reduceBEq, Int.reduceToNat, reduceCtorEq, f5]
    repeat ((with_reducible refine And.intro ?_ ?_); focus (first | (with_reducible trivial) | omega | grind))
    refine seqM ?_
    obtain ⟨r6, e7, H⟩ := Option.bind_eq_some_iff.1 H
    refine rg ct19_0t0_ok ?_
    simp only [go_sem, Nat.reduceLeDiff, Nat.reduceLT, Nat.reduceAdd, Nat.reduceMul, Nat.reduceSub, Nat.reduceEqDiff, Nat.reduceBEq, Int.reduceToNat, reduceCtorEq, ct19_0t0_15, body15, e7]
    repeat ((with_reducible refine And.intro ?_ ?_); focus (first | (with_reducible trivial) | omega | (and_intros <;> first | (with_reducible trivial) | omega | assumption | exact nfc | first | exact rfl | exact trivial | exact fitI | exact Or.inr rfl | exact Or.inl rfl | exact fun x hx => absurd hx (by omega) | (intro x hx; (repeat (first | (and_intros <;> (first | exact rfl | exact trivial | exact fitI | exact Or.inr rfl | exact Or.inl rfl | exact fun x hx => absurd hx (by omega))) | (exfalso; omega) | (rcases x with _ | x))); done)) | grind))
    refine sq ctNo_ok ?_
    simp only [go_sem, Nat.reduceLeDiff, Nat.reduceLT, Nat.reduceAdd, Nat.reduceMul, Nat.reduceSub, Nat.reduceEqDiff, Nat.reduceBEq, Int.reduceToNat, reduceCtorEq]
    refine condM rfl trivial (fun hc => ?_) (fun hc => ?_)
    · replace H := cond_t hc H
      refine sq ctNo_ok ?_
      simp only [go_sem, Nat.reduceLeDiff, Nat.reduceLT, Nat.reduceAdd, Nat.reduceMul, Nat.reduceSub, Nat.reduceEqDiff, Nat.reduceBEq, Int.reduceToNat, reduceCtorEq]
      refine rg ctNo_ok ?_
      simp only [go_sem, Nat.reduceLeDiff, Nat.reduceLT, Nat.reduceAdd, Nat.reduceMul, Nat.reduceSub, Nat.reduceEqDiff, Nat.reduceBEq, Int.reduceToNat, reduceCtorEq]
      obtain rfl := Option.some.inj H
      refine RetE_mk [] [none] ?_ ?_ ?_ ?_ (by rfl) (by rfl)
      · simp only [List.length_cons, List.length_nil, Nat.zero_mul, Nat.add_zero, fzV, fzL, fzOb, fzObL, fzH, fzHF, fzB, fzObB, fzObH, inL, rowOb, geth, cond_true, cond_false, Bool.or_false, Bool.or_true, Bool.false_or, Bool.true_or, and_self, true_and, and_true, Nat.reduceEqDiff, Nat.reduceBEq, beq_self_eq_true, sub_enR0, Nat.reduceAdd, Nat.zero_add, Nat.le_refl, List.nil_append]
        try (and_intros <;> first | (with_reducible trivial) | omega | exact nfc | trivial)
      · simp only [List.length_cons, List.length_nil, Nat.zero_mul, Nat.add_zero, fzV, fzL, fzOb, fzObL, fzH, fzHF, fzB, fzObB, fzObH, inL, rowOb, geth, cond_true, cond_false, Bool.or_false, Bool.or_true, Bool.false_or, Bool.true_or, and_self, true_and, and_true, Nat.reduceEqDiff, Nat.reduceBEq, beq_self_eq_true, sub_enR0, Nat.reduceAdd, Nat.zero_add, Nat.le_refl, List.nil_append]
        try (and_intros <;> first | (with_reducible trivial) | omega | exact nfc | trivial)
      · simp only [List.length_cons, List.length_nil, Nat.zero_mul, Nat.add_zero, fzV, fzL, fzOb, fzObL, fzH, fzHF, fzB, fzObB, fzObH, inL, rowOb, geth, cond_true, cond_false, Bool.or_false, Bool.or_true, Bool.false_or, Bool.true_or, and_self, true_and, and_true, Nat.reduceEqDiff, Nat.reduceBEq, beq_self_eq_true, sub_enR0, Nat.reduceAdd, Nat.zero_add, Nat.le_refl, List.nil_append]
        exact Cv_tup (CvL_cons (by first | (simp [Cv, CvL, getM, gt_some]; done) | (simp [Cv, CvL, getM, gt_some]; omega)) (CvL_cons (by simp [Cv, CvL, getM, gt_some]) CvL_nil))
      · simp only [List.length_cons, List.length_nil, Nat.zero_mul, Nat.add_zero, fzV, fzL, fzOb, fzObL, fzH, fzHF, fzB, fzObB, fzObH, inL, rowOb, geth, cond_true, cond_false, Bool.or_false, Bool.or_true, Bool.false_or, Bool.true_or, and_self, true_and, and_true, Nat.reduceEqDiff, Nat.reduceBEq, beq_self_eq_true, sub_enR0, Nat.reduceAdd, Nat.zero_add, Nat.le_refl, List.nil_append, CvH, gt_some, Option.isSome_some, Option.isSome_none]
        exact CvB_none
    replace H := cond_f hc H
    refine rg ctNo_ok ?_
    simp only [go_sem, Nat.reduceLeDiff, Nat.reduceLT, Nat.reduceAdd, Nat.reduceMul, Nat.reduceSub, Nat.reduceEqDiff, Nat.reduceBEq, Int.reduceToNat, reduceCtorEq]
    refine rg ctNo_ok ?_
    simp only [go_sem, Nat.reduceLeDiff, Nat.reduceLT, Nat.reduceAdd, Nat.reduceMul, Nat.reduceSub, Nat.reduceEqDiff, Nat.reduceBEq, Int.reduceToNat, reduceCtorEq, (by decide : wr IntKind.i64 ((0 : Int) + 1) = 1)]
    refine rndM ?_
    refine sq ctNo_ok ?_
    simp only [go_sem, Nat.reduceLeDiff, Nat.reduceLT, Nat.reduceAdd, Nat.reduceMul, Nat.reduceSub, Nat.reduceEqDiff, Nat.reduceBEq, Int.reduceToNat, reduceCtorEq, (by decide : bLt (1) (2) = true)]
    refine seqM ?_
    refine condM rfl trivial (fun hc => ?_) (fun hc => ?_)
    rotate_left
    · cases hc
    refine rg ctNo_ok ?_
    simp only [go_sem, Nat.reduceLeDiff, Nat.reduceLT, Nat.reduceAdd, Nat.reduceMul, Nat.reduceSub, Nat.reduceEqDiff, Nat.reduceBEq, Int.reduceToNat, reduceCtorEq]
    refine seqM ?_
    refine blkM ?_
    refine seqM ?_
    obtain ⟨f8, H⟩ := need_some.1 H
    replace f8 := inb_iff.1 f8
    refine rg ctNo_ok ?_
    simp only [go_sem, Nat.reduceLeDiff, Nat.reduceLT, Nat.reduceAdd, Nat.reduceMul, Nat.reduceSub, Nat.reduceEqDiff, Nat.reduceBEq, Int.reduceToNat, reduceCtorEq, f8]
    repeat ((with_reducible refine And.intro ?_ ?_); focus (first | (with_reducible trivial) | omega | grind))
    refine seqM ?_
    obtain ⟨r9, e10, H⟩ := Option.bind_eq_some_iff.1 H
    refine rg ct19_0t0_ok ?_
    simp only [go_sem, Nat.reduceLeDiff, Nat.reduceLT, Nat.reduceAdd, Nat.reduceMul, Nat.reduceSub, Nat.reduceEqDiff, Nat.reduceBEq, Int.reduceToNat, reduceCtorEq, ct19_0t0_15, body15, e10]
    repeat ((with_reducible refine And.intro ?_ ?_); focus (first | (with_reducible trivial) | omega | (and_intros <;> first | (with_reducible trivial) | omega | assumption | exact nfc | first | exact rfl | exact trivial | exact fitI | exact Or.inr rfl | exact Or.inl rfl | exact fun x hx => absurd hx (by omega) | (intro x hx; (repeat (first | (and_intros <;> (first | exact rfl | exact trivial | exact fitI | exact Or.inr rfl | exact Or.inl rfl | exact fun x hx => absurd hx (by omega))) | (exfalso; omega) | (rcases x with _ | x))); done)) | grind))
    refine sq ctNo_ok ?_
    simp only [go_sem, Nat.reduceLeDiff, Nat.reduceLT, Nat.reduceAdd, Nat.reduceMul, Nat.reduceSub, Nat.reduceEqDiff, Nat.reduceBEq, Int.reduceToNat, reduceCtorEq]
    refine condM rfl trivial (fun hc => ?_) (fun hc => ?_)
    · replace H := cond_t hc H
      refine sq ctNo_ok ?_
      simp only [go_sem, Nat.reduceLeDiff, Nat.reduceLT, Nat.reduceAdd, Nat.reduceMul, Nat.reduceSub, Nat.reduceEqDiff, Nat.reduceBEq, Int.reduceToNat, reduceCtorEq]
      refine rg ctNo_ok ?_
      simp only [go_sem, Nat.reduceLeDiff, Nat.reduceLT, Nat.reduceAdd, Nat.reduceMul, Nat.reduceSub, Nat.reduceEqDiff, Nat.reduceBEq, Int.reduceToNat, reduceCtorEq]
      obtain rfl := Option.some.inj H
      refine RetE_mk [] [none] ?_ ?_ ?_ ?_ (by rfl) (by rfl)
      · simp only [List.length_cons, List.length_nil, Nat.zero_mul, Nat.add_zero, fzV, fzL, fzOb, fzObL, fzH, fzHF, fzB, fzObB, fzObH, inL, rowOb, geth, cond_true, cond_false, Bool.or_false, Bool.or_true, Bool.false_or, Bool.true_or, and_self, true_and, and_true, Nat.reduceEqDiff, Nat.reduceBEq, beq_self_eq_true, sub_enR0, Nat.reduceAdd, Nat.zero_add, Nat.le_refl, List.nil_append]
        try (and_intros <;> first | (with_reducible trivial) | omega | exact nfc | trivial)
      · simp only [List.length_cons, List.length_nil, Nat.zero_mul, Nat.add_zero, fzV, fzL, fzOb, fzObL, fzH, fzHF, fzB, fzObB, fzObH, inL, rowOb, geth, cond_true, cond_false, Bool.or_false, Bool.or_true, Bool.false_or, Bool.true_or, and_self, true_and, and_true, Nat.reduceEqDiff, Nat.reduceBEq, beq_self_eq_true, sub_enR0, Nat.reduceAdd, Nat.zero_add, Nat.le_refl, List.nil_append]
        try (and_intros <;> first | (with_reducible trivial) | omega | exact nfc | trivial)
      · simp only [List.length_cons, List.length_nil, Nat.zero_mul, Nat.add_zero, fzV, fzL, fzOb, fzObL, fzH, fzHF, fzB, fzObB, fzObH, inL, rowOb, geth, cond_true, cond_false, Bool.or_false, Bool.or_true, Bool.false_or, Bool.true_or, and_self, true_and, and_true, Nat.reduceEqDiff, Nat.reduceBEq, beq_self_eq_true, sub_enR0, Nat.reduceAdd, Nat.zero_add, Nat.le_refl, List.nil_append]
        exact Cv_tup (CvL_cons (by first | (simp [Cv, CvL, getM, gt_some]; done) | (simp [Cv, CvL, getM, gt_some]; omega)) (CvL_cons (by simp [Cv, CvL, getM, gt_some]) CvL_nil))
      · simp only [List.length_cons, List.length_nil, Nat.zero_mul, Nat.add_zero, fzV, fzL, fzOb, fzObL, fzH, fzHF, fzB, fzObB, fzObH, inL, rowOb, geth, cond_true, cond_false, Bool.or_false, Bool.or_true, Bool.false_or, Bool.true_or, and_self, true_and, and_true, Nat.reduceEqDiff, Nat.reduceBEq, beq_self_eq_true, sub_enR0, Nat.reduceAdd, Nat.zero_add, Nat.le_refl, List.nil_append, CvH, gt_some, Option.isSome_some, Option.isSome_none]
        exact CvB_none
    replace H := cond_f hc H
    refine rg ctNo_ok ?_
    simp only [go_sem, Nat.reduceLeDiff, Nat.reduceLT, Nat.reduceAdd, Nat.reduceMul, Nat.reduceSub, Nat.reduceEqDiff, Nat.reduceBEq, Int.reduceToNat, reduceCtorEq]
    refine rg ctNo_ok ?_
    simp only [go_sem, Nat.reduceLeDiff, Nat.reduceLT, Nat.reduceAdd, Nat.reduceMul, Nat.reduceSub, Nat.reduceEqDiff, Nat.reduceBEq, Int.reduceToNat, reduceCtorEq, (by decide : wr IntKind.i64 ((1 : Int) + 1) = 2)]
    refine rndM ?_
    refine sq ctNo_ok ?_
    simp only [go_sem, Nat.reduceLeDiff, Nat.reduceLT, Nat.reduceAdd, Nat.reduceMul, Nat.reduceSub, Nat.reduceEqDiff, Nat.reduceBEq, Int.reduceToNat, reduceCtorEq, (by decide : bLt (2) (2) = false)]
    refine seqM ?_
    refine condM rfl trivial (fun hc => ?_) (fun hc => ?_)
    · cases hc
    refine rg ctNo_ok ?_
    simp only [go_sem, Nat.reduceLeDiff, Nat.reduceLT, Nat.reduceAdd, Nat.reduceMul, Nat.reduceSub, Nat.reduceEqDiff, Nat.reduceBEq, Int.reduceToNat, reduceCtorEq]
    refine sq ctNo_ok ?_
    simp only [go_sem, Nat.reduceLeDiff, Nat.reduceLT, Nat.reduceAdd, Nat.reduceMul, Nat.reduceSub, Nat.reduceEqDiff, Nat.reduceBEq, Int.reduceToNat, reduceCtorEq]
    refine seqM ?_
    refine blkM ?_
    refine loop_den (fun s : (List A6u8) × (List A6u8) × (List A6u8) => (.ro 6 s.2.2.length false (enR c_A6u8 s.2.2) :: .ro 6 s.1.length false (enR c_A6u8 s.1) :: .fn 22 [] :: .top :: .top :: .top :: .top :: .top :: .top :: .top :: .top :: .sl 1 6 0 s.2.1.length false :: .top :: .top :: .top :: .top :: .top :: .top :: .top :: .top :: .top :: .top :: .top :: .top :: .top :: .top :: .top :: .top :: .top :: .top :: .top :: .top :: .top :: .top :: .top :: .top :: .top :: .top :: .top :: .top :: .top :: .top :: .top :: .top :: .top :: .top :: .top :: .top :: .top :: .top :: .top :: .top :: .top :: .top :: .top :: .top :: .top :: .top :: .top :: .top :: .top :: .top :: .top :: .top :: .top :: .top :: .top :: .top :: .top :: .top :: .top :: .top :: .top :: .top :: .top :: .top :: .top :: .top :: .top :: [])) (fun s => [.dead, .row 24 6 s.2.1.length (enR c_A6u8 s.2.1)]) (fun e : List A6u8 => (.top :: .top :: .top :: .top :: .top :: .top :: .top :: .top :: .top :: .top :: .top :: .sl 1 6 0 e.length false :: .top :: .top :: .top :: .top :: .top :: .top :: .top :: .top :: .top :: .top :: .top :: .top :: .top :: .top :: .top :: .top :: .top :: .top :: .top :: .top :: .top :: .top :: .top :: .top :: .top :: .top :: .top :: .top :: .top :: .top :: .top :: .top :: .top :: .top :: .top :: .top :: .top :: .top :: .top :: .top :: .top :: .top :: .top :: .top :: .top :: .top :: .top :: .top :: .top :: .top :: .top :: .top :: .top :: .top :: .top :: .top :: .top :: .top :: .top :: .top :: .top :: .top :: .top :: .top :: .top :: .top :: .top :: [])) (fun e => [.dead, .row 24 6 e.length (enR c_A6u8 e)]) H ?_ (fun s o H hn1_1 hn2_1 => ?_) (fun w1_4 H => ?_)
    · refine SubF_of ⟨[some 0, none], ?_, ?_, by rfl, by rfl⟩
      · simp [CvL, Cv, getM]
      · exact ⟨CvB_dead, CvB_none, trivial⟩
    · obtain ⟨v1_1, v1_2, v1_3⟩ := s
      unfold F19_0_L1 at H
      try dsimp only at H ⊢
      refine seqM ?_
      refine sq ctNo_ok ?_
      simp only [go_sem, Nat.reduceLeDiff, Nat.reduceLT, Nat.reduceAdd, Nat.reduceMul, Nat.reduceSub, Nat.reduceEqDiff, Nat.reduceBEq, Int.reduceToNat, reduceCtorEq]
      repeat ((with_reducible refine And.intro ?_ ?_); focus (first | (with_reducible trivial) | omega | (intro g; and_intros <;> first | (with_reducible trivial) | assumption | exact nfc | (intro g2; rw [g, g2]; rfl) | (intro g2; assumption) | (simp only [g, Bool.true_and, Bool.and_true, Bool.not_false, Bool.not_true]; assumption) | grind) | (and_intros <;> first | (with_reducible trivial) | omega | assumption | exact nfc | first | exact rfl | exact trivial | exact fitI | exact Or.inr rfl | exact Or.inl rfl | exact fun x hx => absurd hx (by omega) | (intro x hx; (repeat (first | (and_intros <;> (first | exact rfl | exact trivial | exact fitI | exact Or.inr rfl | exact Or.inl rfl | exact fun x hx => absurd hx (by omega))) | (exfalso; omega) | (rcases x with _ | x))); done)) | grind))
      refine condM' rfl trivial (fun hc => ?_) (fun hc => ?_)
      · replace H := cond_f hc H
        refine rg ctNo_ok ?_
        simp only [go_sem, Nat.reduceLeDiff, Nat.reduceLT, Nat.reduceAdd, Nat.reduceMul, Nat.reduceSub, Nat.reduceEqDiff, Nat.reduceBEq, Int.reduceToNat, reduceCtorEq]
        refine ⟨_, (Option.some.inj H).symm, ?_⟩
        refine SubF_of ⟨[some 0, some 1], ?_, ?_, by rfl, by rfl⟩
        · simp [CvL, Cv, getM]
        · exact ⟨CvB_dead, CvB_row nr_A6u8 (by first | rfl | (simp; done) | (simp; omega)) (fun _ _ _ _ => rfl), trivial⟩
      replace H := cond_t hc H
      refine rg ctNo_ok ?_
      simp only [go_sem, Nat.reduceLeDiff, Nat.reduceLT, Nat.reduceAdd, Nat.reduceMul, Nat.reduceSub, Nat.reduceEqDiff, Nat.reduceBEq, Int.reduceToNat, reduceCtorEq]
      refine blkM ?_
      refine sq ctNo_ok ?_
      simp only [go_sem, Nat.reduceLeDiff, Nat.reduceLT, Nat.reduceAdd, Nat.reduceMul, Nat.reduceSub, Nat.reduceEqDiff, Nat.reduceBEq, Int.reduceToNat, reduceCtorEq]
      refine seqM ?_
      refine blkM ?_
      refine sq ctNo_ok ?_
      simp only [go_sem, Nat.reduceLeDiff, Nat.reduceLT, Nat.reduceAdd, Nat.reduceMul, Nat.reduceSub, Nat.reduceEqDiff, Nat.reduceBEq, Int.reduceToNat, reduceCtorEq]
      repeat ((with_reducible refine And.intro ?_ ?_); focus (first | (with_reducible trivial) | omega | (and_intros <;> first | (with_reducible trivial) | omega | assumption | exact nfc | first | exact rfl | exact trivial | exact fitI | exact Or.inr rfl | exact Or.inl rfl | exact fun x hx => absurd hx (by omega) | (intro x hx; (repeat (first | (and_intros <;> (first | exact rfl | exact trivial | exact fitI | exact Or.inr rfl | exact Or.inl rfl | exact fun x hx => absurd hx (by omega))) | (exfalso; omega) | (rcases x with _ | x))); done)) | grind))
      refine condM rfl trivial (fun hc => ?_) (fun hc => ?_)
      · replace H := cond_t hc H
        refine rg ctNo_ok ?_
        simp only [go_sem, Nat.reduceLeDiff, Nat.reduceLT, Nat.reduceAdd, Nat.reduceMul, Nat.reduceSub, Nat.reduceEqDiff, Nat.reduceBEq, Int.reduceToNat, reduceCtorEq]
        refine sq ctNo_ok ?_
        simp only [go_sem, Nat.reduceLeDiff, Nat.reduceLT, Nat.reduceAdd, Nat.reduceMul, Nat.reduceSub, Nat.reduceEqDiff, Nat.reduceBEq, Int.reduceToNat, reduceCtorEq]
        refine seqM ?_
        refine sq ctNo_ok ?_
        simp only [go_sem, Nat.reduceLeDiff, Nat.reduceLT, Nat.reduceAdd, Nat.reduceMul, Nat.reduceSub, Nat.reduceEqDiff, Nat.reduceBEq, Int.reduceToNat, reduceCtorEq, (by decide : bLe (1) (0) = false)]
        refine condM rfl trivial (fun hc => ?_) (fun hc => ?_)
        · cases hc
        refine rg ctNo_ok ?_
        simp only [go_sem, Nat.reduceLeDiff, Nat.reduceLT, Nat.reduceAdd, Nat.reduceMul, Nat.reduceSub, Nat.reduceEqDiff, Nat.reduceBEq, Int.reduceToNat, reduceCtorEq]
        refine seqM ?_
        refine sq ctNo_ok ?_
        simp only [go_sem, Nat.reduceLeDiff, Nat.reduceLT, Nat.reduceAdd, Nat.reduceMul, Nat.reduceSub, Nat.reduceEqDiff, Nat.reduceBEq, Int.reduceToNat, reduceCtorEq, (by decide : bLe (0) (1) = true)]
        refine condM rfl trivial (fun hc => ?_) (fun hc => ?_)
        rotate_left
        · cases hc
        obtain ⟨f11, H⟩ := need_some.1 H
        replace f11 := inb_iff.1 f11
        obtain ⟨f12, H⟩ := need_some.1 H
        replace f12 := slb_iff.1 f12
        refine draw_rule shT_ok ctNo_ok 0 (by kernel_rfl) (by kernel_rfl) ?_
        intro an han
        simp only [d_nil, d_cons, nxtD, xrD, xoD, roEq, minL, List.append_nil, refsOp, refs, refsL, mask, maskF, place, placeF, okLog, pairOk, hit, inL, slotsF, ren, renL, rnN, nrH, nrB, nrL, nr, dead0, deadS, List.replicate_zero, List.replicate_succ, Nat.sub_self, Nat.add_zero, Nat.zero_add, Nat.reduceSub, Nat.not_lt_zero, Nat.zero_le, Nat.lt_add_one, go_sem, Nat.reduceLeDiff, Nat.reduceLT, Nat.reduceAdd, Nat.reduceMul, Nat.reduceSub, Nat.reduceEqDiff, Nat.reduceBEq, Int.reduceToNat, reduceCtorEq, f11, f12]
        repeat ((with_reducible refine And.intro ?_ ?_); focus (and_intros <;> first | (with_reducible trivial) | (show anB _ _ _ = true; subst han; kernel_rfl) | (show (anB _ _ _ && _) = true; subst han; kernel_rfl) | omega | assumption | exact nrc | exact nfc | first | exact rfl | exact trivial | exact fitI | exact Or.inr rfl | exact Or.inl rfl | exact fun x hx => absurd hx (by omega) | (intro x hx; (repeat (first | (and_intros <;> (first | exact rfl | exact trivial | exact fitI | exact Or.inr rfl | exact Or.inl rfl | exact fun x hx => absurd hx (by omega))) | (exfalso; omega) | (rcases x with _ | x))); done)))
        refine seqM ?_
        obtain ⟨r13, e14, H⟩ := Option.bind_eq_some_iff.1 H
        refine rg ct19_0t1_ok ?_
        simp only [go_sem, Nat.reduceLeDiff, Nat.reduceLT, Nat.reduceAdd, Nat.reduceMul, Nat.reduceSub, Nat.reduceEqDiff, Nat.reduceBEq, Int.reduceToNat, reduceCtorEq, ct19_0t1_22, body22, (by decide : bLe (1) (0) = false), (by decide : bLe (0) (1) = true), e14]
        repeat ((with_reducible refine And.intro ?_ ?_); focus (first | (with_reducible trivial) | omega | (and_intros <;> first | (with_reducible trivial) | omega | assumption | exact nfc | first | exact rfl | exact trivial | exact fitI | exact Or.inr rfl | exact Or.inl rfl | exact fun x hx => absurd hx (by omega) | (intro x hx; (repeat (first | (and_intros <;> (first | exact rfl | exact trivial | exact fitI | exact Or.inr rfl | exact Or.inl rfl | exact fun x hx => absurd hx (by omega))) | (exfalso; omega) | (rcases x with _ | x))); done)) | grind))
        refine condM' rfl trivial (fun hc => ?_) (fun hc => ?_)
        · replace H := cond_f hc H
          refine rg ctNo_ok ?_
          simp only [go_sem, Nat.reduceLeDiff, Nat.reduceLT, Nat.reduceAdd, Nat.reduceMul, Nat.reduceSub, Nat.reduceEqDiff, Nat.reduceBEq, Int.reduceToNat, reduceCtorEq]
          refine ⟨_, (Option.some.inj H).symm, ?_⟩
          refine SubF_of ⟨[some 0, some 1], ?_, ?_, by rfl, by rfl⟩
          · simp [CvL, Cv, getM]
          · exact ⟨CvB_dead, CvB_row nr_A6u8 (by first | rfl | (simp; done) | (simp; omega)) (fun _ _ _ _ => rfl), trivial⟩
        replace H := cond_t hc H
        obtain ⟨f15, H⟩ := need_some.1 H
        replace f15 := capb_iff.1 f15
        refine rg ctNo_ok ?_
        simp only [go_sem, Nat.reduceLeDiff, Nat.reduceLT, Nat.reduceAdd, Nat.reduceMul, Nat.reduceSub, Nat.reduceEqDiff, Nat.reduceBEq, Int.reduceToNat, reduceCtorEq, f15]
        repeat ((with_reducible refine And.intro ?_ ?_); focus (first | (with_reducible trivial) | omega | (and_intros <;> first | (with_reducible trivial) | omega | assumption | exact nfc | first | exact rfl | exact trivial | exact fitI | exact Or.inr rfl | exact Or.inl rfl | exact fun x hx => absurd hx (by omega) | (intro x hx; (repeat (first | (and_intros <;> (first | exact rfl | exact trivial | exact fitI | exact Or.inr rfl | exact Or.inl rfl | exact fun x hx => absurd hx (by omega))) | (exfalso; omega) | (rcases x with _ | x))); done) | (refine Fit_app ?_ ?_ <;> first | exact fitI | (intro x hx; (repeat (first | (and_intros <;> (first | exact rfl | exact trivial | exact fitI | exact Or.inr rfl | exact Or.inl rfl | exact fun x hx => absurd hx (by omega))) | (exfalso; omega) | (rcases x with _ | x))); done) | (refine Fit_app ?_ ?_ <;> first | exact fitI | (intro x hx; (repeat (first | (and_intros <;> (first | exact rfl | exact trivial | exact fitI | exact Or.inr rfl | exact Or.inl rfl | exact fun x hx => absurd hx (by omega))) | (exfalso; omega) | (rcases x with _ | x))); done)))) | grind))
        refine ⟨_, (Option.some.inj H).symm, ?_⟩
        refine SubF_of ⟨[some 0, some 4], ?_, ?_, by rfl, by rfl⟩
        · simp [CvL, Cv, getM]
        · exact ⟨CvB_dead, CvB_row nr_A6u8 (by first | rfl | (simp; done) | (simp; omega)) (app_row (f := c_A6u8) v1_2 [(gd v1_1 0)] (fun _ _ _ _ => rfl) (lit_row (f := c_A6u8) [(gd v1_1 0)] (fun _ _ => rfl) rfl)), trivial⟩
      replace H := cond_f hc H
      refine sq ctNo_ok ?_
      simp only [go_sem, Nat.reduceLeDiff, Nat.reduceLT, Nat.reduceAdd, Nat.reduceMul, Nat.reduceSub, Nat.reduceEqDiff, Nat.reduceBEq, Int.reduceToNat, reduceCtorEq]
      repeat ((with_reducible refine And.intro ?_ ?_); focus (first | (with_reducible trivial) | omega | (and_intros <;> first | (with_reducible trivial) | omega | assumption | exact nfc | first | exact rfl | exact trivial | exact fitI | exact Or.inr rfl | exact Or.inl rfl | exact fun x hx => absurd hx (by omega) | (intro x hx; (repeat (first | (and_intros <;> (first | exact rfl | exact trivial | exact fitI | exact Or.inr rfl | exact Or.inl rfl | exact fun x hx => absurd hx (by omega))) | (exfalso; omega) | (rcases x with _ | x))); done)) | grind))
      refine condM rfl trivial (fun hc => ?_) (fun hc => ?_)
      · replace H := cond_t hc H
        refine rg ctNo_ok ?_
        simp only [go_sem, Nat.reduceLeDiff, Nat.reduceLT, Nat.reduceAdd, Nat.reduceMul, Nat.reduceSub, Nat.reduceEqDiff, Nat.reduceBEq, Int.reduceToNat, reduceCtorEq]
        refine sq ctNo_ok ?_
        simp only [go_sem, Nat.reduceLeDiff, Nat.reduceLT, Nat.reduceAdd, Nat.reduceMul, Nat.reduceSub, Nat.reduceEqDiff, Nat.reduceBEq, Int.reduceToNat, reduceCtorEq]
        refine seqM ?_
        refine sq ctNo_ok ?_
        simp only [go_sem, Nat.reduceLeDiff, Nat.reduceLT, Nat.reduceAdd, Nat.reduceMul, Nat.reduceSub, Nat.reduceEqDiff, Nat.reduceBEq, Int.reduceToNat, reduceCtorEq, (by decide : bLe ((-1)) (0) = true)]
        refine condM rfl trivial (fun hc => ?_) (fun hc => ?_)
        rotate_left
        · cases hc
        obtain ⟨f16, H⟩ := need_some.1 H
        replace f16 := inb_iff.1 f16
        obtain ⟨f17, H⟩ := need_some.1 H
        replace f17 := slb_iff.1 f17
        refine draw_rule shT_ok ctNo_ok 0 (by kernel_rfl) (by kernel_rfl) ?_
        intro an han
        simp only [d_nil, d_cons, nxtD, xrD, xoD, roEq, minL, List.append_nil, refsOp, refs, refsL, mask, maskF, place, placeF, okLog, pairOk, hit, inL, slotsF, ren, renL, rnN, nrH, nrB, nrL, nr, dead0, deadS, List.replicate_zero, List.replicate_succ, Nat.sub_self, Nat.add_zero, Nat.zero_add, Nat.reduceSub, Nat.not_lt_zero, Nat.zero_le, Nat.lt_add_one, go_sem, Nat.reduceLeDiff, Nat.reduceLT, Nat.reduceAdd, Nat.reduceMul, Nat.reduceSub, Nat.reduceEqDiff, Nat.reduceBEq, Int.reduceToNat, reduceCtorEq, f16, f17]
        repeat ((with_reducible refine And.intro ?_ ?_); focus (and_intros <;> first | (with_reducible trivial) | (show anB _ _ _ = true; subst han; kernel_rfl) | (show (anB _ _ _ && _) = true; subst han; kernel_rfl) | omega | assumption | exact nrc | exact nfc | first | exact rfl | exact trivial | exact fitI | exact Or.inr rfl | exact Or.inl rfl | exact fun x hx => absurd hx (by omega) | (intro x hx; (repeat (first | (and_intros <;> (first | exact rfl | exact trivial | exact fitI | exact Or.inr rfl | exact Or.inl rfl | exact fun x hx => absurd hx (by omega))) | (exfalso; omega) | (rcases x with _ | x))); done)))
        refine seqM ?_
        refine sq ctNo_ok ?_
        simp only [go_sem, Nat.reduceLeDiff, Nat.reduceLT, Nat.reduceAdd, Nat.reduceMul, Nat.reduceSub, Nat.reduceEqDiff, Nat.reduceBEq, Int.reduceToNat, reduceCtorEq, (by decide : bLe (0) ((-1)) = false)]
        refine condM rfl trivial (fun hc => ?_) (fun hc => ?_)
        · cases hc
        refine rg ctNo_ok ?_
        simp only [go_sem, Nat.reduceLeDiff, Nat.reduceLT, Nat.reduceAdd, Nat.reduceMul, Nat.reduceSub, Nat.reduceEqDiff, Nat.reduceBEq, Int.reduceToNat, reduceCtorEq]
        refine seqM ?_
        obtain ⟨r18, e19, H⟩ := Option.bind_eq_some_iff.1 H
        refine rg ct19_0t1_ok ?_
        simp only [go_sem, Nat.reduceLeDiff, Nat.reduceLT, Nat.reduceAdd, Nat.reduceMul, Nat.reduceSub, Nat.reduceEqDiff, Nat.reduceBEq, Int.reduceToNat, reduceCtorEq, ct19_0t1_22, body22, (by decide : bLe ((-1)) (0) = true), (by decide : bLe (0) ((-1)) = false), e19]
        repeat ((with_reducible refine And.intro ?_ ?_); focus (first | (with_reducible trivial) | omega | (and_intros <;> first | (with_reducible trivial) | omega | assumption | exact nfc | first | exact rfl | exact trivial | exact fitI | exact Or.inr rfl | exact Or.inl rfl | exact fun x hx => absurd hx (by omega) | (intro x hx; (repeat (first | (and_intros <;> (first | exact rfl | exact trivial | exact fitI | exact Or.inr rfl | exact Or.inl rfl | exact fun x hx => absurd hx (by omega))) | (exfalso; omega) | (rcases x with _ | x))); done)) | grind))
        refine condM' rfl trivial (fun hc => ?_) (fun hc => ?_)
        · replace H := cond_f hc H
          refine rg ctNo_ok ?_
          simp only [go_sem, Nat.reduceLeDiff, Nat.reduceLT, Nat.reduceAdd, Nat.reduceMul, Nat.reduceSub, Nat.reduceEqDiff, Nat.reduceBEq, Int.reduceToNat, reduceCtorEq]
          refine ⟨_, (Option.some.inj H).symm, ?_⟩
          refine SubF_of ⟨[some 0, some 1], ?_, ?_, by rfl, by rfl⟩
          · simp [CvL, Cv, getM]
          · exact ⟨CvB_dead, CvB_row nr_A6u8 (by first | rfl | (simp; done) | (simp; omega)) (fun _ _ _ _ => rfl), trivial⟩
        replace H := cond_t hc H
        obtain ⟨f20, H⟩ := need_some.1 H
        replace f20 := capb_iff.1 f20
        refine rg ctNo_ok ?_
        simp only [go_sem, Nat.reduceLeDiff, Nat.reduceLT, Nat.reduceAdd, Nat.reduceMul, Nat.reduceSub, Nat.reduceEqDiff, Nat.reduceBEq, Int.reduceToNat, reduceCtorEq, f20]
        repeat ((with_reducible refine And.intro ?_ ?_); focus (first | (with_reducible trivial) | omega | (and_intros <;> first | (with_reducible trivial) | omega | assumption | exact nfc | first | exact rfl | exact trivial | exact fitI | exact Or.inr rfl | exact Or.inl rfl | exact fun x hx => absurd hx (by omega) | (intro x hx; (repeat (first | (and_intros <;> (first | exact rfl | exact trivial | exact fitI | exact Or.inr rfl | exact Or.inl rfl | exact fun x hx => absurd hx (by omega))) | (exfalso; omega) | (rcases x with _ | x))); done) | (refine Fit_app ?_ ?_ <;> first | exact fitI | (intro x hx; (repeat (first | (and_intros <;> (first | exact rfl | exact trivial | exact fitI | exact Or.inr rfl | exact Or.inl rfl | exact fun x hx => absurd hx (by omega))) | (exfalso; omega) | (rcases x with _ | x))); done) | (refine Fit_app ?_ ?_ <;> first | exact fitI | (intro x hx; (repeat (first | (and_intros <;> (first | exact rfl | exact trivial | exact fitI | exact Or.inr rfl | exact Or.inl rfl | exact fun x hx => absurd hx (by omega))) | (exfalso; omega) | (rcases x with _ | x))); done)))) | grind))
        refine ⟨_, (Option.some.inj H).symm, ?_⟩
        refine SubF_of ⟨[some 0, some 4], ?_, ?_, by rfl, by rfl⟩
        · simp [CvL, Cv, getM]
        · exact ⟨CvB_dead, CvB_row nr_A6u8 (by first | rfl | (simp; done) | (simp; omega)) (app_row (f := c_A6u8) v1_2 [(gd v1_3 0)] (fun _ _ _ _ => rfl) (lit_row (f := c_A6u8) [(gd v1_3 0)] (fun _ _ => rfl) rfl)), trivial⟩
      replace H := cond_f hc H
      obtain ⟨f21, H⟩ := need_some.1 H
      replace f21 := inb_iff.1 f21
      obtain ⟨f22, H⟩ := need_some.1 H
      replace f22 := inb_iff.1 f22
      obtain ⟨r23, e24, H⟩ := Option.bind_eq_some_iff.1 H
      refine draw_quiet shT_ok ct19_0t2_ok (by kernel_rfl) (by kernel_rfl) ?_
      simp only [go_sem, Nat.reduceLeDiff, Nat.reduceLT, Nat.reduceAdd, Nat.reduceMul, Nat.reduceSub, Nat.reduceEqDiff, Nat.reduceBEq, Int.reduceToNat, reduceCtorEq, ct19_0t2_24, body24, f21, f22, e24]
      repeat ((with_reducible refine And.intro ?_ ?_); focus (first | (with_reducible trivial) | omega | (and_intros <;> first | (with_reducible trivial) | omega | assumption | exact nfc | first | exact rfl | exact trivial | exact fitI | exact Or.inr rfl | exact Or.inl rfl | exact fun x hx => absurd hx (by omega) | (intro x hx; (repeat (first | (and_intros <;> (first | exact rfl | exact trivial | exact fitI | exact Or.inr rfl | exact Or.inl rfl | exact fun x hx => absurd hx (by omega))) | (exfalso; omega) | (rcases x with _ | x))); done)) | grind))
      refine sq ctNo_ok ?_
      simp only [go_sem, Nat.reduceLeDiff, Nat.reduceLT, Nat.reduceAdd, Nat.reduceMul, Nat.reduceSub, Nat.reduceEqDiff, Nat.reduceBEq, Int.reduceToNat, reduceCtorEq]
      refine seqM ?_
      refine sq ctNo_ok ?_
      simp only [go_sem, Nat.reduceLeDiff, Nat.reduceLT, Nat.reduceAdd, Nat.reduceMul, Nat.reduceSub, Nat.reduceEqDiff, Nat.reduceBEq, Int.reduceToNat, reduceCtorEq]
      refine condM' rfl trivial (fun hc => ?_) (fun hc => ?_)
      · replace H := cond_f hc H
        refine rg ctNo_ok ?_
        simp only [go_sem, Nat.reduceLeDiff, Nat.reduceLT, Nat.reduceAdd, Nat.reduceMul, Nat.reduceSub, Nat.reduceEqDiff, Nat.reduceBEq, Int.reduceToNat, reduceCtorEq]
        refine seqM ?_
        refine sq ctNo_ok ?_
        simp only [go_sem, Nat.reduceLeDiff, Nat.reduceLT, Nat.reduceAdd, Nat.reduceMul, Nat.reduceSub, Nat.reduceEqDiff, Nat.reduceBEq, Int.reduceToNat, reduceCtorEq]
        refine condM' rfl trivial (fun hc => ?_) (fun hc => ?_)
        · replace H := cond_f hc H
          refine rg ctNo_ok ?_
          simp only [go_sem, Nat.reduceLeDiff, Nat.reduceLT, Nat.reduceAdd, Nat.reduceMul, Nat.reduceSub, Nat.reduceEqDiff, Nat.reduceBEq, Int.reduceToNat, reduceCtorEq]
          refine seqM ?_
          obtain ⟨r40, e41, H⟩ := Option.bind_eq_some_iff.1 H
          refine rg ct19_0t1_ok ?_
          simp only [go_sem, Nat.reduceLeDiff, Nat.reduceLT, Nat.reduceAdd, Nat.reduceMul, Nat.reduceSub, Nat.reduceEqDiff, Nat.reduceBEq, Int.reduceToNat, reduceCtorEq, ct19_0t1_22, body22, e41]
          repeat ((with_reducible refine And.intro ?_ ?_); focus (first | (with_reducible trivial) | omega | (and_intros <;> first | (with_reducible trivial) | omega | assumption | exact nfc | first | exact rfl | exact trivial | exact fitI | exact Or.inr rfl | exact Or.inl rfl | exact fun x hx => absurd hx (by omega) | (intro x hx; (repeat (first | (and_intros <;> (first | exact rfl | exact trivial | exact fitI | exact Or.inr rfl | exact Or.inl rfl | exact fun x hx => absurd hx (by omega))) | (exfalso; omega) | (rcases x with _ | x))); done)) | grind))
          refine condM' rfl trivial (fun hc => ?_) (fun hc => ?_)
          · replace H := cond_f hc H
            refine rg ctNo_ok ?_
            simp only [go_sem, Nat.reduceLeDiff, Nat.reduceLT, Nat.reduceAdd, Nat.reduceMul, Nat.reduceSub, Nat.reduceEqDiff, Nat.reduceBEq, Int.reduceToNat, reduceCtorEq]
            refine ⟨_, (Option.some.inj H).symm, ?_⟩
            refine SubF_of ⟨[some 0, some 1], ?_, ?_, by rfl, by rfl⟩
            · simp [CvL, Cv, getM]
            · exact ⟨CvB_dead, CvB_row nr_A6u8 (by first | rfl | (simp; done) | (simp; omega)) (fun _ _ _ _ => rfl), trivial⟩
          replace H := cond_t hc H
          obtain ⟨f42, H⟩ := need_some.1 H
          replace f42 := capb_iff.1 f42
          refine rg ctNo_ok ?_
          simp only [go_sem, Nat.reduceLeDiff, Nat.reduceLT, Nat.reduceAdd, Nat.reduceMul, Nat.reduceSub, Nat.reduceEqDiff, Nat.reduceBEq, Int.reduceToNat, reduceCtorEq, f42]
          repeat ((with_reducible refine And.intro ?_ ?_); focus (first | (with_reducible trivial) | omega | (and_intros <;> first | (with_reducible trivial) | omega | assumption | exact nfc | first | exact rfl | exact trivial | exact fitI | exact Or.inr rfl | exact Or.inl rfl | exact fun x hx => absurd hx (by omega) | (intro x hx; (repeat (first | (and_intros <;> (first | exact rfl | exact trivial | exact fitI | exact Or.inr rfl | exact Or.inl rfl | exact fun x hx => absurd hx (by omega))) | (exfalso; omega) | (rcases x with _ | x))); done) | (refine Fit_app ?_ ?_ <;> first | exact fitI | (intro x hx; (repeat (first | (and_intros <;> (first | exact rfl | exact trivial | exact fitI | exact Or.inr rfl | exact Or.inl rfl | exact fun x hx => absurd hx (by omega))) | (exfalso; omega) | (rcases x with _ | x))); done) | (refine Fit_app ?_ ?_ <;> first | exact fitI | (intro x hx; (repeat (first | (and_intros <;> (first | exact rfl | exact trivial | exact fitI | exact Or.inr rfl | exact Or.inl rfl | exact fun x hx => absurd hx (by omega))) | (exfalso; omega) | (rcases x with _ | x))); done)))) | grind))
          refine ⟨_, (Option.some.inj H).symm, ?_⟩
          refine SubF_of ⟨[some 0, some 4], ?_, ?_, by rfl, by rfl⟩
          · simp [CvL, Cv, getM]
          · exact ⟨CvB_dead, CvB_row nr_A6u8 (by first | rfl | (simp; done) | (simp; omega)) (app_row (f := c_A6u8) v1_2 [(A6u8.mk 0 0 0 0 0 0)] (fun _ _ _ _ => rfl) (lit_row (f := c_A6u8) [(A6u8.mk 0 0 0 0 0 0)] (fun _ _ => rfl) rfl)), trivial⟩
        replace H := cond_t hc H
        obtain ⟨f35, H⟩ := need_some.1 H
        replace f35 := inb_iff.1 f35
        obtain ⟨f36, H⟩ := need_some.1 H
        replace f36 := slb_iff.1 f36
        refine draw_rule shT_ok ctNo_ok 0 (by kernel_rfl) (by kernel_rfl) ?_
        intro an han
        simp only [d_nil, d_cons, nxtD, xrD, xoD, roEq, minL, List.append_nil, refsOp, refs, refsL, mask, maskF, place, placeF, okLog, pairOk, hit, inL, slotsF, ren, renL, rnN, nrH, nrB, nrL, nr, dead0, deadS, List.replicate_zero, List.replicate_succ, Nat.sub_self, Nat.add_zero, Nat.zero_add, Nat.reduceSub, Nat.not_lt_zero, Nat.zero_le, Nat.lt_add_one, go_sem, Nat.reduceLeDiff, Nat.reduceLT, Nat.reduceAdd, Nat.reduceMul, Nat.reduceSub, Nat.reduceEqDiff, Nat.reduceBEq, Int.reduceToNat, reduceCtorEq, f35, f36]
        repeat ((with_reducible refine And.intro ?_ ?_); focus (and_intros <;> first | (with_reducible trivial) | (show anB _ _ _ = true; subst han; kernel_rfl) | (show (anB _ _ _ && _) = true; subst han; kernel_rfl) | omega | assumption | exact nrc | exact nfc | first | exact rfl | exact trivial | exact fitI | exact Or.inr rfl | exact Or.inl rfl | exact fun x hx => absurd hx (by omega) | (intro x hx; (repeat (first | (and_intros <;> (first | exact rfl | exact trivial | exact fitI | exact Or.inr rfl | exact Or.inl rfl | exact fun x hx => absurd hx (by omega))) | (exfalso; omega) | (rcases x with _ | x))); done)))
        refine seqM ?_
        obtain ⟨r37, e38, H⟩ := Option.bind_eq_some_iff.1 H
        refine rg ct19_0t1_ok ?_
        simp only [go_sem, Nat.reduceLeDiff, Nat.reduceLT, Nat.reduceAdd, Nat.reduceMul, Nat.reduceSub, Nat.reduceEqDiff, Nat.reduceBEq, Int.reduceToNat, reduceCtorEq, ct19_0t1_22, body22, e38]
        repeat ((with_reducible refine And.intro ?_ ?_); focus (first | (with_reducible trivial) | omega | (and_intros <;> first | (with_reducible trivial) | omega | assumption | exact nfc | first | exact rfl | exact trivial | exact fitI | exact Or.inr rfl | exact Or.inl rfl | exact fun x hx => absurd hx (by omega) | (intro x hx; (repeat (first | (and_intros <;> (first | exact rfl | exact trivial | exact fitI | exact Or.inr rfl | exact Or.inl rfl | exact fun x hx => absurd hx (by omega))) | (exfalso; omega) | (rcases x with _ | x))); done)) | grind))
        refine condM' rfl trivial (fun hc => ?_) (fun hc => ?_)
        · replace H := cond_f hc H
          refine rg ctNo_ok ?_
          simp only [go_sem, Nat.reduceLeDiff, Nat.reduceLT, Nat.reduceAdd, Nat.reduceMul, Nat.reduceSub, Nat.reduceEqDiff, Nat.reduceBEq, Int.reduceToNat, reduceCtorEq]
          refine ⟨_, (Option.some.inj H).symm, ?_⟩
          refine SubF_of ⟨[some 0, some 1], ?_, ?_, by rfl, by rfl⟩
          · simp [CvL, Cv, getM]
          · exact ⟨CvB_dead, CvB_row nr_A6u8 (by first | rfl | (simp; done) | (simp; omega)) (fun _ _ _ _ => rfl), trivial⟩
        replace H := cond_t hc H
        obtain ⟨f39, H⟩ := need_some.1 H
        replace f39 := capb_iff.1 f39
        refine rg ctNo_ok ?_
        simp only [go_sem, Nat.reduceLeDiff, Nat.reduceLT, Nat.reduceAdd, Nat.reduceMul, Nat.reduceSub, Nat.reduceEqDiff, Nat.reduceBEq, Int.reduceToNat, reduceCtorEq, f39]
        repeat ((with_reducible refine And.intro ?_ ?_); focus (first | (with_reducible trivial) | omega | (and_intros <;> first | (with_reducible trivial) | omega | assumption | exact nfc | first | exact rfl | exact trivial | exact fitI | exact Or.inr rfl | exact Or.inl rfl | exact fun x hx => absurd hx (by omega) | (intro x hx; (repeat (first | (and_intros <;> (first | exact rfl | exact trivial | exact fitI | exact Or.inr rfl | exact Or.inl rfl | exact fun x hx => absurd hx (by omega))) | (exfalso; omega) | (rcases x with _ | x))); done) | (refine Fit_app ?_ ?_ <;> first | exact fitI | (intro x hx; (repeat (first | (and_intros <;> (first | exact rfl | exact trivial | exact fitI | exact Or.inr rfl | exact Or.inl rfl | exact fun x hx => absurd hx (by omega))) | (exfalso; omega) | (rcases x with _ | x))); done) | (refine Fit_app ?_ ?_ <;> first | exact fitI | (intro x hx; (repeat (first | (and_intros <;> (first | exact rfl | exact trivial | exact fitI | exact Or.inr rfl | exact Or.inl rfl | exact fun x hx => absurd hx (by omega))) | (exfalso; omega) | (rcases x with _ | x))); done)))) | grind))
        refine ⟨_, (Option.some.inj H).symm, ?_⟩
        refine SubF_of ⟨[some 0, some 4], ?_, ?_, by rfl, by rfl⟩
        · simp [CvL, Cv, getM]
        · exact ⟨CvB_dead, CvB_row nr_A6u8 (by first | rfl | (simp; done) | (simp; omega)) (app_row (f := c_A6u8) v1_2 [(gd v1_1 0)] (fun _ _ _ _ => rfl) (lit_row (f := c_A6u8) [(gd v1_1 0)] (fun _ _ => rfl) rfl)), trivial⟩
      replace H := cond_t hc H
      obtain ⟨f25, H⟩ := need_some.1 H
      replace f25 := inb_iff.1 f25
      obtain ⟨f26, H⟩ := need_some.1 H
      replace f26 := slb_iff.1 f26
      refine draw_rule shT_ok ctNo_ok 0 (by kernel_rfl) (by kernel_rfl) ?_
      intro an han
      simp only [d_nil, d_cons, nxtD, xrD, xoD, roEq, minL, List.append_nil, refsOp, refs, refsL, mask, maskF, place, placeF, okLog, pairOk, hit, inL, slotsF, ren, renL, rnN, nrH, nrB, nrL, nr, dead0, deadS, List.replicate_zero, List.replicate_succ, Nat.sub_self, Nat.add_zero, Nat.zero_add, Nat.reduceSub, Nat.not_lt_zero, Nat.zero_le, Nat.lt_add_one, go_sem, Nat.reduceLeDiff, Nat.reduceLT, Nat.reduceAdd, Nat.reduceMul, Nat.reduceSub, Nat.reduceEqDiff, Nat.reduceBEq, Int.reduceToNat, reduceCtorEq, f25, f26]
      repeat ((with_reducible refine And.intro ?_ ?_); focus (and_intros <;> first | (with_reducible trivial) | (show anB _ _ _ = true; subst han; kernel_rfl) | (show (anB _ _ _ && _) = true; subst han; kernel_rfl) | omega | assumption | exact nrc | exact nfc | first | exact rfl | exact trivial | exact fitI | exact Or.inr rfl | exact Or.inl rfl | exact fun x hx => absurd hx (by omega) | (intro x hx; (repeat (first | (and_intros <;> (first | exact rfl | exact trivial | exact fitI | exact Or.inr rfl | exact Or.inl rfl | exact fun x hx => absurd hx (by omega))) | (exfalso; omega) | (rcases x with _ | x))); done)))
      refine seqM ?_
      refine sq ctNo_ok ?_
      simp only [go_sem, Nat.reduceLeDiff, Nat.reduceLT, Nat.reduceAdd, Nat.reduceMul, Nat.reduceSub, Nat.reduceEqDiff, Nat.reduceBEq, Int.reduceToNat, reduceCtorEq]
      refine condM' rfl trivial (fun hc => ?_) (fun hc => ?_)
      · replace H := cond_f hc H
        refine rg ctNo_ok ?_
        simp only [go_sem, Nat.reduceLeDiff, Nat.reduceLT, Nat.reduceAdd, Nat.reduceMul, Nat.reduceSub, Nat.reduceEqDiff, Nat.reduceBEq, Int.reduceToNat, reduceCtorEq]
        refine seqM ?_
        obtain ⟨r32, e33, H⟩ := Option.bind_eq_some_iff.1 H
        refine rg ct19_0t1_ok ?_
        simp only [go_sem, Nat.reduceLeDiff, Nat.reduceLT, Nat.reduceAdd, Nat.reduceMul, Nat.reduceSub, Nat.reduceEqDiff, Nat.reduceBEq, Int.reduceToNat, reduceCtorEq, ct19_0t1_22, body22, e33]
        repeat ((with_reducible refine And.intro ?_ ?_); focus (first | (with_reducible trivial) | omega | (and_intros <;> first | (with_reducible trivial) | omega | assumption | exact nfc | first | exact rfl | exact trivial | exact fitI | exact Or.inr rfl | exact Or.inl rfl | exact fun x hx => absurd hx (by omega) | (intro x hx; (repeat (first | (and_intros <;> (first | exact rfl | exact trivial | exact fitI | exact Or.inr rfl | exact Or.inl rfl | exact fun x hx => absurd hx (by omega))) | (exfalso; omega) | (rcases x with _ | x))); done)) | grind))
        refine condM' rfl trivial (fun hc => ?_) (fun hc => ?_)
        · replace H := cond_f hc H
          refine rg ctNo_ok ?_
          simp only [go_sem, Nat.reduceLeDiff, Nat.reduceLT, Nat.reduceAdd, Nat.reduceMul, Nat.reduceSub, Nat.reduceEqDiff, Nat.reduceBEq, Int.reduceToNat, reduceCtorEq]
          refine ⟨_, (Option.some.inj H).symm, ?_⟩
          refine SubF_of ⟨[some 0, some 1], ?_, ?_, by rfl, by rfl⟩
          · simp [CvL, Cv, getM]
          · exact ⟨CvB_dead, CvB_row nr_A6u8 (by first | rfl | (simp; done) | (simp; omega)) (fun _ _ _ _ => rfl), trivial⟩
        replace H := cond_t hc H
        obtain ⟨f34, H⟩ := need_some.1 H
        replace f34 := capb_iff.1 f34
        refine rg ctNo_ok ?_
        simp only [go_sem, Nat.reduceLeDiff, Nat.reduceLT, Nat.reduceAdd, Nat.reduceMul, Nat.reduceSub, Nat.reduceEqDiff, Nat.reduceBEq, Int.reduceToNat, reduceCtorEq, f34]
        repeat ((with_reducible refine And.intro ?_ ?_); focus (first | (with_reducible trivial) | omega | (and_intros <;> first | (with_reducible trivial) | omega | assumption | exact nfc | first | exact rfl | exact trivial | exact fitI | exact Or.inr rfl | exact Or.inl rfl | exact fun x hx => absurd hx (by omega) | (intro x hx; (repeat (first | (and_intros <;> (first | exact rfl | exact trivial | exact fitI | exact Or.inr rfl | exact Or.inl rfl | exact fun x hx => absurd hx (by omega))) | (exfalso; omega) | (rcases x with _ | x))); done) | (refine Fit_app ?_ ?_ <;> first | exact fitI | (intro x hx; (repeat (first | (and_intros <;> (first | exact rfl | exact trivial | exact fitI | exact Or.inr rfl | exact Or.inl rfl | exact fun x hx => absurd hx (by omega))) | (exfalso; omega) | (rcases x with _ | x))); done) | (refine Fit_app ?_ ?_ <;> first | exact fitI | (intro x hx; (repeat (first | (and_intros <;> (first | exact rfl | exact trivial | exact fitI | exact Or.inr rfl | exact Or.inl rfl | exact fun x hx => absurd hx (by omega))) | (exfalso; omega) | (rcases x with _ | x))); done)))) | grind))
        refine ⟨_, (Option.some.inj H).symm, ?_⟩
        refine SubF_of ⟨[some 0, some 4], ?_, ?_, by rfl, by rfl⟩
        · simp [CvL, Cv, getM]
        · exact ⟨CvB_dead, CvB_row nr_A6u8 (by first | rfl | (simp; done) | (simp; omega)) (app_row (f := c_A6u8) v1_2 [(gd v1_3 0)] (fun _ _ _ _ => rfl) (lit_row (f := c_A6u8) [(gd v1_3 0)] (fun _ _ => rfl) rfl)), trivial⟩
      replace H := cond_t hc H
      obtain ⟨f27, H⟩ := need_some.1 H
      replace f27 := inb_iff.1 f27
      obtain ⟨f28, H⟩ := need_some.1 H
      replace f28 := slb_iff.1 f28
      refine draw_rule shT_ok ctNo_ok 0 (by kernel_rfl) (by kernel_rfl) ?_
      intro an han
      simp only [d_nil, d_cons, nxtD, xrD, xoD, roEq, minL, List.append_nil, refsOp, refs, refsL, mask, maskF, place, placeF, okLog, pairOk, hit, inL, slotsF, ren, renL, rnN, nrH, nrB, nrL, nr, dead0, deadS, List.replicate_zero, List.replicate_succ, Nat.sub_self, Nat.add_zero, Nat.zero_add, Nat.reduceSub, Nat.not_lt_zero, Nat.zero_le, Nat.lt_add_one, go_sem, Nat.reduceLeDiff, Nat.reduceLT, Nat.reduceAdd, Nat.reduceMul, Nat.reduceSub, Nat.reduceEqDiff, Nat.reduceBEq, Int.reduceToNat, reduceCtorEq, f27, f28]
      repeat ((with_reducible refine And.intro ?_ ?_); focus (and_intros <;> first | (with_reducible trivial) | (show anB _ _ _ = true; subst han; kernel_rfl) | (show (anB _ _ _ && _) = true; subst han; kernel_rfl) | omega | assumption | exact nrc | exact nfc | first | exact rfl | exact trivial | exact fitI | exact Or.inr rfl | exact Or.inl rfl | exact fun x hx => absurd hx (by omega) | (intro x hx; (repeat (first | (and_intros <;> (first | exact rfl | exact trivial | exact fitI | exact Or.inr rfl | exact Or.inl rfl | exact fun x hx => absurd hx (by omega))) | (exfalso; omega) | (rcases x with _ | x))); done)))
      refine seqM ?_
      obtain ⟨r29, e30, H⟩ := Option.bind_eq_some_iff.1 H
      refine rg ct19_0t1_ok ?_
      simp only [go_sem, Nat.reduceLeDiff, Nat.reduceLT, Nat.reduceAdd, Nat.reduceMul, Nat.reduceSub, Nat.reduceEqDiff, Nat.reduceBEq, Int.reduceToNat, reduceCtorEq, ct19_0t1_22, body22, e30]
      repeat ((with_reducible refine And.intro ?_ ?_); focus (first | (with_reducible trivial) | omega | (and_intros <;> first | (with_reducible trivial) | omega | assumption | exact nfc | first | exact rfl | exact trivial | exact fitI | exact Or.inr rfl | exact Or.inl rfl | exact fun x hx => absurd hx (by omega) | (intro x hx; (repeat (first | (and_intros <;> (first | exact rfl | exact trivial | exact fitI | exact Or.inr rfl | exact Or.inl rfl | exact fun x hx => absurd hx (by omega))) | (exfalso; omega) | (rcases x with _ | x))); done)) | grind))
      refine condM' rfl trivial (fun hc => ?_) (fun hc => ?_)
      · replace H := cond_f hc H
        refine rg ctNo_ok ?_
        simp only [go_sem, Nat.reduceLeDiff, Nat.reduceLT, Nat.reduceAdd, Nat.reduceMul, Nat.reduceSub, Nat.reduceEqDiff, Nat.reduceBEq, Int.reduceToNat, reduceCtorEq]
        refine ⟨_, (Option.some.inj H).symm, ?_⟩
        refine SubF_of ⟨[some 0, some 1], ?_, ?_, by rfl, by rfl⟩
        · simp [CvL, Cv, getM]
        · exact ⟨CvB_dead, CvB_row nr_A6u8 (by first | rfl | (simp; done) | (simp; omega)) (fun _ _ _ _ => rfl), trivial⟩
      replace H := cond_t hc H
      obtain ⟨f31, H⟩ := need_some.1 H
      replace f31 := capb_iff.1 f31
      refine rg ctNo_ok ?_
      simp only [go_sem, Nat.reduceLeDiff, Nat.reduceLT, Nat.reduceAdd, Nat.reduceMul, Nat.reduceSub, Nat.reduceEqDiff, Nat.reduceBEq, Int.reduceToNat, reduceCtorEq, f31]
      repeat ((with_reducible refine And.intro ?_ ?_); focus (first | (with_reducible trivial) | omega | (and_intros <;> first | (with_reducible trivial) | omega | assumption | exact nfc | first | exact rfl | exact trivial | exact fitI | exact Or.inr rfl | exact Or.inl rfl | exact fun x hx => absurd hx (by omega) | (intro x hx; (repeat (first | (and_intros <;> (first | exact rfl | exact trivial | exact fitI | exact Or.inr rfl | exact Or.inl rfl | exact fun x hx => absurd hx (by omega))) | (exfalso; omega) | (rcases x with _ | x))); done) | (refine Fit_app ?_ ?_ <;> first | exact fitI | (intro x hx; (repeat (first | (and_intros <;> (first | exact rfl | exact trivial | exact fitI | exact Or.inr rfl | exact Or.inl rfl | exact fun x hx => absurd hx (by omega))) | (exfalso; omega) | (rcases x with _ | x))); done) | (refine Fit_app ?_ ?_ <;> first | exact fitI | (intro x hx; (repeat (first | (and_intros <;> (first | exact rfl | exact trivial | exact fitI | exact Or.inr rfl | exact Or.inl rfl | exact fun x hx => absurd hx (by omega))) | (exfalso; omega) | (rcases x with _ | x))); done)))) | grind))
      refine ⟨_, (Option.some.inj H).symm, ?_⟩
      refine SubF_of ⟨[some 0, some 4], ?_, ?_, by rfl, by rfl⟩
      · simp [CvL, Cv, getM]
      · exact ⟨CvB_dead, CvB_row nr_A6u8 (by first | rfl | (simp; done) | (simp; omega)) (app_row (f := c_A6u8) v1_2 [(gd v1_1 0)] (fun _ _ _ _ => rfl) (lit_row (f := c_A6u8) [(gd v1_1 0)] (fun _ _ => rfl) rfl)), trivial⟩
    · try dsimp only at H ⊢
      try simp only [m_normal, k_normal, b_normal, kL_normal, r_normal]
      refine seqM ?_
      refine sq ctNo_ok ?_
      simp only [go_sem, Nat.reduceLeDiff, Nat.reduceLT, Nat.reduceAdd, Nat.reduceMul, Nat.reduceSub, Nat.reduceEqDiff, Nat.reduceBEq, Int.reduceToNat, reduceCtorEq]
      repeat ((with_reducible refine And.intro ?_ ?_); focus (first | (with_reducible trivial) | omega | (and_intros <;> first | (with_reducible trivial) | omega | assumption | exact nfc | first | exact rfl | exact trivial | exact fitI | exact Or.inr rfl | exact Or.inl rfl | exact fun x hx => absurd hx (by omega) | (intro x hx; (repeat (first | (and_intros <;> (first | exact rfl | exact trivial | exact fitI | exact Or.inr rfl | exact Or.inl rfl | exact fun x hx => absurd hx (by omega))) | (exfalso; omega) | (rcases x with _ | x))); done)) | grind))
      refine condM rfl trivial (fun hc => ?_) (fun hc => ?_)
      · replace H := cond_t hc H
        refine sq ctNo_ok ?_
        simp only [go_sem, Nat.reduceLeDiff, Nat.reduceLT, Nat.reduceAdd, Nat.reduceMul, Nat.reduceSub, Nat.reduceEqDiff, Nat.reduceBEq, Int.reduceToNat, reduceCtorEq]
        refine rg ctNo_ok ?_
        simp only [go_sem, Nat.reduceLeDiff, Nat.reduceLT, Nat.reduceAdd, Nat.reduceMul, Nat.reduceSub, Nat.reduceEqDiff, Nat.reduceBEq, Int.reduceToNat, reduceCtorEq]
        obtain rfl := Option.some.inj H
        refine RetE_mk [] [none] ?_ ?_ ?_ ?_ (by rfl) (by rfl)
        · simp only [List.length_cons, List.length_nil, Nat.zero_mul, Nat.add_zero, fzV, fzL, fzOb, fzObL, fzH, fzHF, fzB, fzObB, fzObH, inL, rowOb, geth, cond_true, cond_false, Bool.or_false, Bool.or_true, Bool.false_or, Bool.true_or, and_self, true_and, and_true, Nat.reduceEqDiff, Nat.reduceBEq, beq_self_eq_true, sub_enR0, Nat.reduceAdd, Nat.zero_add, Nat.le_refl, List.nil_append]
          try (and_intros <;> first | (with_reducible trivial) | omega | exact nfc | trivial)
        · simp only [List.length_cons, List.length_nil, Nat.zero_mul, Nat.add_zero, fzV, fzL, fzOb, fzObL, fzH, fzHF, fzB, fzObB, fzObH, inL, rowOb, geth, cond_true, cond_false, Bool.or_false, Bool.or_true, Bool.false_or, Bool.true_or, and_self, true_and, and_true, Nat.reduceEqDiff, Nat.reduceBEq, beq_self_eq_true, sub_enR0, Nat.reduceAdd, Nat.zero_add, Nat.le_refl, List.nil_append]
          try (and_intros <;> first | (with_reducible trivial) | omega | exact nfc | trivial)
        · simp only [List.length_cons, List.length_nil, Nat.zero_mul, Nat.add_zero, fzV, fzL, fzOb, fzObL, fzH, fzHF, fzB, fzObB, fzObH, inL, rowOb, geth, cond_true, cond_false, Bool.or_false, Bool.or_true, Bool.false_or, Bool.true_or, and_self, true_and, and_true, Nat.reduceEqDiff, Nat.reduceBEq, beq_self_eq_true, sub_enR0, Nat.reduceAdd, Nat.zero_add, Nat.le_refl, List.nil_append]
          exact Cv_tup (CvL_cons (by first | (simp [Cv, CvL, getM, gt_some]; done) | (simp [Cv, CvL, getM, gt_some]; omega)) (CvL_cons (by simp [Cv, CvL, getM, gt_some]) CvL_nil))
        · simp only [List.length_cons, List.length_nil, Nat.zero_mul, Nat.add_zero, fzV, fzL, fzOb, fzObL, fzH, fzHF, fzB, fzObB, fzObH, inL, rowOb, geth, cond_true, cond_false, Bool.or_false, Bool.or_true, Bool.false_or, Bool.true_or, and_self, true_and, and_true, Nat.reduceEqDiff, Nat.reduceBEq, beq_self_eq_true, sub_enR0, Nat.reduceAdd, Nat.zero_add, Nat.le_refl, List.nil_append, CvH, gt_some, Option.isSome_some, Option.isSome_none]
          exact CvB_none
      replace H := cond_f hc H
      refine rg ctNo_ok ?_
      simp only [go_sem, Nat.reduceLeDiff, Nat.reduceLT, Nat.reduceAdd, Nat.reduceMul, Nat.reduceSub, Nat.reduceEqDiff, Nat.reduceBEq, Int.reduceToNat, reduceCtorEq]
      refine sq ctNo_ok ?_
      simp only [go_sem, Nat.reduceLeDiff, Nat.reduceLT, Nat.reduceAdd, Nat.reduceMul, Nat.reduceSub, Nat.reduceEqDiff, Nat.reduceBEq, Int.reduceToNat, reduceCtorEq]
      refine rg ctNo_ok ?_
      simp only [go_sem, Nat.reduceLeDiff, Nat.reduceLT, Nat.reduceAdd, Nat.reduceMul, Nat.reduceSub, Nat.reduceEqDiff, Nat.reduceBEq, Int.reduceToNat, reduceCtorEq]
      obtain rfl := Option.some.inj H
      refine RetE_mk [] [some 1] ?_ ?_ ?_ ?_ (by rfl) (by rfl)
      · simp only [List.length_cons, List.length_nil, Nat.zero_mul, Nat.add_zero, fzV, fzL, fzOb, fzObL, fzH, fzHF, fzB, fzObB, fzObH, inL, rowOb, geth, cond_true, cond_false, Bool.or_false, Bool.or_true, Bool.false_or, Bool.true_or, and_self, true_and, and_true, Nat.reduceEqDiff, Nat.reduceBEq, beq_self_eq_true, sub_enR0, Nat.reduceAdd, Nat.zero_add, Nat.le_refl, List.nil_append]
        try (and_intros <;> first | (with_reducible trivial) | omega | exact nfc | trivial)
      · simp only [List.length_cons, List.length_nil, Nat.zero_mul, Nat.add_zero, fzV, fzL, fzOb, fzObL, fzH, fzHF, fzB, fzObB, fzObH, inL, rowOb, geth, cond_true, cond_false, Bool.or_false, Bool.or_true, Bool.false_or, Bool.true_or, and_self, true_and, and_true, Nat.reduceEqDiff, Nat.reduceBEq, beq_self_eq_true, sub_enR0, Nat.reduceAdd, Nat.zero_add, Nat.le_refl, List.nil_append]
        try (and_intros <;> first | (with_reducible trivial) | omega | exact nfc | trivial)
      · simp only [List.length_cons, List.length_nil, Nat.zero_mul, Nat.add_zero, fzV, fzL, fzOb, fzObL, fzH, fzHF, fzB, fzObB, fzObH, inL, rowOb, geth, cond_true, cond_false, Bool.or_false, Bool.or_true, Bool.false_or, Bool.true_or, and_self, true_and, and_true, Nat.reduceEqDiff, Nat.reduceBEq, beq_self_eq_true, sub_enR0, Nat.reduceAdd, Nat.zero_add, Nat.le_refl, List.nil_append]
        exact Cv_tup (CvL_cons (by first | (simp [Cv, CvL, getM, gt_some]; done) | (simp [Cv, CvL, getM, gt_some]; omega)) (CvL_cons (by simp [Cv, CvL, getM, gt_some]) CvL_nil))
      · simp only [List.length_cons, List.length_nil, Nat.zero_mul, Nat.add_zero, fzV, fzL, fzOb, fzObL, fzH, fzHF, fzB, fzObB, fzObH, inL, rowOb, geth, cond_true, cond_false, Bool.or_false, Bool.or_true, Bool.false_or, Bool.true_or, and_self, true_and, and_true, Nat.reduceEqDiff, Nat.reduceBEq, beq_self_eq_true, sub_enR0, Nat.reduceAdd, Nat.zero_add, Nat.le_refl, List.nil_append, CvH, gt_some, Option.isSome_some, Option.isSome_none]
        exact CvB_row nr_A6u8 (by first | rfl | (simp; done) | (simp; omega)) (fun _ _ _ _ => rfl)
  · cases hb
/-! hotspot/address.Union -/
noncomputable def ct10t0 : Ct := tab [(19, edC body19_0)]
theorem ct10t0_ok : CtOk Try.prog ct10t0 := tab_cons ok19_0 <| tab_nil
theorem ct10t0_19 (l : List AV) (h : List ABlk) : ct10t0 19 l h = edC body19_0 l h := rfl
noncomputable def F10 (p0 : List A6u8) (p1 : List A6u8) : Option ((List A6u8) × Int) :=
  (F19_0 p0 p1).bind fun r1 => some (r1.1, r1.2)
noncomputable def body10 : List AV → List ABlk → ED
  | [v0, v1], h => .ed [] (lK k_A6u8 6 (roD (deadL h []) v0) ∧ roDOb (deadL h []) v0 ∧ lK k_A6u8 6 (roD (deadL h []) v1) ∧ roDOb (deadL h []) v1 ∧ (F10 (lA g_A6u8 (roD (deadL h []) v0)) (lA g_A6u8 (roD (deadL h []) v1))).isSome = true) (.tup [.sl 0 6 0 (((gt (F10 (lA g_A6u8 (roD (deadL h []) v0)) (lA g_A6u8 (roD (deadL h []) v1)))).1).length) false, .int .i64 ((gt (F10 (lA g_A6u8 (roD (deadL h []) v0)) (lA g_A6u8 (roD (deadL h []) v1)))).2)]) [.row 24 6 (((gt (F10 (lA g_A6u8 (roD (deadL h []) v0)) (lA g_A6u8 (roD (deadL h []) v1)))).1).length) (enR c_A6u8 ((gt (F10 (lA g_A6u8 (roD (deadL h []) v0)) (lA g_A6u8 (roD (deadL h []) v1)))).1))]
  | _, _ => .fail
set_option maxHeartbeats 4000000 in
set_option maxRecDepth 20000 in
theorem ok10 : FnOk Try.prog 10 (edC body10) := by
  refine edit_fnV body10 (rs := [.tmp 4, .tmp 5]) Try.func10 (by kernel_rfl) rfl rfl ?_
  intro l h bs ob q0 g0 hb hob
  unfold body10 at hb
  split at hb
  · rename_i v0 v1
    injection hb with q1 q2 q3 q4; subst q1 q2 q3 q4
    obtain ⟨hk0_0, hk0_1, hk1_0, hk1_1, hob⟩ := hob
    obtain ⟨r, H⟩ := Option.isSome_iff_exists.1 hob
    rw [H, gt_some]
    have hw0 := lK_wk (fun r h => w_A6u8 h) hk0_0
    obtain ⟨p0, hp_p0⟩ : ∃ p0, p0 = lA g_A6u8 (roD (deadL h []) v0) := ⟨_, rfl⟩
    rw [← hp_p0] at H hw0
    have hw1 := lK_wk (fun r h => w_A6u8 h) hk1_0
    obtain ⟨p1, hp_p1⟩ : ∃ p1, p1 = lA g_A6u8 (roD (deadL h []) v1) := ⟨_, rfl⟩
    rw [← hp_p1] at H hw1
    refine ⟨[.ro 6 p0.length false (enR c_A6u8 p0), .ro 6 p1.length false (enR c_A6u8 p1)], [], rfl, ⟨(EW_view hk0_1 hw0), ⟨(EW_view hk1_1 hw1), trivial⟩⟩, trivial, trivial, ⟨(nfB_en nr_A6u8), trivial⟩, ⟨noroB_en, trivial⟩, (by first | (simp only [noro, noroL, and_self]; done) | (simp only [noro, noroL]; and_intros <;> first | trivial | exact noro_bif (by simp only [noro]) (by simp only [noro]) | (simp only [noro, noroL, and_self]))), ?_⟩
    rw [Try.ntmps10]
    simp only [List.length_cons, List.length_nil, Nat.reduceAdd, Nat.reduceSub, List.replicate_succ, List.replicate_zero, List.cons_append, List.nil_append]
    unfold F10 at H
    try dsimp only at H
    refine sq ctNo_ok ?_
    simp only [go_sem, Nat.reduceLeDiff, Nat.reduceLT, Nat.reduceAdd, Nat.reduceMul, Nat.reduceSub, Nat.reduceEqDiff, Nat.reduceBEq, Int.reduceToNat, reduceCtorEq]
    refine seqM ?_
    obtain ⟨r1, e2, H⟩ := Option.bind_eq_some_iff.1 H
    refine rg ct10t0_ok ?_
    simp only [go_sem, Nat.reduceLeDiff, Nat.reduceLT, Nat.reduceAdd, Nat.reduceMul, Nat.reduceSub, Nat.reduceEqDiff, Nat.reduceBEq, Int.reduceToNat, reduceCtorEq, aLs, roD, roDOb, deadL, edC, edR, nodupB, rnm, rnmL, rnmB, rnmH, rnm_bif, rnmB_bif, putH, dropH, rhoN, ptB, slN, litL, celL, pK, isLit, oS, isRow, inL, ct10t0_19, body19_0, e2]
    repeat ((with_reducible refine And.intro ?_ ?_); focus (first | (with_reducible trivial) | omega | (and_intros <;> first | (with_reducible trivial) | omega | assumption | exact nfc | first | exact rfl | exact trivial | exact fitI | exact Or.inr rfl | exact Or.inl rfl | exact fun x hx => absurd hx (by omega) | (intro x hx; (repeat (first | (and_intros <;> (first | exact rfl | exact trivial | exact fitI | exact Or.inr rfl | exact Or.inl rfl | exact fun x hx => absurd hx (by omega))) | (exfalso; omega) | (rcases x with _ | x))); done)) | grind))
    refine rg ctNo_ok ?_
    simp only [go_sem, Nat.reduceLeDiff, Nat.reduceLT, Nat.reduceAdd, Nat.reduceMul, Nat.reduceSub, Nat.reduceEqDiff, Nat.reduceBEq, Int.reduceToNat, reduceCtorEq]
    obtain rfl := Option.some.inj H
    refine RetE_mk [] [some 0] ?_ ?_ ?_ ?_ (by rfl) (by rfl)
    · simp only [List.length_cons, List.length_nil, Nat.zero_mul, Nat.add_zero, fzV, fzL, fzOb, fzObL, fzH, fzHF, fzB, fzObB, fzObH, inL, rowOb, geth, cond_true, cond_false, Bool.or_false, Bool.or_true, Bool.false_or, Bool.true_or, and_self, true_and, and_true, Nat.reduceEqDiff, Nat.reduceBEq, beq_self_eq_true, sub_enR0, Nat.reduceAdd, Nat.zero_add, Nat.le_refl, List.nil_append]
      try (and_intros <;> first | (with_reducible trivial) | omega | exact nfc | trivial)
    · simp only [List.length_cons, List.length_nil, Nat.zero_mul, Nat.add_zero, fzV, fzL, fzOb, fzObL, fzH, fzHF, fzB, fzObB, fzObH, inL, rowOb, geth, cond_true, cond_false, Bool.or_false, Bool.or_true, Bool.false_or, Bool.true_or, and_self, true_and, and_true, Nat.reduceEqDiff, Nat.reduceBEq, beq_self_eq_true, sub_enR0, Nat.reduceAdd, Nat.zero_add, Nat.le_refl, List.nil_append]
      try (and_intros <;> first | (with_reducible trivial) | omega | exact nfc | trivial)
    · simp only [List.length_cons, List.length_nil, Nat.zero_mul, Nat.add_zero, fzV, fzL, fzOb, fzObL, fzH, fzHF, fzB, fzObB, fzObH, inL, rowOb, geth, cond_true, cond_false, Bool.or_false, Bool.or_true, Bool.false_or, Bool.true_or, and_self, true_and, and_true, Nat.reduceEqDiff, Nat.reduceBEq, beq_self_eq_true, sub_enR0, Nat.reduceAdd, Nat.zero_add, Nat.le_refl, List.nil_append]
      exact Cv_tup (CvL_cons (by first | (simp [Cv, CvL, getM, gt_some]; done) | (simp [Cv, CvL, getM, gt_some]; omega)) (CvL_cons (by simp [Cv, CvL, getM, gt_some]) CvL_nil))
    · simp only [List.length_cons, List.length_nil, Nat.zero_mul, Nat.add_zero, fzV, fzL, fzOb, fzObL, fzH, fzHF, fzB, fzObB, fzObH, inL, rowOb, geth, cond_true, cond_false, Bool.or_false, Bool.or_true, Bool.false_or, Bool.true_or, and_self, true_and, and_true, Nat.reduceEqDiff, Nat.reduceBEq, beq_self_eq_true, sub_enR0, Nat.reduceAdd, Nat.zero_add, Nat.le_refl, List.nil_append, CvH, gt_some, Option.isSome_some, Option.isSome_none]
      exact CvB_row nr_A6u8 (by first | rfl | (simp; done) | (simp; omega)) (fun _ _ _ _ => rfl)
  · cases hb
/-! hotspot/address.Add -/
noncomputable def ct4t0 : Ct := tab [(10, edC body10)]
theorem ct4t0_ok : CtOk Try.prog ct4t0 := tab_cons ok10 <| tab_nil
theorem ct4t0_10 (l : List AV) (h : List ABlk) : ct4t0 10 l h = edC body10 l h := rfl
noncomputable def F4 (p0 : List A6u8) (p1 : A6u8) : Option ((List A6u8) × Int) :=
  (F10 p0 [p1]).bind fun r1 => some (r1.1, r1.2)
noncomputable def body4 : List AV → List ABlk → ED
  | [v0, v1], h => .ed [] (lK k_A6u8 6 (roD (deadL h []) v0) ∧ roDOb (deadL h []) v0 ∧ aK 6 k_A6u8 (roD (deadL h []) v1) ∧ roDOb (deadL h []) v1 ∧ (F4 (lA g_A6u8 (roD (deadL h []) v0)) (g_A6u8 (aL (roD (deadL h []) v1)))).isSome = true) (.tup [.sl 0 6 0 (((gt (F4 (lA g_A6u8 (roD (deadL h []) v0)) (g_A6u8 (aL (roD (deadL h []) v1))))).1).length) false, .int .i64 ((gt (F4 (lA g_A6u8 (roD (deadL h []) v0)) (g_A6u8 (aL (roD (deadL h []) v1))))).2)]) [.row 24 6 (((gt (F4 (lA g_A6u8 (roD (deadL h []) v0)) (g_A6u8 (aL (roD (deadL h []) v1))))).1).length) (enR c_A6u8 ((gt (F4 (lA g_A6u8 (roD (deadL h []) v0)) (g_A6u8 (aL (roD (deadL h []) v1))))).1))]
  | _, _ => .fail
set_option maxHeartbeats 4000000 in
set_option maxRecDepth 20000 in
theorem ok4 : FnOk Try.prog 4 (edC body4) := by
  refine edit_fnV body4 (rs := [.tmp 4, .tmp 5]) Try.func4 (by kernel_rfl) rfl rfl ?_
  intro l h bs ob q0 g0 hb hob
  unfold body4 at hb
  split at hb
  · rename_i v0 v1
    injection hb with q1 q2 q3 q4; subst q1 q2 q3 q4
    obtain ⟨hk0_0, hk0_1, hk1_0, hk1_1, hob⟩ := hob
    obtain ⟨r, H⟩ := Option.isSome_iff_exists.1 hob
    rw [H, gt_some]
    have hw0 := lK_wk (fun r h => w_A6u8 h) hk0_0
    obtain ⟨p0, hp_p0⟩ : ∃ p0, p0 = lA g_A6u8 (roD (deadL h []) v0) := ⟨_, rfl⟩
    rw [← hp_p0] at H hw0
    have hw1 := wA_A6u8 hk1_0
    obtain ⟨p1, hp_p1⟩ : ∃ p1, p1 = g_A6u8 (aL (roD (deadL h []) v1)) := ⟨_, rfl⟩
    rw [← hp_p1] at H hw1
    refine ⟨[.ro 6 p0.length false (enR c_A6u8 p0), .agg [.int .u8 p1.x0, .int .u8 p1.x1, .int .u8 p1.x2, .int .u8 p1.x3, .int .u8 p1.x4, .int .u8 p1.x5]], [], rfl, ⟨(EW_view hk0_1 hw0), ⟨(EW_view hk1_1 hw1), trivial⟩⟩, trivial, trivial, ⟨(nfB_en nr_A6u8), trivial⟩, ⟨noroB_en, trivial⟩, (by first | (simp only [noro, noroL, and_self]; done) | (simp only [noro, noroL]; and_intros <;> first | trivial | exact noro_bif (by simp only [noro]) (by simp only [noro]) | (simp only [noro, noroL, and_self]))), ?_⟩
    rw [Try.ntmps4]
    simp only [List.length_cons, List.length_nil, Nat.reduceAdd, Nat.reduceSub, List.replicate_succ, List.replicate_zero, List.cons_append, List.nil_append]
    unfold F4 at H
    try dsimp only at H
    refine sq ctNo_ok ?_
    simp only [go_sem, Nat.reduceLeDiff, Nat.reduceLT, Nat.reduceAdd, Nat.reduceMul, Nat.reduceSub, Nat.reduceEqDiff, Nat.reduceBEq, Int.reduceToNat, reduceCtorEq]
    refine seqM ?_
    obtain ⟨r1, e2, H⟩ := Option.bind_eq_some_iff.1 H
    refine rg ct4t0_ok ?_
    simp only [go_sem, Nat.reduceLeDiff, Nat.reduceLT, Nat.reduceAdd, Nat.reduceMul, Nat.reduceSub, Nat.reduceEqDiff, Nat.reduceBEq, Int.reduceToNat, reduceCtorEq, aLs, roD, roDOb, deadL, edC, edR, nodupB, rnm, rnmL, rnmB, rnmH, rnm_bif, rnmB_bif, putH, dropH, rhoN, ptB, slN, litL, celL, pK, isLit, oS, isRow, inL, ct4t0_10, body10, e2]
    repeat ((with_reducible refine And.intro ?_ ?_); focus (first | (with_reducible trivial) | omega | (and_intros <;> first | (with_reducible trivial) | omega | assumption | exact nfc | first | exact rfl | exact trivial | exact fitI | exact Or.inr rfl | exact Or.inl rfl | exact fun x hx => absurd hx (by omega) | (intro x hx; (repeat (first | (and_intros <;> (first | exact rfl | exact trivial | exact fitI | exact Or.inr rfl | exact Or.inl rfl | exact fun x hx => absurd hx (by omega))) | (exfalso; omega) | (rcases x with _ | x))); done)) | grind))
    refine rg ctNo_ok ?_
    simp only [go_sem, Nat.reduceLeDiff, Nat.reduceLT, Nat.reduceAdd, Nat.reduceMul, Nat.reduceSub, Nat.reduceEqDiff, Nat.reduceBEq, Int.reduceToNat, reduceCtorEq]
    obtain rfl := Option.some.inj H
    refine RetE_mk [] [some 2] ?_ ?_ ?_ ?_ (by rfl) (by rfl)
    · simp only [List.length_cons, List.length_nil, Nat.zero_mul, Nat.add_zero, fzV, fzL, fzOb, fzObL, fzH, fzHF, fzB, fzObB, fzObH, inL, rowOb, geth, cond_true, cond_false, Bool.or_false, Bool.or_true, Bool.false_or, Bool.true_or, and_self, true_and, and_true, Nat.reduceEqDiff, Nat.reduceBEq, beq_self_eq_true, sub_enR0, Nat.reduceAdd, Nat.zero_add, Nat.le_refl, List.nil_append]
      try (and_intros <;> first | (with_reducible trivial) | omega | exact nfc | trivial)
    · simp only [List.length_cons, List.length_nil, Nat.zero_mul, Nat.add_zero, fzV, fzL, fzOb, fzObL, fzH, fzHF, fzB, fzObB, fzObH, inL, rowOb, geth, cond_true, cond_false, Bool.or_false, Bool.or_true, Bool.false_or, Bool.true_or, and_self, true_and, and_true, Nat.reduceEqDiff, Nat.reduceBEq, beq_self_eq_true, sub_enR0, Nat.reduceAdd, Nat.zero_add, Nat.le_refl, List.nil_append]
      try (and_intros <;> first | (with_reducible trivial) | omega | exact nfc | trivial)
    · simp only [List.length_cons, List.length_nil, Nat.zero_mul, Nat.add_zero, fzV, fzL, fzOb, fzObL, fzH, fzHF, fzB, fzObB, fzObH, inL, rowOb, geth, cond_true, cond_false, Bool.or_false, Bool.or_true, Bool.false_or, Bool.true_or, and_self, true_and, and_true, Nat.reduceEqDiff, Nat.reduceBEq, beq_self_eq_true, sub_enR0, Nat.reduceAdd, Nat.zero_add, Nat.le_refl, List.nil_append]
      exact Cv_tup (CvL_cons (by first | (simp [Cv, CvL, getM, gt_some]; done) | (simp [Cv, CvL, getM, gt_some]; omega)) (CvL_cons (by simp [Cv, CvL, getM, gt_some]) CvL_nil))
    · simp only [List.length_cons, List.length_nil, Nat.zero_mul, Nat.add_zero, fzV, fzL, fzOb, fzObL, fzH, fzHF, fzB, fzObB, fzObH, inL, rowOb, geth, cond_true, cond_false, Bool.or_false, Bool.or_true, Bool.false_or, Bool.true_or, and_self, true_and, and_true, Nat.reduceEqDiff, Nat.reduceBEq, beq_self_eq_true, sub_enR0, Nat.reduceAdd, Nat.zero_add, Nat.le_refl, List.nil_append, CvH, gt_some, Option.isSome_some, Option.isSome_none]
      exact CvB_row nr_A6u8 (by first | rfl | (simp; done) | (simp; omega)) (fun _ _ _ _ => rfl)
  · cases hb
/-! hotspot/hotspotref02.Number -/
noncomputable def F27 (p0 : A6u8) : Option (Int) :=
  some (wr .u64 ((wr .u64 ((wr .u64 ((wr .u64 ((wr .u64 ((wr .u64 ((wr .u64 ((wr .u64 ((wr .u64 ((wr .u64 ((wr .u64 (0 + (wr .u64 p0.x0))) * 256)) + (wr .u64 p0.x1))) * 256)) + (wr .u64 p0.x2))) * 256)) + (wr .u64 p0.x3))) * 256)) + (wr .u64 p0.x4))) * 256)) + (wr .u64 p0.x5)))
noncomputable def body27 : List AV → AR
  | [v0] => .pure (aK 6 k_A6u8 v0 ∧ (F27 (g_A6u8 (aL v0))).isSome = true) (.int .u64 (gt (F27 (g_A6u8 (aL v0)))))
  | _ => .fail
set_option maxHeartbeats 4000000 in
set_option maxRecDepth 20000 in
theorem ok27 : FnOk Try.prog 27 (pureC body27) := by
  refine pure_fnM body27 (rs := [.tmp 2]) Try.func27 (by kernel_rfl) rfl rfl ?_
  intro l ob v hb hob
  unfold body27 at hb
  split at hb
  · rename_i v0
    injection hb with q1 q2; subst q1 q2
    obtain ⟨hk0_0, hob⟩ := hob
    obtain ⟨r, H⟩ := Option.isSome_iff_exists.1 hob
    rw [H, gt_some]
    have hw0 := wA_A6u8 hk0_0
    generalize g_A6u8 (aL v0) = p0 at H hw0
    refine ⟨[.agg [.int .u8 p0.x0, .int .u8 p0.x1, .int .u8 p0.x2, .int .u8 p0.x3, .int .u8 p0.x4, .int .u8 p0.x5]], _, (fun E vs F => FR_wk1 hw0.1 F (fun vs F => F)), rfl, rfl, ?_⟩
    rw [Try.ntmps27]
    simp only [List.length_cons, List.length_nil, Nat.reduceAdd, Nat.reduceSub, List.replicate_succ, List.replicate_zero, List.cons_append, List.nil_append]
    unfold F27 at H
    try dsimp only at H
    refine sq ctNo_ok ?_
    simp only [go_sem, Nat.reduceLeDiff, Nat.reduceLT, Nat.reduceAdd, Nat.reduceMul, Nat.reduceSub, Nat.reduceEqDiff, Nat.reduceBEq, Int.reduceToNat, reduceCtorEq]
    refine sq ctNo_ok ?_
    simp only [go_sem, Nat.reduceLeDiff, Nat.reduceLT, Nat.reduceAdd, Nat.reduceMul, Nat.reduceSub, Nat.reduceEqDiff, Nat.reduceBEq, Int.reduceToNat, reduceCtorEq]
    refine seqM ?_
    refine sq ctNo_ok ?_
    simp only [go_sem, Nat.reduceLeDiff, Nat.reduceLT, Nat.reduceAdd, Nat.reduceMul, Nat.reduceSub, Nat.reduceEqDiff, Nat.reduceBEq, Int.reduceToNat, reduceCtorEq]
    refine blkM ?_
    refine loop_roundsM 7 ?_
    refine rndM ?_
    refine seqM ?_
    refine sq ctNo_ok ?_
    simp only [go_sem, Nat.reduceLeDiff, Nat.reduceLT, Nat.reduceAdd, Nat.reduceMul, Nat.reduceSub, Nat.reduceEqDiff, Nat.reduceBEq, Int.reduceToNat, reduceCtorEq, (by decide : bLt (0) (6) = true)]
    refine condM rfl trivial (fun hc => ?_) (fun hc => ?_)
    rotate_left
    · cases hc
    refine rg ctNo_ok ?_
    simp only [go_sem, Nat.reduceLeDiff, Nat.reduceLT, Nat.reduceAdd, Nat.reduceMul, Nat.reduceSub, Nat.reduceEqDiff, Nat.reduceBEq, Int.reduceToNat, reduceCtorEq]
    refine seqM ?_
    refine blkM ?_
    refine rg ctNo_ok ?_
    simp only [go_sem, Nat.reduceLeDiff, Nat.reduceLT, Nat.reduceAdd, Nat.reduceMul, Nat.reduceSub, Nat.reduceEqDiff, Nat.reduceBEq, Int.reduceToNat, reduceCtorEq, (by decide : wr IntKind.u64 ((0 : Int) * 256) = 0)]
    repeat ((with_reducible refine And.intro ?_ ?_); focus (first | (with_reducible trivial) | omega | grind))
    refine rg ctNo_ok ?_
    simp only [go_sem, Nat.reduceLeDiff, Nat.reduceLT, Nat.reduceAdd, Nat.reduceMul, Nat.reduceSub, Nat.reduceEqDiff, Nat.reduceBEq, Int.reduceToNat, reduceCtorEq, (by decide : wr IntKind.i64 ((0 : Int) + 1) = 1)]
    refine rndM ?_
    refine seqM ?_
    refine sq ctNo_ok ?_
    simp only [go_sem, Nat.reduceLeDiff, Nat.reduceLT, Nat.reduceAdd, Nat.reduceMul, Nat.reduceSub, Nat.reduceEqDiff, Nat.reduceBEq, Int.reduceToNat, reduceCtorEq, (by decide : bLt (1) (6) = true)]
    refine condM rfl trivial (fun hc => ?_) (fun hc => ?_)
    rotate_left
    · cases hc
    refine rg ctNo_ok ?_
    simp only [go_sem, Nat.reduceLeDiff, Nat.reduceLT, Nat.reduceAdd, Nat.reduceMul, Nat.reduceSub, Nat.reduceEqDiff, Nat.reduceBEq, Int.reduceToNat, reduceCtorEq]
    refine seqM ?_
    refine blkM ?_
    refine rg ctNo_ok ?_
    simp only [go_sem, Nat.reduceLeDiff, Nat.reduceLT, Nat.reduceAdd, Nat.reduceMul, Nat.reduceSub, Nat.reduceEqDiff, Nat.reduceBEq, Int.reduceToNat, reduceCtorEq]
    repeat ((with_reducible refine And.intro ?_ ?_); focus (first | (with_reducible trivial) | omega | grind))
    refine rg ctNo_ok ?_
    simp only [go_sem, Nat.reduceLeDiff, Nat.reduceLT, Nat.reduceAdd, Nat.reduceMul, Nat.reduceSub, Nat.reduceEqDiff, Nat.reduceBEq, Int.reduceToNat, reduceCtorEq, (by decide : wr IntKind.i64 ((1 : Int) + 1) = 2)]
    refine rndM ?_
    refine seqM ?_
    refine sq ctNo_ok ?_
    simp only [go_sem, Nat.reduceLeDiff, Nat.reduceLT, Nat.reduceAdd, Nat.reduceMul, Nat.reduceSub, Nat.reduceEqDiff, Nat.reduceBEq, Int.reduceToNat, reduceCtorEq, (by decide : bLt (2) (6) = true)]
    refine condM rfl trivial (fun hc => ?_) (fun hc => ?_)
    rotate_left
    · cases hc
    refine rg ctNo_ok ?_
    simp only [go_sem, Nat.reduceLeDiff, Nat.reduceLT, Nat.reduceAdd, Nat.reduceMul, Nat.reduceSub, Nat.reduceEqDiff, Nat.reduceBEq, Int.reduceToNat, reduceCtorEq]
    refine seqM ?_
    refine blkM ?_
    refine rg ctNo_ok ?_
    simp only [go_sem, Nat.reduceLeDiff, Nat.reduceLT, Nat.reduceAdd, Nat.reduceMul, Nat.reduceSub, Nat.reduceEqDiff, Nat.reduceBEq, Int.reduceToNat, reduceCtorEq]
    repeat ((with_reducible refine And.intro ?_ ?_); focus (first | (with_reducible trivial) | omega | grind))
    refine rg ctNo_ok ?_
    simp only [go_sem, Nat.reduceLeDiff, Nat.reduceLT, Nat.reduceAdd, Nat.reduceMul, Nat.reduceSub, Nat.reduceEqDiff, Nat.reduceBEq, Int.reduceToNat, reduceCtorEq, (by decide : wr IntKind.i64 ((2 : Int) + 1) = 3)]
    refine rndM ?_
    refine seqM ?_
    refine sq ctNo_ok ?_
    simp only [go_sem, Nat.reduceLeDiff, Nat.reduceLT, Nat.reduceAdd, Nat.reduceMul, Nat.reduceSub, Nat.reduceEqDiff, Nat.reduceBEq, Int.reduceToNat, reduceCtorEq, (by decide : bLt (3) (6) = true)]
    refine condM rfl trivial (fun hc => ?_) (fun hc => ?_)
    rotate_left
    · cases hc
    refine rg ctNo_ok ?_
    simp only [go_sem, Nat.reduceLeDiff, Nat.reduceLT, Nat.reduceAdd, Nat.reduceMul, Nat.reduceSub, Nat.reduceEqDiff, Nat.reduceBEq, Int.reduceToNat, reduceCtorEq]
    refine seqM ?_
    refine blkM ?_
    refine rg ctNo_ok ?_
    simp only [go_sem, Nat.reduceLeDiff, Nat.reduceLT, Nat.reduceAdd, Nat.reduceMul, Nat.reduceSub, Nat.reduceEqDiff, Nat.reduceBEq, Int.reduceToNat, reduceCtorEq]
    repeat ((with_reducible refine And.intro ?_ ?_); focus (first | (with_reducible trivial) | omega | grind))
    refine rg ctNo_ok ?_
    simp only [go_sem, Nat.reduceLeDiff, Nat.reduceLT, Nat.reduceAdd, Nat.reduceMul, Nat.reduceSub, Nat.reduceEqDiff, Nat.reduceBEq, Int.reduceToNat, reduceCtorEq, (by decide : wr IntKind.i64 ((3 : Int) + 1) = 4)]
    refine rndM ?_
    refine seqM ?_
    refine sq ctNo_ok ?_
    simp only [go_sem, Nat.reduceLeDiff, Nat.reduceLT, Nat.reduceAdd, Nat.reduceMul, Nat.reduceSub, Nat.reduceEqDiff, Nat.reduceBEq, Int.reduceToNat, reduceCtorEq, (by decide : bLt (4) (6) = true)]
    refine condM rfl trivial (fun hc => ?_) (fun hc => ?_)
    rotate_left
    · cases hc
    refine rg ctNo_ok ?_
    simp only [go_sem, Nat.reduceLeDiff, Nat.reduceLT, Nat.reduceAdd, Nat.reduceMul, Nat.reduceSub, Nat.reduceEqDiff, Nat.reduceBEq, Int.reduceToNat, reduceCtorEq]
    refine seqM ?_
    refine blkM ?_
    refine rg ctNo_ok ?_
    simp only [go_sem, Nat.reduceLeDiff, Nat.reduceLT, Nat.reduceAdd, Nat.reduceMul, Nat.reduceSub, Nat.reduceEqDiff, Nat.reduceBEq, Int.reduceToNat, reduceCtorEq]
    repeat ((with_reducible refine And.intro ?_ ?_); focus (first | (with_reducible trivial) | omega | grind))
    refine rg ctNo_ok ?_
    simp only [go_sem, Nat.reduceLeDiff, Nat.reduceLT, Nat.reduceAdd, Nat.reduceMul, Nat.reduceSub, Nat.reduceEqDiff, Nat.reduceBEq, Int.reduceToNat, reduceCtorEq, (by decide : wr IntKind.i64 ((4 : Int) + 1) = 5)]
    refine rndM ?_
    refine seqM ?_
    refine sq ctNo_ok ?_
    simp only [go_sem, Nat.reduceLeDiff, Nat.reduceLT, Nat.reduceAdd, Nat.reduceMul, Nat.reduceSub, Nat.reduceEqDiff, Nat.reduceBEq, Int.reduceToNat, reduceCtorEq, (by decide : bLt (5) (6) = true)]
    refine condM rfl trivial (fun hc => ?_) (fun hc => ?_)
    rotate_left
    · cases hc
    refine rg ctNo_ok ?_
    simp only [go_sem, Nat.reduceLeDiff, Nat.reduceLT, Nat.reduceAdd, Nat.reduceMul, Nat.reduceSub, Nat.reduceEqDiff, Nat.reduceBEq, Int.reduceToNat, reduceCtorEq]
    refine seqM ?_
    refine blkM ?_
    refine rg ctNo_ok ?_
    simp only [go_sem, Nat.reduceLeDiff, Nat.reduceLT, Nat.reduceAdd, Nat.reduceMul, Nat.reduceSub, Nat.reduceEqDiff, Nat.reduceBEq, Int.reduceToNat, reduceCtorEq]
    repeat ((with_reducible refine And.intro ?_ ?_); focus (first | (with_reducible trivial) | omega | grind))
    refine rg ctNo_ok ?_
    simp only [go_sem, Nat.reduceLeDiff, Nat.reduceLT, Nat.reduceAdd, Nat.reduceMul, Nat.reduceSub, Nat.reduceEqDiff, Nat.reduceBEq, Int.reduceToNat, reduceCtorEq, (by decide : wr IntKind.i64 ((5 : Int) + 1) = 6)]
    refine rndM ?_
    refine seqM ?_
    refine sq ctNo_ok ?_
    simp only [go_sem, Nat.reduceLeDiff, Nat.reduceLT, Nat.reduceAdd, Nat.reduceMul, Nat.reduceSub, Nat.reduceEqDiff, Nat.reduceBEq, Int.reduceToNat, reduceCtorEq, (by decide : bLt (6) (6) = false)]
    refine condM rfl trivial (fun hc => ?_) (fun hc => ?_)
    · cases hc
    refine rg ctNo_ok ?_
    simp only [go_sem, Nat.reduceLeDiff, Nat.reduceLT, Nat.reduceAdd, Nat.reduceMul, Nat.reduceSub, Nat.reduceEqDiff, Nat.reduceBEq, Int.reduceToNat, reduceCtorEq]
    refine sq ctNo_ok ?_
    simp only [go_sem, Nat.reduceLeDiff, Nat.reduceLT, Nat.reduceAdd, Nat.reduceMul, Nat.reduceSub, Nat.reduceEqDiff, Nat.reduceBEq, Int.reduceToNat, reduceCtorEq]
    refine rg ctNo_ok ?_
    simp only [go_sem, Nat.reduceLeDiff, Nat.reduceLT, Nat.reduceAdd, Nat.reduceMul, Nat.reduceSub, Nat.reduceEqDiff, Nat.reduceBEq, Int.reduceToNat, reduceCtorEq]
    obtain rfl := Option.some.inj H
    first | rfl | simp only [Bool.and_false, Bool.false_and, Bool.and_true, Bool.true_and]
  · cases hb
/-! hotspot/hotspotref02.Compare -/
noncomputable def ct25t0 : Ct := tab [(27, pureC body27)]
theorem ct25t0_ok : CtOk Try.prog ct25t0 := tab_cons ok27 <| tab_nil
theorem ct25t0_27 (l : List AV) (h : List ABlk) : ct25t0 27 l h = pureC body27 l h := rfl
noncomputable def F25 (p0 : A6u8) (p1 : A6u8) : Option (Int) :=
  (F27 p0).bind fun r1 => (F27 p1).bind fun r3 => bif (bLt r1 r3) then (some (-1)) else ((F27 p0).bind fun r5 => (F27 p1).bind fun r7 => bif (bLt r7 r5) then (some 1) else (some 0))
noncomputable def body25 : List AV → AR
  | [v0, v1] => .pure (aK 6 k_A6u8 v0 ∧ aK 6 k_A6u8 v1 ∧ (F25 (g_A6u8 (aL v0)) (g_A6u8 (aL v1))).isSome = true) (.int .i64 (gt (F25 (g_A6u8 (aL v0)) (g_A6u8 (aL v1)))))
  | _ => .fail
set_option maxHeartbeats 4000000 in
set_option maxRecDepth 20000 in
theorem ok25 : FnOk Try.prog 25 (pureC body25) := by
  refine pure_fnM body25 (rs := [.tmp 4]) Try.func25 (by kernel_rfl) rfl rfl ?_
  intro l ob v hb hob
  unfold body25 at hb
  split at hb
  · rename_i v0 v1
    injection hb with q1 q2; subst q1 q2
    obtain ⟨hk0_0, hk1_0, hob⟩ := hob
    obtain ⟨r, H⟩ := Option.isSome_iff_exists.1 hob
    rw [H, gt_some]
    have hw0 := wA_A6u8 hk0_0
    have hw1 := wA_A6u8 hk1_0
    generalize g_A6u8 (aL v0) = p0 at H hw0
    generalize g_A6u8 (aL v1) = p1 at H hw1
    refine ⟨[.agg [.int .u8 p0.x0, .int .u8 p0.x1, .int .u8 p0.x2, .int .u8 p0.x3, .int .u8 p0.x4, .int .u8 p0.x5], .agg [.int .u8 p1.x0, .int .u8 p1.x1, .int .u8 p1.x2, .int .u8 p1.x3, .int .u8 p1.x4, .int .u8 p1.x5]], _, (fun E vs F => FR_wk1 hw0.1 F (fun vs F => FR_wk1 hw1.1 F (fun vs F => F))), rfl, rfl, ?_⟩
    rw [Try.ntmps25]
    simp only [List.length_cons, List.length_nil, Nat.reduceAdd, Nat.reduceSub, List.replicate_succ, List.replicate_zero, List.cons_append, List.nil_append]
    unfold F25 at H
    try dsimp only at H
    refine sq ctNo_ok ?_
    simp only [go_sem, Nat.reduceLeDiff, Nat.reduceLT, Nat.reduceAdd, Nat.reduceMul, Nat.reduceSub, Nat.reduceEqDiff, Nat.reduceBEq, Int.reduceToNat, reduceCtorEq]
    refine seqM ?_
    refine seqM ?_
    obtain ⟨r1, e2, H⟩ := Option.bind_eq_some_iff.1 H
    obtain ⟨r3, e4, H⟩ := Option.bind_eq_some_iff.1 H
    refine draw_quiet shT_ok ct25t0_ok (by kernel_rfl) (by kernel_rfl) ?_
    simp only [go_sem, Nat.reduceLeDiff, Nat.reduceLT, Nat.reduceAdd, Nat.reduceMul, Nat.reduceSub, Nat.reduceEqDiff, Nat.reduceBEq, Int.reduceToNat, reduceCtorEq, ct25t0_27, body27, e2, e4]
    repeat ((with_reducible refine And.intro ?_ ?_); focus (first | (with_reducible trivial) | omega | (and_intros <;> first | (with_reducible trivial) | omega | assumption | exact nfc | first | exact rfl | exact trivial | exact fitI | exact Or.inr rfl | exact Or.inl rfl | exact fun x hx => absurd hx (by omega) | (intro x hx; (repeat (first | (and_intros <;> (first | exact rfl | exact trivial | exact fitI | exact Or.inr rfl | exact Or.inl rfl | exact fun x hx => absurd hx (by omega))) | (exfalso; omega) | (rcases x with _ | x))); done)) | grind))
    refine condM rfl trivial (fun hc => ?_) (fun hc => ?_)
    · replace H := cond_t hc H
      refine sq ctNo_ok ?_
      simp only [go_sem, Nat.reduceLeDiff, Nat.reduceLT, Nat.reduceAdd, Nat.reduceMul, Nat.reduceSub, Nat.reduceEqDiff, Nat.reduceBEq, Int.reduceToNat, reduceCtorEq]
      refine rg ctNo_ok ?_
      simp only [go_sem, Nat.reduceLeDiff, Nat.reduceLT, Nat.reduceAdd, Nat.reduceMul, Nat.reduceSub, Nat.reduceEqDiff, Nat.reduceBEq, Int.reduceToNat, reduceCtorEq]
      obtain rfl := Option.some.inj H
      first | rfl | simp only [Bool.and_false, Bool.false_and, Bool.and_true, Bool.true_and]
    replace H := cond_f hc H
    refine rg ctNo_ok ?_
    simp only [go_sem, Nat.reduceLeDiff, Nat.reduceLT, Nat.reduceAdd, Nat.reduceMul, Nat.reduceSub, Nat.reduceEqDiff, Nat.reduceBEq, Int.reduceToNat, reduceCtorEq]
    refine seqM ?_
    refine seqM ?_
    obtain ⟨r5, e6, H⟩ := Option.bind_eq_some_iff.1 H
    obtain ⟨r7, e8, H⟩ := Option.bind_eq_some_iff.1 H
    refine draw_quiet shT_ok ct25t0_ok (by kernel_rfl) (by kernel_rfl) ?_
    simp only [go_sem, Nat.reduceLeDiff, Nat.reduceLT, Nat.reduceAdd, Nat.reduceMul, Nat.reduceSub, Nat.reduceEqDiff, Nat.reduceBEq, Int.reduceToNat, reduceCtorEq, ct25t0_27, body27, e6, e8]
    repeat ((with_reducible refine And.intro ?_ ?_); focus (first | (with_reducible trivial) | omega | (and_intros <;> first | (with_reducible trivial) | omega | assumption | exact nfc | first | exact rfl | exact trivial | exact fitI | exact Or.inr rfl | exact Or.inl rfl | exact fun x hx => absurd hx (by omega) | (intro x hx; (repeat (first | (and_intros <;> (first | exact rfl | exact trivial | exact fitI | exact Or.inr rfl | exact Or.inl rfl | exact fun x hx => absurd hx (by omega))) | (exfalso; omega) | (rcases x with _ | x))); done)) | grind))
    refine condM rfl trivial (fun hc => ?_) (fun hc => ?_)
    · replace H := cond_t hc H
      refine sq ctNo_ok ?_
      simp only [go_sem, Nat.reduceLeDiff, Nat.reduceLT, Nat.reduceAdd, Nat.reduceMul, Nat.reduceSub, Nat.reduceEqDiff, Nat.reduceBEq, Int.reduceToNat, reduceCtorEq]
      refine rg ctNo_ok ?_
      simp only [go_sem, Nat.reduceLeDiff, Nat.reduceLT, Nat.reduceAdd, Nat.reduceMul, Nat.reduceSub, Nat.reduceEqDiff, Nat.reduceBEq, Int.reduceToNat, reduceCtorEq]
      obtain rfl := Option.some.inj H
      first | rfl | simp only [Bool.and_false, Bool.false_and, Bool.and_true, Bool.true_and]
    replace H := cond_f hc H
    refine rg ctNo_ok ?_
    simp only [go_sem, Nat.reduceLeDiff, Nat.reduceLT, Nat.reduceAdd, Nat.reduceMul, Nat.reduceSub, Nat.reduceEqDiff, Nat.reduceBEq, Int.reduceToNat, reduceCtorEq]
    refine sq ctNo_ok ?_
    simp only [go_sem, Nat.reduceLeDiff, Nat.reduceLT, Nat.reduceAdd, Nat.reduceMul, Nat.reduceSub, Nat.reduceEqDiff, Nat.reduceBEq, Int.reduceToNat, reduceCtorEq]
    refine rg ctNo_ok ?_
    simp only [go_sem, Nat.reduceLeDiff, Nat.reduceLT, Nat.reduceAdd, Nat.reduceMul, Nat.reduceSub, Nat.reduceEqDiff, Nat.reduceBEq, Int.reduceToNat, reduceCtorEq]
    obtain rfl := Option.some.inj H
    first | rfl | simp only [Bool.and_false, Bool.false_and, Bool.and_true, Bool.true_and]
  · cases hb
/-! hotspot/hotspotref02.Set -/
noncomputable def ct16t0 : Ct := tab [(25, pureC body25)]
theorem ct16t0_ok : CtOk Try.prog ct16t0 := tab_cons ok25 <| tab_nil
theorem ct16t0_25 (l : List AV) (h : List ABlk) : ct16t0 25 l h = pureC body25 l h := rfl
noncomputable def F16_L1 (p0 : List A6u8) (v1_1 : Int) : Option (Lp (Int) ((Unit) ⊕ (Bool))) :=
  bif (bLt v1_1 (p0.length : Nat)) then (need (inb (wr .i64 (v1_1 - 1)) p0.length) <| need (inb v1_1 p0.length) <| (F25 (gd p0 ((wr .i64 (v1_1 - 1)).toNat)) (gd p0 v1_1.toNat)).bind fun r3 => bif (bLe 0 r3) then (some (.done (.inr false))) else (some (.next (wr .i64 (v1_1 + 1))))) else (some (.done (.inl ())))
noncomputable def F16 (p0 : List A6u8) : Option (Bool) :=
  lp (loopD (fun s => F16_L1 p0 s) 1) (fun e => some (bLe (p0.length : Nat) 256)) some
noncomputable def body16 : List AV → AR
  | [v0] => .pure (lK k_A6u8 6 v0 ∧ (F16 (lA g_A6u8 v0)).isSome = true) (.bool (gt (F16 (lA g_A6u8 v0))))
  | _ => .fail
set_option maxHeartbeats 4000000 in
set_option maxRecDepth 20000 in
theorem ok16 : FnOk Try.prog 16 (pureC body16) := by
  refine pure_fnM body16 (rs := [.tmp 2]) Try.func16 (by kernel_rfl) rfl rfl ?_
  intro l ob v hb hob
  unfold body16 at hb
  split at hb
  · rename_i v0
    injection hb with q1 q2; subst q1 q2
    obtain ⟨hk0_0, hob⟩ := hob
    obtain ⟨r, H⟩ := Option.isSome_iff_exists.1 hob
    rw [H, gt_some]
    have hw0 := lK_wk (fun r h => w_A6u8 h) hk0_0
    generalize lA g_A6u8 v0 = p0 at H hw0
    refine ⟨[.ro 6 p0.length false (enR c_A6u8 p0)], _, (fun E vs F => FR_wk1 hw0.1 F (fun vs F => F)), rfl, rfl, ?_⟩
    rw [Try.ntmps16]
    simp only [List.length_cons, List.length_nil, Nat.reduceAdd, Nat.reduceSub, List.replicate_succ, List.replicate_zero, List.cons_append, List.nil_append]
    unfold F16 at H
    try dsimp only at H
    refine sq ctNo_ok ?_
    simp only [go_sem, Nat.reduceLeDiff, Nat.reduceLT, Nat.reduceAdd, Nat.reduceMul, Nat.reduceSub, Nat.reduceEqDiff, Nat.reduceBEq, Int.reduceToNat, reduceCtorEq]
    refine seqM ?_
    refine sq ctNo_ok ?_
    simp only [go_sem, Nat.reduceLeDiff, Nat.reduceLT, Nat.reduceAdd, Nat.reduceMul, Nat.reduceSub, Nat.reduceEqDiff, Nat.reduceBEq, Int.reduceToNat, reduceCtorEq]
    refine blkM ?_
    refine loop_den (fun s : Int => [.ro 6 p0.length false (enR c_A6u8 p0), .top, .top, .int .i64 s, .top, .top, .top, .top, .top, .top, .top, .top, .top, .top, .top, .top, .top, .top, .top, .top, .top, .top, .top, .top]) (fun s => []) (fun e : Unit => [.ro 6 p0.length false (enR c_A6u8 p0), .top, .top, .top, .top, .top, .top, .top, .top, .top, .top, .top, .top, .top, .top, .top, .top, .top, .top, .top, .top, .top, .top, .top]) (fun e => []) H ?_ (fun v1_1 o H hn1_1 hn2_1 => ?_) (fun e H => ?_)
    · refine SubF_of ⟨[], ?_, ?_, by rfl, by rfl⟩
      · simp [CvL, Cv, getM]
      · trivial
    · unfold F16_L1 at H
      try dsimp only at H ⊢
      refine seqM ?_
      refine sq ctNo_ok ?_
      simp only [go_sem, Nat.reduceLeDiff, Nat.reduceLT, Nat.reduceAdd, Nat.reduceMul, Nat.reduceSub, Nat.reduceEqDiff, Nat.reduceBEq, Int.reduceToNat, reduceCtorEq]
      repeat ((with_reducible refine And.intro ?_ ?_); focus (first | (with_reducible trivial) | omega | (and_intros <;> first | (with_reducible trivial) | omega | assumption | exact nfc | first | exact rfl | exact trivial | exact fitI | exact Or.inr rfl | exact Or.inl rfl | exact fun x hx => absurd hx (by omega) | (intro x hx; (repeat (first | (and_intros <;> (first | exact rfl | exact trivial | exact fitI | exact Or.inr rfl | exact Or.inl rfl | exact fun x hx => absurd hx (by omega))) | (exfalso; omega) | (rcases x with _ | x))); done)) | grind))
      refine condM' rfl trivial (fun hc => ?_) (fun hc => ?_)
      · replace H := cond_f hc H
        refine rg ctNo_ok ?_
        simp only [go_sem, Nat.reduceLeDiff, Nat.reduceLT, Nat.reduceAdd, Nat.reduceMul, Nat.reduceSub, Nat.reduceEqDiff, Nat.reduceBEq, Int.reduceToNat, reduceCtorEq]
        refine ⟨_, (Option.some.inj H).symm, ?_⟩
        refine SubF_of ⟨[], ?_, ?_, by rfl, by rfl⟩
        · simp [CvL, Cv, getM]
        · trivial
      replace H := cond_t hc H
      refine rg ctNo_ok ?_
      simp only [go_sem, Nat.reduceLeDiff, Nat.reduceLT, Nat.reduceAdd, Nat.reduceMul, Nat.reduceSub, Nat.reduceEqDiff, Nat.reduceBEq, Int.reduceToNat, reduceCtorEq]
      refine seqM ?_
      refine blkM ?_
      refine seqM ?_
      obtain ⟨f1, H⟩ := need_some.1 H
      replace f1 := inb_iff.1 f1
      obtain ⟨f2, H⟩ := need_some.1 H
      replace f2 := inb_iff.1 f2
      obtain ⟨r3, e4, H⟩ := Option.bind_eq_some_iff.1 H
      refine draw_quiet shT_ok ct16t0_ok (by kernel_rfl) (by kernel_rfl) ?_
      simp only [go_sem, Nat.reduceLeDiff, Nat.reduceLT, Nat.reduceAdd, Nat.reduceMul, Nat.reduceSub, Nat.reduceEqDiff, Nat.reduceBEq, Int.reduceToNat, reduceCtorEq, ct16t0_25, body25, f1, f2, e4]
      repeat ((with_reducible refine And.intro ?_ ?_); focus (first | (with_reducible trivial) | omega | (and_intros <;> first | (with_reducible trivial) | omega | assumption | exact nfc | first | exact rfl | exact trivial | exact fitI | exact Or.inr rfl | exact Or.inl rfl | exact fun x hx => absurd hx (by omega) | (intro x hx; (repeat (first | (and_intros <;> (first | exact rfl | exact trivial | exact fitI | exact Or.inr rfl | exact Or.inl rfl | exact fun x hx => absurd hx (by omega))) | (exfalso; omega) | (rcases x with _ | x))); done)) | grind))
      refine condM rfl trivial (fun hc => ?_) (fun hc => ?_)
      · replace H := cond_t hc H
        refine sq ctNo_ok ?_
        simp only [go_sem, Nat.reduceLeDiff, Nat.reduceLT, Nat.reduceAdd, Nat.reduceMul, Nat.reduceSub, Nat.reduceEqDiff, Nat.reduceBEq, Int.reduceToNat, reduceCtorEq]
        refine rg ctNo_ok ?_
        simp only [go_sem, Nat.reduceLeDiff, Nat.reduceLT, Nat.reduceAdd, Nat.reduceMul, Nat.reduceSub, Nat.reduceEqDiff, Nat.reduceBEq, Int.reduceToNat, reduceCtorEq]
        have H := hn2_1 _ (Option.some.inj H).symm
        obtain rfl := Option.some.inj H
        first | rfl | simp only [Bool.and_false, Bool.false_and, Bool.and_true, Bool.true_and]
      replace H := cond_f hc H
      refine rg ctNo_ok ?_
      simp only [go_sem, Nat.reduceLeDiff, Nat.reduceLT, Nat.reduceAdd, Nat.reduceMul, Nat.reduceSub, Nat.reduceEqDiff, Nat.reduceBEq, Int.reduceToNat, reduceCtorEq]
      refine rg ctNo_ok ?_
      simp only [go_sem, Nat.reduceLeDiff, Nat.reduceLT, Nat.reduceAdd, Nat.reduceMul, Nat.reduceSub, Nat.reduceEqDiff, Nat.reduceBEq, Int.reduceToNat, reduceCtorEq]
      refine ⟨_, (Option.some.inj H).symm, ?_⟩
      refine SubF_of ⟨[], ?_, ?_, by rfl, by rfl⟩
      · simp [CvL, Cv, getM]
      · trivial
    · try dsimp only at H ⊢
      try simp only [m_normal, k_normal, b_normal, kL_normal, r_normal]
      refine sq ctNo_ok ?_
      simp only [go_sem, Nat.reduceLeDiff, Nat.reduceLT, Nat.reduceAdd, Nat.reduceMul, Nat.reduceSub, Nat.reduceEqDiff, Nat.reduceBEq, Int.reduceToNat, reduceCtorEq]
      repeat ((with_reducible refine And.intro ?_ ?_); focus (first | (with_reducible trivial) | omega | (and_intros <;> first | (with_reducible trivial) | omega | assumption | exact nfc | first | exact rfl | exact trivial | exact fitI | exact Or.inr rfl | exact Or.inl rfl | exact fun x hx => absurd hx (by omega) | (intro x hx; (repeat (first | (and_intros <;> (first | exact rfl | exact trivial | exact fitI | exact Or.inr rfl | exact Or.inl rfl | exact fun x hx => absurd hx (by omega))) | (exfalso; omega) | (rcases x with _ | x))); done)) | grind))
      refine rg ctNo_ok ?_
      simp only [go_sem, Nat.reduceLeDiff, Nat.reduceLT, Nat.reduceAdd, Nat.reduceMul, Nat.reduceSub, Nat.reduceEqDiff, Nat.reduceBEq, Int.reduceToNat, reduceCtorEq]
      obtain rfl := Option.some.inj H
      first | rfl | simp only [Bool.and_false, Bool.false_and, Bool.and_true, Bool.true_and]
  · cases hb
/-! hotspot/hotspotref02.With -/
noncomputable def ct18t0 : Ct := tab [(25, pureC body25)]
theorem ct18t0_ok : CtOk Try.prog ct18t0 := tab_cons ok25 <| tab_nil
theorem ct18t0_25 (l : List AV) (h : List ABlk) : ct18t0 25 l h = pureC body25 l h := rfl
noncomputable def F18_L1 (p0 : List A6u8) (p1 : A6u8) (v1_1 : List A6u8) (v1_2 : Bool) (v1_3 : Int) : Option (Lp ((List A6u8) × Bool × Int) (((List A6u8) × Bool) ⊕ (List A6u8))) :=
  bif (bLt v1_3 (p0.length : Nat)) then (need (bif (!v1_2) then inb v1_3 p0.length else true) <| need (bif (!v1_2) then ((F25 p1 (gd p0 v1_3.toNat)).isSome) else true) <| bif ((!v1_2) && (bLe (gt (F25 p1 (gd p0 v1_3.toNat))) 0)) then (need (capb 6 (v1_1.length + 1)) <| need (inb v1_3 p0.length) <| bif (!(bEq ((gd p0 v1_3.toNat).x0) p1.x0 && (bEq ((gd p0 v1_3.toNat).x1) p1.x1 && (bEq ((gd p0 v1_3.toNat).x2) p1.x2 && (bEq ((gd p0 v1_3.toNat).x3) p1.x3 && (bEq ((gd p0 v1_3.toNat).x4) p1.x4 && (bEq ((gd p0 v1_3.toNat).x5) p1.x5))))))) then (need (inb v1_3 p0.length) <| need (capb 6 (v1_1.length + 1 + 1)) <| some (.next (((v1_1 ++ [p1]) ++ [(gd p0 v1_3.toNat)]), true, wr .i64 (v1_3 + 1)))) else (some (.next ((v1_1 ++ [p1]), true, wr .i64 (v1_3 + 1))))) else (need (inb v1_3 p0.length) <| bif (!(bEq ((gd p0 v1_3.toNat).x0) p1.x0 && (bEq ((gd p0 v1_3.toNat).x1) p1.x1 && (bEq ((gd p0 v1_3.toNat).x2) p1.x2 && (bEq ((gd p0 v1_3.toNat).x3) p1.x3 && (bEq ((gd p0 v1_3.toNat).x4) p1.x4 && (bEq ((gd p0 v1_3.toNat).x5) p1.x5))))))) then (need (inb v1_3 p0.length) <| need (capb 6 (v1_1.length + 1)) <| some (.next ((v1_1 ++ [(gd p0 v1_3.toNat)]), v1_2, wr .i64 (v1_3 + 1)))) else (some (.next (v1_1, v1_2, wr .i64 (v1_3 + 1)))))) else (some (.done (.inl (v1_1, v1_2))))
noncomputable def F18 (p0 : List A6u8) (p1 : A6u8) : Option (List A6u8) :=
  lp (loopD (fun s => F18_L1 p0 p1 s.1 s.2.1 s.2.2) ([], false, 0)) (fun e => bif (!e.2) then (need (capb 6 (e.1.length + 1)) <| some (e.1 ++ [p1])) else (some e.1)) some
noncomputable def body18 : List AV → Nat → AR
  | [v0, v1], _ => .pure (lK k_A6u8 6 v0 ∧ aK 6 k_A6u8 v1 ∧ (F18 (lA g_A6u8 v0) (g_A6u8 (aL v1))).isSome = true) (.ro 6 ((gt (F18 (lA g_A6u8 v0) (g_A6u8 (aL v1)))).length) false (enR c_A6u8 (gt (F18 (lA g_A6u8 v0) (g_A6u8 (aL v1))))))
  | _, _ => .fail
set_option maxHeartbeats 4000000 in
set_option maxRecDepth 20000 in
theorem ok18 : FnOk Try.prog 18 (genC body18) := by
  refine gen_fn body18 (rs := [.tmp 4]) Try.func18 (by kernel_rfl) rfl rfl ?_
  intro l s ob v ns hb hob
  rcases hb with ⟨hb, rfl⟩ | hb
  · unfold body18 at hb
    split at hb
    · rename_i v0 v1
      injection hb with q1 q2; subst q1 q2
      obtain ⟨hk0_0, hk1_0, hob⟩ := hob
      obtain ⟨r, H⟩ := Option.isSome_iff_exists.1 hob
      rw [H, gt_some]
      have hw0 := lK_wk (fun r h => w_A6u8 h) hk0_0
      have hw1 := wA_A6u8 hk1_0
      generalize lA g_A6u8 v0 = p0 at H hw0
      generalize g_A6u8 (aL v1) = p1 at H hw1
      refine ⟨[.ro 6 p0.length false (enR c_A6u8 p0), .agg [.int .u8 p1.x0, .int .u8 p1.x1, .int .u8 p1.x2, .int .u8 p1.x3, .int .u8 p1.x4, .int .u8 p1.x5]], .ro 6 r.length false (enR c_A6u8 r), [], (fun E vs F => FR_wk1 hw0.1 F (fun vs F => FR_wk1 hw1.1 F (fun vs F => F))), by simp only [ren, renL], trivial, ?_⟩
      rw [Try.ntmps18]
      simp only [List.length_cons, List.length_nil, Nat.reduceAdd, Nat.reduceSub, List.replicate_succ, List.replicate_zero, List.cons_append, List.nil_append]
      unfold F18 at H
      try dsimp only at H
      refine sq ctNo_ok ?_
      simp only [go_sem, Nat.reduceLeDiff, Nat.reduceLT, Nat.reduceAdd, Nat.reduceMul, Nat.reduceSub, Nat.reduceEqDiff, Nat.reduceBEq, Int.reduceToNat, reduceCtorEq]
      refine sq ctNo_ok ?_
      simp only [go_sem, Nat.reduceLeDiff, Nat.reduceLT, Nat.reduceAdd, Nat.reduceMul, Nat.reduceSub, Nat.reduceEqDiff, Nat.reduceBEq, Int.reduceToNat, reduceCtorEq]
      refine sq ctNo_ok ?_
      simp only [go_sem, Nat.reduceLeDiff, Nat.reduceLT, Nat.reduceAdd, Nat.reduceMul, Nat.reduceSub, Nat.reduceEqDiff, Nat.reduceBEq, Int.reduceToNat, reduceCtorEq]
      refine seqM ?_
      refine sq ctNo_ok ?_
      simp only [go_sem, Nat.reduceLeDiff, Nat.reduceLT, Nat.reduceAdd, Nat.reduceMul, Nat.reduceSub, Nat.reduceEqDiff, Nat.reduceBEq, Int.reduceToNat, reduceCtorEq]
      refine blkM ?_
      refine loop_den (fun s : (List A6u8) × Bool × Int => (.ro 6 p0.length false (enR c_A6u8 p0) :: .top :: .top :: .ptr 0 0 0 0 :: .top :: .sl 1 6 0 s.1.length false :: .bool s.2.1 :: .int .i64 s.2.2 :: .top :: .top :: .top :: .top :: .top :: .top :: .top :: .top :: .top :: .top :: .top :: .top :: .top :: .top :: .top :: .top :: .top :: .top :: .top :: .top :: .top :: .top :: .top :: .top :: .top :: .top :: .top :: .top :: .top :: .top :: .top :: .top :: .top :: .top :: .top :: .top :: .top :: .top :: .top :: .top :: .top :: [])) (fun s => [.lit 24 [.int .u8 p1.x0, .int .u8 p1.x1, .int .u8 p1.x2, .int .u8 p1.x3, .int .u8 p1.x4, .int .u8 p1.x5], .row 24 6 s.1.length (enR c_A6u8 s.1)]) (fun e : (List A6u8) × Bool => (.top :: .top :: .top :: .ptr 0 0 0 0 :: .top :: .sl 1 6 0 e.1.length false :: .bool e.2 :: .top :: .top :: .top :: .top :: .top :: .top :: .top :: .top :: .top :: .top :: .top :: .top :: .top :: .top :: .top :: .top :: .top :: .top :: .top :: .top :: .top :: .top :: .top :: .top :: .top :: .top :: .top :: .top :: .top :: .top :: .top :: .top :: .top :: .top :: .top :: .top :: .top :: .top :: .top :: .top :: .top :: .top :: [])) (fun e => [.lit 24 [.int .u8 p1.x0, .int .u8 p1.x1, .int .u8 p1.x2, .int .u8 p1.x3, .int .u8 p1.x4, .int .u8 p1.x5], .row 24 6 e.1.length (enR c_A6u8 e.1)]) H ?_ (fun s o H hn1_1 hn2_1 => ?_) (fun e H => ?_)
      · refine SubF_of ⟨[some 0, none], ?_, ?_, by rfl, by rfl⟩
        · simp [CvL, Cv, getM]
        · exact ⟨(by simp [CvB, CvL, Cv, blkAt, geth, getM]), CvB_none, trivial⟩
      · obtain ⟨v1_1, v1_2, v1_3⟩ := s
        unfold F18_L1 at H
        try dsimp only at H ⊢
        refine seqM ?_
        refine sq ctNo_ok ?_
        simp only [go_sem, Nat.reduceLeDiff, Nat.reduceLT, Nat.reduceAdd, Nat.reduceMul, Nat.reduceSub, Nat.reduceEqDiff, Nat.reduceBEq, Int.reduceToNat, reduceCtorEq]
        repeat ((with_reducible refine And.intro ?_ ?_); focus (first | (with_reducible trivial) | omega | (and_intros <;> first | (with_reducible trivial) | omega | assumption | exact nfc | first | exact rfl | exact trivial | exact fitI | exact Or.inr rfl | exact Or.inl rfl | exact fun x hx => absurd hx (by omega) | (intro x hx; (repeat (first | (and_intros <;> (first | exact rfl | exact trivial | exact fitI | exact Or.inr rfl | exact Or.inl rfl | exact fun x hx => absurd hx (by omega))) | (exfalso; omega) | (rcases x with _ | x))); done)) | grind))
        refine condM' rfl trivial (fun hc => ?_) (fun hc => ?_)
        · replace H := cond_f hc H
          refine rg ctNo_ok ?_
          simp only [go_sem, Nat.reduceLeDiff, Nat.reduceLT, Nat.reduceAdd, Nat.reduceMul, Nat.reduceSub, Nat.reduceEqDiff, Nat.reduceBEq, Int.reduceToNat, reduceCtorEq]
          refine ⟨_, (Option.some.inj H).symm, ?_⟩
          refine SubF_of ⟨[some 0, some 1], ?_, ?_, by rfl, by rfl⟩
          · simp [CvL, Cv, getM]
          · exact ⟨(by simp [CvB, CvL, Cv, blkAt, geth, getM]), CvB_row nr_A6u8 (by first | rfl | (simp; done) | (simp; omega)) (fun _ _ _ _ => rfl), trivial⟩
        replace H := cond_t hc H
        refine rg ctNo_ok ?_
        simp only [go_sem, Nat.reduceLeDiff, Nat.reduceLT, Nat.reduceAdd, Nat.reduceMul, Nat.reduceSub, Nat.reduceEqDiff, Nat.reduceBEq, Int.reduceToNat, reduceCtorEq]
        refine seqM ?_
        refine blkM ?_
        refine seqM ?_
        refine seqM ?_
        obtain ⟨f1, H⟩ := need_some.1 H
        replace f1 := g_iff.1 f1
        replace f1 := fun g => inb_iff.1 (f1 g)
        obtain ⟨f2, H⟩ := need_some.1 H
        replace f2 := g_iff.1 f2
        refine draw_quiet shT_ok ct18t0_ok (by kernel_rfl) (by kernel_rfl) ?_
        simp only [go_sem, Nat.reduceLeDiff, Nat.reduceLT, Nat.reduceAdd, Nat.reduceMul, Nat.reduceSub, Nat.reduceEqDiff, Nat.reduceBEq, Int.reduceToNat, reduceCtorEq, ct18t0_25, body25]
        repeat ((with_reducible refine And.intro ?_ ?_); focus (first | (with_reducible trivial) | omega | exact f1 | exact f2 | (intro g; have q := f1 (by first | exact g | (rw [g]; rfl) | simpa using g); first | exact q | exact ⟨q.1, q.2.1⟩ | exact q.2.2 | omega | exact ⟨g, q⟩ | exact ⟨trivial, q⟩ | exact ⟨g, q.1, q.2.1⟩ | exact ⟨g, q.2.2⟩) | (intro g; have q := f2 (by first | exact g | (rw [g]; rfl) | simpa using g); first | exact q | exact ⟨q.1, q.2.1⟩ | exact q.2.2 | omega | exact ⟨g, q⟩ | exact ⟨trivial, q⟩ | exact ⟨g, q.1, q.2.1⟩ | exact ⟨g, q.2.2⟩) | (intro g; (try have q0 := f1 (by first | exact g | (rw [g]; rfl) | simpa using g)); (try have q1 := f2 (by first | exact g | (rw [g]; rfl) | simpa using g)); and_intros <;> first | (with_reducible trivial) | assumption | exact nfc | (intro g2; rw [g, g2]; rfl) | (intro g2; assumption) | (simp only [g, Bool.true_and, Bool.and_true, Bool.not_false, Bool.not_true]; assumption) | grind) | (and_intros <;> first | (with_reducible trivial) | omega | assumption | exact nfc | first | exact rfl | exact trivial | exact fitI | exact Or.inr rfl | exact Or.inl rfl | exact fun x hx => absurd hx (by omega) | (intro x hx; (repeat (first | (and_intros <;> (first | exact rfl | exact trivial | exact fitI | exact Or.inr rfl | exact Or.inl rfl | exact fun x hx => absurd hx (by omega))) | (exfalso; omega) | (rcases x with _ | x))); done)) | grind))
        refine condM' rfl trivial (fun hc => ?_) (fun hc => ?_)
        · replace H := cond_f hc H
          refine rg ctNo_ok ?_
          simp only [go_sem, Nat.reduceLeDiff, Nat.reduceLT, Nat.reduceAdd, Nat.reduceMul, Nat.reduceSub, Nat.reduceEqDiff, Nat.reduceBEq, Int.reduceToNat, reduceCtorEq]
          refine seqM ?_
          obtain ⟨f7, H⟩ := need_some.1 H
          replace f7 := inb_iff.1 f7
          refine draw_quiet shT_ok ctNo_ok (by kernel_rfl) (by kernel_rfl) ?_
          simp only [go_sem, Nat.reduceLeDiff, Nat.reduceLT, Nat.reduceAdd, Nat.reduceMul, Nat.reduceSub, Nat.reduceEqDiff, Nat.reduceBEq, Int.reduceToNat, reduceCtorEq, f7]
          repeat ((with_reducible refine And.intro ?_ ?_); focus (first | (with_reducible trivial) | omega | grind))
          refine condM' rfl trivial (fun hc => ?_) (fun hc => ?_)
          · replace H := cond_f hc H
            refine rg ctNo_ok ?_
            simp only [go_sem, Nat.reduceLeDiff, Nat.reduceLT, Nat.reduceAdd, Nat.reduceMul, Nat.reduceSub, Nat.reduceEqDiff, Nat.reduceBEq, Int.reduceToNat, reduceCtorEq]
            refine rg ctNo_ok ?_
            simp only [go_sem, Nat.reduceLeDiff, Nat.reduceLT, Nat.reduceAdd, Nat.reduceMul, Nat.reduceSub, Nat.reduceEqDiff, Nat.reduceBEq, Int.reduceToNat, reduceCtorEq]
            refine ⟨_, (Option.some.inj H).symm, ?_⟩
            refine SubF_of ⟨[some 0, some 1], ?_, ?_, by rfl, by rfl⟩
            · simp [CvL, Cv, getM]
            · exact ⟨(by simp [CvB, CvL, Cv, blkAt, geth, getM]), CvB_row nr_A6u8 (by first | rfl | (simp; done) | (simp; omega)) (fun _ _ _ _ => rfl), trivial⟩
          replace H := cond_t hc H
          obtain ⟨f8, H⟩ := need_some.1 H
          replace f8 := inb_iff.1 f8
          obtain ⟨f9, H⟩ := need_some.1 H
          replace f9 := capb_iff.1 f9
          refine rg ctNo_ok ?_
          simp only [go_sem, Nat.reduceLeDiff, Nat.reduceLT, Nat.reduceAdd, Nat.reduceMul, Nat.reduceSub, Nat.reduceEqDiff, Nat.reduceBEq, Int.reduceToNat, reduceCtorEq, f8, f9]
          repeat ((with_reducible refine And.intro ?_ ?_); focus (first | (with_reducible trivial) | omega | (and_intros <;> first | (with_reducible trivial) | omega | assumption | exact nfc | first | exact rfl | exact trivial | exact fitI | exact Or.inr rfl | exact Or.inl rfl | exact fun x hx => absurd hx (by omega) | (intro x hx; (repeat (first | (and_intros <;> (first | exact rfl | exact trivial | exact fitI | exact Or.inr rfl | exact Or.inl rfl | exact fun x hx => absurd hx (by omega))) | (exfalso; omega) | (rcases x with _ | x))); done) | (refine Fit_app ?_ ?_ <;> first | exact fitI | (intro x hx; (repeat (first | (and_intros <;> (first | exact rfl | exact trivial | exact fitI | exact Or.inr rfl | exact Or.inl rfl | exact fun x hx => absurd hx (by omega))) | (exfalso; omega) | (rcases x with _ | x))); done) | (refine Fit_app ?_ ?_ <;> first | exact fitI | (intro x hx; (repeat (first | (and_intros <;> (first | exact rfl | exact trivial | exact fitI | exact Or.inr rfl | exact Or.inl rfl | exact fun x hx => absurd hx (by omega))) | (exfalso; omega) | (rcases x with _ | x))); done)))) | grind))
          refine rg ctNo_ok ?_
          simp only [go_sem, Nat.reduceLeDiff, Nat.reduceLT, Nat.reduceAdd, Nat.reduceMul, Nat.reduceSub, Nat.reduceEqDiff, Nat.reduceBEq, Int.reduceToNat, reduceCtorEq]
          refine ⟨_, (Option.some.inj H).symm, ?_⟩
          refine SubF_of ⟨[some 0, some 3], ?_, ?_, by rfl, by rfl⟩
          · simp [CvL, Cv, getM]
          · exact ⟨(by simp [CvB, CvL, Cv, blkAt, geth, getM]), CvB_row nr_A6u8 (by first | rfl | (simp; done) | (simp; omega)) (app_row (f := c_A6u8) v1_1 [(gd p0 v1_3.toNat)] (fun _ _ _ _ => rfl) (lit_row (f := c_A6u8) [(gd p0 v1_3.toNat)] (fun _ _ => rfl) rfl)), trivial⟩
        replace H := cond_t hc H
        refine seqM ?_
        obtain ⟨f3, H⟩ := need_some.1 H
        replace f3 := capb_iff.1 f3
        refine rg ctNo_ok ?_
        simp only [go_sem, Nat.reduceLeDiff, Nat.reduceLT, Nat.reduceAdd, Nat.reduceMul, Nat.reduceSub, Nat.reduceEqDiff, Nat.reduceBEq, Int.reduceToNat, reduceCtorEq, f3]
        repeat ((with_reducible refine And.intro ?_ ?_); focus (first | (with_reducible trivial) | omega | (and_intros <;> first | (with_reducible trivial) | omega | assumption | exact nfc | first | exact rfl | exact trivial | exact fitI | exact Or.inr rfl | exact Or.inl rfl | exact fun x hx => absurd hx (by omega) | (intro x hx; (repeat (first | (and_intros <;> (first | exact rfl | exact trivial | exact fitI | exact Or.inr rfl | exact Or.inl rfl | exact fun x hx => absurd hx (by omega))) | (exfalso; omega) | (rcases x with _ | x))); done) | (refine Fit_app ?_ ?_ <;> first | exact fitI | (intro x hx; (repeat (first | (and_intros <;> (first | exact rfl | exact trivial | exact fitI | exact Or.inr rfl | exact Or.inl rfl | exact fun x hx => absurd hx (by omega))) | (exfalso; omega) | (rcases x with _ | x))); done) | (refine Fit_app ?_ ?_ <;> first | exact fitI | (intro x hx; (repeat (first | (and_intros <;> (first | exact rfl | exact trivial | exact fitI | exact Or.inr rfl | exact Or.inl rfl | exact fun x hx => absurd hx (by omega))) | (exfalso; omega) | (rcases x with _ | x))); done)))) | grind))
        refine rg ctNo_ok ?_
        simp only [go_sem, Nat.reduceLeDiff, Nat.reduceLT, Nat.reduceAdd, Nat.reduceMul, Nat.reduceSub, Nat.reduceEqDiff, Nat.reduceBEq, Int.reduceToNat, reduceCtorEq]
        refine seqM ?_
        obtain ⟨f4, H⟩ := need_some.1 H
        replace f4 := inb_iff.1 f4
        refine draw_quiet shT_ok ctNo_ok (by kernel_rfl) (by kernel_rfl) ?_
        simp only [go_sem, Nat.reduceLeDiff, Nat.reduceLT, Nat.reduceAdd, Nat.reduceMul, Nat.reduceSub, Nat.reduceEqDiff, Nat.reduceBEq, Int.reduceToNat, reduceCtorEq, f4]
        repeat ((with_reducible refine And.intro ?_ ?_); focus (first | (with_reducible trivial) | omega | grind))
        refine condM' rfl trivial (fun hc => ?_) (fun hc => ?_)
        · replace H := cond_f hc H
          refine rg ctNo_ok ?_
          simp only [go_sem, Nat.reduceLeDiff, Nat.reduceLT, Nat.reduceAdd, Nat.reduceMul, Nat.reduceSub, Nat.reduceEqDiff, Nat.reduceBEq, Int.reduceToNat, reduceCtorEq]
          refine rg ctNo_ok ?_
          simp only [go_sem, Nat.reduceLeDiff, Nat.reduceLT, Nat.reduceAdd, Nat.reduceMul, Nat.reduceSub, Nat.reduceEqDiff, Nat.reduceBEq, Int.reduceToNat, reduceCtorEq]
          refine ⟨_, (Option.some.inj H).symm, ?_⟩
          refine SubF_of ⟨[some 0, some 3], ?_, ?_, by rfl, by rfl⟩
          · simp [CvL, Cv, getM]
          · exact ⟨(by simp [CvB, CvL, Cv, blkAt, geth, getM]), CvB_row nr_A6u8 (by first | rfl | (simp; done) | (simp; omega)) (app_row (f := c_A6u8) v1_1 [p1] (fun _ _ _ _ => rfl) (lit_row (f := c_A6u8) [p1] (fun _ _ => rfl) rfl)), trivial⟩
        replace H := cond_t hc H
        obtain ⟨f5, H⟩ := need_some.1 H
        replace f5 := inb_iff.1 f5
        obtain ⟨f6, H⟩ := need_some.1 H
        replace f6 := capb_iff.1 f6
        refine rg ctNo_ok ?_
        simp only [go_sem, Nat.reduceLeDiff, Nat.reduceLT, Nat.reduceAdd, Nat.reduceMul, Nat.reduceSub, Nat.reduceEqDiff, Nat.reduceBEq, Int.reduceToNat, reduceCtorEq, f5, f6]
        repeat ((with_reducible refine And.intro ?_ ?_); focus (first | (with_reducible trivial) | omega | (and_intros <;> first | (with_reducible trivial) | omega | assumption | exact nfc | first | exact rfl | exact trivial | exact fitI | exact Or.inr rfl | exact Or.inl rfl | exact fun x hx => absurd hx (by omega) | (intro x hx; (repeat (first | (and_intros <;> (first | exact rfl | exact trivial | exact fitI | exact Or.inr rfl | exact Or.inl rfl | exact fun x hx => absurd hx (by omega))) | (exfalso; omega) | (rcases x with _ | x))); done) | (refine Fit_app ?_ ?_ <;> first | exact fitI | (intro x hx; (repeat (first | (and_intros <;> (first | exact rfl | exact trivial | exact fitI | exact Or.inr rfl | exact Or.inl rfl | exact fun x hx => absurd hx (by omega))) | (exfalso; omega) | (rcases x with _ | x))); done) | (refine Fit_app ?_ ?_ <;> first | exact fitI | (intro x hx; (repeat (first | (and_intros <;> (first | exact rfl | exact trivial | exact fitI | exact Or.inr rfl | exact Or.inl rfl | exact fun x hx => absurd hx (by omega))) | (exfalso; omega) | (rcases x with _ | x))); done)))) | grind))
        refine rg ctNo_ok ?_
        simp only [go_sem, Nat.reduceLeDiff, Nat.reduceLT, Nat.reduceAdd, Nat.reduceMul, Nat.reduceSub, Nat.reduceEqDiff, Nat.reduceBEq, Int.reduceToNat, reduceCtorEq]
        refine ⟨_, (Option.some.inj H).symm, ?_⟩
        refine SubF_of ⟨[some 0, some 5], ?_, ?_, by rfl, by rfl⟩
        · simp [CvL, Cv, getM]
        · exact ⟨(by simp [CvB, CvL, Cv, blkAt, geth, getM]), CvB_row nr_A6u8 (by first | rfl | (simp; done) | (simp; omega)) (app_row2 (show (v1_1 ++ [p1]).length = v1_1.length + 1 from by simp) (f := c_A6u8) (v1_1 ++ [p1]) [(gd p0 v1_3.toNat)] (app_row (f := c_A6u8) v1_1 [p1] (fun _ _ _ _ => rfl) (lit_row (f := c_A6u8) [p1] (fun _ _ => rfl) rfl)) (lit_row (f := c_A6u8) [(gd p0 v1_3.toNat)] (fun _ _ => rfl) rfl)), trivial⟩
      · obtain ⟨w1_4, w1_5⟩ := e
        try dsimp only at H ⊢
        try simp only [m_normal, k_normal, b_normal, kL_normal, r_normal]
        refine seqM ?_
        refine sq ctNo_ok ?_
        simp only [go_sem, Nat.reduceLeDiff, Nat.reduceLT, Nat.reduceAdd, Nat.reduceMul, Nat.reduceSub, Nat.reduceEqDiff, Nat.reduceBEq, Int.reduceToNat, reduceCtorEq]
        refine condM' rfl trivial (fun hc => ?_) (fun hc => ?_)
        · replace H := cond_f hc H
          refine rg ctNo_ok ?_
          simp only [go_sem, Nat.reduceLeDiff, Nat.reduceLT, Nat.reduceAdd, Nat.reduceMul, Nat.reduceSub, Nat.reduceEqDiff, Nat.reduceBEq, Int.reduceToNat, reduceCtorEq]
          refine sq ctNo_ok ?_
          simp only [go_sem, Nat.reduceLeDiff, Nat.reduceLT, Nat.reduceAdd, Nat.reduceMul, Nat.reduceSub, Nat.reduceEqDiff, Nat.reduceBEq, Int.reduceToNat, reduceCtorEq]
          refine rg ctNo_ok ?_
          simp only [go_sem, Nat.reduceLeDiff, Nat.reduceLT, Nat.reduceAdd, Nat.reduceMul, Nat.reduceSub, Nat.reduceEqDiff, Nat.reduceBEq, Int.reduceToNat, reduceCtorEq]
          obtain rfl := Option.some.inj H
          refine ⟨[1, 0], ?_, ?_, [], ?_, ?_, rfl⟩
          · simp only [List.length_cons, List.length_nil, Nat.zero_mul, Nat.add_zero, fzV, fzL, fzOb, fzObL, fzH, fzHF, fzB, fzObB, fzObH, inL, rowOb, geth, cond_true, cond_false, Bool.or_false, Bool.or_true, Bool.false_or, Bool.true_or, and_self, true_and, and_true, Nat.reduceEqDiff, Nat.reduceBEq, beq_self_eq_true, sub_enR0, Nat.reduceAdd, Nat.zero_add, Nat.le_refl, List.nil_append]
            try (and_intros <;> first | (with_reducible trivial) | omega | exact nfc | trivial)
          · simp only [List.length_cons, List.length_nil, Nat.zero_mul, Nat.add_zero, fzV, fzL, fzOb, fzObL, fzH, fzHF, fzB, fzObB, fzObH, inL, rowOb, geth, cond_true, cond_false, Bool.or_false, Bool.or_true, Bool.false_or, Bool.true_or, and_self, true_and, and_true, Nat.reduceEqDiff, Nat.reduceBEq, beq_self_eq_true, sub_enR0, Nat.reduceAdd, Nat.zero_add, Nat.le_refl, List.nil_append]
            try (and_intros <;> first | (with_reducible trivial) | omega | exact nfc | trivial)
          · simp only [List.length_cons, List.length_nil, Nat.zero_mul, Nat.add_zero, fzV, fzL, fzOb, fzObL, fzH, fzHF, fzB, fzObB, fzObH, inL, rowOb, geth, cond_true, cond_false, Bool.or_false, Bool.or_true, Bool.false_or, Bool.true_or, and_self, true_and, and_true, Nat.reduceEqDiff, Nat.reduceBEq, beq_self_eq_true, sub_enR0, Nat.reduceAdd, Nat.zero_add, Nat.le_refl, List.nil_append]
            exact (ro_row (by first | rfl | simp) (fun _ _ _ _ => rfl))
          · simp only [List.length_cons, List.length_nil, Nat.zero_mul, Nat.add_zero, fzV, fzL, fzOb, fzObL, fzH, fzHF, fzB, fzObB, fzObH, inL, rowOb, geth, cond_true, cond_false, Bool.or_false, Bool.or_true, Bool.false_or, Bool.true_or, and_self, true_and, and_true, Nat.reduceEqDiff, Nat.reduceBEq, beq_self_eq_true, sub_enR0, Nat.reduceAdd, Nat.zero_add, Nat.le_refl, List.nil_append, CvH]
        replace H := cond_t hc H
        obtain ⟨f10, H⟩ := need_some.1 H
        replace f10 := capb_iff.1 f10
        refine rg ctNo_ok ?_
        simp only [go_sem, Nat.reduceLeDiff, Nat.reduceLT, Nat.reduceAdd, Nat.reduceMul, Nat.reduceSub, Nat.reduceEqDiff, Nat.reduceBEq, Int.reduceToNat, reduceCtorEq, f10]
        repeat ((with_reducible refine And.intro ?_ ?_); focus (first | (with_reducible trivial) | omega | (and_intros <;> first | (with_reducible trivial) | omega | assumption | exact nfc | first | exact rfl | exact trivial | exact fitI | exact Or.inr rfl | exact Or.inl rfl | exact fun x hx => absurd hx (by omega) | (intro x hx; (repeat (first | (and_intros <;> (first | exact rfl | exact trivial | exact fitI | exact Or.inr rfl | exact Or.inl rfl | exact fun x hx => absurd hx (by omega))) | (exfalso; omega) | (rcases x with _ | x))); done) | (refine Fit_app ?_ ?_ <;> first | exact fitI | (intro x hx; (repeat (first | (and_intros <;> (first | exact rfl | exact trivial | exact fitI | exact Or.inr rfl | exact Or.inl rfl | exact fun x hx => absurd hx (by omega))) | (exfalso; omega) | (rcases x with _ | x))); done) | (refine Fit_app ?_ ?_ <;> first | exact fitI | (intro x hx; (repeat (first | (and_intros <;> (first | exact rfl | exact trivial | exact fitI | exact Or.inr rfl | exact Or.inl rfl | exact fun x hx => absurd hx (by omega))) | (exfalso; omega) | (rcases x with _ | x))); done)))) | grind))
        refine sq ctNo_ok ?_
        simp only [go_sem, Nat.reduceLeDiff, Nat.reduceLT, Nat.reduceAdd, Nat.reduceMul, Nat.reduceSub, Nat.reduceEqDiff, Nat.reduceBEq, Int.reduceToNat, reduceCtorEq]
        refine rg ctNo_ok ?_
        simp only [go_sem, Nat.reduceLeDiff, Nat.reduceLT, Nat.reduceAdd, Nat.reduceMul, Nat.reduceSub, Nat.reduceEqDiff, Nat.reduceBEq, Int.reduceToNat, reduceCtorEq]
        obtain rfl := Option.some.inj H
        refine ⟨[3, 0], ?_, ?_, [], ?_, ?_, rfl⟩
        · simp only [List.length_cons, List.length_nil, Nat.zero_mul, Nat.add_zero, fzV, fzL, fzOb, fzObL, fzH, fzHF, fzB, fzObB, fzObH, inL, rowOb, geth, cond_true, cond_false, Bool.or_false, Bool.or_true, Bool.false_or, Bool.true_or, and_self, true_and, and_true, Nat.reduceEqDiff, Nat.reduceBEq, beq_self_eq_true, sub_enR0, Nat.reduceAdd, Nat.zero_add, Nat.le_refl, List.nil_append]
          try (and_intros <;> first | (with_reducible trivial) | omega | exact nfc | trivial)
        · simp only [List.length_cons, List.length_nil, Nat.zero_mul, Nat.add_zero, fzV, fzL, fzOb, fzObL, fzH, fzHF, fzB, fzObB, fzObH, inL, rowOb, geth, cond_true, cond_false, Bool.or_false, Bool.or_true, Bool.false_or, Bool.true_or, and_self, true_and, and_true, Nat.reduceEqDiff, Nat.reduceBEq, beq_self_eq_true, sub_enR0, Nat.reduceAdd, Nat.zero_add, Nat.le_refl, List.nil_append]
          try (and_intros <;> first | (with_reducible trivial) | omega | exact nfc | trivial)
        · simp only [List.length_cons, List.length_nil, Nat.zero_mul, Nat.add_zero, fzV, fzL, fzOb, fzObL, fzH, fzHF, fzB, fzObB, fzObH, inL, rowOb, geth, cond_true, cond_false, Bool.or_false, Bool.or_true, Bool.false_or, Bool.true_or, and_self, true_and, and_true, Nat.reduceEqDiff, Nat.reduceBEq, beq_self_eq_true, sub_enR0, Nat.reduceAdd, Nat.zero_add, Nat.le_refl, List.nil_append]
          exact (ro_row (by first | rfl | simp) (app_row (f := c_A6u8) w1_4 [p1] (fun _ _ _ _ => rfl) (lit_row (f := c_A6u8) [p1] (fun _ _ => rfl) rfl)))
        · simp only [List.length_cons, List.length_nil, Nat.zero_mul, Nat.add_zero, fzV, fzL, fzOb, fzObL, fzH, fzHF, fzB, fzObB, fzObH, inL, rowOb, geth, cond_true, cond_false, Bool.or_false, Bool.or_true, Bool.false_or, Bool.true_or, and_self, true_and, and_true, Nat.reduceEqDiff, Nat.reduceBEq, beq_self_eq_true, sub_enR0, Nat.reduceAdd, Nat.zero_add, Nat.le_refl, List.nil_append, CvH]
    · cases hb
  · unfold body18 at hb
    split at hb <;> cases hb
/-! hotspot/hotspotref02.done -/
noncomputable def F17 (p0 : List A6u8) : Option ((List A6u8) × Int) :=
  bif (bLt 256 (p0.length : Nat)) then (some ([], 22)) else (some (p0, 0))
noncomputable def body17 : List AV → Nat → AR
  | [v0], _ => .pure (lK k_A6u8 6 v0 ∧ (F17 (lA g_A6u8 v0)).isSome = true) (.tup [.ro 6 (((gt (F17 (lA g_A6u8 v0))).1).length) false (enR c_A6u8 ((gt (F17 (lA g_A6u8 v0))).1)), .int .i64 ((gt (F17 (lA g_A6u8 v0))).2)])
  | _, _ => .fail
set_option maxHeartbeats 4000000 in
set_option maxRecDepth 20000 in
theorem ok17 : FnOk Try.prog 17 (genC body17) := by
  refine gen_fn body17 (rs := [.tmp 2, .tmp 3]) Try.func17 (by kernel_rfl) rfl rfl ?_
  intro l s ob v ns hb hob
  rcases hb with ⟨hb, rfl⟩ | hb
  · unfold body17 at hb
    split at hb
    · rename_i v0
      injection hb with q1 q2; subst q1 q2
      obtain ⟨hk0_0, hob⟩ := hob
      obtain ⟨r, H⟩ := Option.isSome_iff_exists.1 hob
      rw [H, gt_some]
      have hw0 := lK_wk (fun r h => w_A6u8 h) hk0_0
      generalize lA g_A6u8 v0 = p0 at H hw0
      refine ⟨[.ro 6 p0.length false (enR c_A6u8 p0)], .tup [.ro 6 r.1.length false (enR c_A6u8 r.1), .int .i64 r.2], [], (fun E vs F => FR_wk1 hw0.1 F (fun vs F => F)), by simp only [ren, renL], trivial, ?_⟩
      rw [Try.ntmps17]
      simp only [List.length_cons, List.length_nil, Nat.reduceAdd, Nat.reduceSub, List.replicate_succ, List.replicate_zero, List.cons_append, List.nil_append]
      unfold F17 at H
      try dsimp only at H
      refine sq ctNo_ok ?_
      simp only [go_sem, Nat.reduceLeDiff, Nat.reduceLT, Nat.reduceAdd, Nat.reduceMul, Nat.reduceSub, Nat.reduceEqDiff, Nat.reduceBEq, Int.reduceToNat, reduceCtorEq]
      refine seqM ?_
      refine sq ctNo_ok ?_
      simp only [go_sem, Nat.reduceLeDiff, Nat.reduceLT, Nat.reduceAdd, Nat.reduceMul, Nat.reduceSub, Nat.reduceEqDiff, Nat.reduceBEq, Int.reduceToNat, reduceCtorEq]
      repeat ((with_reducible refine And.intro ?_ ?_); focus (first | (with_reducible trivial) | omega | (and_intros <;> first | (with_reducible trivial) | omega | assumption | exact nfc | first | exact rfl | exact trivial | exact fitI | exact Or.inr rfl | exact Or.inl rfl | exact fun x hx => absurd hx (by omega) | (intro x hx; (repeat (first | (and_intros <;> (first | exact rfl | exact trivial | exact fitI | exact Or.inr rfl | exact Or.inl rfl | exact fun x hx => absurd hx (by omega))) | (exfalso; omega) | (rcases x with _ | x))); done)) | grind))
      refine condM rfl trivial (fun hc => ?_) (fun hc => ?_)
      · replace H := cond_t hc H
        refine sq ctNo_ok ?_
        simp only [go_sem, Nat.reduceLeDiff, Nat.reduceLT, Nat.reduceAdd, Nat.reduceMul, Nat.reduceSub, Nat.reduceEqDiff, Nat.reduceBEq, Int.reduceToNat, reduceCtorEq]
        refine rg ctNo_ok ?_
        simp only [go_sem, Nat.reduceLeDiff, Nat.reduceLT, Nat.reduceAdd, Nat.reduceMul, Nat.reduceSub, Nat.reduceEqDiff, Nat.reduceBEq, Int.reduceToNat, reduceCtorEq]
        obtain rfl := Option.some.inj H
        refine ⟨[], ?_, ?_, [], ?_, ?_, rfl⟩
        · simp only [List.length_cons, List.length_nil, Nat.zero_mul, Nat.add_zero, fzV, fzL, fzOb, fzObL, fzH, fzHF, fzB, fzObB, fzObH, inL, rowOb, geth, cond_true, cond_false, Bool.or_false, Bool.or_true, Bool.false_or, Bool.true_or, and_self, true_and, and_true, Nat.reduceEqDiff, Nat.reduceBEq, beq_self_eq_true, sub_enR0, Nat.reduceAdd, Nat.zero_add, Nat.le_refl, List.nil_append]
          try (and_intros <;> first | (with_reducible trivial) | omega | exact nfc | trivial)
        · simp only [List.length_cons, List.length_nil, Nat.zero_mul, Nat.add_zero, fzV, fzL, fzOb, fzObL, fzH, fzHF, fzB, fzObB, fzObH, inL, rowOb, geth, cond_true, cond_false, Bool.or_false, Bool.or_true, Bool.false_or, Bool.true_or, and_self, true_and, and_true, Nat.reduceEqDiff, Nat.reduceBEq, beq_self_eq_true, sub_enR0, Nat.reduceAdd, Nat.zero_add, Nat.le_refl, List.nil_append]
          try (and_intros <;> first | (with_reducible trivial) | omega | exact nfc | trivial)
        · simp only [List.length_cons, List.length_nil, Nat.zero_mul, Nat.add_zero, fzV, fzL, fzOb, fzObL, fzH, fzHF, fzB, fzObB, fzObH, inL, rowOb, geth, cond_true, cond_false, Bool.or_false, Bool.or_true, Bool.false_or, Bool.true_or, and_self, true_and, and_true, Nat.reduceEqDiff, Nat.reduceBEq, beq_self_eq_true, sub_enR0, Nat.reduceAdd, Nat.zero_add, Nat.le_refl, List.nil_append]
          exact Cv_tup (CvL_cons (Cv_ronil (α := A6u8)) (CvL_cons Cv_int CvL_nil))
        · simp only [List.length_cons, List.length_nil, Nat.zero_mul, Nat.add_zero, fzV, fzL, fzOb, fzObL, fzH, fzHF, fzB, fzObB, fzObH, inL, rowOb, geth, cond_true, cond_false, Bool.or_false, Bool.or_true, Bool.false_or, Bool.true_or, and_self, true_and, and_true, Nat.reduceEqDiff, Nat.reduceBEq, beq_self_eq_true, sub_enR0, Nat.reduceAdd, Nat.zero_add, Nat.le_refl, List.nil_append, CvH]
      replace H := cond_f hc H
      refine rg ctNo_ok ?_
      simp only [go_sem, Nat.reduceLeDiff, Nat.reduceLT, Nat.reduceAdd, Nat.reduceMul, Nat.reduceSub, Nat.reduceEqDiff, Nat.reduceBEq, Int.reduceToNat, reduceCtorEq]
      refine sq ctNo_ok ?_
      simp only [go_sem, Nat.reduceLeDiff, Nat.reduceLT, Nat.reduceAdd, Nat.reduceMul, Nat.reduceSub, Nat.reduceEqDiff, Nat.reduceBEq, Int.reduceToNat, reduceCtorEq]
      refine rg ctNo_ok ?_
      simp only [go_sem, Nat.reduceLeDiff, Nat.reduceLT, Nat.reduceAdd, Nat.reduceMul, Nat.reduceSub, Nat.reduceEqDiff, Nat.reduceBEq, Int.reduceToNat, reduceCtorEq]
      obtain rfl := Option.some.inj H
      refine ⟨[], ?_, ?_, [], ?_, ?_, rfl⟩
      · simp only [List.length_cons, List.length_nil, Nat.zero_mul, Nat.add_zero, fzV, fzL, fzOb, fzObL, fzH, fzHF, fzB, fzObB, fzObH, inL, rowOb, geth, cond_true, cond_false, Bool.or_false, Bool.or_true, Bool.false_or, Bool.true_or, and_self, true_and, and_true, Nat.reduceEqDiff, Nat.reduceBEq, beq_self_eq_true, sub_enR0, Nat.reduceAdd, Nat.zero_add, Nat.le_refl, List.nil_append]
        try (and_intros <;> first | (with_reducible trivial) | omega | exact nfc | trivial)
      · simp only [List.length_cons, List.length_nil, Nat.zero_mul, Nat.add_zero, fzV, fzL, fzOb, fzObL, fzH, fzHF, fzB, fzObB, fzObH, inL, rowOb, geth, cond_true, cond_false, Bool.or_false, Bool.or_true, Bool.false_or, Bool.true_or, and_self, true_and, and_true, Nat.reduceEqDiff, Nat.reduceBEq, beq_self_eq_true, sub_enR0, Nat.reduceAdd, Nat.zero_add, Nat.le_refl, List.nil_append]
        try (and_intros <;> first | (with_reducible trivial) | omega | exact nfc | trivial)
      · simp only [List.length_cons, List.length_nil, Nat.zero_mul, Nat.add_zero, fzV, fzL, fzOb, fzObL, fzH, fzHF, fzB, fzObB, fzObH, inL, rowOb, geth, cond_true, cond_false, Bool.or_false, Bool.or_true, Bool.false_or, Bool.true_or, and_self, true_and, and_true, Nat.reduceEqDiff, Nat.reduceBEq, beq_self_eq_true, sub_enR0, Nat.reduceAdd, Nat.zero_add, Nat.le_refl, List.nil_append]
        exact Cv_tup (CvL_cons (Cv_nf (by simp only [nref])) (CvL_cons Cv_int CvL_nil))
      · simp only [List.length_cons, List.length_nil, Nat.zero_mul, Nat.add_zero, fzV, fzL, fzOb, fzObL, fzH, fzHF, fzB, fzObB, fzObH, inL, rowOb, geth, cond_true, cond_false, Bool.or_false, Bool.or_true, Bool.false_or, Bool.true_or, and_self, true_and, and_true, Nat.reduceEqDiff, Nat.reduceBEq, beq_self_eq_true, sub_enR0, Nat.reduceAdd, Nat.zero_add, Nat.le_refl, List.nil_append, CvH]
    · cases hb
  · unfold body17 at hb
    split at hb <;> cases hb
/-! hotspot/hotspotref02.Add -/
noncomputable def ct5t0 : Ct := tab [(16, pureC body16)]
theorem ct5t0_ok : CtOk Try.prog ct5t0 := tab_cons ok16 <| tab_nil
theorem ct5t0_16 (l : List AV) (h : List ABlk) : ct5t0 16 l h = pureC body16 l h := rfl
noncomputable def ct5t1 : Ct := tab [(17, genC body17), (18, genC body18)]
theorem ct5t1_ok : CtOk Try.prog ct5t1 := tab_cons ok17 <| tab_cons ok18 <| tab_nil
theorem ct5t1_17 (l : List AV) (h : List ABlk) : ct5t1 17 l h = genC body17 l h := rfl
theorem ct5t1_18 (l : List AV) (h : List ABlk) : ct5t1 18 l h = genC body18 l h := rfl
noncomputable def F5 (p0 : List A6u8) (p1 : A6u8) : Option ((List A6u8) × Int) :=
  (F16 p0).bind fun r1 => bif (!r1) then (some ([], 8)) else ((F18 p0 p1).bind fun r3 => (F17 r3).bind fun r5 => some (r5.1, r5.2))
noncomputable def body5 : List AV → Nat → AR
  | [v0, v1], _ => .pure (lK k_A6u8 6 v0 ∧ aK 6 k_A6u8 v1 ∧ (F5 (lA g_A6u8 v0) (g_A6u8 (aL v1))).isSome = true) (.tup [.ro 6 (((gt (F5 (lA g_A6u8 v0) (g_A6u8 (aL v1)))).1).length) false (enR c_A6u8 ((gt (F5 (lA g_A6u8 v0) (g_A6u8 (aL v1)))).1)), .int .i64 ((gt (F5 (lA g_A6u8 v0) (g_A6u8 (aL v1)))).2)])
  | _, _ => .fail
set_option maxHeartbeats 4000000 in
set_option maxRecDepth 20000 in
theorem ok5 : FnOk Try.prog 5 (genC body5) := by
  refine gen_fn body5 (rs := [.tmp 4, .tmp 5]) Try.func5 (by kernel_rfl) rfl rfl ?_
  intro l s ob v ns hb hob
  rcases hb with ⟨hb, rfl⟩ | hb
  · unfold body5 at hb
    split at hb
    · rename_i v0 v1
      injection hb with q1 q2; subst q1 q2
      obtain ⟨hk0_0, hk1_0, hob⟩ := hob
      obtain ⟨r, H⟩ := Option.isSome_iff_exists.1 hob
      rw [H, gt_some]
      have hw0 := lK_wk (fun r h => w_A6u8 h) hk0_0
      have hw1 := wA_A6u8 hk1_0
      generalize lA g_A6u8 v0 = p0 at H hw0
      generalize g_A6u8 (aL v1) = p1 at H hw1
      refine ⟨[.ro 6 p0.length false (enR c_A6u8 p0), .agg [.int .u8 p1.x0, .int .u8 p1.x1, .int .u8 p1.x2, .int .u8 p1.x3, .int .u8 p1.x4, .int .u8 p1.x5]], .tup [.ro 6 r.1.length false (enR c_A6u8 r.1), .int .i64 r.2], [], (fun E vs F => FR_wk1 hw0.1 F (fun vs F => FR_wk1 hw1.1 F (fun vs F => F))), by simp only [ren, renL], trivial, ?_⟩
      rw [Try.ntmps5]
      simp only [List.length_cons, List.length_nil, Nat.reduceAdd, Nat.reduceSub, List.replicate_succ, List.replicate_zero, List.cons_append, List.nil_append]
      unfold F5 at H
      try dsimp only at H
      refine sq ctNo_ok ?_
      simp only [go_sem, Nat.reduceLeDiff, Nat.reduceLT, Nat.reduceAdd, Nat.reduceMul, Nat.reduceSub, Nat.reduceEqDiff, Nat.reduceBEq, Int.reduceToNat, reduceCtorEq]
      refine seqM ?_
      refine seqM ?_
      obtain ⟨r1, e2, H⟩ := Option.bind_eq_some_iff.1 H
      refine rg ct5t0_ok ?_
      simp only [go_sem, Nat.reduceLeDiff, Nat.reduceLT, Nat.reduceAdd, Nat.reduceMul, Nat.reduceSub, Nat.reduceEqDiff, Nat.reduceBEq, Int.reduceToNat, reduceCtorEq, ct5t0_16, body16, e2]
      repeat ((with_reducible refine And.intro ?_ ?_); focus (first | (with_reducible trivial) | omega | (and_intros <;> first | (with_reducible trivial) | omega | assumption | exact nfc | first | exact rfl | exact trivial | exact fitI | exact Or.inr rfl | exact Or.inl rfl | exact fun x hx => absurd hx (by omega) | (intro x hx; (repeat (first | (and_intros <;> (first | exact rfl | exact trivial | exact fitI | exact Or.inr rfl | exact Or.inl rfl | exact fun x hx => absurd hx (by omega))) | (exfalso; omega) | (rcases x with _ | x))); done)) | grind))
      refine condM rfl trivial (fun hc => ?_) (fun hc => ?_)
      · replace H := cond_t hc H
        refine sq ctNo_ok ?_
        simp only [go_sem, Nat.reduceLeDiff, Nat.reduceLT, Nat.reduceAdd, Nat.reduceMul, Nat.reduceSub, Nat.reduceEqDiff, Nat.reduceBEq, Int.reduceToNat, reduceCtorEq]
        refine rg ctNo_ok ?_
        simp only [go_sem, Nat.reduceLeDiff, Nat.reduceLT, Nat.reduceAdd, Nat.reduceMul, Nat.reduceSub, Nat.reduceEqDiff, Nat.reduceBEq, Int.reduceToNat, reduceCtorEq]
        obtain rfl := Option.some.inj H
        refine ⟨[0], ?_, ?_, [], ?_, ?_, rfl⟩
        · simp only [List.length_cons, List.length_nil, Nat.zero_mul, Nat.add_zero, fzV, fzL, fzOb, fzObL, fzH, fzHF, fzB, fzObB, fzObH, inL, rowOb, geth, cond_true, cond_false, Bool.or_false, Bool.or_true, Bool.false_or, Bool.true_or, and_self, true_and, and_true, Nat.reduceEqDiff, Nat.reduceBEq, beq_self_eq_true, sub_enR0, Nat.reduceAdd, Nat.zero_add, Nat.le_refl, List.nil_append]
          try (and_intros <;> first | (with_reducible trivial) | omega | exact nfc | trivial)
        · simp only [List.length_cons, List.length_nil, Nat.zero_mul, Nat.add_zero, fzV, fzL, fzOb, fzObL, fzH, fzHF, fzB, fzObB, fzObH, inL, rowOb, geth, cond_true, cond_false, Bool.or_false, Bool.or_true, Bool.false_or, Bool.true_or, and_self, true_and, and_true, Nat.reduceEqDiff, Nat.reduceBEq, beq_self_eq_true, sub_enR0, Nat.reduceAdd, Nat.zero_add, Nat.le_refl, List.nil_append]
          try (and_intros <;> first | (with_reducible trivial) | omega | exact nfc | trivial)
        · simp only [List.length_cons, List.length_nil, Nat.zero_mul, Nat.add_zero, fzV, fzL, fzOb, fzObL, fzH, fzHF, fzB, fzObB, fzObH, inL, rowOb, geth, cond_true, cond_false, Bool.or_false, Bool.or_true, Bool.false_or, Bool.true_or, and_self, true_and, and_true, Nat.reduceEqDiff, Nat.reduceBEq, beq_self_eq_true, sub_enR0, Nat.reduceAdd, Nat.zero_add, Nat.le_refl, List.nil_append]
          exact Cv_tup (CvL_cons (Cv_ronil (α := A6u8)) (CvL_cons Cv_int CvL_nil))
        · simp only [List.length_cons, List.length_nil, Nat.zero_mul, Nat.add_zero, fzV, fzL, fzOb, fzObL, fzH, fzHF, fzB, fzObB, fzObH, inL, rowOb, geth, cond_true, cond_false, Bool.or_false, Bool.or_true, Bool.false_or, Bool.true_or, and_self, true_and, and_true, Nat.reduceEqDiff, Nat.reduceBEq, beq_self_eq_true, sub_enR0, Nat.reduceAdd, Nat.zero_add, Nat.le_refl, List.nil_append, CvH]
      replace H := cond_f hc H
      refine rg ctNo_ok ?_
      simp only [go_sem, Nat.reduceLeDiff, Nat.reduceLT, Nat.reduceAdd, Nat.reduceMul, Nat.reduceSub, Nat.reduceEqDiff, Nat.reduceBEq, Int.reduceToNat, reduceCtorEq]
      refine seqM ?_
      obtain ⟨r3, e4, H⟩ := Option.bind_eq_some_iff.1 H
      obtain ⟨r5, e6, H⟩ := Option.bind_eq_some_iff.1 H
      refine rg ct5t1_ok ?_
      simp only [go_sem, Nat.reduceLeDiff, Nat.reduceLT, Nat.reduceAdd, Nat.reduceMul, Nat.reduceSub, Nat.reduceEqDiff, Nat.reduceBEq, Int.reduceToNat, reduceCtorEq, ct5t1_17, body17, ct5t1_18, body18, e4, e6]
      repeat ((with_reducible refine And.intro ?_ ?_); focus (first | (with_reducible trivial) | omega | (and_intros <;> first | (with_reducible trivial) | omega | assumption | exact nfc | first | exact rfl | exact trivial | exact fitI | exact Or.inr rfl | exact Or.inl rfl | exact fun x hx => absurd hx (by omega) | (intro x hx; (repeat (first | (and_intros <;> (first | exact rfl | exact trivial | exact fitI | exact Or.inr rfl | exact Or.inl rfl | exact fun x hx => absurd hx (by omega))) | (exfalso; omega) | (rcases x with _ | x))); done)) | grind))
      refine sq ctNo_ok ?_
      simp only [go_sem, Nat.reduceLeDiff, Nat.reduceLT, Nat.reduceAdd, Nat.reduceMul, Nat.reduceSub, Nat.reduceEqDiff, Nat.reduceBEq, Int.reduceToNat, reduceCtorEq]
      refine rg ctNo_ok ?_
      simp only [go_sem, Nat.reduceLeDiff, Nat.reduceLT, Nat.reduceAdd, Nat.reduceMul, Nat.reduceSub, Nat.reduceEqDiff, Nat.reduceBEq, Int.reduceToNat, reduceCtorEq]
      obtain rfl := Option.some.inj H
      refine ⟨[0], ?_, ?_, [], ?_, ?_, rfl⟩
      · simp only [List.length_cons, List.length_nil, Nat.zero_mul, Nat.add_zero, fzV, fzL, fzOb, fzObL, fzH, fzHF, fzB, fzObB, fzObH, inL, rowOb, geth, cond_true, cond_false, Bool.or_false, Bool.or_true, Bool.false_or, Bool.true_or, and_self, true_and, and_true, Nat.reduceEqDiff, Nat.reduceBEq, beq_self_eq_true, sub_enR0, Nat.reduceAdd, Nat.zero_add, Nat.le_refl, List.nil_append]
        try (and_intros <;> first | (with_reducible trivial) | omega | exact nfc | trivial)
      · simp only [List.length_cons, List.length_nil, Nat.zero_mul, Nat.add_zero, fzV, fzL, fzOb, fzObL, fzH, fzHF, fzB, fzObB, fzObH, inL, rowOb, geth, cond_true, cond_false, Bool.or_false, Bool.or_true, Bool.false_or, Bool.true_or, and_self, true_and, and_true, Nat.reduceEqDiff, Nat.reduceBEq, beq_self_eq_true, sub_enR0, Nat.reduceAdd, Nat.zero_add, Nat.le_refl, List.nil_append]
        try (and_intros <;> first | (with_reducible trivial) | omega | exact nfc | trivial)
      · simp only [List.length_cons, List.length_nil, Nat.zero_mul, Nat.add_zero, fzV, fzL, fzOb, fzObL, fzH, fzHF, fzB, fzObB, fzObH, inL, rowOb, geth, cond_true, cond_false, Bool.or_false, Bool.or_true, Bool.false_or, Bool.true_or, and_self, true_and, and_true, Nat.reduceEqDiff, Nat.reduceBEq, beq_self_eq_true, sub_enR0, Nat.reduceAdd, Nat.zero_add, Nat.le_refl, List.nil_append]
        exact Cv_tup (CvL_cons (Cv_nf (by simp only [nref])) (CvL_cons Cv_int CvL_nil))
      · simp only [List.length_cons, List.length_nil, Nat.zero_mul, Nat.add_zero, fzV, fzL, fzOb, fzObL, fzH, fzHF, fzB, fzObB, fzObH, inL, rowOb, geth, cond_true, cond_false, Bool.or_false, Bool.or_true, Bool.false_or, Bool.true_or, and_self, true_and, and_true, Nat.reduceEqDiff, Nat.reduceBEq, beq_self_eq_true, sub_enR0, Nat.reduceAdd, Nat.zero_add, Nat.le_refl, List.nil_append, CvH]
    · cases hb
  · unfold body5 at hb
    split at hb <;> cases hb
/-! hotspot/address.Remove$1 -/
noncomputable def F20 (p0 : Bool) (p1 : Bool) : Option (Bool) :=
  some (p0 && (!p1))
noncomputable def body20 : List AV → AR
  | [v0, v1] => .pure (bK v0 ∧ bK v1 ∧ (F20 (bA v0) (bA v1)).isSome = true) (.bool (gt (F20 (bA v0) (bA v1))))
  | _ => .fail
set_option maxHeartbeats 4000000 in
set_option maxRecDepth 20000 in
theorem ok20 : FnOk Try.prog 20 (pureC body20) := by
  refine pure_fnM body20 (rs := [.tmp 4]) Try.func20 (by kernel_rfl) rfl rfl ?_
  intro l ob v hb hob
  unfold body20 at hb
  split at hb
  · rename_i v0 v1
    injection hb with q1 q2; subst q1 q2
    obtain ⟨hk0_0, hk1_0, hob⟩ := hob
    obtain ⟨r, H⟩ := Option.isSome_iff_exists.1 hob
    rw [H, gt_some]
    have hw0 := bK_wk hk0_0
    have hw1 := bK_wk hk1_0
    generalize bA v0 = p0 at H hw0
    generalize bA v1 = p1 at H hw1
    refine ⟨[.bool p0, .bool p1], _, (fun E vs F => FR_wk1 hw0.1 F (fun vs F => FR_wk1 hw1.1 F (fun vs F => F))), rfl, rfl, ?_⟩
    rw [Try.ntmps20]
    simp only [List.length_cons, List.length_nil, Nat.reduceAdd, Nat.reduceSub, List.replicate_succ, List.replicate_zero, List.cons_append, List.nil_append]
    unfold F20 at H
    try dsimp only at H
    refine sq ctNo_ok ?_
    simp only [go_sem, Nat.reduceLeDiff, Nat.reduceLT, Nat.reduceAdd, Nat.reduceMul, Nat.reduceSub, Nat.reduceEqDiff, Nat.reduceBEq, Int.reduceToNat, reduceCtorEq]
    refine sq ctNo_ok ?_
    simp only [go_sem, Nat.reduceLeDiff, Nat.reduceLT, Nat.reduceAdd, Nat.reduceMul, Nat.reduceSub, Nat.reduceEqDiff, Nat.reduceBEq, Int.reduceToNat, reduceCtorEq]
    repeat ((with_reducible refine And.intro ?_ ?_); focus (first | (with_reducible trivial) | omega | grind))
    refine rg ctNo_ok ?_
    simp only [go_sem, Nat.reduceLeDiff, Nat.reduceLT, Nat.reduceAdd, Nat.reduceMul, Nat.reduceSub, Nat.reduceEqDiff, Nat.reduceBEq, Int.reduceToNat, reduceCtorEq]
    obtain rfl := Option.some.inj H
    first | rfl | simp only [Bool.and_false, Bool.false_and, Bool.and_true, Bool.true_and]
  · cases hb
/-! hotspot/address.merge -/
noncomputable def ct19_1t0 : Ct := tab [(15, pureC body15)]
theorem ct19_1t0_ok : CtOk Try.prog ct19_1t0 := tab_cons ok15 <| tab_nil
theorem ct19_1t0_15 (l : List AV) (h : List ABlk) : ct19_1t0 15 l h = pureC body15 l h := rfl
noncomputable def ct19_1t1 : Ct := tab [(20, pureC body20)]
theorem ct19_1t1_ok : CtOk Try.prog ct19_1t1 := tab_cons ok20 <| tab_nil
theorem ct19_1t1_20 (l : List AV) (h : List ABlk) : ct19_1t1 20 l h = pureC body20 l h := rfl
noncomputable def ct19_1t2 : Ct := tab [(24, pureC body24)]
theorem ct19_1t2_ok : CtOk Try.prog ct19_1t2 := tab_cons ok24 <| tab_nil
theorem ct19_1t2_24 (l : List AV) (h : List ABlk) : ct19_1t2 24 l h = pureC body24 l h := rfl
noncomputable def F19_1_L1 (v1_1 : List A6u8) (v1_2 : List A6u8) (v1_3 : List A6u8) : Option (Lp ((List A6u8) × (List A6u8) × (List A6u8)) ((List A6u8) ⊕ ((List A6u8) × Int))) :=
  bif ((bLt 0 (v1_3.length : Nat)) || (bLt 0 (v1_1.length : Nat))) then (bif (bEq (v1_3.length : Nat) 0) then (need (inb 0 v1_1.length) <| need (slb 1 (v1_1.length : Nat) v1_1.length) <| (F20 false true).bind fun r13 => bif r13 then (need (capb 6 (v1_2.length + 1)) <| some (.next ((v1_1.drop 1), (v1_2 ++ [(gd v1_1 0)]), v1_3))) else (some (.next ((v1_1.drop 1), v1_2, v1_3)))) else (bif (bEq (v1_1.length : Nat) 0) then (need (inb 0 v1_3.length) <| need (slb 1 (v1_3.length : Nat) v1_3.length) <| (F20 true false).bind fun r18 => bif r18 then (need (capb 6 (v1_2.length + 1)) <| some (.next (v1_1, (v1_2 ++ [(gd v1_3 0)]), (v1_3.drop 1)))) else (some (.next (v1_1, v1_2, (v1_3.drop 1))))) else (need (inb 0 v1_3.length) <| need (inb 0 v1_1.length) <| (F24 (gd v1_3 0) (gd v1_1 0)).bind fun r23 => bif (bLe r23 0) then (need (inb 0 v1_3.length) <| need (slb 1 (v1_3.length : Nat) v1_3.length) <| bif (bLe 0 r23) then (need (inb 0 v1_1.length) <| need (slb 1 (v1_1.length : Nat) v1_1.length) <| (F20 (bLe r23 0) (bLe 0 r23)).bind fun r29 => bif r29 then (need (capb 6 (v1_2.length + 1)) <| some (.next ((v1_1.drop 1), (v1_2 ++ [(gd v1_1 0)]), (v1_3.drop 1)))) else (some (.next ((v1_1.drop 1), v1_2, (v1_3.drop 1))))) else ((F20 (bLe r23 0) (bLe 0 r23)).bind fun r32 => bif r32 then (need (capb 6 (v1_2.length + 1)) <| some (.next (v1_1, (v1_2 ++ [(gd v1_3 0)]), (v1_3.drop 1)))) else (some (.next (v1_1, v1_2, (v1_3.drop 1)))))) else (bif (bLe 0 r23) then (need (inb 0 v1_1.length) <| need (slb 1 (v1_1.length : Nat) v1_1.length) <| (F20 (bLe r23 0) (bLe 0 r23)).bind fun r37 => bif r37 then (need (capb 6 (v1_2.length + 1)) <| some (.next ((v1_1.drop 1), (v1_2 ++ [(gd v1_1 0)]), v1_3))) else (some (.next ((v1_1.drop 1), v1_2, v1_3)))) else ((F20 (bLe r23 0) (bLe 0 r23)).bind fun r40 => bif r40 then (need (capb 6 (v1_2.length + 1)) <| some (.next (v1_1, (v1_2 ++ [(A6u8.mk 0 0 0 0 0 0)]), v1_3))) else (some (.next (v1_1, v1_2, v1_3)))))))) else (some (.done (.inl v1_2)))
noncomputable def F19_1 (p0 : List A6u8) (p1 : List A6u8) : Option ((List A6u8) × Int) :=
  (some [p0, p1]).bind fun w3 => need (inb 0 w3.length) <| (F15 (gd w3 0)).bind fun r6 => bif (!bEq r6 0) then (some ([], r6)) else (need (inb 1 w3.length) <| (F15 (gd w3 1)).bind fun r9 => bif (!bEq r9 0) then (some ([], r9)) else (lp (loopD (fun s => F19_1_L1 s.1 s.2.1 s.2.2) (p1, [], p0)) (fun w1_4 => bif (bLt 256 (w1_4.length : Nat)) then (some ([], 22)) else (some (w1_4, 0))) some))
noncomputable def body19_1 : List AV → List ABlk → ED
  | [v0, v1, .fn 20 []], h => .ed [] (lK k_A6u8 6 (roD (deadL h []) v0) ∧ roDOb (deadL h []) v0 ∧ lK k_A6u8 6 (roD (deadL h []) v1) ∧ roDOb (deadL h []) v1 ∧ (F19_1 (lA g_A6u8 (roD (deadL h []) v0)) (lA g_A6u8 (roD (deadL h []) v1))).isSome = true) (.tup [.sl 0 6 0 (((gt (F19_1 (lA g_A6u8 (roD (deadL h []) v0)) (lA g_A6u8 (roD (deadL h []) v1)))).1).length) false, .int .i64 ((gt (F19_1 (lA g_A6u8 (roD (deadL h []) v0)) (lA g_A6u8 (roD (deadL h []) v1)))).2)]) [.row 24 6 (((gt (F19_1 (lA g_A6u8 (roD (deadL h []) v0)) (lA g_A6u8 (roD (deadL h []) v1)))).1).length) (enR c_A6u8 ((gt (F19_1 (lA g_A6u8 (roD (deadL h []) v0)) (lA g_A6u8 (roD (deadL h []) v1)))).1))]
  | _, _ => .fail
set_option maxHeartbeats 4000000 in
set_option maxRecDepth 20000 in
theorem ok19_1 : FnOk Try.prog 19 (edC body19_1) := by
  refine edit_fnV body19_1 (rs := [.tmp 6, .tmp 7]) Try.func19 (by kernel_rfl) rfl rfl ?_
  intro l h bs ob q0 g0 hb hob
  unfold body19_1 at hb
  split at hb
  · rename_i v0 v1
    injection hb with q1 q2 q3 q4; subst q1 q2 q3 q4
    obtain ⟨hk0_0, hk0_1, hk1_0, hk1_1, hob⟩ := hob
    obtain ⟨r, H⟩ := Option.isSome_iff_exists.1 hob
    rw [H, gt_some]
    have hw0 := lK_wk (fun r h => w_A6u8 h) hk0_0
    obtain ⟨p0, hp_p0⟩ : ∃ p0, p0 = lA g_A6u8 (roD (deadL h []) v0) := ⟨_, rfl⟩
    rw [← hp_p0] at H hw0
    have hw1 := lK_wk (fun r h => w_A6u8 h) hk1_0
    obtain ⟨p1, hp_p1⟩ : ∃ p1, p1 = lA g_A6u8 (roD (deadL h []) v1) := ⟨_, rfl⟩
    rw [← hp_p1] at H hw1
    refine ⟨[.ro 6 p0.length false (enR c_A6u8 p0), .ro 6 p1.length false (enR c_A6u8 p1), .fn 20 []], [], rfl, ⟨(EW_view hk0_1 hw0), ⟨(EW_view hk1_1 hw1), ⟨(EW_fn trivial), trivial⟩⟩⟩, trivial, trivial, ⟨(nfB_en nr_A6u8), trivial⟩, ⟨noroB_en, trivial⟩, (by first | (simp only [noro, noroL, and_self]; done) | (simp only [noro, noroL]; and_intros <;> first | trivial | exact noro_bif (by simp only [noro]) (by simp only [noro]) | (simp only [noro, noroL, and_self]))), ?_⟩
    rw [Try.ntmps19]
    simp only [List.length_cons, List.length_nil, Nat.reduceAdd, Nat.reduceSub, List.replicate_succ, List.replicate_zero, List.cons_append, List.nil_append]
    unfold F19_1 at H
    try dsimp only at H
    refine sq ctNo_ok ?_
    simp only [go_sem, Nat.reduceLeDiff, Nat.reduceLT, Nat.reduceAdd, Nat.reduceMul, Nat.reduceSub, Nat.reduceEqDiff, Nat.reduceBEq, Int.reduceToNat, reduceCtorEq]
    refine seqM ?_
    refine sq ctNo_ok ?_
    simp only [go_sem, Nat.reduceLeDiff, Nat.reduceLT, Nat.reduceAdd, Nat.reduceMul, Nat.reduceSub, Nat.reduceEqDiff, Nat.reduceBEq, Int.reduceToNat, reduceCtorEq]
    repeat ((with_reducible refine And.intro ?_ ?_); focus (first | (with_reducible trivial) | omega | (and_intros <;> first | (with_reducible trivial) | omega | assumption | exact nfc | first | exact rfl | exact trivial | exact fitI | exact Or.inr rfl | exact Or.inl rfl | exact fun x hx => absurd hx (by omega) | (intro x hx; (repeat (first | (and_intros <;> (first | exact rfl | exact trivial | exact fitI | exact Or.inr rfl | exact Or.inl rfl | exact fun x hx => absurd hx (by omega))) | (exfalso; omega) | (rcases x with _ | x))); done)) | grind))
    refine blkM ?_
    refine loop_roundsM 3 ?_
    refine rndM ?_
    refine sq ctNo_ok ?_
    simp only [go_sem, Nat.reduceLeDiff, Nat.reduceLT, Nat.reduceAdd, Nat.reduceMul, Nat.reduceSub, Nat.reduceEqDiff, Nat.reduceBEq, Int.reduceToNat, reduceCtorEq, (by decide : bLt (0) (2) = true)]
    refine seqM ?_
    refine condM rfl trivial (fun hc => ?_) (fun hc => ?_)
    rotate_left
    · cases hc
    refine rg ctNo_ok ?_
    simp only [go_sem, Nat.reduceLeDiff, Nat.reduceLT, Nat.reduceAdd, Nat.reduceMul, Nat.reduceSub, Nat.reduceEqDiff, Nat.reduceBEq, Int.reduceToNat, reduceCtorEq]
    refine seqM ?_
    refine blkM ?_
    refine seqM ?_
    obtain ⟨w3, hw4, H⟩ := Option.bind_eq_some_iff.1 H
    replace hw4 := Option.some.inj hw4
    have lhw4 : w3.length = 2 := by rw [← hw4]; exact (by first | rfl | (simp; done) | (simp; omega))
    refine subF_mean (t2 := (.ro 6 p0.length false (enR c_A6u8 p0) :: .ro 6 p1.length false (enR c_A6u8 p1) :: .fn 20 [] :: .top :: .top :: .top :: .ro 0 0 true (fun _ _ => .top) :: .int .i64 0 :: .top :: .top :: .top :: .top :: .top :: .top :: .ro 6 p0.length false (enR c_A6u8 p0) :: .ro 6 p1.length false (enR c_A6u8 p1) :: .sl 0 1 0 w3.length false :: .int .i64 2 :: .int .i64 0 :: .bool true :: .top :: .top :: .top :: .top :: .top :: .top :: .top :: .top :: .top :: .top :: .top :: .top :: .top :: .top :: .top :: .top :: .top :: .top :: .top :: .top :: .top :: .top :: .top :: .top :: .top :: .top :: .top :: .top :: .top :: .top :: .top :: .top :: .top :: .top :: .top :: .top :: .top :: .top :: .top :: .top :: .top :: .top :: .top :: .top :: .top :: .top :: .top :: .top :: .top :: .top :: .top :: .top :: .top :: .top :: .top :: .top :: .top :: .top :: .top :: [])) (h2 := [.row 22 1 w3.length (enR c_lA6u8 w3)]) ?_ ?_
    · refine SubF_of ⟨[some 0], ?_, ?_, by rfl, by rfl⟩
      · simp [CvL, Cv, getM, lhw4]
      · exact ⟨CvB_row nr_lA6u8 lhw4 (hw4 ▸ (lit_row (f := c_lA6u8) [p0, p1] (fun _ _ => rfl) rfl)), trivial⟩
    obtain ⟨f5, H⟩ := need_some.1 H
    replace f5 := inb_iff.1 f5
    refine rg ctNo_ok ?_
    simp only [go_sem, Nat.reduceLeDiff, Nat.reduceLT, Nat.reduceAdd, Nat.reduceMul, Nat.reduceSub, Nat.reduceEqDiff, Nat.reduceBEq, Int.reduceToNat, reduceCtorEq, f5]
    repeat ((with_reducible refine And.intro ?_ ?_); focus (first | (with_reducible trivial) | omega | grind))
    refine seqM ?_
    obtain ⟨r6, e7, H⟩ := Option.bind_eq_some_iff.1 H
    refine rg ct19_1t0_ok ?_
    simp only [go_sem, Nat.reduceLeDiff, Nat.reduceLT, Nat.reduceAdd, Nat.reduceMul, Nat.reduceSub, Nat.reduceEqDiff, Nat.reduceBEq, Int.reduceToNat, reduceCtorEq, ct19_1t0_15, body15, e7]
    repeat ((with_reducible refine And.intro ?_ ?_); focus (first | (with_reducible trivial) | omega | (and_intros <;> first | (with_reducible trivial) | omega | assumption | exact nfc | first | exact rfl | exact trivial | exact fitI | exact Or.inr rfl | exact Or.inl rfl | exact fun x hx => absurd hx (by omega) | (intro x hx; (repeat (first | (and_intros <;> (first | exact rfl | exact trivial | exact fitI | exact Or.inr rfl | exact Or.inl rfl | exact fun x hx => absurd hx (by omega))) | (exfalso; omega) | (rcases x with _ | x))); done)) | grind))
    refine sq ctNo_ok ?_
    simp only [go_sem, Nat.reduceLeDiff, Nat.reduceLT, Nat.reduceAdd, Nat.reduceMul, Nat.reduceSub, Nat.reduceEqDiff, Nat.reduceBEq, Int.reduceToNat, reduceCtorEq]
    refine condM rfl trivial (fun hc => ?_) (fun hc => ?_)
    · replace H := cond_t hc H
      refine sq ctNo_ok ?_
      simp only [go_sem, Nat.reduceLeDiff, Nat.reduceLT, Nat.reduceAdd, Nat.reduceMul, Nat.reduceSub, Nat.reduceEqDiff, Nat.reduceBEq, Int.reduceToNat, reduceCtorEq]
      refine rg ctNo_ok ?_
      simp only [go_sem, Nat.reduceLeDiff, Nat.reduceLT, Nat.reduceAdd, Nat.reduceMul, Nat.reduceSub, Nat.reduceEqDiff, Nat.reduceBEq, Int.reduceToNat, reduceCtorEq]
      obtain rfl := Option.some.inj H
      refine RetE_mk [] [none] ?_ ?_ ?_ ?_ (by rfl) (by rfl)
      · simp only [List.length_cons, List.length_nil, Nat.zero_mul, Nat.add_zero, fzV, fzL, fzOb, fzObL, fzH, fzHF, fzB, fzObB, fzObH, inL, rowOb, geth, cond_true, cond_false, Bool.or_false, Bool.or_true, Bool.false_or, Bool.true_or, and_self, true_and, and_true, Nat.reduceEqDiff, Nat.reduceBEq, beq_self_eq_true, sub_enR0, Nat.reduceAdd, Nat.zero_add, Nat.le_refl, List.nil_append]
        try (and_intros <;> first | (with_reducible trivial) | omega | exact nfc | trivial)
      · simp only [List.length_cons, List.length_nil, Nat.zero_mul, Nat.add_zero, fzV, fzL, fzOb, fzObL, fzH, fzHF, fzB, fzObB, fzObH, inL, rowOb, geth, cond_true, cond_false, Bool.or_false, Bool.or_true, Bool.false_or, Bool.true_or, and_self, true_and, and_true, Nat.reduceEqDiff, Nat.reduceBEq, beq_self_eq_true, sub_enR0, Nat.reduceAdd, Nat.zero_add, Nat.le_refl, List.nil_append]
        try (and_intros <;> first | (with_reducible trivial) | omega | exact nfc | trivial)
      · simp only [List.length_cons, List.length_nil, Nat.zero_mul, Nat.add_zero, fzV, fzL, fzOb, fzObL, fzH, fzHF, fzB, fzObB, fzObH, inL, rowOb, geth, cond_true, cond_false, Bool.or_false, Bool.or_true, Bool.false_or, Bool.true_or, and_self, true_and, and_true, Nat.reduceEqDiff, Nat.reduceBEq, beq_self_eq_true, sub_enR0, Nat.reduceAdd, Nat.zero_add, Nat.le_refl, List.nil_append]
        exact Cv_tup (CvL_cons (by first | (simp [Cv, CvL, getM, gt_some]; done) | (simp [Cv, CvL, getM, gt_some]; omega)) (CvL_cons (by simp [Cv, CvL, getM, gt_some]) CvL_nil))
      · simp only [List.length_cons, List.length_nil, Nat.zero_mul, Nat.add_zero, fzV, fzL, fzOb, fzObL, fzH, fzHF, fzB, fzObB, fzObH, inL, rowOb, geth, cond_true, cond_false, Bool.or_false, Bool.or_true, Bool.false_or, Bool.true_or, and_self, true_and, and_true, Nat.reduceEqDiff, Nat.reduceBEq, beq_self_eq_true, sub_enR0, Nat.reduceAdd, Nat.zero_add, Nat.le_refl, List.nil_append, CvH, gt_some, Option.isSome_some, Option.isSome_none]
        exact CvB_none
    replace H := cond_f hc H
    refine rg ctNo_ok ?_
    simp only [go_sem, Nat.reduceLeDiff, Nat.reduceLT, Nat.reduceAdd, Nat.reduceMul, Nat.reduceSub, Nat.reduceEqDiff, Nat.reduceBEq, Int.reduceToNat, reduceCtorEq]
    refine rg ctNo_ok ?_
    simp only [go_sem, Nat.reduceLeDiff, Nat.reduceLT, Nat.reduceAdd, Nat.reduceMul, Nat.reduceSub, Nat.reduceEqDiff, Nat.reduceBEq, Int.reduceToNat, reduceCtorEq, (by decide : wr IntKind.i64 ((0 : Int) + 1) = 1)]
    refine rndM ?_
    refine sq ctNo_ok ?_
    simp only [go_sem, Nat.reduceLeDiff, Nat.reduceLT, Nat.reduceAdd, Nat.reduceMul, Nat.reduceSub, Nat.reduceEqDiff, Nat.reduceBEq, Int.reduceToNat, reduceCtorEq, (by decide : bLt (1) (2) = true)]
    refine seqM ?_
    refine condM rfl trivial (fun hc => ?_) (fun hc => ?_)
    rotate_left
    · cases hc
    refine rg ctNo_ok ?_
    simp only [go_sem, Nat.reduceLeDiff, Nat.reduceLT, Nat.reduceAdd, Nat.reduceMul, Nat.reduceSub, Nat.reduceEqDiff, Nat.reduceBEq, Int.reduceToNat, reduceCtorEq]
    refine seqM ?_
    refine blkM ?_
    refine seqM ?_
    obtain ⟨f8, H⟩ := need_some.1 H
    replace f8 := inb_iff.1 f8
    refine rg ctNo_ok ?_
    simp only [go_sem, Nat.reduceLeDiff, Nat.reduceLT, Nat.reduceAdd, Nat.reduceMul, Nat.reduceSub, Nat.reduceEqDiff, Nat.reduceBEq, Int.reduceToNat, reduceCtorEq, f8]
    repeat ((with_reducible refine And.intro ?_ ?_); focus (first | (with_reducible trivial) | omega | grind))
    refine seqM ?_
    obtain ⟨r9, e10, H⟩ := Option.bind_eq_some_iff.1 H
    refine rg ct19_1t0_ok ?_
    simp only [go_sem, Nat.reduceLeDiff, Nat.reduceLT, Nat.reduceAdd, Nat.reduceMul, Nat.reduceSub, Nat.reduceEqDiff, Nat.reduceBEq, Int.reduceToNat, reduceCtorEq, ct19_1t0_15, body15, e10]
    repeat ((with_reducible refine And.intro ?_ ?_); focus (first | (with_reducible trivial) | omega | (and_intros <;> first | (with_reducible trivial) | omega | assumption | exact nfc | first | exact rfl | exact trivial | exact fitI | exact Or.inr rfl | exact Or.inl rfl | exact fun x hx => absurd hx (by omega) | (intro x hx; (repeat (first | (and_intros <;> (first | exact rfl | exact trivial | exact fitI | exact Or.inr rfl | exact Or.inl rfl | exact fun x hx => absurd hx (by omega))) | (exfalso; omega) | (rcases x with _ | x))); done)) | grind))
    refine sq ctNo_ok ?_
    simp only [go_sem, Nat.reduceLeDiff, Nat.reduceLT, Nat.reduceAdd, Nat.reduceMul, Nat.reduceSub, Nat.reduceEqDiff, Nat.reduceBEq, Int.reduceToNat, reduceCtorEq]
    refine condM rfl trivial (fun hc => ?_) (fun hc => ?_)
    · replace H := cond_t hc H
      refine sq ctNo_ok ?_
      simp only [go_sem, Nat.reduceLeDiff, Nat.reduceLT, Nat.reduceAdd, Nat.reduceMul, Nat.reduceSub, Nat.reduceEqDiff, Nat.reduceBEq, Int.reduceToNat, reduceCtorEq]
      refine rg ctNo_ok ?_
      simp only [go_sem, Nat.reduceLeDiff, Nat.reduceLT, Nat.reduceAdd, Nat.reduceMul, Nat.reduceSub, Nat.reduceEqDiff, Nat.reduceBEq, Int.reduceToNat, reduceCtorEq]
      obtain rfl := Option.some.inj H
      refine RetE_mk [] [none] ?_ ?_ ?_ ?_ (by rfl) (by rfl)
      · simp only [List.length_cons, List.length_nil, Nat.zero_mul, Nat.add_zero, fzV, fzL, fzOb, fzObL, fzH, fzHF, fzB, fzObB, fzObH, inL, rowOb, geth, cond_true, cond_false, Bool.or_false, Bool.or_true, Bool.false_or, Bool.true_or, and_self, true_and, and_true, Nat.reduceEqDiff, Nat.reduceBEq, beq_self_eq_true, sub_enR0, Nat.reduceAdd, Nat.zero_add, Nat.le_refl, List.nil_append]
        try (and_intros <;> first | (with_reducible trivial) | omega | exact nfc | trivial)
      · simp only [List.length_cons, List.length_nil, Nat.zero_mul, Nat.add_zero, fzV, fzL, fzOb, fzObL, fzH, fzHF, fzB, fzObB, fzObH, inL, rowOb, geth, cond_true, cond_false, Bool.or_false, Bool.or_true, Bool.false_or, Bool.true_or, and_self, true_and, and_true, Nat.reduceEqDiff, Nat.reduceBEq, beq_self_eq_true, sub_enR0, Nat.reduceAdd, Nat.zero_add, Nat.le_refl, List.nil_append]
        try (and_intros <;> first | (with_reducible trivial) | omega | exact nfc | trivial)
      · simp only [List.length_cons, List.length_nil, Nat.zero_mul, Nat.add_zero, fzV, fzL, fzOb, fzObL, fzH, fzHF, fzB, fzObB, fzObH, inL, rowOb, geth, cond_true, cond_false, Bool.or_false, Bool.or_true, Bool.false_or, Bool.true_or, and_self, true_and, and_true, Nat.reduceEqDiff, Nat.reduceBEq, beq_self_eq_true, sub_enR0, Nat.reduceAdd, Nat.zero_add, Nat.le_refl, List.nil_append]
        exact Cv_tup (CvL_cons (by first | (simp [Cv, CvL, getM, gt_some]; done) | (simp [Cv, CvL, getM, gt_some]; omega)) (CvL_cons (by simp [Cv, CvL, getM, gt_some]) CvL_nil))
      · simp only [List.length_cons, List.length_nil, Nat.zero_mul, Nat.add_zero, fzV, fzL, fzOb, fzObL, fzH, fzHF, fzB, fzObB, fzObH, inL, rowOb, geth, cond_true, cond_false, Bool.or_false, Bool.or_true, Bool.false_or, Bool.true_or, and_self, true_and, and_true, Nat.reduceEqDiff, Nat.reduceBEq, beq_self_eq_true, sub_enR0, Nat.reduceAdd, Nat.zero_add, Nat.le_refl, List.nil_append, CvH, gt_some, Option.isSome_some, Option.isSome_none]
        exact CvB_none
    replace H := cond_f hc H
    refine rg ctNo_ok ?_
    simp only [go_sem, Nat.reduceLeDiff, Nat.reduceLT, Nat.reduceAdd, Nat.reduceMul, Nat.reduceSub, Nat.reduceEqDiff, Nat.reduceBEq, Int.reduceToNat, reduceCtorEq]
    refine rg ctNo_ok ?_
    simp only [go_sem, Nat.reduceLeDiff, Nat.reduceLT, Nat.reduceAdd, Nat.reduceMul, Nat.reduceSub, Nat.reduceEqDiff, Nat.reduceBEq, Int.reduceToNat, reduceCtorEq, (by decide : wr IntKind.i64 ((1 : Int) + 1) = 2)]
    refine rndM ?_
    refine sq ctNo_ok ?_
    simp only [go_sem, Nat.reduceLeDiff, Nat.reduceLT, Nat.reduceAdd, Nat.reduceMul, Nat.reduceSub, Nat.reduceEqDiff, Nat.reduceBEq, Int.reduceToNat, reduceCtorEq, (by decide : bLt (2) (2) = false)]
    refine seqM ?_
    refine condM rfl trivial (fun hc => ?_) (fun hc => ?_)
    · cases hc
    refine rg ctNo_ok ?_
    simp only [go_sem, Nat.reduceLeDiff, Nat.reduceLT, Nat.reduceAdd, Nat.reduceMul, Nat.reduceSub, Nat.reduceEqDiff, Nat.reduceBEq, Int.reduceToNat, reduceCtorEq]
    refine sq ctNo_ok ?_
    simp only [go_sem, Nat.reduceLeDiff, Nat.reduceLT, Nat.reduceAdd, Nat.reduceMul, Nat.reduceSub, Nat.reduceEqDiff, Nat.reduceBEq, Int.reduceToNat, reduceCtorEq]
    refine seqM ?_
    refine blkM ?_
    refine loop_den (fun s : (List A6u8) × (List A6u8) × (List A6u8) => (.ro 6 s.2.2.length false (enR c_A6u8 s.2.2) :: .ro 6 s.1.length false (enR c_A6u8 s.1) :: .fn 20 [] :: .top :: .top :: .top :: .top :: .top :: .top :: .top :: .top :: .sl 1 6 0 s.2.1.length false :: .top :: .top :: .top :: .top :: .top :: .top :: .top :: .top :: .top :: .top :: .top :: .top :: .top :: .top :: .top :: .top :: .top :: .top :: .top :: .top :: .top :: .top :: .top :: .top :: .top :: .top :: .top :: .top :: .top :: .top :: .top :: .top :: .top :: .top :: .top :: .top :: .top :: .top :: .top :: .top :: .top :: .top :: .top :: .top :: .top :: .top :: .top :: .top :: .top :: .top :: .top :: .top :: .top :: .top :: .top :: .top :: .top :: .top :: .top :: .top :: .top :: .top :: .top :: .top :: .top :: .top :: .top :: [])) (fun s => [.dead, .row 24 6 s.2.1.length (enR c_A6u8 s.2.1)]) (fun e : List A6u8 => (.top :: .top :: .top :: .top :: .top :: .top :: .top :: .top :: .top :: .top :: .top :: .sl 1 6 0 e.length false :: .top :: .top :: .top :: .top :: .top :: .top :: .top :: .top :: .top :: .top :: .top :: .top :: .top :: .top :: .top :: .top :: .top :: .top :: .top :: .top :: .top :: .top :: .top :: .top :: .top :: .top :: .top :: .top :: .top :: .top :: .top :: .top :: .top :: .top :: .top :: .top :: .top :: .top :: .top :: .top :: .top :: .top :: .top :: .top :: .top :: .top :: .top :: .top :: .top :: .top :: .top :: .top :: .top :: .top :: .top :: .top :: .top :: .top :: .top :: .top :: .top :: .top :: .top :: .top :: .top :: .top :: .top :: [])) (fun e => [.dead, .row 24 6 e.length (enR c_A6u8 e)]) H ?_ (fun s o H hn1_1 hn2_1 => ?_) (fun w1_4 H => ?_)
    · refine SubF_of ⟨[some 0, none], ?_, ?_, by rfl, by rfl⟩
      · simp [CvL, Cv, getM]
      · exact ⟨CvB_dead, CvB_none, trivial⟩
    · obtain ⟨v1_1, v1_2, v1_3⟩ := s
      unfold F19_1_L1 at H
      try dsimp only at H ⊢
      refine seqM ?_
      refine sq ctNo_ok ?_
      simp only [go_sem, Nat.reduceLeDiff, Nat.reduceLT, Nat.reduceAdd, Nat.reduceMul, Nat.reduceSub, Nat.reduceEqDiff, Nat.reduceBEq, Int.reduceToNat, reduceCtorEq]
      repeat ((with_reducible refine And.intro ?_ ?_); focus (first | (with_reducible trivial) | omega | (intro g; and_intros <;> first | (with_reducible trivial) | assumption | exact nfc | (intro g2; rw [g, g2]; rfl) | (intro g2; assumption) | (simp only [g, Bool.true_and, Bool.and_true, Bool.not_false, Bool.not_true]; assumption) | grind) | (and_intros <;> first | (with_reducible trivial) | omega | assumption | exact nfc | first | exact rfl | exact trivial | exact fitI | exact Or.inr rfl | exact Or.inl rfl | exact fun x hx => absurd hx (by omega) | (intro x hx; (repeat (first | (and_intros <;> (first | exact rfl | exact trivial | exact fitI | exact Or.inr rfl | exact Or.inl rfl | exact fun x hx => absurd hx (by omega))) | (exfalso; omega) | (rcases x with _ | x))); done)) | grind))
      refine condM' rfl trivial (fun hc => ?_) (fun hc => ?_)
      · replace H := cond_f hc H
        refine rg ctNo_ok ?_
        simp only [go_sem, Nat.reduceLeDiff, Nat.reduceLT, Nat.reduceAdd, Nat.reduceMul, Nat.reduceSub, Nat.reduceEqDiff, Nat.reduceBEq, Int.reduceToNat, reduceCtorEq]
        refine ⟨_, (Option.some.inj H).symm, ?_⟩
        refine SubF_of ⟨[some 0, some 1], ?_, ?_, by rfl, by rfl⟩
        · simp [CvL, Cv, getM]
        · exact ⟨CvB_dead, CvB_row nr_A6u8 (by first | rfl | (simp; done) | (simp; omega)) (fun _ _ _ _ => rfl), trivial⟩
      replace H := cond_t hc H
      refine rg ctNo_ok ?_
      simp only [go_sem, Nat.reduceLeDiff, Nat.reduceLT, Nat.reduceAdd, Nat.reduceMul, Nat.reduceSub, Nat.reduceEqDiff, Nat.reduceBEq, Int.reduceToNat, reduceCtorEq]
      refine blkM ?_
      refine sq ctNo_ok ?_
      simp only [go_sem, Nat.reduceLeDiff, Nat.reduceLT, Nat.reduceAdd, Nat.reduceMul, Nat.reduceSub, Nat.reduceEqDiff, Nat.reduceBEq, Int.reduceToNat, reduceCtorEq]
      refine seqM ?_
      refine blkM ?_
      refine sq ctNo_ok ?_
      simp only [go_sem, Nat.reduceLeDiff, Nat.reduceLT, Nat.reduceAdd, Nat.reduceMul, Nat.reduceSub, Nat.reduceEqDiff, Nat.reduceBEq, Int.reduceToNat, reduceCtorEq]
      repeat ((with_reducible refine And.intro ?_ ?_); focus (first | (with_reducible trivial) | omega | (and_intros <;> first | (with_reducible trivial) | omega | assumption | exact nfc | first | exact rfl | exact trivial | exact fitI | exact Or.inr rfl | exact Or.inl rfl | exact fun x hx => absurd hx (by omega) | (intro x hx; (repeat (first | (and_intros <;> (first | exact rfl | exact trivial | exact fitI | exact Or.inr rfl | exact Or.inl rfl | exact fun x hx => absurd hx (by omega))) | (exfalso; omega) | (rcases x with _ | x))); done)) | grind))
      refine condM rfl trivial (fun hc => ?_) (fun hc => ?_)
      · replace H := cond_t hc H
        refine rg ctNo_ok ?_
        simp only [go_sem, Nat.reduceLeDiff, Nat.reduceLT, Nat.reduceAdd, Nat.reduceMul, Nat.reduceSub, Nat.reduceEqDiff, Nat.reduceBEq, Int.reduceToNat, reduceCtorEq]
        refine sq ctNo_ok ?_
        simp only [go_sem, Nat.reduceLeDiff, Nat.reduceLT, Nat.reduceAdd, Nat.reduceMul, Nat.reduceSub, Nat.reduceEqDiff, Nat.reduceBEq, Int.reduceToNat, reduceCtorEq]
        refine seqM ?_
        refine sq ctNo_ok ?_
        simp only [go_sem, Nat.reduceLeDiff, Nat.reduceLT, Nat.reduceAdd, Nat.reduceMul, Nat.reduceSub, Nat.reduceEqDiff, Nat.reduceBEq, Int.reduceToNat, reduceCtorEq, (by decide : bLe (1) (0) = false)]
        refine condM rfl trivial (fun hc => ?_) (fun hc => ?_)
        · cases hc
        refine rg ctNo_ok ?_
        simp only [go_sem, Nat.reduceLeDiff, Nat.reduceLT, Nat.reduceAdd, Nat.reduceMul, Nat.reduceSub, Nat.reduceEqDiff, Nat.reduceBEq, Int.reduceToNat, reduceCtorEq]
        refine seqM ?_
        refine sq ctNo_ok ?_
        simp only [go_sem, Nat.reduceLeDiff, Nat.reduceLT, Nat.reduceAdd, Nat.reduceMul, Nat.reduceSub, Nat.reduceEqDiff, Nat.reduceBEq, Int.reduceToNat, reduceCtorEq, (by decide : bLe (0) (1) = true)]
        refine condM rfl trivial (fun hc => ?_) (fun hc => ?_)
        rotate_left
        · cases hc
        obtain ⟨f11, H⟩ := need_some.1 H
        replace f11 := inb_iff.1 f11
        obtain ⟨f12, H⟩ := need_some.1 H
        replace f12 := slb_iff.1 f12
        refine draw_rule shT_ok ctNo_ok 0 (by kernel_rfl) (by kernel_rfl) ?_
        intro an han
        simp only [d_nil, d_cons, nxtD, xrD, xoD, roEq, minL, List.append_nil, refsOp, refs, refsL, mask, maskF, place, placeF, okLog, pairOk, hit, inL, slotsF, ren, renL, rnN, nrH, nrB, nrL, nr, dead0, deadS, List.replicate_zero, List.replicate_succ, Nat.sub_self, Nat.add_zero, Nat.zero_add, Nat.reduceSub, Nat.not_lt_zero, Nat.zero_le, Nat.lt_add_one, go_sem, Nat.reduceLeDiff, Nat.reduceLT, Nat.reduceAdd, Nat.reduceMul, Nat.reduceSub, Nat.reduceEqDiff, Nat.reduceBEq, Int.reduceToNat, reduceCtorEq, f11, f12]
        repeat ((with_reducible refine And.intro ?_ ?_); focus (and_intros <;> first | (with_reducible trivial) | (show anB _ _ _ = true; subst han; kernel_rfl) | (show (anB _ _ _ && _) = true; subst han; kernel_rfl) | omega | assumption | exact nrc | exact nfc | first | exact rfl | exact trivial | exact fitI | exact Or.inr rfl | exact Or.inl rfl | exact fun x hx => absurd hx (by omega) | (intro x hx; (repeat (first | (and_intros <;> (first | exact rfl | exact trivial | exact fitI | exact Or.inr rfl | exact Or.inl rfl | exact fun x hx => absurd hx (by omega))) | (exfalso; omega) | (rcases x with _ | x))); done)))
        refine seqM ?_
        obtain ⟨r13, e14, H⟩ := Option.bind_eq_some_iff.1 H
        refine rg ct19_1t1_ok ?_
        simp only [go_sem, Nat.reduceLeDiff, Nat.reduceLT, Nat.reduceAdd, Nat.reduceMul, Nat.reduceSub, Nat.reduceEqDiff, Nat.reduceBEq, Int.reduceToNat, reduceCtorEq, ct19_1t1_20, body20, (by decide : bLe (1) (0) = false), (by decide : bLe (0) (1) = true), e14]
        repeat ((with_reducible refine And.intro ?_ ?_); focus (first | (with_reducible trivial) | omega | (and_intros <;> first | (with_reducible trivial) | omega | assumption | exact nfc | first | exact rfl | exact trivial | exact fitI | exact Or.inr rfl | exact Or.inl rfl | exact fun x hx => absurd hx (by omega) | (intro x hx; (repeat (first | (and_intros <;> (first | exact rfl | exact trivial | exact fitI | exact Or.inr rfl | exact Or.inl rfl | exact fun x hx => absurd hx (by omega))) | (exfalso; omega) | (rcases x with _ | x))); done)) | grind))
        refine condM' rfl trivial (fun hc => ?_) (fun hc => ?_)
        · replace H := cond_f hc H
          refine rg ctNo_ok ?_
          simp only [go_sem, Nat.reduceLeDiff, Nat.reduceLT, Nat.reduceAdd, Nat.reduceMul, Nat.reduceSub, Nat.reduceEqDiff, Nat.reduceBEq, Int.reduceToNat, reduceCtorEq]
          refine ⟨_, (Option.some.inj H).symm, ?_⟩
          refine SubF_of ⟨[some 0, some 1], ?_, ?_, by rfl, by rfl⟩
          · simp [CvL, Cv, getM]
          · exact ⟨CvB_dead, CvB_row nr_A6u8 (by first | rfl | (simp; done) | (simp; omega)) (fun _ _ _ _ => rfl), trivial⟩
        replace H := cond_t hc H
        obtain ⟨f15, H⟩ := need_some.1 H
        replace f15 := capb_iff.1 f15
        refine rg ctNo_ok ?_
        simp only [go_sem, Nat.reduceLeDiff, Nat.reduceLT, Nat.reduceAdd, Nat.reduceMul, Nat.reduceSub, Nat.reduceEqDiff, Nat.reduceBEq, Int.reduceToNat, reduceCtorEq, f15]
        repeat ((with_reducible refine And.intro ?_ ?_); focus (first | (with_reducible trivial) | omega | (and_intros <;> first | (with_reducible trivial) | omega | assumption | exact nfc | first | exact rfl | exact trivial | exact fitI | exact Or.inr rfl | exact Or.inl rfl | exact fun x hx => absurd hx (by omega) | (intro x hx; (repeat (first | (and_intros <;> (first | exact rfl | exact trivial | exact fitI | exact Or.inr rfl | exact Or.inl rfl | exact fun x hx => absurd hx (by omega))) | (exfalso; omega) | (rcases x with _ | x))); done) | (refine Fit_app ?_ ?_ <;> first | exact fitI | (intro x hx; (repeat (first | (and_intros <;> (first | exact rfl | exact trivial | exact fitI | exact Or.inr rfl | exact Or.inl rfl | exact fun x hx => absurd hx (by omega))) | (exfalso; omega) | (rcases x with _ | x))); done) | (refine Fit_app ?_ ?_ <;> first | exact fitI | (intro x hx; (repeat (first | (and_intros <;> (first | exact rfl | exact trivial | exact fitI | exact Or.inr rfl | exact Or.inl rfl | exact fun x hx => absurd hx (by omega))) | (exfalso; omega) | (rcases x with _ | x))); done)))) | grind))
        refine ⟨_, (Option.some.inj H).symm, ?_⟩
        refine SubF_of ⟨[some 0, some 4], ?_, ?_, by rfl, by rfl⟩
        · simp [CvL, Cv, getM]
        · exact ⟨CvB_dead, CvB_row nr_A6u8 (by first | rfl | (simp; done) | (simp; omega)) (app_row (f := c_A6u8) v1_2 [(gd v1_1 0)] (fun _ _ _ _ => rfl) (lit_row (f := c_A6u8) [(gd v1_1 0)] (fun _ _ => rfl) rfl)), trivial⟩
      replace H := cond_f hc H
      refine sq ctNo_ok ?_
      simp only [go_sem, Nat.reduceLeDiff, Nat.reduceLT, Nat.reduceAdd, Nat.reduceMul, Nat.reduceSub, Nat.reduceEqDiff, Nat.reduceBEq, Int.reduceToNat, reduceCtorEq]
      repeat ((with_reducible refine And.intro ?_ ?_); focus (first | (with_reducible trivial) | omega | (and_intros <;> first | (with_reducible trivial) | omega | assumption | exact nfc | first | exact rfl | exact trivial | exact fitI | exact Or.inr rfl | exact Or.inl rfl | exact fun x hx => absurd hx (by omega) | (intro x hx; (repeat (first | (and_intros <;> (first | exact rfl | exact trivial | exact fitI | exact Or.inr rfl | exact Or.inl rfl | exact fun x hx => absurd hx (by omega))) | (exfalso; omega) | (rcases x with _ | x))); done)) | grind))
      refine condM rfl trivial (fun hc => ?_) (fun hc => ?_)
      · replace H := cond_t hc H
        refine rg ctNo_ok ?_
        simp only [go_sem, Nat.reduceLeDiff, Nat.reduceLT, Nat.reduceAdd, Nat.reduceMul, Nat.reduceSub, Nat.reduceEqDiff, Nat.reduceBEq, Int.reduceToNat, reduceCtorEq]
        refine sq ctNo_ok ?_
        simp only [go_sem, Nat.reduceLeDiff, Nat.reduceLT, Nat.reduceAdd, Nat.reduceMul, Nat.reduceSub, Nat.reduceEqDiff, Nat.reduceBEq, Int.reduceToNat, reduceCtorEq]
        refine seqM ?_
        refine sq ctNo_ok ?_
        simp only [go_sem, Nat.reduceLeDiff, Nat.reduceLT, Nat.reduceAdd, Nat.reduceMul, Nat.reduceSub, Nat.reduceEqDiff, Nat.reduceBEq, Int.reduceToNat, reduceCtorEq, (by decide : bLe ((-1)) (0) = true)]
        refine condM rfl trivial (fun hc => ?_) (fun hc => ?_)
        rotate_left
        · cases hc
        obtain ⟨f16, H⟩ := need_some.1 H
        replace f16 := inb_iff.1 f16
        obtain ⟨f17, H⟩ := need_some.1 H
        replace f17 := slb_iff.1 f17
        refine draw_rule shT_ok ctNo_ok 0 (by kernel_rfl) (by kernel_rfl) ?_
        intro an han
        simp only [d_nil, d_cons, nxtD, xrD, xoD, roEq, minL, List.append_nil, refsOp, refs, refsL, mask, maskF, place, placeF, okLog, pairOk, hit, inL, slotsF, ren, renL, rnN, nrH, nrB, nrL, nr, dead0, deadS, List.replicate_zero, List.replicate_succ, Nat.sub_self, Nat.add_zero, Nat.zero_add, Nat.reduceSub, Nat.not_lt_zero, Nat.zero_le, Nat.lt_add_one, go_sem, Nat.reduceLeDiff, Nat.reduceLT, Nat.reduceAdd, Nat.reduceMul, Nat.reduceSub, Nat.reduceEqDiff, Nat.reduceBEq, Int.reduceToNat, reduceCtorEq, f16, f17]
        repeat ((with_reducible refine And.intro ?_ ?_); focus (and_intros <;> first | (with_reducible trivial) | (show anB _ _ _ = true; subst han; kernel_rfl) | (show (anB _ _ _ && _) = true; subst han; kernel_rfl) | omega | assumption | exact nrc | exact nfc | first | exact rfl | exact trivial | exact fitI | exact Or.inr rfl | exact Or.inl rfl | exact fun x hx => absurd hx (by omega) | (intro x hx; (repeat (first | (and_intros <;> (first | exact rfl | exact trivial | exact fitI | exact Or.inr rfl | exact Or.inl rfl | exact fun x hx => absurd hx (by omega))) | (exfalso; omega) | (rcases x with _ | x))); done)))
        refine seqM ?_
        refine sq ctNo_ok ?_
        simp only [go_sem, Nat.reduceLeDiff, Nat.reduceLT, Nat.reduceAdd, Nat.reduceMul, Nat.reduceSub, Nat.reduceEqDiff, Nat.reduceBEq, Int.reduceToNat, reduceCtorEq, (by decide : bLe (0) ((-1)) = false)]
        refine condM rfl trivial (fun hc => ?_) (fun hc => ?_)
        · cases hc
        refine rg ctNo_ok ?_
        simp only [go_sem, Nat.reduceLeDiff, Nat.reduceLT, Nat.reduceAdd, Nat.reduceMul, Nat.reduceSub, Nat.reduceEqDiff, Nat.reduceBEq, Int.reduceToNat, reduceCtorEq]
        refine seqM ?_
        obtain ⟨r18, e19, H⟩ := Option.bind_eq_some_iff.1 H
        refine rg ct19_1t1_ok ?_
        simp only [go_sem, Nat.reduceLeDiff, Nat.reduceLT, Nat.reduceAdd, Nat.reduceMul, Nat.reduceSub, Nat.reduceEqDiff, Nat.reduceBEq, Int.reduceToNat, reduceCtorEq, ct19_1t1_20, body20, (by decide : bLe ((-1)) (0) = true), (by decide : bLe (0) ((-1)) = false), e19]
        repeat ((with_reducible refine And.intro ?_ ?_); focus (first | (with_reducible trivial) | omega | (and_intros <;> first | (with_reducible trivial) | omega | assumption | exact nfc | first | exact rfl | exact trivial | exact fitI | exact Or.inr rfl | exact Or.inl rfl | exact fun x hx => absurd hx (by omega) | (intro x hx; (repeat (first | (and_intros <;> (first | exact rfl | exact trivial | exact fitI | exact Or.inr rfl | exact Or.inl rfl | exact fun x hx => absurd hx (by omega))) | (exfalso; omega) | (rcases x with _ | x))); done)) | grind))
        refine condM' rfl trivial (fun hc => ?_) (fun hc => ?_)
        · replace H := cond_f hc H
          refine rg ctNo_ok ?_
          simp only [go_sem, Nat.reduceLeDiff, Nat.reduceLT, Nat.reduceAdd, Nat.reduceMul, Nat.reduceSub, Nat.reduceEqDiff, Nat.reduceBEq, Int.reduceToNat, reduceCtorEq]
          refine ⟨_, (Option.some.inj H).symm, ?_⟩
          refine SubF_of ⟨[some 0, some 1], ?_, ?_, by rfl, by rfl⟩
          · simp [CvL, Cv, getM]
          · exact ⟨CvB_dead, CvB_row nr_A6u8 (by first | rfl | (simp; done) | (simp; omega)) (fun _ _ _ _ => rfl), trivial⟩
        replace H := cond_t hc H
        obtain ⟨f20, H⟩ := need_some.1 H
        replace f20 := capb_iff.1 f20
        refine rg ctNo_ok ?_
        simp only [go_sem, Nat.reduceLeDiff, Nat.reduceLT, Nat.reduceAdd, Nat.reduceMul, Nat.reduceSub, Nat.reduceEqDiff, Nat.reduceBEq, Int.reduceToNat, reduceCtorEq, f20]
        repeat ((with_reducible refine And.intro ?_ ?_); focus (first | (with_reducible trivial) | omega | (and_intros <;> first | (with_reducible trivial) | omega | assumption | exact nfc | first | exact rfl | exact trivial | exact fitI | exact Or.inr rfl | exact Or.inl rfl | exact fun x hx => absurd hx (by omega) | (intro x hx; (repeat (first | (and_intros <;> (first | exact rfl | exact trivial | exact fitI | exact Or.inr rfl | exact Or.inl rfl | exact fun x hx => absurd hx (by omega))) | (exfalso; omega) | (rcases x with _ | x))); done) | (refine Fit_app ?_ ?_ <;> first | exact fitI | (intro x hx; (repeat (first | (and_intros <;> (first | exact rfl | exact trivial | exact fitI | exact Or.inr rfl | exact Or.inl rfl | exact fun x hx => absurd hx (by omega))) | (exfalso; omega) | (rcases x with _ | x))); done) | (refine Fit_app ?_ ?_ <;> first | exact fitI | (intro x hx; (repeat (first | (and_intros <;> (first | exact rfl | exact trivial | exact fitI | exact Or.inr rfl | exact Or.inl rfl | exact fun x hx => absurd hx (by omega))) | (exfalso; omega) | (rcases x with _ | x))); done)))) | grind))
        refine ⟨_, (Option.some.inj H).symm, ?_⟩
        refine SubF_of ⟨[some 0, some 4], ?_, ?_, by rfl, by rfl⟩
        · simp [CvL, Cv, getM]
        · exact ⟨CvB_dead, CvB_row nr_A6u8 (by first | rfl | (simp; done) | (simp; omega)) (app_row (f := c_A6u8) v1_2 [(gd v1_3 0)] (fun _ _ _ _ => rfl) (lit_row (f := c_A6u8) [(gd v1_3 0)] (fun _ _ => rfl) rfl)), trivial⟩
      replace H := cond_f hc H
      obtain ⟨f21, H⟩ := need_some.1 H
      replace f21 := inb_iff.1 f21
      obtain ⟨f22, H⟩ := need_some.1 H
      replace f22 := inb_iff.1 f22
      obtain ⟨r23, e24, H⟩ := Option.bind_eq_some_iff.1 H
      refine draw_quiet shT_ok ct19_1t2_ok (by kernel_rfl) (by kernel_rfl) ?_
      simp only [go_sem, Nat.reduceLeDiff, Nat.reduceLT, Nat.reduceAdd, Nat.reduceMul, Nat.reduceSub, Nat.reduceEqDiff, Nat.reduceBEq, Int.reduceToNat, reduceCtorEq, ct19_1t2_24, body24, f21, f22, e24]
      repeat ((with_reducible refine And.intro ?_ ?_); focus (first | (with_reducible trivial) | omega | (and_intros <;> first | (with_reducible trivial) | omega | assumption | exact nfc | first | exact rfl | exact trivial | exact fitI | exact Or.inr rfl | exact Or.inl rfl | exact fun x hx => absurd hx (by omega) | (intro x hx; (repeat (first | (and_intros <;> (first | exact rfl | exact trivial | exact fitI | exact Or.inr rfl | exact Or.inl rfl | exact fun x hx => absurd hx (by omega))) | (exfalso; omega) | (rcases x with _ | x))); done)) | grind))
      refine sq ctNo_ok ?_
      simp only [go_sem, Nat.reduceLeDiff, Nat.reduceLT, Nat.reduceAdd, Nat.reduceMul, Nat.reduceSub, Nat.reduceEqDiff, Nat.reduceBEq, Int.reduceToNat, reduceCtorEq]
      refine seqM ?_
      refine sq ctNo_ok ?_
      simp only [go_sem, Nat.reduceLeDiff, Nat.reduceLT, Nat.reduceAdd, Nat.reduceMul, Nat.reduceSub, Nat.reduceEqDiff, Nat.reduceBEq, Int.reduceToNat, reduceCtorEq]
      refine condM' rfl trivial (fun hc => ?_) (fun hc => ?_)
      · replace H := cond_f hc H
        refine rg ctNo_ok ?_
        simp only [go_sem, Nat.reduceLeDiff, Nat.reduceLT, Nat.reduceAdd, Nat.reduceMul, Nat.reduceSub, Nat.reduceEqDiff, Nat.reduceBEq, Int.reduceToNat, reduceCtorEq]
        refine seqM ?_
        refine sq ctNo_ok ?_
        simp only [go_sem, Nat.reduceLeDiff, Nat.reduceLT, Nat.reduceAdd, Nat.reduceMul, Nat.reduceSub, Nat.reduceEqDiff, Nat.reduceBEq, Int.reduceToNat, reduceCtorEq]
        refine condM' rfl trivial (fun hc => ?_) (fun hc => ?_)
        · replace H := cond_f hc H
          refine rg ctNo_ok ?_
          simp only [go_sem, Nat.reduceLeDiff, Nat.reduceLT, Nat.reduceAdd, Nat.reduceMul, Nat.reduceSub, Nat.reduceEqDiff, Nat.reduceBEq, Int.reduceToNat, reduceCtorEq]
          refine seqM ?_
          obtain ⟨r40, e41, H⟩ := Option.bind_eq_some_iff.1 H
          refine rg ct19_1t1_ok ?_
          simp only [go_sem, Nat.reduceLeDiff, Nat.reduceLT, Nat.reduceAdd, Nat.reduceMul, Nat.reduceSub, Nat.reduceEqDiff, Nat.reduceBEq, Int.reduceToNat, reduceCtorEq, ct19_1t1_20, body20, e41]
          repeat ((with_reducible refine And.intro ?_ ?_); focus (first | (with_reducible trivial) | omega | (and_intros <;> first | (with_reducible trivial) | omega | assumption | exact nfc | first | exact rfl | exact trivial | exact fitI | exact Or.inr rfl | exact Or.inl rfl | exact fun x hx => absurd hx (by omega) | (intro x hx; (repeat (first | (and_intros <;> (first | exact rfl | exact trivial | exact fitI | exact Or.inr rfl | exact Or.inl rfl | exact fun x hx => absurd hx (by omega))) | (exfalso; omega) | (rcases x with _ | x))); done)) | grind))
          refine condM' rfl trivial (fun hc => ?_) (fun hc => ?_)
          · replace H := cond_f hc H
            refine rg ctNo_ok ?_
            simp only [go_sem, Nat.reduceLeDiff, Nat.reduceLT, Nat.reduceAdd, Nat.reduceMul, Nat.reduceSub, Nat.reduceEqDiff, Nat.reduceBEq, Int.reduceToNat, reduceCtorEq]
            refine ⟨_, (Option.some.inj H).symm, ?_⟩
            refine SubF_of ⟨[some 0, some 1], ?_, ?_, by rfl, by rfl⟩
            · simp [CvL, Cv, getM]
            · exact ⟨CvB_dead, CvB_row nr_A6u8 (by first | rfl | (simp; done) | (simp; omega)) (fun _ _ _ _ => rfl), trivial⟩
          replace H := cond_t hc H
          obtain ⟨f42, H⟩ := need_some.1 H
          replace f42 := capb_iff.1 f42
          refine rg ctNo_ok ?_
          simp only [go_sem, Nat.reduceLeDiff, Nat.reduceLT, Nat.reduceAdd, Nat.reduceMul, Nat.reduceSub, Nat.reduceEqDiff, Nat.reduceBEq, Int.reduceToNat, reduceCtorEq, f42]
          repeat ((with_reducible refine And.intro ?_ ?_); focus (first | (with_reducible trivial) | omega | (and_intros <;> first | (with_reducible trivial) | omega | assumption | exact nfc | first | exact rfl | exact trivial | exact fitI | exact Or.inr rfl | exact Or.inl rfl | exact fun x hx => absurd hx (by omega) | (intro x hx; (repeat (first | (and_intros <;> (first | exact rfl | exact trivial | exact fitI | exact Or.inr rfl | exact Or.inl rfl | exact fun x hx => absurd hx (by omega))) | (exfalso; omega) | (rcases x with _ | x))); done) | (refine Fit_app ?_ ?_ <;> first | exact fitI | (intro x hx; (repeat (first | (and_intros <;> (first | exact rfl | exact trivial | exact fitI | exact Or.inr rfl | exact Or.inl rfl | exact fun x hx => absurd hx (by omega))) | (exfalso; omega) | (rcases x with _ | x))); done) | (refine Fit_app ?_ ?_ <;> first | exact fitI | (intro x hx; (repeat (first | (and_intros <;> (first | exact rfl | exact trivial | exact fitI | exact Or.inr rfl | exact Or.inl rfl | exact fun x hx => absurd hx (by omega))) | (exfalso; omega) | (rcases x with _ | x))); done)))) | grind))
          refine ⟨_, (Option.some.inj H).symm, ?_⟩
          refine SubF_of ⟨[some 0, some 4], ?_, ?_, by rfl, by rfl⟩
          · simp [CvL, Cv, getM]
          · exact ⟨CvB_dead, CvB_row nr_A6u8 (by first | rfl | (simp; done) | (simp; omega)) (app_row (f := c_A6u8) v1_2 [(A6u8.mk 0 0 0 0 0 0)] (fun _ _ _ _ => rfl) (lit_row (f := c_A6u8) [(A6u8.mk 0 0 0 0 0 0)] (fun _ _ => rfl) rfl)), trivial⟩
        replace H := cond_t hc H
        obtain ⟨f35, H⟩ := need_some.1 H
        replace f35 := inb_iff.1 f35
        obtain ⟨f36, H⟩ := need_some.1 H
        replace f36 := slb_iff.1 f36
        refine draw_rule shT_ok ctNo_ok 0 (by kernel_rfl) (by kernel_rfl) ?_
        intro an han
        simp only [d_nil, d_cons, nxtD, xrD, xoD, roEq, minL, List.append_nil, refsOp, refs, refsL, mask, maskF, place, placeF, okLog, pairOk, hit, inL, slotsF, ren, renL, rnN, nrH, nrB, nrL, nr, dead0, deadS, List.replicate_zero, List.replicate_succ, Nat.sub_self, Nat.add_zero, Nat.zero_add, Nat.reduceSub, Nat.not_lt_zero, Nat.zero_le, Nat.lt_add_one, go_sem, Nat.reduceLeDiff, Nat.reduceLT, Nat.reduceAdd, Nat.reduceMul, Nat.reduceSub, Nat.reduceEqDiff, Nat.reduceBEq, Int.reduceToNat, reduceCtorEq, f35, f36]
        repeat ((with_reducible refine And.intro ?_ ?_); focus (and_intros <;> first | (with_reducible trivial) | (show anB _ _ _ = true; subst han; kernel_rfl) | (show (anB _ _ _ && _) = true; subst han; kernel_rfl) | omega | assumption | exact nrc | exact nfc | first | exact rfl | exact trivial | exact fitI | exact Or.inr rfl | exact Or.inl rfl | exact fun x hx => absurd hx (by omega) | (intro x hx; (repeat (first | (and_intros <;> (first | exact rfl | exact trivial | exact fitI | exact Or.inr rfl | exact Or.inl rfl | exact fun x hx => absurd hx (by omega))) | (exfalso; omega) | (rcases x with _ | x))); done)))
        refine seqM ?_
        obtain ⟨r37, e38, H⟩ := Option.bind_eq_some_iff.1 H
        refine rg ct19_1t1_ok ?_
        simp only [go_sem, Nat.reduceLeDiff, Nat.reduceLT, Nat.reduceAdd, Nat.reduceMul, Nat.reduceSub, Nat.reduceEqDiff, Nat.reduceBEq, Int.reduceToNat, reduceCtorEq, ct19_1t1_20, body20, e38]
        repeat ((with_reducible refine And.intro ?_ ?_); focus (first | (with_reducible trivial) | omega | (and_intros <;> first | (with_reducible trivial) | omega | assumption | exact nfc | first | exact rfl | exact trivial | exact fitI | exact Or.inr rfl | exact Or.inl rfl | exact fun x hx => absurd hx (by omega) | (intro x hx; (repeat (first | (and_intros <;> (first | exact rfl | exact trivial | exact fitI | exact Or.inr rfl | exact Or.inl rfl | exact fun x hx => absurd hx (by omega))) | (exfalso; omega) | (rcases x with _ | x))); done)) | grind))
        refine condM' rfl trivial (fun hc => ?_) (fun hc => ?_)
        · replace H := cond_f hc H
          refine rg ctNo_ok ?_
          simp only [go_sem, Nat.reduceLeDiff, Nat.reduceLT, Nat.reduceAdd, Nat.reduceMul, Nat.reduceSub, Nat.reduceEqDiff, Nat.reduceBEq, Int.reduceToNat, reduceCtorEq]
          refine ⟨_, (Option.some.inj H).symm, ?_⟩
          refine SubF_of ⟨[some 0, some 1], ?_, ?_, by rfl, by rfl⟩
          · simp [CvL, Cv, getM]
          · exact ⟨CvB_dead, CvB_row nr_A6u8 (by first | rfl | (simp; done) | (simp; omega)) (fun _ _ _ _ => rfl), trivial⟩
        replace H := cond_t hc H
        obtain ⟨f39, H⟩ := need_some.1 H
        replace f39 := capb_iff.1 f39
        refine rg ctNo_ok ?_
        simp only [go_sem, Nat.reduceLeDiff, Nat.reduceLT, Nat.reduceAdd, Nat.reduceMul, Nat.reduceSub, Nat.reduceEqDiff, Nat.reduceBEq, Int.reduceToNat, reduceCtorEq, f39]
        repeat ((with_reducible refine And.intro ?_ ?_); focus (first | (with_reducible trivial) | omega | (and_intros <;> first | (with_reducible trivial) | omega | assumption | exact nfc | first | exact rfl | exact trivial | exact fitI | exact Or.inr rfl | exact Or.inl rfl | exact fun x hx => absurd hx (by omega) | (intro x hx; (repeat (first | (and_intros <;> (first | exact rfl | exact trivial | exact fitI | exact Or.inr rfl | exact Or.inl rfl | exact fun x hx => absurd hx (by omega))) | (exfalso; omega) | (rcases x with _ | x))); done) | (refine Fit_app ?_ ?_ <;> first | exact fitI | (intro x hx; (repeat (first | (and_intros <;> (first | exact rfl | exact trivial | exact fitI | exact Or.inr rfl | exact Or.inl rfl | exact fun x hx => absurd hx (by omega))) | (exfalso; omega) | (rcases x with _ | x))); done) | (refine Fit_app ?_ ?_ <;> first | exact fitI | (intro x hx; (repeat (first | (and_intros <;> (first | exact rfl | exact trivial | exact fitI | exact Or.inr rfl | exact Or.inl rfl | exact fun x hx => absurd hx (by omega))) | (exfalso; omega) | (rcases x with _ | x))); done)))) | grind))
        refine ⟨_, (Option.some.inj H).symm, ?_⟩
        refine SubF_of ⟨[some 0, some 4], ?_, ?_, by rfl, by rfl⟩
        · simp [CvL, Cv, getM]
        · exact ⟨CvB_dead, CvB_row nr_A6u8 (by first | rfl | (simp; done) | (simp; omega)) (app_row (f := c_A6u8) v1_2 [(gd v1_1 0)] (fun _ _ _ _ => rfl) (lit_row (f := c_A6u8) [(gd v1_1 0)] (fun _ _ => rfl) rfl)), trivial⟩
      replace H := cond_t hc H
      obtain ⟨f25, H⟩ := need_some.1 H
      replace f25 := inb_iff.1 f25
      obtain ⟨f26, H⟩ := need_some.1 H
      replace f26 := slb_iff.1 f26
      refine draw_rule shT_ok ctNo_ok 0 (by kernel_rfl) (by kernel_rfl) ?_
      intro an han
      simp only [d_nil, d_cons, nxtD, xrD, xoD, roEq, minL, List.append_nil, refsOp, refs, refsL, mask, maskF, place, placeF, okLog, pairOk, hit, inL, slotsF, ren, renL, rnN, nrH, nrB, nrL, nr, dead0, deadS, List.replicate_zero, List.replicate_succ, Nat.sub_self, Nat.add_zero, Nat.zero_add, Nat.reduceSub, Nat.not_lt_zero, Nat.zero_le, Nat.lt_add_one, go_sem, Nat.reduceLeDiff, Nat.reduceLT, Nat.reduceAdd, Nat.reduceMul, Nat.reduceSub, Nat.reduceEqDiff, Nat.reduceBEq, Int.reduceToNat, reduceCtorEq, f25, f26]
      repeat ((with_reducible refine And.intro ?_ ?_); focus (and_intros <;> first | (with_reducible trivial) | (show anB _ _ _ = true; subst han; kernel_rfl) | (show (anB _ _ _ && _) = true; subst han; kernel_rfl) | omega | assumption | exact nrc | exact nfc | first | exact rfl | exact trivial | exact fitI | exact Or.inr rfl | exact Or.inl rfl | exact fun x hx => absurd hx (by omega) | (intro x hx; (repeat (first | (and_intros <;> (first | exact rfl | exact trivial | exact fitI | exact Or.inr rfl | exact Or.inl rfl | exact fun x hx => absurd hx (by omega))) | (exfalso; omega) | (rcases x with _ | x))); done)))
      refine seqM ?_
      refine sq ctNo_ok ?_
      simp only [go_sem, Nat.reduceLeDiff, Nat.reduceLT, Nat.reduceAdd, Nat.reduceMul, Nat.reduceSub, Nat.reduceEqDiff, Nat.reduceBEq, Int.reduceToNat, reduceCtorEq]
      refine condM' rfl trivial (fun hc => ?_) (fun hc => ?_)
      · replace H := cond_f hc H
        refine rg ctNo_ok ?_
        simp only [go_sem, Nat.reduceLeDiff, Nat.reduceLT, Nat.reduceAdd, Nat.reduceMul, Nat.reduceSub, Nat.reduceEqDiff, Nat.reduceBEq, Int.reduceToNat, reduceCtorEq]
        refine seqM ?_
        obtain ⟨r32, e33, H⟩ := Option.bind_eq_some_iff.1 H
        refine rg ct19_1t1_ok ?_
        simp only [go_sem, Nat.reduceLeDiff, Nat.reduceLT, Nat.reduceAdd, Nat.reduceMul, Nat.reduceSub, Nat.reduceEqDiff, Nat.reduceBEq, Int.reduceToNat, reduceCtorEq, ct19_1t1_20, body20, e33]
        repeat ((with_reducible refine And.intro ?_ ?_); focus (first | (with_reducible trivial) | omega | (and_intros <;> first | (with_reducible trivial) | omega | assumption | exact nfc | first | exact rfl | exact trivial | exact fitI | exact Or.inr rfl | exact Or.inl rfl | exact fun x hx => absurd hx (by omega) | (intro x hx; (repeat (first | (and_intros <;> (first | exact rfl | exact trivial | exact fitI | exact Or.inr rfl | exact Or.inl rfl | exact fun x hx => absurd hx (by omega))) | (exfalso; omega) | (rcases x with _ | x))); done)) | grind))
        refine condM' rfl trivial (fun hc => ?_) (fun hc => ?_)
        · replace H := cond_f hc H
          refine rg ctNo_ok ?_
          simp only [go_sem, Nat.reduceLeDiff, Nat.reduceLT, Nat.reduceAdd, Nat.reduceMul, Nat.reduceSub, Nat.reduceEqDiff, Nat.reduceBEq, Int.reduceToNat, reduceCtorEq]
          refine ⟨_, (Option.some.inj H).symm, ?_⟩
          refine SubF_of ⟨[some 0, some 1], ?_, ?_, by rfl, by rfl⟩
          · simp [CvL, Cv, getM]
          · exact ⟨CvB_dead, CvB_row nr_A6u8 (by first | rfl | (simp; done) | (simp; omega)) (fun _ _ _ _ => rfl), trivial⟩
        replace H := cond_t hc H
        obtain ⟨f34, H⟩ := need_some.1 H
        replace f34 := capb_iff.1 f34
        refine rg ctNo_ok ?_
        simp only [go_sem, Nat.reduceLeDiff, Nat.reduceLT, Nat.reduceAdd, Nat.reduceMul, Nat.reduceSub, Nat.reduceEqDiff, Nat.reduceBEq, Int.reduceToNat, reduceCtorEq, f34]
        repeat ((with_reducible refine And.intro ?_ ?_); focus (first | (with_reducible trivial) | omega | (and_intros <;> first | (with_reducible trivial) | omega | assumption | exact nfc | first | exact rfl | exact trivial | exact fitI | exact Or.inr rfl | exact Or.inl rfl | exact fun x hx => absurd hx (by omega) | (intro x hx; (repeat (first | (and_intros <;> (first | exact rfl | exact trivial | exact fitI | exact Or.inr rfl | exact Or.inl rfl | exact fun x hx => absurd hx (by omega))) | (exfalso; omega) | (rcases x with _ | x))); done) | (refine Fit_app ?_ ?_ <;> first | exact fitI | (intro x hx; (repeat (first | (and_intros <;> (first | exact rfl | exact trivial | exact fitI | exact Or.inr rfl | exact Or.inl rfl | exact fun x hx => absurd hx (by omega))) | (exfalso; omega) | (rcases x with _ | x))); done) | (refine Fit_app ?_ ?_ <;> first | exact fitI | (intro x hx; (repeat (first | (and_intros <;> (first | exact rfl | exact trivial | exact fitI | exact Or.inr rfl | exact Or.inl rfl | exact fun x hx => absurd hx (by omega))) | (exfalso; omega) | (rcases x with _ | x))); done)))) | grind))
        refine ⟨_, (Option.some.inj H).symm, ?_⟩
        refine SubF_of ⟨[some 0, some 4], ?_, ?_, by rfl, by rfl⟩
        · simp [CvL, Cv, getM]
        · exact ⟨CvB_dead, CvB_row nr_A6u8 (by first | rfl | (simp; done) | (simp; omega)) (app_row (f := c_A6u8) v1_2 [(gd v1_3 0)] (fun _ _ _ _ => rfl) (lit_row (f := c_A6u8) [(gd v1_3 0)] (fun _ _ => rfl) rfl)), trivial⟩
      replace H := cond_t hc H
      obtain ⟨f27, H⟩ := need_some.1 H
      replace f27 := inb_iff.1 f27
      obtain ⟨f28, H⟩ := need_some.1 H
      replace f28 := slb_iff.1 f28
      refine draw_rule shT_ok ctNo_ok 0 (by kernel_rfl) (by kernel_rfl) ?_
      intro an han
      simp only [d_nil, d_cons, nxtD, xrD, xoD, roEq, minL, List.append_nil, refsOp, refs, refsL, mask, maskF, place, placeF, okLog, pairOk, hit, inL, slotsF, ren, renL, rnN, nrH, nrB, nrL, nr, dead0, deadS, List.replicate_zero, List.replicate_succ, Nat.sub_self, Nat.add_zero, Nat.zero_add, Nat.reduceSub, Nat.not_lt_zero, Nat.zero_le, Nat.lt_add_one, go_sem, Nat.reduceLeDiff, Nat.reduceLT, Nat.reduceAdd, Nat.reduceMul, Nat.reduceSub, Nat.reduceEqDiff, Nat.reduceBEq, Int.reduceToNat, reduceCtorEq, f27, f28]
      repeat ((with_reducible refine And.intro ?_ ?_); focus (and_intros <;> first | (with_reducible trivial) | (show anB _ _ _ = true; subst han; kernel_rfl) | (show (anB _ _ _ && _) = true; subst han; kernel_rfl) | omega | assumption | exact nrc | exact nfc | first | exact rfl | exact trivial | exact fitI | exact Or.inr rfl | exact Or.inl rfl | exact fun x hx => absurd hx (by omega) | (intro x hx; (repeat (first | (and_intros <;> (first | exact rfl | exact trivial | exact fitI | exact Or.inr rfl | exact Or.inl rfl | exact fun x hx => absurd hx (by omega))) | (exfalso; omega) | (rcases x with _ | x))); done)))
      refine seqM ?_
      obtain ⟨r29, e30, H⟩ := Option.bind_eq_some_iff.1 H
      refine rg ct19_1t1_ok ?_
      simp only [go_sem, Nat.reduceLeDiff, Nat.reduceLT, Nat.reduceAdd, Nat.reduceMul, Nat.reduceSub, Nat.reduceEqDiff, Nat.reduceBEq, Int.reduceToNat, reduceCtorEq, ct19_1t1_20, body20, e30]
      repeat ((with_reducible refine And.intro ?_ ?_); focus (first | (with_reducible trivial) | omega | (and_intros <;> first | (with_reducible trivial) | omega | assumption | exact nfc | first | exact rfl | exact trivial | exact fitI | exact Or.inr rfl | exact Or.inl rfl | exact fun x hx => absurd hx (by omega) | (intro x hx; (repeat (first | (and_intros <;> (first | exact rfl | exact trivial | exact fitI | exact Or.inr rfl | exact Or.inl rfl | exact fun x hx => absurd hx (by omega))) | (exfalso; omega) | (rcases x with _ | x))); done)) | grind))
      refine condM' rfl trivial (fun hc => ?_) (fun hc => ?_)
      · replace H := cond_f hc H
        refine rg ctNo_ok ?_
        simp only [go_sem, Nat.reduceLeDiff, Nat.reduceLT, Nat.reduceAdd, Nat.reduceMul, Nat.reduceSub, Nat.reduceEqDiff, Nat.reduceBEq, Int.reduceToNat, reduceCtorEq]
        refine ⟨_, (Option.some.inj H).symm, ?_⟩
        refine SubF_of ⟨[some 0, some 1], ?_, ?_, by rfl, by rfl⟩
        · simp [CvL, Cv, getM]
        · exact ⟨CvB_dead, CvB_row nr_A6u8 (by first | rfl | (simp; done) | (simp; omega)) (fun _ _ _ _ => rfl), trivial⟩
      replace H := cond_t hc H
      obtain ⟨f31, H⟩ := need_some.1 H
      replace f31 := capb_iff.1 f31
      refine rg ctNo_ok ?_
      simp only [go_sem, Nat.reduceLeDiff, Nat.reduceLT, Nat.reduceAdd, Nat.reduceMul, Nat.reduceSub, Nat.reduceEqDiff, Nat.reduceBEq, Int.reduceToNat, reduceCtorEq, f31]
      repeat ((with_reducible refine And.intro ?_ ?_); focus (first | (with_reducible trivial) | omega | (and_intros <;> first | (with_reducible trivial) | omega | assumption | exact nfc | first | exact rfl | exact trivial | exact fitI | exact Or.inr rfl | exact Or.inl rfl | exact fun x hx => absurd hx (by omega) | (intro x hx; (repeat (first | (and_intros <;> (first | exact rfl | exact trivial | exact fitI | exact Or.inr rfl | exact Or.inl rfl | exact fun x hx => absurd hx (by omega))) | (exfalso; omega) | (rcases x with _ | x))); done) | (refine Fit_app ?_ ?_ <;> first | exact fitI | (intro x hx; (repeat (first | (and_intros <;> (first | exact rfl | exact trivial | exact fitI | exact Or.inr rfl | exact Or.inl rfl | exact fun x hx => absurd hx (by omega))) | (exfalso; omega) | (rcases x with _ | x))); done) | (refine Fit_app ?_ ?_ <;> first | exact fitI | (intro x hx; (repeat (first | (and_intros <;> (first | exact rfl | exact trivial | exact fitI | exact Or.inr rfl | exact Or.inl rfl | exact fun x hx => absurd hx (by omega))) | (exfalso; omega) | (rcases x with _ | x))); done)))) | grind))
      refine ⟨_, (Option.some.inj H).symm, ?_⟩
      refine SubF_of ⟨[some 0, some 4], ?_, ?_, by rfl, by rfl⟩
      · simp [CvL, Cv, getM]
      · exact ⟨CvB_dead, CvB_row nr_A6u8 (by first | rfl | (simp; done) | (simp; omega)) (app_row (f := c_A6u8) v1_2 [(gd v1_1 0)] (fun _ _ _ _ => rfl) (lit_row (f := c_A6u8) [(gd v1_1 0)] (fun _ _ => rfl) rfl)), trivial⟩
    · try dsimp only at H ⊢
      try simp only [m_normal, k_normal, b_normal, kL_normal, r_normal]
      refine seqM ?_
      refine sq ctNo_ok ?_
      simp only [go_sem, Nat.reduceLeDiff, Nat.reduceLT, Nat.reduceAdd, Nat.reduceMul, Nat.reduceSub, Nat.reduceEqDiff, Nat.reduceBEq, Int.reduceToNat, reduceCtorEq]
      repeat ((with_reducible refine And.intro ?_ ?_); focus (first | (with_reducible trivial) | omega | (and_intros <;> first | (with_reducible trivial) | omega | assumption | exact nfc | first | exact rfl | exact trivial | exact fitI | exact Or.inr rfl | exact Or.inl rfl | exact fun x hx => absurd hx (by omega) | (intro x hx; (repeat (first | (and_intros <;> (first | exact rfl | exact trivial | exact fitI | exact Or.inr rfl | exact Or.inl rfl | exact fun x hx => absurd hx (by omega))) | (exfalso; omega) | (rcases x with _ | x))); done)) | grind))
      refine condM rfl trivial (fun hc => ?_) (fun hc => ?_)
      · replace H := cond_t hc H
        refine sq ctNo_ok ?_
        simp only [go_sem, Nat.reduceLeDiff, Nat.reduceLT, Nat.reduceAdd, Nat.reduceMul, Nat.reduceSub, Nat.reduceEqDiff, Nat.reduceBEq, Int.reduceToNat, reduceCtorEq]
        refine rg ctNo_ok ?_
        simp only [go_sem, Nat.reduceLeDiff, Nat.reduceLT, Nat.reduceAdd, Nat.reduceMul, Nat.reduceSub, Nat.reduceEqDiff, Nat.reduceBEq, Int.reduceToNat, reduceCtorEq]
        obtain rfl := Option.some.inj H
        refine RetE_mk [] [none] ?_ ?_ ?_ ?_ (by rfl) (by rfl)
        · simp only [List.length_cons, List.length_nil, Nat.zero_mul, Nat.add_zero, fzV, fzL, fzOb, fzObL, fzH, fzHF, fzB, fzObB, fzObH, inL, rowOb, geth, cond_true, cond_false, Bool.or_false, Bool.or_true, Bool.false_or, Bool.true_or, and_self, true_and, and_true, Nat.reduceEqDiff, Nat.reduceBEq, beq_self_eq_true, sub_enR0, Nat.reduceAdd, Nat.zero_add, Nat.le_refl, List.nil_append]
          try (and_intros <;> first | (with_reducible trivial) | omega | exact nfc | trivial)
        · simp only [List.length_cons, List.length_nil, Nat.zero_mul, Nat.add_zero, fzV, fzL, fzOb, fzObL, fzH, fzHF, fzB, fzObB, fzObH, inL, rowOb, geth, cond_true, cond_false, Bool.or_false, Bool.or_true, Bool.false_or, Bool.true_or, and_self, true_and, and_true, Nat.reduceEqDiff, Nat.reduceBEq, beq_self_eq_true, sub_enR0, Nat.reduceAdd, Nat.zero_add, Nat.le_refl, List.nil_append]
          try (and_intros <;> first | (with_reducible trivial) | omega | exact nfc | trivial)
        · simp only [List.length_cons, List.length_nil, Nat.zero_mul, Nat.add_zero, fzV, fzL, fzOb, fzObL, fzH, fzHF, fzB, fzObB, fzObH, inL, rowOb, geth, cond_true, cond_false, Bool.or_false, Bool.or_true, Bool.false_or, Bool.true_or, and_self, true_and, and_true, Nat.reduceEqDiff, Nat.reduceBEq, beq_self_eq_true, sub_enR0, Nat.reduceAdd, Nat.zero_add, Nat.le_refl, List.nil_append]
          exact Cv_tup (CvL_cons (by first | (simp [Cv, CvL, getM, gt_some]; done) | (simp [Cv, CvL, getM, gt_some]; omega)) (CvL_cons (by simp [Cv, CvL, getM, gt_some]) CvL_nil))
        · simp only [List.length_cons, List.length_nil, Nat.zero_mul, Nat.add_zero, fzV, fzL, fzOb, fzObL, fzH, fzHF, fzB, fzObB, fzObH, inL, rowOb, geth, cond_true, cond_false, Bool.or_false, Bool.or_true, Bool.false_or, Bool.true_or, and_self, true_and, and_true, Nat.reduceEqDiff, Nat.reduceBEq, beq_self_eq_true, sub_enR0, Nat.reduceAdd, Nat.zero_add, Nat.le_refl, List.nil_append, CvH, gt_some, Option.isSome_some, Option.isSome_none]
          exact CvB_none
      replace H := cond_f hc H
      refine rg ctNo_ok ?_
      simp only [go_sem, Nat.reduceLeDiff, Nat.reduceLT, Nat.reduceAdd, Nat.reduceMul, Nat.reduceSub, Nat.reduceEqDiff, Nat.reduceBEq, Int.reduceToNat, reduceCtorEq]
      refine sq ctNo_ok ?_
      simp only [go_sem, Nat.reduceLeDiff, Nat.reduceLT, Nat.reduceAdd, Nat.reduceMul, Nat.reduceSub, Nat.reduceEqDiff, Nat.reduceBEq, Int.reduceToNat, reduceCtorEq]
      refine rg ctNo_ok ?_
      simp only [go_sem, Nat.reduceLeDiff, Nat.reduceLT, Nat.reduceAdd, Nat.reduceMul, Nat.reduceSub, Nat.reduceEqDiff, Nat.reduceBEq, Int.reduceToNat, reduceCtorEq]
      obtain rfl := Option.some.inj H
      refine RetE_mk [] [some 1] ?_ ?_ ?_ ?_ (by rfl) (by rfl)
      · simp only [List.length_cons, List.length_nil, Nat.zero_mul, Nat.add_zero, fzV, fzL, fzOb, fzObL, fzH, fzHF, fzB, fzObB, fzObH, inL, rowOb, geth, cond_true, cond_false, Bool.or_false, Bool.or_true, Bool.false_or, Bool.true_or, and_self, true_and, and_true, Nat.reduceEqDiff, Nat.reduceBEq, beq_self_eq_true, sub_enR0, Nat.reduceAdd, Nat.zero_add, Nat.le_refl, List.nil_append]
        try (and_intros <;> first | (with_reducible trivial) | omega | exact nfc | trivial)
      · simp only [List.length_cons, List.length_nil, Nat.zero_mul, Nat.add_zero, fzV, fzL, fzOb, fzObL, fzH, fzHF, fzB, fzObB, fzObH, inL, rowOb, geth, cond_true, cond_false, Bool.or_false, Bool.or_true, Bool.false_or, Bool.true_or, and_self, true_and, and_true, Nat.reduceEqDiff, Nat.reduceBEq, beq_self_eq_true, sub_enR0, Nat.reduceAdd, Nat.zero_add, Nat.le_refl, List.nil_append]
        try (and_intros <;> first | (with_reducible trivial) | omega | exact nfc | trivial)
      · simp only [List.length_cons, List.length_nil, Nat.zero_mul, Nat.add_zero, fzV, fzL, fzOb, fzObL, fzH, fzHF, fzB, fzObB, fzObH, inL, rowOb, geth, cond_true, cond_false, Bool.or_false, Bool.or_true, Bool.false_or, Bool.true_or, and_self, true_and, and_true, Nat.reduceEqDiff, Nat.reduceBEq, beq_self_eq_true, sub_enR0, Nat.reduceAdd, Nat.zero_add, Nat.le_refl, List.nil_append]
        exact Cv_tup (CvL_cons (by first | (simp [Cv, CvL, getM, gt_some]; done) | (simp [Cv, CvL, getM, gt_some]; omega)) (CvL_cons (by simp [Cv, CvL, getM, gt_some]) CvL_nil))
      · simp only [List.length_cons, List.length_nil, Nat.zero_mul, Nat.add_zero, fzV, fzL, fzOb, fzObL, fzH, fzHF, fzB, fzObB, fzObH, inL, rowOb, geth, cond_true, cond_false, Bool.or_false, Bool.or_true, Bool.false_or, Bool.true_or, and_self, true_and, and_true, Nat.reduceEqDiff, Nat.reduceBEq, beq_self_eq_true, sub_enR0, Nat.reduceAdd, Nat.zero_add, Nat.le_refl, List.nil_append, CvH, gt_some, Option.isSome_some, Option.isSome_none]
        exact CvB_row nr_A6u8 (by first | rfl | (simp; done) | (simp; omega)) (fun _ _ _ _ => rfl)
  · cases hb
end Go.Proofs.Ytohkhcljklndpaa
